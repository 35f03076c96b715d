/- A tree's first wrong entry, plainly; the document's search. -/
import Derived.Test.YtclmemhginekbaaDoorP9
set_option linter.unusedSectionVars false
set_option linter.unusedSimpArgs false
set_option linter.unusedVariables false
namespace Go.Tk
open Go.RowKit Go.Proofs

def findI (t : List En) (p : ByteArray) : Int := match t.findIdx? (fun e => decide (e.path = p)) with | some i => (i : Int) | none => -1
def isDirF (t : List En) (p : ByteArray) : Bool := decide (p.size = 0) || (match t.find? (fun e => decide (e.path = p)) with | some e => decide (e.kind = 2) | none => false)
def isDirA (t : List En) (p : ByteArray) : Bool := decide (p.size = 0) || t.any (fun e => decide (e.kind = 2) && decide (e.path = p))
/-- The first wrong entry, by what is asked of a directory. -/
def checkG (dir : List En → ByteArray → Bool) (t : List En) : Nat → Int → List En → Int × Int
  | i, sum, [] => (0, 0)
  | i, sum, e :: r =>
    if mayB e = false then ((i : Int), 50) else
    if 0 < i ∧ ¬ lessI ((t.getD (i - 1) e).path) e.path < 0 then ((i : Int), 51) else
    if dir (t.take i) (upP e.path) = false then ((i : Int), 52) else
    if 1048576 < sum + e.data.size then ((i : Int), 54) else checkG dir t (i + 1) (sum + e.data.size) r
def checkA (t : List En) : Int × Int := if 1024 < t.length then (1024, 53) else checkG isDirA t 0 0 t
def checkF (t : List En) : Int × Int := if 1024 < t.length then (1024, 53) else checkG isDirF t 0 0 t
/-- How great the data may be. -/
def SmallE (t : List En) : Prop := ∀ e ∈ t, e.path.size ≤ 16777216 ∧ e.data.size ≤ 16777216
theorem strEq {a b : ByteArray} : (a.toList == b.toList) = decide (a = b) := by
  rw [ByteArray.toList_eq a, ByteArray.toList_eq b, Bool.eq_iff_iff]
  simp only [beq_iff_eq, decide_eq_true_eq]
  exact ⟨fun h => ba_ext h, fun h => by rw [h]⟩
section
variable {B : Base} {R H H1 : HL} {w w' : World}
def FdI (B : Base) (R : HL) (t : List En) (p : ByteArray) (i : Nat) (w : World) : Prop := i ≤ t.length ∧ (∀ j e, t[j]? = some e → j < i → ¬ e.path = p) ∧ Sh B R w
theorem findI_at {t : List En} {p : ByteArray} {i : Nat} {e : En} (h : ∀ j e, t[j]? = some e → j < i → ¬ e.path = p) (he : t[i]? = some e) (hp : e.path = p) : findI t p = i := by
  unfold findI
  have : t.findIdx? (fun e => decide (e.path = p)) = some i := by
    rw [List.findIdx?_eq_some_iff_getElem]
    obtain ⟨hi, hx⟩ := List.getElem?_eq_some_iff.1 he
    refine ⟨hi, by rw [hx]; simpa using hp, fun j hj => ?_⟩
    have := h j t[j] (List.getElem?_eq_getElem (by omega)) hj
    simpa using this
  rw [this]
theorem findI_no {t : List En} {p : ByteArray} (h : ∀ e ∈ t, ¬ e.path = p) : findI t p = -1 := by
  unfold findI
  have : t.findIdx? (fun e => decide (e.path = p)) = none := by rw [List.findIdx?_eq_none_iff]; intro e he; simpa using h e he
  rw [this]
set_option maxRecDepth 100000 in
set_option maxHeartbeats 800000 in
theorem FindR_any (hS : Sh B R w) {A : Option Addr} {cap : Nat} {t : List En} [r : RdAt enE B R A t] (hl : t.length ≤ 16777216) (p : ByteArray) :
    Calls Tryd.prog 25 #[.slice A t.length cap, .string p] w fun e w' => e = .returned (.int .i64 (findI t p)) ∧ Sh B R w' := by
  go_enter Tryd.func25, Tryd.ntmps25
  go_wp2
  have h0 : FdI B R t p 0 _ := ⟨Nat.zero_le _, fun _ _ _ h => absurd h (Nat.not_lt_zero _), hS⟩
  clear hS
  refine wp_loopS [5] [4, 6, 7, 8, 9, 10, 11, 12, 13, 14, 15, 16, 17, 18, 19] (fun i : Nat => [.int .i64 i]) (FdI B R t p) (fun i => t.length - i) ((0 : Nat)) rfl (h0) ?_
  clear h0
  rintro i J w ⟨hi, hno, hS⟩
  have Hno := Lib.hid hno
  clear hno
  (simp only [Frm, setsT, junkT, List.setIfInBounds_toArray, List.set_cons_zero, List.set_cons_succ])
  by_cases hlt : i < t.length
  · obtain ⟨x, gx⟩ := Nth.of hlt
    by_cases hx : x.path = p
    · have d1 : (x.path.toList == p.toList) = true := by rw [strEq]; simp [hx]
      have Hf := Lib.hid (findI_at Hno.out gx.get hx)
      clear hx
      go_wp2_with (first | (refine wl_isld rfl ?_; ((first | refine wl_value rfl (ex_l0 hS rfl rfl rfl CellAt.out) ?_ | refine wl_value rfl (ex_lf hS rfl rfl rfl CellAt.out) ?_ | refine wl_value rfl (ex_l1 hS rfl rfl rfl CellAt.out) ?_ | refine wl_value rfl (ex_ldC hS rfl rfl CellAt.out) ?_ | refine wl_value rfl (ex_l0 hS rfl rfl rfl rfl) ?_ | refine wl_value rfl (ex_lf hS rfl rfl rfl rfl) ?_ | refine wl_value rfl (ex_l1 hS rfl rfl rfl rfl) ?_ | refine wl_value rfl (ex_ldC hS rfl rfl rfl) ?_ | refine wl_value rfl (ex_l00 hS rfl rfl CellAt.out) ?_ | refine wl_value rfl (ex_l00 hS rfl rfl rfl) ?_ | refine wl_value rfl (ex_l0f hS rfl rfl CellAt.out) ?_ | refine wl_value rfl (ex_l0f hS rfl rfl rfl) ?_ | refine wl_value rfl (ex_lr hS rfl rfl rfl rfl) ?_ | refine wl_value rfl (ex_lr0 hS rfl rfl rfl) ?_ | refine wl_value rfl (ex_lrz hS rfl rfl rfl) ?_ | refine wl_value rfl (ex_lrf hS rfl rfl rfl) ?_ | refine wl_value rfl (ex_ldrC hS rfl rfl) ?_ | refine wl_value rfl (ex_ldr0 hS rfl rfl rfl) ?_); (try simp only [Act.put, List.setIfInBounds_toArray, List.set_cons_zero, List.set_cons_succ]))) | ((first | refine wl_value rfl (ex_ix hS rfl rfl rfl ?_) ?_); (focus (first | rfl | omega | (simp; done))); (try simp only [Act.put, List.setIfInBounds_toArray, List.set_cons_zero, List.set_cons_succ])) | ((first | refine wl_value rfl (ex_eqA rfl rfl rfl) ?_ | refine wl_value rfl (ex_neA rfl rfl rfl) ?_); (try simp only [Act.put, List.setIfInBounds_toArray, List.set_cons_zero, List.set_cons_succ])) | (refine wl_alloc rfl rfl hS ?_; intro _ _ hS; (try simp only [Act.put, List.setIfInBounds_toArray, List.set_cons_zero, List.set_cons_succ])) | (refine wl_box rfl rfl rfl rfl hS ?_; intro _ _ hS; (try simp only [Act.put, List.setIfInBounds_toArray, List.set_cons_zero, List.set_cons_succ])) | (refine wl_st rfl rfl rfl rfl rfl hS (of_decide_eq_true rfl) ?_; intro _ hS; (try simp only [evT, evC, List.getD_cons_succ, List.getD_cons_zero, List.set_cons_zero, List.set_cons_succ] at hS); (try simp only [List.set_cons_zero, List.set_cons_succ] at hS); (try simp only [Act.put, List.setIfInBounds_toArray, List.set_cons_zero, List.set_cons_succ])) | (refine wl_strC rfl rfl rfl rfl hS rfl rfl ?_; intro _ hS; (try simp only [evT, evC, List.getD_cons_succ, List.getD_cons_zero, List.set_cons_zero, List.set_cons_succ] at hS); (try simp only [Act.put, List.setIfInBounds_toArray, List.set_cons_zero, List.set_cons_succ])))
      go_ret
      exact ⟨by rw [Hf.out]; rfl, hS⟩
    · have d1 : (x.path.toList == p.toList) = false := by rw [strEq]; simp [hx]
      have Hx := Lib.hid hx
      clear hx
      go_wp2_with (first | (refine wl_isld rfl ?_; ((first | refine wl_value rfl (ex_l0 hS rfl rfl rfl CellAt.out) ?_ | refine wl_value rfl (ex_lf hS rfl rfl rfl CellAt.out) ?_ | refine wl_value rfl (ex_l1 hS rfl rfl rfl CellAt.out) ?_ | refine wl_value rfl (ex_ldC hS rfl rfl CellAt.out) ?_ | refine wl_value rfl (ex_l0 hS rfl rfl rfl rfl) ?_ | refine wl_value rfl (ex_lf hS rfl rfl rfl rfl) ?_ | refine wl_value rfl (ex_l1 hS rfl rfl rfl rfl) ?_ | refine wl_value rfl (ex_ldC hS rfl rfl rfl) ?_ | refine wl_value rfl (ex_l00 hS rfl rfl CellAt.out) ?_ | refine wl_value rfl (ex_l00 hS rfl rfl rfl) ?_ | refine wl_value rfl (ex_l0f hS rfl rfl CellAt.out) ?_ | refine wl_value rfl (ex_l0f hS rfl rfl rfl) ?_ | refine wl_value rfl (ex_lr hS rfl rfl rfl rfl) ?_ | refine wl_value rfl (ex_lr0 hS rfl rfl rfl) ?_ | refine wl_value rfl (ex_lrz hS rfl rfl rfl) ?_ | refine wl_value rfl (ex_lrf hS rfl rfl rfl) ?_ | refine wl_value rfl (ex_ldrC hS rfl rfl) ?_ | refine wl_value rfl (ex_ldr0 hS rfl rfl rfl) ?_); (try simp only [Act.put, List.setIfInBounds_toArray, List.set_cons_zero, List.set_cons_succ]))) | ((first | refine wl_value rfl (ex_ix hS rfl rfl rfl ?_) ?_); (focus (first | rfl | omega | (simp; done))); (try simp only [Act.put, List.setIfInBounds_toArray, List.set_cons_zero, List.set_cons_succ])) | ((first | refine wl_value rfl (ex_eqA rfl rfl rfl) ?_ | refine wl_value rfl (ex_neA rfl rfl rfl) ?_); (try simp only [Act.put, List.setIfInBounds_toArray, List.set_cons_zero, List.set_cons_succ])) | (refine wl_alloc rfl rfl hS ?_; intro _ _ hS; (try simp only [Act.put, List.setIfInBounds_toArray, List.set_cons_zero, List.set_cons_succ])) | (refine wl_box rfl rfl rfl rfl hS ?_; intro _ _ hS; (try simp only [Act.put, List.setIfInBounds_toArray, List.set_cons_zero, List.set_cons_succ])) | (refine wl_st rfl rfl rfl rfl rfl hS (of_decide_eq_true rfl) ?_; intro _ hS; (try simp only [evT, evC, List.getD_cons_succ, List.getD_cons_zero, List.set_cons_zero, List.set_cons_succ] at hS); (try simp only [List.set_cons_zero, List.set_cons_succ] at hS); (try simp only [Act.put, List.setIfInBounds_toArray, List.set_cons_zero, List.set_cons_succ])) | (refine wl_strC rfl rfl rfl rfl hS rfl rfl ?_; intro _ hS; (try simp only [evT, evC, List.getD_cons_succ, List.getD_cons_zero, List.set_cons_zero, List.set_cons_succ] at hS); (try simp only [Act.put, List.setIfInBounds_toArray, List.set_cons_zero, List.set_cons_succ])))
      (refine ⟨((i + 1 : Nat)), (⟨hlt, fun j y hy hj => by rcases Nat.lt_succ_iff_lt_or_eq.1 hj with h | h; exact Hno.out j y hy h; subst h; rw [gx.get] at hy; cases hy; exact Hx.out, hS⟩), (by (try dsimp only); omega), rfl, (by (simp only [blankT, junkT, List.cons_append, List.nil_append, List.setIfInBounds_toArray, List.set_cons_zero, List.set_cons_succ])), rfl⟩)
  · have Hf := Lib.hid (show findI t p = -1 from findI_no fun e he => by
      obtain ⟨j, hj⟩ := List.getElem?_of_mem he
      exact Hno.out j e hj (by have := (List.getElem?_eq_some_iff.1 hj).1; omega))
    go_wp2_with (first | (refine wl_isld rfl ?_; ((first | refine wl_value rfl (ex_l0 hS rfl rfl rfl CellAt.out) ?_ | refine wl_value rfl (ex_lf hS rfl rfl rfl CellAt.out) ?_ | refine wl_value rfl (ex_l1 hS rfl rfl rfl CellAt.out) ?_ | refine wl_value rfl (ex_ldC hS rfl rfl CellAt.out) ?_ | refine wl_value rfl (ex_l0 hS rfl rfl rfl rfl) ?_ | refine wl_value rfl (ex_lf hS rfl rfl rfl rfl) ?_ | refine wl_value rfl (ex_l1 hS rfl rfl rfl rfl) ?_ | refine wl_value rfl (ex_ldC hS rfl rfl rfl) ?_ | refine wl_value rfl (ex_l00 hS rfl rfl CellAt.out) ?_ | refine wl_value rfl (ex_l00 hS rfl rfl rfl) ?_ | refine wl_value rfl (ex_l0f hS rfl rfl CellAt.out) ?_ | refine wl_value rfl (ex_l0f hS rfl rfl rfl) ?_ | refine wl_value rfl (ex_lr hS rfl rfl rfl rfl) ?_ | refine wl_value rfl (ex_lr0 hS rfl rfl rfl) ?_ | refine wl_value rfl (ex_lrz hS rfl rfl rfl) ?_ | refine wl_value rfl (ex_lrf hS rfl rfl rfl) ?_ | refine wl_value rfl (ex_ldrC hS rfl rfl) ?_ | refine wl_value rfl (ex_ldr0 hS rfl rfl rfl) ?_); (try simp only [Act.put, List.setIfInBounds_toArray, List.set_cons_zero, List.set_cons_succ]))) | ((first | refine wl_value rfl (ex_ix hS rfl rfl rfl ?_) ?_); (focus (first | rfl | omega | (simp; done))); (try simp only [Act.put, List.setIfInBounds_toArray, List.set_cons_zero, List.set_cons_succ])) | ((first | refine wl_value rfl (ex_eqA rfl rfl rfl) ?_ | refine wl_value rfl (ex_neA rfl rfl rfl) ?_); (try simp only [Act.put, List.setIfInBounds_toArray, List.set_cons_zero, List.set_cons_succ])) | (refine wl_alloc rfl rfl hS ?_; intro _ _ hS; (try simp only [Act.put, List.setIfInBounds_toArray, List.set_cons_zero, List.set_cons_succ])) | (refine wl_box rfl rfl rfl rfl hS ?_; intro _ _ hS; (try simp only [Act.put, List.setIfInBounds_toArray, List.set_cons_zero, List.set_cons_succ])) | (refine wl_st rfl rfl rfl rfl rfl hS (of_decide_eq_true rfl) ?_; intro _ hS; (try simp only [evT, evC, List.getD_cons_succ, List.getD_cons_zero, List.set_cons_zero, List.set_cons_succ] at hS); (try simp only [List.set_cons_zero, List.set_cons_succ] at hS); (try simp only [Act.put, List.setIfInBounds_toArray, List.set_cons_zero, List.set_cons_succ])) | (refine wl_strC rfl rfl rfl rfl hS rfl rfl ?_; intro _ hS; (try simp only [evT, evC, List.getD_cons_succ, List.getD_cons_zero, List.set_cons_zero, List.set_cons_succ] at hS); (try simp only [Act.put, List.setIfInBounds_toArray, List.set_cons_zero, List.set_cons_succ])))
    go_ret
    exact ⟨by rw [Hf.out]; rfl, hS⟩
theorem findI_cases (t : List En) (p : ByteArray) : (findI t p = -1 ∧ t.find? (fun e => decide (e.path = p)) = none) ∨ ∃ (i : Nat) (e : En), findI t p = i ∧ t[i]? = some e ∧ e.path = p ∧ t.find? (fun e => decide (e.path = p)) = some e := by
  unfold findI
  cases h : t.findIdx? (fun e => decide (e.path = p)) with
  | none =>
    left
    rw [List.findIdx?_eq_none_iff] at h
    refine ⟨rfl, ?_⟩
    rw [List.find?_eq_none]
    intro e he
    simpa using h e he
  | some i =>
    right
    have h2 := h
    rw [List.findIdx?_eq_some_iff_getElem] at h
    obtain ⟨hi, hx, hj⟩ := h
    refine ⟨i, t[i], rfl, List.getElem?_eq_getElem hi, by simpa using hx, ?_⟩
    rw [List.find?_eq_some_iff_getElem]
    refine ⟨hx, i, hi, rfl, fun j hj2 => ?_⟩
    have := hj j hj2
    simpa using this
set_option maxRecDepth 100000 in
set_option maxHeartbeats 800000 in
theorem IsDirR_any (hS : Sh B R w) {A : Option Addr} {cap : Nat} {t : List En} [r : RdAt enE B R A t] (hl : t.length ≤ 16777216) (p : ByteArray) :
    Calls Tryd.prog 36 #[.slice A t.length cap, .string p] w fun e w' => e = .returned (.bool (isDirF t p)) ∧ Sh B R w' := by
  by_cases p0 : p.size = 0
  · have d0 : p.toList = [] := (empty_prop _).2 p0
    have d1 : p.toList.isEmpty = true := by rw [empty_iff]; simp [p0]
    have Hd := Lib.hid (show isDirF t p = true by unfold isDirF; simp [p0])
    clear p0
    go_enter Tryd.func36, Tryd.ntmps36
    go_wp2
    go_ret
    exact ⟨by rw [Hd.out]; rfl, hS⟩
  · have d0 : ¬ p.toList = [] := fun h => p0 ((empty_prop _).1 h)
    have d1 : p.toList.isEmpty = false := by rw [empty_iff]; simp [p0]
    have hf := fun (w : World) (R : HL) (hS : Sh B R w) (r : RdAt enE B R A t) => FindR_any hS (cap := cap) (t := t) (r := r) hl p
    rcases findI_cases t p with ⟨hn, hfi⟩ | ⟨i, e, hn, hi, hp, hfi⟩
    · rw [hn] at hf
      have Hd := Lib.hid (show isDirF t p = false by unfold isDirF; rw [hfi]; simp [p0])
      clear p0 hn hfi
      go_enter Tryd.func36, Tryd.ntmps36
      go_wp2_with (first | (go_at_call 25; refine ((hf _ _ hS inferInstance)).mono ?_; rintro e w' (⟨rfl, hS⟩)) | (refine wl_isld rfl ?_; ((first | refine wl_value rfl (ex_l0 hS rfl rfl rfl CellAt.out) ?_ | refine wl_value rfl (ex_lf hS rfl rfl rfl CellAt.out) ?_ | refine wl_value rfl (ex_l1 hS rfl rfl rfl CellAt.out) ?_ | refine wl_value rfl (ex_ldC hS rfl rfl CellAt.out) ?_ | refine wl_value rfl (ex_l0 hS rfl rfl rfl rfl) ?_ | refine wl_value rfl (ex_lf hS rfl rfl rfl rfl) ?_ | refine wl_value rfl (ex_l1 hS rfl rfl rfl rfl) ?_ | refine wl_value rfl (ex_ldC hS rfl rfl rfl) ?_ | refine wl_value rfl (ex_l00 hS rfl rfl CellAt.out) ?_ | refine wl_value rfl (ex_l00 hS rfl rfl rfl) ?_ | refine wl_value rfl (ex_l0f hS rfl rfl CellAt.out) ?_ | refine wl_value rfl (ex_l0f hS rfl rfl rfl) ?_ | refine wl_value rfl (ex_lr hS rfl rfl rfl rfl) ?_ | refine wl_value rfl (ex_lr0 hS rfl rfl rfl) ?_ | refine wl_value rfl (ex_lrz hS rfl rfl rfl) ?_ | refine wl_value rfl (ex_lrf hS rfl rfl rfl) ?_ | refine wl_value rfl (ex_ldrC hS rfl rfl) ?_ | refine wl_value rfl (ex_ldr0 hS rfl rfl rfl) ?_); (try simp only [Act.put, List.setIfInBounds_toArray, List.set_cons_zero, List.set_cons_succ]))) | ((first | refine wl_value rfl (ex_ix hS rfl rfl rfl ?_) ?_); (focus (first | rfl | omega | (simp; done))); (try simp only [Act.put, List.setIfInBounds_toArray, List.set_cons_zero, List.set_cons_succ])) | ((first | refine wl_value rfl (ex_eqA rfl rfl rfl) ?_ | refine wl_value rfl (ex_neA rfl rfl rfl) ?_); (try simp only [Act.put, List.setIfInBounds_toArray, List.set_cons_zero, List.set_cons_succ])) | (refine wl_alloc rfl rfl hS ?_; intro _ _ hS; (try simp only [Act.put, List.setIfInBounds_toArray, List.set_cons_zero, List.set_cons_succ])) | (refine wl_box rfl rfl rfl rfl hS ?_; intro _ _ hS; (try simp only [Act.put, List.setIfInBounds_toArray, List.set_cons_zero, List.set_cons_succ])) | (refine wl_st rfl rfl rfl rfl rfl hS (of_decide_eq_true rfl) ?_; intro _ hS; (try simp only [evT, evC, List.getD_cons_succ, List.getD_cons_zero, List.set_cons_zero, List.set_cons_succ] at hS); (try simp only [List.set_cons_zero, List.set_cons_succ] at hS); (try simp only [Act.put, List.setIfInBounds_toArray, List.set_cons_zero, List.set_cons_succ])) | (refine wl_strC rfl rfl rfl rfl hS rfl rfl ?_; intro _ hS; (try simp only [evT, evC, List.getD_cons_succ, List.getD_cons_zero, List.set_cons_zero, List.set_cons_succ] at hS); (try simp only [Act.put, List.setIfInBounds_toArray, List.set_cons_zero, List.set_cons_succ])))
      go_ret
      exact ⟨by rw [Hd.out]; rfl, hS⟩
    · rw [hn] at hf
      have gx : Nth t i e := ⟨hi⟩
      have Hd := Lib.hid (show isDirF t p = (e.kind == 2) by unfold isDirF; rw [hfi]; simp [p0]; rw [Bool.eq_iff_iff]; simp)
      have d2 : decide ((0 : Int) ≤ (i : Int)) = true := decide_eq_true (by omega)
      clear p0 hn hfi hp
      go_enter Tryd.func36, Tryd.ntmps36
      go_wp2_with (first | (go_at_call 25; refine ((hf _ _ hS inferInstance)).mono ?_; rintro e w' (⟨rfl, hS⟩)) | (refine wl_isld rfl ?_; ((first | refine wl_value rfl (ex_l0 hS rfl rfl rfl CellAt.out) ?_ | refine wl_value rfl (ex_lf hS rfl rfl rfl CellAt.out) ?_ | refine wl_value rfl (ex_l1 hS rfl rfl rfl CellAt.out) ?_ | refine wl_value rfl (ex_ldC hS rfl rfl CellAt.out) ?_ | refine wl_value rfl (ex_l0 hS rfl rfl rfl rfl) ?_ | refine wl_value rfl (ex_lf hS rfl rfl rfl rfl) ?_ | refine wl_value rfl (ex_l1 hS rfl rfl rfl rfl) ?_ | refine wl_value rfl (ex_ldC hS rfl rfl rfl) ?_ | refine wl_value rfl (ex_l00 hS rfl rfl CellAt.out) ?_ | refine wl_value rfl (ex_l00 hS rfl rfl rfl) ?_ | refine wl_value rfl (ex_l0f hS rfl rfl CellAt.out) ?_ | refine wl_value rfl (ex_l0f hS rfl rfl rfl) ?_ | refine wl_value rfl (ex_lr hS rfl rfl rfl rfl) ?_ | refine wl_value rfl (ex_lr0 hS rfl rfl rfl) ?_ | refine wl_value rfl (ex_lrz hS rfl rfl rfl) ?_ | refine wl_value rfl (ex_lrf hS rfl rfl rfl) ?_ | refine wl_value rfl (ex_ldrC hS rfl rfl) ?_ | refine wl_value rfl (ex_ldr0 hS rfl rfl rfl) ?_); (try simp only [Act.put, List.setIfInBounds_toArray, List.set_cons_zero, List.set_cons_succ]))) | ((first | refine wl_value rfl (ex_ix hS rfl rfl rfl ?_) ?_); (focus (first | rfl | omega | (simp; done))); (try simp only [Act.put, List.setIfInBounds_toArray, List.set_cons_zero, List.set_cons_succ])) | ((first | refine wl_value rfl (ex_eqA rfl rfl rfl) ?_ | refine wl_value rfl (ex_neA rfl rfl rfl) ?_); (try simp only [Act.put, List.setIfInBounds_toArray, List.set_cons_zero, List.set_cons_succ])) | (refine wl_alloc rfl rfl hS ?_; intro _ _ hS; (try simp only [Act.put, List.setIfInBounds_toArray, List.set_cons_zero, List.set_cons_succ])) | (refine wl_box rfl rfl rfl rfl hS ?_; intro _ _ hS; (try simp only [Act.put, List.setIfInBounds_toArray, List.set_cons_zero, List.set_cons_succ])) | (refine wl_st rfl rfl rfl rfl rfl hS (of_decide_eq_true rfl) ?_; intro _ hS; (try simp only [evT, evC, List.getD_cons_succ, List.getD_cons_zero, List.set_cons_zero, List.set_cons_succ] at hS); (try simp only [List.set_cons_zero, List.set_cons_succ] at hS); (try simp only [Act.put, List.setIfInBounds_toArray, List.set_cons_zero, List.set_cons_succ])) | (refine wl_strC rfl rfl rfl rfl hS rfl rfl ?_; intro _ hS; (try simp only [evT, evC, List.getD_cons_succ, List.getD_cons_zero, List.set_cons_zero, List.set_cons_succ] at hS); (try simp only [Act.put, List.setIfInBounds_toArray, List.set_cons_zero, List.set_cons_succ])))
      go_ret
      exact ⟨by rw [Hd.out]; rfl, hS⟩
end
end Go.Tk
