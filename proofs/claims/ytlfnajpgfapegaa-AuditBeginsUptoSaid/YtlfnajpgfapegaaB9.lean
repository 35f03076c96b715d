/- Contains, Index, Delete of ids; Sort of numbers. -/
import Derived.Test.YtlfnajpgfapegaaB8
import Derived.Test.YtlfnajpgfapegaaTkW
import Derived.Test.YtlfnajpgfapegaaS0
set_option linter.unusedSectionVars false
set_option linter.unusedSimpArgs false
set_option linter.unusedVariables false
namespace Go.Tk
open Go.RowKit Go.Proofs

def findU (xs : List Int) (x : Int) : Int := match xs.findIdx? (· == x) with | some i => i | none => -1
theorem findU_at {xs : List Int} {x : Int} {i : Nat} (h : ∀ j, j < i → xs[j]? ≠ some x) (hi : xs[i]? = some x) : findU xs x = i := by
  have : xs.findIdx? (· == x) = some i := by
    rw [List.findIdx?_eq_some_iff_getElem]
    obtain ⟨h1, h2⟩ := List.getElem?_eq_some_iff.1 hi
    refine ⟨h1, by simp [h2], fun j hj => ?_⟩
    have := h j hj
    rw [List.getElem?_eq_getElem (by omega)] at this
    simpa using this
  unfold findU; rw [this]
theorem findU_no {xs : List Int} {x : Int} (h : ∀ j, j < xs.length → xs[j]? ≠ some x) : findU xs x = -1 := by
  have : xs.findIdx? (· == x) = none := by
    rw [List.findIdx?_eq_none_iff]
    intro y hy
    obtain ⟨j, hj, rfl⟩ := List.getElem_of_mem hy
    have := h j hj
    rw [List.getElem?_eq_getElem hj] at this
    simpa using this
  unfold findU; rw [this]
theorem erase_split : ∀ (xs : List Int) (i : Nat) (x : Int), xs[i]? = some x → (∀ j, j < i → xs[j]? ≠ some x) → xs.take i ++ xs.drop (i + 1) = xs.erase x
  | [], i, x, h, _ => by simp at h
  | a :: t, 0, x, h, _ => by
    simp at h
    subst h
    simp
  | a :: t, i + 1, x, h, hno => by
    have h0 : a ≠ x := by have := hno 0 (by omega); simpa using this
    have := erase_split t i x (by simpa using h) (fun j hj => by have := hno (j + 1) (by omega); simpa using this)
    simp [List.erase_cons, h0, this]
theorem findU_mem {xs : List Int} {x : Int} (h : x ∈ xs) : ∃ i : Nat, findU xs x = i ∧ i < xs.length ∧ xs.take i ++ xs.drop (i + 1) = xs.erase x := by
  unfold findU
  cases hf : xs.findIdx? (· == x) with
  | none =>
    rw [List.findIdx?_eq_none_iff] at hf
    have := hf x h
    simp at this
  | some i =>
    rw [List.findIdx?_eq_some_iff_getElem] at hf
    obtain ⟨h1, h2, h3⟩ := hf
    refine ⟨i, rfl, h1, erase_split xs i x (by rw [List.getElem?_eq_getElem h1]; simpa using h2) fun j hj => ?_⟩
    rw [List.getElem?_eq_getElem (by omega)]
    have := h3 j hj
    simpa using this
theorem findU_ge (xs : List Int) (x : Int) : decide (0 ≤ findU xs x) = decide (x ∈ xs) := by
  rw [Bool.eq_iff_iff]
  simp only [decide_eq_true_eq]
  constructor
  · intro h
    unfold findU at h
    cases hf : xs.findIdx? (· == x) with
    | none => rw [hf] at h; simp at h
    | some i =>
      rw [List.findIdx?_eq_some_iff_getElem] at hf
      obtain ⟨h1, h2, _⟩ := hf
      have : xs[i] = x := by simpa using h2
      exact this ▸ List.getElem_mem h1
  · intro h
    obtain ⟨i, hi, _⟩ := findU_mem h
    omega
section
variable {B : Base} {R H R1 R2 : HL} {w : World}
set_option maxRecDepth 100000 in
set_option maxHeartbeats 800000 in
theorem IndexU_any {A : Option Addr} {xs : List Int} {cap : Nat} (hS : Sh B H w) [r : RdAt (intE .u64) B H A xs] (x : Int) :
    Calls Try.prog 97 #[.slice A xs.length cap, .int .u64 x] w fun e w' => e = .returned (.int .i64 (findU xs x)) ∧ Sh B H w' := by
  have hmax := r.max
  go_enter Try.func97, Try.ntmps97
  go_wp2_with (first | (refine wl_isld rfl ?_; ((first | refine wl_value rfl (ex_l0 hS rfl rfl rfl CellAt.out) ?_ | refine wl_value rfl (ex_lf hS rfl rfl rfl CellAt.out) ?_ | refine wl_value rfl (ex_l1 hS rfl rfl rfl CellAt.out) ?_ | refine wl_value rfl (ex_ldC hS rfl rfl CellAt.out) ?_ | refine wl_value rfl (ex_l0 hS rfl rfl rfl rfl) ?_ | refine wl_value rfl (ex_lf hS rfl rfl rfl rfl) ?_ | refine wl_value rfl (ex_l1 hS rfl rfl rfl rfl) ?_ | refine wl_value rfl (ex_ldC hS rfl rfl rfl) ?_ | refine wl_value rfl (ex_l00 hS rfl rfl CellAt.out) ?_ | refine wl_value rfl (ex_l00 hS rfl rfl rfl) ?_ | refine wl_value rfl (ex_l0f hS rfl rfl CellAt.out) ?_ | refine wl_value rfl (ex_l0f hS rfl rfl rfl) ?_ | refine wl_value rfl (ex_lr hS rfl rfl rfl rfl) ?_ | refine wl_value rfl (ex_lr0 hS rfl rfl rfl) ?_ | refine wl_value rfl (ex_lrz hS rfl rfl rfl) ?_ | refine wl_value rfl (ex_lrf hS rfl rfl rfl) ?_ | refine wl_value rfl (ex_ldrC hS rfl rfl) ?_ | refine wl_value rfl (ex_ldr0 hS rfl rfl rfl) ?_); (try simp only [Act.put, List.setIfInBounds_toArray, List.set_cons_zero, List.set_cons_succ]))) | ((first | refine wl_value rfl (ex_ix hS rfl rfl rfl ?_) ?_); (focus (first | rfl | omega | (simp; done))); (try simp only [Act.put, List.setIfInBounds_toArray, List.set_cons_zero, List.set_cons_succ])) | ((first | refine wl_value rfl (ex_eqA rfl rfl rfl) ?_ | refine wl_value rfl (ex_neA rfl rfl rfl) ?_); (try simp only [Act.put, List.setIfInBounds_toArray, List.set_cons_zero, List.set_cons_succ])) | (refine wl_alloc rfl rfl hS ?_; intro _ _ hS; (try simp only [Act.put, List.setIfInBounds_toArray, List.set_cons_zero, List.set_cons_succ])) | (refine wl_box rfl rfl rfl rfl hS ?_; intro _ _ hS; (try simp only [Act.put, List.setIfInBounds_toArray, List.set_cons_zero, List.set_cons_succ])) | (refine wl_st rfl rfl rfl rfl rfl hS (of_decide_eq_true rfl) ?_; intro _ hS; (try simp only [evT, evC, List.getD_cons_succ, List.getD_cons_zero, List.set_cons_zero, List.set_cons_succ] at hS); (try simp only [List.set_cons_zero, List.set_cons_succ] at hS); (try simp only [Act.put, List.setIfInBounds_toArray, List.set_cons_zero, List.set_cons_succ])) | (refine wl_strC rfl rfl rfl rfl hS rfl rfl ?_; intro _ hS; (try simp only [evT, evC, List.getD_cons_succ, List.getD_cons_zero, List.set_cons_zero, List.set_cons_succ] at hS); (try simp only [Act.put, List.setIfInBounds_toArray, List.set_cons_zero, List.set_cons_succ])))
  refine wp_loopS [8] [4, 5, 9, 10, 11, 12, 13, 14, 15, 16, 17, 18] (fun i : Nat => [.int .i64 i]) (fun i w => i ≤ xs.length ∧ (∀ j, j < i → xs[j]? ≠ some x) ∧ Sh B H w) (fun i => xs.length - i) (0) rfl (⟨Nat.zero_le _, fun j h => absurd h (Nat.not_lt_zero _), hS⟩) ?_
  clear hS
  rintro i J w ⟨hi, hno, hS⟩
  (simp only [Frm, setsT, junkT, List.setIfInBounds_toArray, List.set_cons_zero, List.set_cons_succ])
  have Hno := Lib.hid hno
  clear hno
  by_cases hlt : i < xs.length
  · obtain ⟨y, gx⟩ := Nth.of hlt
    by_cases hd : x = y
    · subst hd
      have Hf := Lib.hid (findU_at Hno.out gx.get)
      go_wp2_with (first | (refine wl_isld rfl ?_; ((first | refine wl_value rfl (ex_l0 hS rfl rfl rfl CellAt.out) ?_ | refine wl_value rfl (ex_lf hS rfl rfl rfl CellAt.out) ?_ | refine wl_value rfl (ex_l1 hS rfl rfl rfl CellAt.out) ?_ | refine wl_value rfl (ex_ldC hS rfl rfl CellAt.out) ?_ | refine wl_value rfl (ex_l0 hS rfl rfl rfl rfl) ?_ | refine wl_value rfl (ex_lf hS rfl rfl rfl rfl) ?_ | refine wl_value rfl (ex_l1 hS rfl rfl rfl rfl) ?_ | refine wl_value rfl (ex_ldC hS rfl rfl rfl) ?_ | refine wl_value rfl (ex_l00 hS rfl rfl CellAt.out) ?_ | refine wl_value rfl (ex_l00 hS rfl rfl rfl) ?_ | refine wl_value rfl (ex_l0f hS rfl rfl CellAt.out) ?_ | refine wl_value rfl (ex_l0f hS rfl rfl rfl) ?_ | refine wl_value rfl (ex_lr hS rfl rfl rfl rfl) ?_ | refine wl_value rfl (ex_lr0 hS rfl rfl rfl) ?_ | refine wl_value rfl (ex_lrz hS rfl rfl rfl) ?_ | refine wl_value rfl (ex_lrf hS rfl rfl rfl) ?_ | refine wl_value rfl (ex_ldrC hS rfl rfl) ?_ | refine wl_value rfl (ex_ldr0 hS rfl rfl rfl) ?_); (try simp only [Act.put, List.setIfInBounds_toArray, List.set_cons_zero, List.set_cons_succ]))) | ((first | refine wl_value rfl (ex_ix hS rfl rfl rfl ?_) ?_); (focus (first | rfl | omega | (simp; done))); (try simp only [Act.put, List.setIfInBounds_toArray, List.set_cons_zero, List.set_cons_succ])) | ((first | refine wl_value rfl (ex_eqA rfl rfl rfl) ?_ | refine wl_value rfl (ex_neA rfl rfl rfl) ?_); (try simp only [Act.put, List.setIfInBounds_toArray, List.set_cons_zero, List.set_cons_succ])) | (refine wl_alloc rfl rfl hS ?_; intro _ _ hS; (try simp only [Act.put, List.setIfInBounds_toArray, List.set_cons_zero, List.set_cons_succ])) | (refine wl_box rfl rfl rfl rfl hS ?_; intro _ _ hS; (try simp only [Act.put, List.setIfInBounds_toArray, List.set_cons_zero, List.set_cons_succ])) | (refine wl_st rfl rfl rfl rfl rfl hS (of_decide_eq_true rfl) ?_; intro _ hS; (try simp only [evT, evC, List.getD_cons_succ, List.getD_cons_zero, List.set_cons_zero, List.set_cons_succ] at hS); (try simp only [List.set_cons_zero, List.set_cons_succ] at hS); (try simp only [Act.put, List.setIfInBounds_toArray, List.set_cons_zero, List.set_cons_succ])) | (refine wl_strC rfl rfl rfl rfl hS rfl rfl ?_; intro _ hS; (try simp only [evT, evC, List.getD_cons_succ, List.getD_cons_zero, List.set_cons_zero, List.set_cons_succ] at hS); (try simp only [Act.put, List.setIfInBounds_toArray, List.set_cons_zero, List.set_cons_succ])))
      go_ret
      exact ⟨by rw [Hf.out]; rfl, hS⟩
    · have d1 : (x == y) = false := by simp [hd]
      have Hd := Lib.hid hd
      have hno' : Hid (∀ j, j < i + 1 → xs[j]? ≠ some x) := Lib.hid (by
        intro j hj he
        by_cases hji : j = i
        · subst hji; rw [gx.get] at he; exact hd (Option.some.inj he).symm
        · exact Hno.out j (by omega) he)
      clear hd
      go_wp2_with (first | (refine wl_isld rfl ?_; ((first | refine wl_value rfl (ex_l0 hS rfl rfl rfl CellAt.out) ?_ | refine wl_value rfl (ex_lf hS rfl rfl rfl CellAt.out) ?_ | refine wl_value rfl (ex_l1 hS rfl rfl rfl CellAt.out) ?_ | refine wl_value rfl (ex_ldC hS rfl rfl CellAt.out) ?_ | refine wl_value rfl (ex_l0 hS rfl rfl rfl rfl) ?_ | refine wl_value rfl (ex_lf hS rfl rfl rfl rfl) ?_ | refine wl_value rfl (ex_l1 hS rfl rfl rfl rfl) ?_ | refine wl_value rfl (ex_ldC hS rfl rfl rfl) ?_ | refine wl_value rfl (ex_l00 hS rfl rfl CellAt.out) ?_ | refine wl_value rfl (ex_l00 hS rfl rfl rfl) ?_ | refine wl_value rfl (ex_l0f hS rfl rfl CellAt.out) ?_ | refine wl_value rfl (ex_l0f hS rfl rfl rfl) ?_ | refine wl_value rfl (ex_lr hS rfl rfl rfl rfl) ?_ | refine wl_value rfl (ex_lr0 hS rfl rfl rfl) ?_ | refine wl_value rfl (ex_lrz hS rfl rfl rfl) ?_ | refine wl_value rfl (ex_lrf hS rfl rfl rfl) ?_ | refine wl_value rfl (ex_ldrC hS rfl rfl) ?_ | refine wl_value rfl (ex_ldr0 hS rfl rfl rfl) ?_); (try simp only [Act.put, List.setIfInBounds_toArray, List.set_cons_zero, List.set_cons_succ]))) | ((first | refine wl_value rfl (ex_ix hS rfl rfl rfl ?_) ?_); (focus (first | rfl | omega | (simp; done))); (try simp only [Act.put, List.setIfInBounds_toArray, List.set_cons_zero, List.set_cons_succ])) | ((first | refine wl_value rfl (ex_eqA rfl rfl rfl) ?_ | refine wl_value rfl (ex_neA rfl rfl rfl) ?_); (try simp only [Act.put, List.setIfInBounds_toArray, List.set_cons_zero, List.set_cons_succ])) | (refine wl_alloc rfl rfl hS ?_; intro _ _ hS; (try simp only [Act.put, List.setIfInBounds_toArray, List.set_cons_zero, List.set_cons_succ])) | (refine wl_box rfl rfl rfl rfl hS ?_; intro _ _ hS; (try simp only [Act.put, List.setIfInBounds_toArray, List.set_cons_zero, List.set_cons_succ])) | (refine wl_st rfl rfl rfl rfl rfl hS (of_decide_eq_true rfl) ?_; intro _ hS; (try simp only [evT, evC, List.getD_cons_succ, List.getD_cons_zero, List.set_cons_zero, List.set_cons_succ] at hS); (try simp only [List.set_cons_zero, List.set_cons_succ] at hS); (try simp only [Act.put, List.setIfInBounds_toArray, List.set_cons_zero, List.set_cons_succ])) | (refine wl_strC rfl rfl rfl rfl hS rfl rfl ?_; intro _ hS; (try simp only [evT, evC, List.getD_cons_succ, List.getD_cons_zero, List.set_cons_zero, List.set_cons_succ] at hS); (try simp only [Act.put, List.setIfInBounds_toArray, List.set_cons_zero, List.set_cons_succ])))
      (refine ⟨(i + 1), (⟨hlt, hno'.out, hS⟩), (by (try dsimp only); omega), rfl, (by (simp only [blankT, junkT, List.cons_append, List.nil_append, List.setIfInBounds_toArray, List.set_cons_zero, List.set_cons_succ])), rfl⟩)
  · have Hf := Lib.hid (findU_no (xs := xs) (x := x) fun j hj => Hno.out j (by omega))
    go_wp2_with (first | (refine wl_isld rfl ?_; ((first | refine wl_value rfl (ex_l0 hS rfl rfl rfl CellAt.out) ?_ | refine wl_value rfl (ex_lf hS rfl rfl rfl CellAt.out) ?_ | refine wl_value rfl (ex_l1 hS rfl rfl rfl CellAt.out) ?_ | refine wl_value rfl (ex_ldC hS rfl rfl CellAt.out) ?_ | refine wl_value rfl (ex_l0 hS rfl rfl rfl rfl) ?_ | refine wl_value rfl (ex_lf hS rfl rfl rfl rfl) ?_ | refine wl_value rfl (ex_l1 hS rfl rfl rfl rfl) ?_ | refine wl_value rfl (ex_ldC hS rfl rfl rfl) ?_ | refine wl_value rfl (ex_l00 hS rfl rfl CellAt.out) ?_ | refine wl_value rfl (ex_l00 hS rfl rfl rfl) ?_ | refine wl_value rfl (ex_l0f hS rfl rfl CellAt.out) ?_ | refine wl_value rfl (ex_l0f hS rfl rfl rfl) ?_ | refine wl_value rfl (ex_lr hS rfl rfl rfl rfl) ?_ | refine wl_value rfl (ex_lr0 hS rfl rfl rfl) ?_ | refine wl_value rfl (ex_lrz hS rfl rfl rfl) ?_ | refine wl_value rfl (ex_lrf hS rfl rfl rfl) ?_ | refine wl_value rfl (ex_ldrC hS rfl rfl) ?_ | refine wl_value rfl (ex_ldr0 hS rfl rfl rfl) ?_); (try simp only [Act.put, List.setIfInBounds_toArray, List.set_cons_zero, List.set_cons_succ]))) | ((first | refine wl_value rfl (ex_ix hS rfl rfl rfl ?_) ?_); (focus (first | rfl | omega | (simp; done))); (try simp only [Act.put, List.setIfInBounds_toArray, List.set_cons_zero, List.set_cons_succ])) | ((first | refine wl_value rfl (ex_eqA rfl rfl rfl) ?_ | refine wl_value rfl (ex_neA rfl rfl rfl) ?_); (try simp only [Act.put, List.setIfInBounds_toArray, List.set_cons_zero, List.set_cons_succ])) | (refine wl_alloc rfl rfl hS ?_; intro _ _ hS; (try simp only [Act.put, List.setIfInBounds_toArray, List.set_cons_zero, List.set_cons_succ])) | (refine wl_box rfl rfl rfl rfl hS ?_; intro _ _ hS; (try simp only [Act.put, List.setIfInBounds_toArray, List.set_cons_zero, List.set_cons_succ])) | (refine wl_st rfl rfl rfl rfl rfl hS (of_decide_eq_true rfl) ?_; intro _ hS; (try simp only [evT, evC, List.getD_cons_succ, List.getD_cons_zero, List.set_cons_zero, List.set_cons_succ] at hS); (try simp only [List.set_cons_zero, List.set_cons_succ] at hS); (try simp only [Act.put, List.setIfInBounds_toArray, List.set_cons_zero, List.set_cons_succ])) | (refine wl_strC rfl rfl rfl rfl hS rfl rfl ?_; intro _ hS; (try simp only [evT, evC, List.getD_cons_succ, List.getD_cons_zero, List.set_cons_zero, List.set_cons_succ] at hS); (try simp only [Act.put, List.setIfInBounds_toArray, List.set_cons_zero, List.set_cons_succ])))
    go_ret
    exact ⟨by rw [Hf.out]; rfl, hS⟩
set_option maxRecDepth 100000 in
set_option maxHeartbeats 800000 in
theorem ContainsU_any {A : Option Addr} {xs : List Int} {cap : Nat} (hS : Sh B H w) [r : RdAt (intE .u64) B H A xs] (x : Int) :
    Calls Try.prog 96 #[.slice A xs.length cap, .int .u64 x] w fun e w' => e = .returned (.bool (decide (x ∈ xs))) ∧ Sh B H w' := by
  go_enter Try.func96, Try.ntmps96
  go_wp2_with (first | (go_at_call 97; refine ((IndexU_any hS x)).mono ?_; rintro e w' (⟨rfl, hS⟩)) | (refine wl_isld rfl ?_; ((first | refine wl_value rfl (ex_l0 hS rfl rfl rfl CellAt.out) ?_ | refine wl_value rfl (ex_lf hS rfl rfl rfl CellAt.out) ?_ | refine wl_value rfl (ex_l1 hS rfl rfl rfl CellAt.out) ?_ | refine wl_value rfl (ex_ldC hS rfl rfl CellAt.out) ?_ | refine wl_value rfl (ex_l0 hS rfl rfl rfl rfl) ?_ | refine wl_value rfl (ex_lf hS rfl rfl rfl rfl) ?_ | refine wl_value rfl (ex_l1 hS rfl rfl rfl rfl) ?_ | refine wl_value rfl (ex_ldC hS rfl rfl rfl) ?_ | refine wl_value rfl (ex_l00 hS rfl rfl CellAt.out) ?_ | refine wl_value rfl (ex_l00 hS rfl rfl rfl) ?_ | refine wl_value rfl (ex_l0f hS rfl rfl CellAt.out) ?_ | refine wl_value rfl (ex_l0f hS rfl rfl rfl) ?_ | refine wl_value rfl (ex_lr hS rfl rfl rfl rfl) ?_ | refine wl_value rfl (ex_lr0 hS rfl rfl rfl) ?_ | refine wl_value rfl (ex_lrz hS rfl rfl rfl) ?_ | refine wl_value rfl (ex_lrf hS rfl rfl rfl) ?_ | refine wl_value rfl (ex_ldrC hS rfl rfl) ?_ | refine wl_value rfl (ex_ldr0 hS rfl rfl rfl) ?_); (try simp only [Act.put, List.setIfInBounds_toArray, List.set_cons_zero, List.set_cons_succ]))) | ((first | refine wl_value rfl (ex_ix hS rfl rfl rfl ?_) ?_); (focus (first | rfl | omega | (simp; done))); (try simp only [Act.put, List.setIfInBounds_toArray, List.set_cons_zero, List.set_cons_succ])) | ((first | refine wl_value rfl (ex_eqA rfl rfl rfl) ?_ | refine wl_value rfl (ex_neA rfl rfl rfl) ?_); (try simp only [Act.put, List.setIfInBounds_toArray, List.set_cons_zero, List.set_cons_succ])) | (refine wl_alloc rfl rfl hS ?_; intro _ _ hS; (try simp only [Act.put, List.setIfInBounds_toArray, List.set_cons_zero, List.set_cons_succ])) | (refine wl_box rfl rfl rfl rfl hS ?_; intro _ _ hS; (try simp only [Act.put, List.setIfInBounds_toArray, List.set_cons_zero, List.set_cons_succ])) | (refine wl_st rfl rfl rfl rfl rfl hS (of_decide_eq_true rfl) ?_; intro _ hS; (try simp only [evT, evC, List.getD_cons_succ, List.getD_cons_zero, List.set_cons_zero, List.set_cons_succ] at hS); (try simp only [List.set_cons_zero, List.set_cons_succ] at hS); (try simp only [Act.put, List.setIfInBounds_toArray, List.set_cons_zero, List.set_cons_succ])) | (refine wl_strC rfl rfl rfl rfl hS rfl rfl ?_; intro _ hS; (try simp only [evT, evC, List.getD_cons_succ, List.getD_cons_zero, List.set_cons_zero, List.set_cons_succ] at hS); (try simp only [Act.put, List.setIfInBounds_toArray, List.set_cons_zero, List.set_cons_succ])))
  go_ret
  exact ⟨by rw [← findU_ge]; rfl, hS⟩
theorem DeleteU_any {A : Option Addr} {dead sp : List Value} {xs : List Int} {cap : Nat} (hO : OwnD (intE .u64) A dead xs sp cap) (hS : Sh B H w) {C : HL → HL} [hp : CtxRow H A (dead ++ (flat (intE .u64) xs ++ sp)) 46 C] {i : Nat} (hi : i < xs.length) :
    Calls Try.prog 98 #[.slice A xs.length cap, .int .i64 i, .int .i64 ((i : Int) + 1)] w fun e w' => ∃ sp2, e = .returned (.slice A (xs.take i ++ xs.drop (i + 1)).length cap) ∧ OwnD (intE .u64) A dead (xs.take i ++ xs.drop (i + 1)) sp2 cap ∧ Sh B (C (rowA A (dead ++ (flat (intE .u64) (xs.take i ++ xs.drop (i + 1)) ++ sp2)) 46)) w' := by
  cases A with
  | none => have := (hO.nil rfl).2.1; subst this; simp at hi
  | some ad =>
    have had := hO.form ad rfl
    obtain ⟨b, hbd⟩ : ∃ b, ad.block = b := ⟨_, rfl⟩
    rw [hbd] at had
    subst had
    obtain ⟨R0, hS0, hC0⟩ := Sh.out (hp.eq ▸ hS) hp.ctx
    obtain ⟨hH, hblk⟩ := Sh.holdsI (k := .u64) (b := b) (dead := dead) (xs := xs) (sp := sp) (T := 46) hS0
    have hlen : (xs.take i ++ xs.drop (i + 1)).length = xs.length - 1 := by simp; omega
    obtain ⟨i0, z0, hi0, hz0, hsz0, _⟩ := (inferInstance : ElTy Try.prog 46 (intE .u64).k 8).out
    have h1 := Try.slices_Delete (Value.int .u64) (fun _ => rfl) 0 Try.zeroValue46 i0 hi0 hsz0 b dead.length cap i (i + 1) xs.toArray w hH (by simpa using hO.le) hO.max (by omega) (by simp; omega)
    have e1 : ((i + 1 : Nat) : Int) = (i : Int) + 1 := by omega
    rw [e1] at h1
    simp only [List.size_toArray] at h1
    refine h1.mono fun e w' h => ?_
    obtain ⟨he, q, hw⟩ := h
    refine ⟨flat (intE .u64) (List.replicate 1 0) ++ sp, ?_, ?_, ?_⟩
    · rw [he, hlen, show i + 1 - i = 1 by omega]
    · refine ⟨(fun h => by cases h), fun ad h => by cases h; rfl, by rw [hlen]; have := hO.le; omega, ?_, hO.max⟩
      have := hO.room
      rw [hlen, List.length_append, flat_length]
      have hk : (intE .u64).k = 1 := rfl
      rw [hk] at this ⊢
      simp
      omega
    · rw [hw]
      have hz : (xs.take i ++ xs.drop (i + 1) ++ List.replicate (i + 1 - i) (0 : Int)).length = xs.length := by simp; omega
      have := Sh.putI (k := .u64) (b := b) (dead := dead) (xs := xs) (sp := sp) (T := 46) (n := q) hS hz
      have e2 : i + 1 - i = 1 := by omega
      rw [e2] at this ⊢
      rw [flat_append, List.append_assoc (flat _ _)] at this
      exact this
theorem SortI_any {A : Option Addr} {sp : List Value} {xs : List Int} {cap : Nat} (hO : OwnSl (intE .i64) A xs sp cap) (hS : Sh B H w) {C : HL → HL} [hp : CtxRow H A (flat (intE .i64) xs ++ sp) 3 C] (hm : xs.length < 4611686018427387904) :
    Calls Try.prog 99 #[.slice A xs.length cap] w fun e w' => e = .returned (.tuple #[]) ∧ OwnSl (intE .i64) A (xs.mergeSort fun x y => decide (x ≤ y)) sp cap ∧ Sh B (C (rowA A (flat (intE .i64) (xs.mergeSort fun x y => decide (x ≤ y)) ++ sp) 3)) w' := by
  cases A with
  | none =>
    have h0 := (hO.nil rfl).1
    subst h0
    refine (Try.slices_Sort_int_none none cap w).mono fun e w' h => ⟨h.1, by rw [List.mergeSort_nil]; exact hO, ?_⟩
    rw [h.2, List.mergeSort_nil]
    exact hp.eq ▸ hS
  | some ad =>
    have had := hO.form ad rfl
    obtain ⟨b, hbd⟩ : ∃ b, ad = ⟨b, 0, none⟩ := ⟨_, had⟩
    subst hbd
    obtain ⟨R0, hS0, hC0⟩ := Sh.out (hp.eq ▸ hS) hp.ctx
    obtain ⟨hH, hblk⟩ := Sh.holdsI (k := .i64) (b := b) (dead := []) (xs := xs) (sp := sp) (T := 3) hS0
    have hlen : (xs.mergeSort fun x y => decide (x ≤ y)).length = xs.length := List.length_mergeSort _
    refine (Try.slices_Sort_int b 0 cap xs w hH hblk hm).mono fun e w' h => ?_
    obtain ⟨he, n, os, hw⟩ := h
    refine ⟨he, ⟨(fun h => by cases h), hO.form, by rw [hlen]; exact hO.capEq, hO.max⟩, ?_⟩
    rw [hw]
    refine Sh.growW ?_ _
    exact Sh.putI (k := .i64) (b := b) (dead := []) (xs := xs) (sp := sp) (T := 3) (n := n) hS hlen
end
end Go.Tk
