/- slices.Contains and slices.Index over digests. -/
import Derived.Test.YteahpjecpdcpaaaQ6
import Derived.Test.YteahpjecpdcpaaaTkN
set_option linter.unusedSectionVars false
set_option linter.unusedSimpArgs false
set_option linter.unusedVariables false
namespace Go.Tk
open Go.RowKit Go.Proofs

def digE : Enc Dig := {
  val d := .agg d.cells.toArray
  cells := Dig.cells
  valc _ := rfl
  k := 32
  pos := by decide
  len := Dig.len
  one := Dig.one }

theorem dig_eq (d e : Dig) (n : Nat) (w : World) : (Op.equalIn (n + 2) 35 (.agg d.cells.toArray) (.agg e.cells.toArray)).run Try.prog w = .ok (decide (d = e)) w := by
  have h := eq_ints (P := Try.prog) (w := w) (d := n) (k := .u8) Try.underlying35 (e := 5) (by kernel_rfl) (by kernel_rfl) Try.underlying5 d.l e.l d.h e.h
  have e1 : decide (d.l = e.l) = decide (d = e) := by
    cases d; cases e; simp
  rw [e1] at h
  exact h
theorem wait_eq (a b : Wait) (n : Nat) (w : World) : (Op.equalIn (n + 3) 38 (.agg a.cells.toArray) (.agg b.cells.toArray)).run Try.prog w = .ok (decide (a = b)) w := by
  have ha33 : a.cells[33]? = some (.int .i64 a.born) := by have := Wait.at33 a []; simpa using this
  have ha34 : a.cells[34]? = some (.int .i64 a.tries) := by have := Wait.at34 a []; simpa using this
  have ha35 : a.cells[35]? = some (.int .i64 a.until_) := by have := Wait.at35 a []; simpa using this
  have hb33 : b.cells[33]? = some (.int .i64 b.born) := by have := Wait.at33 b []; simpa using this
  have hb34 : b.cells[34]? = some (.int .i64 b.tries) := by have := Wait.at34 b []; simpa using this
  have hb35 : b.cells[35]? = some (.int .i64 b.until_) := by have := Wait.at35 b []; simpa using this
  have pa : (part 35 a.cells.toArray 1).run Try.prog w = .ok (.agg a.key.cells.toArray) w := by rw [part_row, a.key_]
  have pb : (part 35 b.cells.toArray 1).run Try.prog w = .ok (.agg b.key.cells.toArray) w := by rw [part_row, b.key_]
  have e : decide (a = b) = ((a.id == b.id) && (decide (a.key = b.key) && ((a.born == b.born) && ((a.tries == b.tries) && ((a.until_ == b.until_) && true))))) := by
    cases a; cases b
    rw [Bool.eq_iff_iff]
    simp
  rw [e]
  refine eq_struct Try.underlying38 Try.stoodInHeld38 ?_
  refine eqF_cons rfl (part_sc (t := 28) (xs := a.cells) rfl) (part_sc (t := 28) (xs := b.cells) rfl) (eq_int Try.underlying28) ?_
  refine eqF_cons rfl pa pb (dig_eq _ _ n w) ?_
  refine eqF_cons rfl (part_sc (t := 3) ha33) (part_sc (t := 3) hb33) (eq_int Try.underlying3) ?_
  refine eqF_cons rfl (part_sc (t := 3) ha34) (part_sc (t := 3) hb34) (eq_int Try.underlying3) ?_
  refine eqF_cons rfl (part_sc (t := 3) ha35) (part_sc (t := 3) hb35) (eq_int Try.underlying3) ?_
  exact eqF_nil

theorem drop_find (ks : List Dig) (d : Dig) (i : Nat) (h : ∀ j, j < i → ks[j]? ≠ some d) (hi : ks[i]? = some d) : ks.findIdx? (· == d) = some i := by
  rw [List.findIdx?_eq_some_iff_getElem]
  obtain ⟨h1, h2⟩ := List.getElem?_eq_some_iff.1 hi
  refine ⟨h1, by simp [h2], fun j hj => ?_⟩
  have := h j hj
  rw [List.getElem?_eq_getElem (by omega)] at this
  simpa using this
theorem drop_none (ks : List Dig) (d : Dig) (h : ∀ j, j < ks.length → ks[j]? ≠ some d) : ks.findIdx? (· == d) = none := by
  rw [List.findIdx?_eq_none_iff]
  intro x hx
  obtain ⟨j, hj, rfl⟩ := List.getElem_of_mem hx
  have := h j hj
  rw [List.getElem?_eq_getElem hj] at this
  simpa using this
/-- A place by number. -/
theorem at_ {α : Type} {l : List α} {i : Nat} (h : i < l.length) : ∃ x, l[i]? = some x := ⟨_, List.getElem?_eq_getElem h⟩
def findD (ks : List Dig) (d : Dig) : Int := match ks.findIdx? (· == d) with | some i => i | none => -1

section
variable {B : Base} {H R : HL} {w : World}
def IndexP (B : Base) (H : HL) (ks : List Dig) (d : Dig) (e : Ending) (w' : World) : Prop := e = .returned (.int .i64 (findD ks d)) ∧ Sh B H w'
def IndexI (B : Base) (H : HL) (vb : Nat) (ks : List Dig) (d : Dig) (i : Nat) (w : World) : Prop := i ≤ ks.length ∧ (∀ j, j < i → ks[j]? ≠ some d) ∧ Sh B (cellB vb d.cells 35 ++ H) w
set_option maxRecDepth 100000 in
set_option maxHeartbeats 800000 in
theorem Index_any {A : Option Addr} {ks : List Dig} {sp : List Value} {cap : Nat} (hS : Sh B H w) (hK : OwnSl digE A ks sp cap) [hr : HasRow H A (flat digE ks ++ sp) 35 R] (d : Dig) :
    Calls Try.prog 48 #[.slice A ks.length cap, .agg d.cells.toArray] w (IndexP B H ks d) := by
  have hmax : ks.length ≤ 9223372036854775807 := Nat.le_trans hK.len_le hK.max
  go_enter Try.func48, Try.ntmps48
  go_wp2_with (first | (refine wl_box rfl rfl rfl rfl hS ?_; intro vb _ hS; (try simp only [Act.put, List.setIfInBounds_toArray, List.set_cons_zero, List.set_cons_succ])))
  refine wp_loopS [8] [4, 5, 9, 10, 11, 12, 13, 14, 15, 16, 17, 18] (fun i : Nat => [.int .i64 i]) (IndexI B H vb ks d) (fun i => ks.length - i) 0 rfl ⟨Nat.zero_le _, fun j h => absurd h (Nat.not_lt_zero _), hS⟩ ?_
  clear hS
  rintro i J w ⟨hi, hno, hS⟩
  (simp only [Frm, setsT, junkT, List.setIfInBounds_toArray, List.set_cons_zero, List.set_cons_succ])
  by_cases hlt : i < ks.length
  · obtain ⟨x, hx⟩ := at_ hlt
    have Hx := Lib.hid hx
    clear hx
    have hlt' : (i : Int) < ks.length := by omega
    go_wp2
    (refine wp_drawn (S := ((fun w' => w'.rangeAt vb 0 d.cells ∧ w'.rangeAt (blkA A) (offA A + i * 32) x.cells))) ([(0, true), (1, true), (2, true), (3, true), (4, true), (5, true)]) (by kernel_rfl) (by kernel_rfl) (by intro d _ _ _ _ h; cases d <;> exact h) ?_; have hS := hS.drew; simp only [picks_cons, picks_nil, opAt, List.toList_toArray])
    have hW := And.intro (Sh.rangeAll (b := vb) hS) ((RdAt.range (E := digE) (OwnSl.at_ hK) hS Hx.out : World.rangeAt _ _ _ _))
    (refine wpH_U rfl (fun _ hT => (ex_ldr rfl rfl hT.1 d.len)) hW ?_; (try simp only [Act.put, List.setIfInBounds_toArray, List.set_cons_zero, List.set_cons_succ]))
    (refine wpH_U (v := ?_) rfl ?_ hW ?_; rotate_left; (focus (intro _ _; go_simp; (try with_reducible rfl))); (try simp only [Act.put, List.setIfInBounds_toArray, List.set_cons_zero, List.set_cons_succ]))
    (refine wpH_U (v := ?_) rfl ?_ hW ?_; rotate_left; (focus (intro _ _; go_simp; (try with_reducible rfl))); (try simp only [Act.put, List.setIfInBounds_toArray, List.set_cons_zero, List.set_cons_succ]))
    (refine wpH_U rfl (fun _ hT => (ex_idx rfl rfl rfl (by omega) hlt' hK.ok)) hW ?_; (try simp only [Act.put, List.setIfInBounds_toArray, List.set_cons_zero, List.set_cons_succ]))
    (try simp only [Int.toNat_natCast])
    (refine wpH_U rfl (fun _ hT => (ex_ldr rfl rfl hT.2 x.len)) hW ?_; (try simp only [Act.put, List.setIfInBounds_toArray, List.set_cons_zero, List.set_cons_succ]))
    (refine wpH_U rfl (fun _ hT => (ex_eql rfl rfl rfl Try.eqGuardType35 (dig_eq d x 9998 _))) hW ?_; (try simp only [Act.put, List.setIfInBounds_toArray, List.set_cons_zero, List.set_cons_succ]))
    (refine wpH_done (by assumption) ?_)
    by_cases hd : d = x
    · have hf : findD ks d = i := by unfold findD; rw [drop_find ks d i hno (hd ▸ Hx.out)]
      have Hf := Lib.hid hf
      clear hf
      go_wp2
      go_ret
      exact ⟨by rw [Hf.out]; rfl, hS.drop⟩
    · have hx := Hx.out
      have hno' : ∀ j, j < i + 1 → ks[j]? ≠ some d := by
        intro j hj he
        by_cases hji : j = i
        · subst hji; rw [hx] at he; exact hd (Option.some.inj he).symm
        · exact hno j (by omega) he
      clear hx
      go_wp2
      refine ⟨i + 1, ⟨by omega, hno', hS⟩, by omega, rfl, ?_, rfl⟩
      (simp only [blankT, junkT, List.cons_append, List.nil_append, List.setIfInBounds_toArray, List.set_cons_zero, List.set_cons_succ])
  · have hlt' : ¬ (i : Int) < ks.length := by omega
    have hf : findD ks d = -1 := by unfold findD; rw [drop_none ks d fun j hj => hno j (by omega)]
    have Hf := Lib.hid hf
    clear hf
    go_wp2
    go_ret
    exact ⟨by rw [Hf.out]; rfl, hS.drop⟩
def ContainsP (B : Base) (H : HL) (ks : List Dig) (d : Dig) (e : Ending) (w' : World) : Prop := e = .returned (.bool (decide (d ∈ ks))) ∧ Sh B H w'
theorem findD_mem (ks : List Dig) (d : Dig) : decide (findD ks d ≥ 0) = decide (d ∈ ks) := by
  rw [Bool.eq_iff_iff]
  simp only [decide_eq_true_eq]
  unfold findD
  cases h : ks.findIdx? (· == d) with
  | none =>
    rw [List.findIdx?_eq_none_iff] at h
    simp only [ge_iff_le]
    constructor
    · intro h'; omega
    · intro hm; have := h d hm; simp at this
  | some i =>
    rw [List.findIdx?_eq_some_iff_getElem] at h
    obtain ⟨h1, h2, _⟩ := h
    simp only [ge_iff_le]
    constructor
    · intro _; have : ks[i] = d := by simpa using h2
      exact this ▸ List.getElem_mem h1
    · intro _; omega
set_option maxRecDepth 100000 in
set_option maxHeartbeats 800000 in
theorem Contains_any {A : Option Addr} {ks : List Dig} {sp : List Value} {cap : Nat} (hS : Sh B H w) (hK : OwnSl digE A ks sp cap) [hr : HasRow H A (flat digE ks ++ sp) 35 R] (d : Dig) :
    Calls Try.prog 33 #[.slice A ks.length cap, .agg d.cells.toArray] w (ContainsP B H ks d) := by
  go_enter Try.func33, Try.ntmps33
  go_wp2_with (first | (refine wl_box rfl rfl rfl rfl hS ?_; intro vb _ hS; (try simp only [Act.put, List.setIfInBounds_toArray, List.set_cons_zero, List.set_cons_succ])) | (refine wl_ldr rfl rfl rfl (Sh.rangeAll (b := vb) hS) d.len ?_; (try simp only [Act.put, List.setIfInBounds_toArray, List.set_cons_zero, List.set_cons_succ])) | (go_at_call 48; refine ((Index_any hS hK d)).mono ?_; rintro e w' (⟨rfl, hS⟩)))
  go_ret
  exact ⟨by rw [← findD_mem]; rfl, hS.drop⟩
end
end Go.Tk
