/- Rows of keys; a queue's clone. -/
import Derived.Test.YteahpjecpdcpaaaQ18
set_option linter.unusedSectionVars false
set_option linter.unusedSimpArgs false
set_option linter.unusedVariables false
namespace Go.Tk
open Go.RowKit Go.Proofs

structure KsSt where
  i : Nat
  l : List Dig
  A : Option Addr
  sp : List Value
  cap : Nat
def keysP (B : Base) (R : HL) (l : List Dig) (e : Ending) (w' : World) : Prop :=
  ∃ A sp cap, e = .returned (.slice A l.length cap) ∧ OwnSl digE A l sp cap ∧ Sh B (rowA A (flat digE l ++ sp) 35 ++ R) w'
section
variable {B : Base} {R : HL} {w : World}
set_option maxRecDepth 100000 in
set_option maxHeartbeats 800000 in
theorem keys_any {A : Option Addr} {cap : Nat} {xs : List Int} (hS : Sh B R w) [rA : RdAt (intE .u8) B R A xs] (hn : xs.length ≤ 4294967296) :
    Calls Try.prog 30 #[.slice A xs.length cap] w (keysP B R (xs.map Dig.of)) := by
  go_enter Try.func30, Try.ntmps30
  go_wp2
  refine wp_loopS [3, 8] [5, 9, 10, 11, 12, 13, 14, 15, 16, 17] (fun s : KsSt => [.slice s.A s.l.length s.cap, .int .i64 s.i]) (fun s w => Sh B (rowA s.A (flat digE s.l ++ s.sp) 35 ++ R) w ∧ OwnSl digE s.A s.l s.sp s.cap ∧ s.i ≤ xs.length ∧ s.l = (xs.take s.i).map Dig.of) (fun s => xs.length - s.i) (⟨0, [], none, [], 0⟩) rfl (⟨hS, .nothing, Nat.zero_le _, rfl⟩) ?_
  clear hS
  rintro ⟨i, l, Al, sp, cp⟩ J w ⟨hS, hO, hi, he⟩
  dsimp only at hS hO hi he
  have hl : l.length ≤ i := by rw [he]; simp; omega
  (simp only [Frm, setsT, junkT, List.setIfInBounds_toArray, List.set_cons_zero, List.set_cons_succ])
  by_cases hlt : i < xs.length
  · obtain ⟨x, gx⟩ := Nth.of hlt
    have He := Lib.hid he
    clear he
    go_wp2_with (first | (refine wl_buildSlice (E := digE) ([Dig.of x]) rfl rfl (by simp only [List.map_toArray, List.map_cons, List.map_nil]; rfl) rfl (by decide) (by decide) hS ?_; intro _ _ hS hN; (try simp only [Act.put, List.setIfInBounds_toArray, List.set_cons_zero, List.set_cons_succ])) | (refine wl_ap (E := digE) rfl rfl rfl rfl hS ?_ ?_ ?_ ?_ ?_; (focus (first | rfl | omega)); (focus (first | rfl | omega)); (focus ((simp only [List.length_singleton]; omega))); (focus decide); intro _ _ _ _ hO2 hS; (try simp only [Act.put, List.setIfInBounds_toArray, List.set_cons_zero, List.set_cons_succ])) | (go_at_call 13; refine ((key_any hS x)).mono ?_; rintro e w' (⟨rfl, hS⟩)) | (refine wl_isld rfl ?_; ((first | refine wl_value rfl (ex_l0 hS rfl rfl rfl CellAt.out) ?_ | refine wl_value rfl (ex_lf hS rfl rfl rfl CellAt.out) ?_ | refine wl_value rfl (ex_l1 hS rfl rfl rfl CellAt.out) ?_ | refine wl_value rfl (ex_ldC hS rfl rfl CellAt.out) ?_ | refine wl_value rfl (ex_l0 hS rfl rfl rfl rfl) ?_ | refine wl_value rfl (ex_lf hS rfl rfl rfl rfl) ?_ | refine wl_value rfl (ex_l1 hS rfl rfl rfl rfl) ?_ | refine wl_value rfl (ex_ldC hS rfl rfl rfl) ?_ | refine wl_value rfl (ex_l00 hS rfl rfl CellAt.out) ?_ | refine wl_value rfl (ex_l00 hS rfl rfl rfl) ?_ | refine wl_value rfl (ex_l0f hS rfl rfl CellAt.out) ?_ | refine wl_value rfl (ex_l0f hS rfl rfl rfl) ?_ | refine wl_value rfl (ex_lr hS rfl rfl rfl rfl) ?_ | refine wl_value rfl (ex_lr0 hS rfl rfl rfl) ?_ | refine wl_value rfl (ex_lrz hS rfl rfl rfl) ?_ | refine wl_value rfl (ex_lrf hS rfl rfl rfl) ?_ | refine wl_value rfl (ex_ldrC hS rfl rfl) ?_ | refine wl_value rfl (ex_ldr0 hS rfl rfl rfl) ?_); (try simp only [Act.put, List.setIfInBounds_toArray, List.set_cons_zero, List.set_cons_succ]))) | ((first | refine wl_value rfl (ex_ix hS rfl rfl rfl ?_) ?_); (focus (first | rfl | omega | (simp; done))); (try simp only [Act.put, List.setIfInBounds_toArray, List.set_cons_zero, List.set_cons_succ])) | ((first | refine wl_value rfl (ex_eqA rfl rfl rfl) ?_ | refine wl_value rfl (ex_neA rfl rfl rfl) ?_); (try simp only [Act.put, List.setIfInBounds_toArray, List.set_cons_zero, List.set_cons_succ])) | (refine wl_alloc rfl rfl hS ?_; intro _ _ hS; (try simp only [Act.put, List.setIfInBounds_toArray, List.set_cons_zero, List.set_cons_succ])) | (refine wl_box rfl rfl rfl rfl hS ?_; intro _ _ hS; (try simp only [Act.put, List.setIfInBounds_toArray, List.set_cons_zero, List.set_cons_succ])) | (refine wl_st rfl rfl rfl rfl rfl hS (of_decide_eq_true rfl) ?_; intro _ hS; (try simp only [evT, evC, List.getD_cons_succ, List.getD_cons_zero, List.set_cons_zero, List.set_cons_succ] at hS); (try simp only [List.set_cons_zero, List.set_cons_succ] at hS); (try simp only [Act.put, List.setIfInBounds_toArray, List.set_cons_zero, List.set_cons_succ])) | (refine wl_strC rfl rfl rfl rfl hS rfl rfl ?_; intro _ hS; (try simp only [evT, evC, List.getD_cons_succ, List.getD_cons_zero, List.set_cons_zero, List.set_cons_succ] at hS); (try simp only [Act.put, List.setIfInBounds_toArray, List.set_cons_zero, List.set_cons_succ])))
    (refine ⟨(⟨i + 1, l ++ [Dig.of x], _, _, _⟩), (⟨hS.to, hO2, hlt, by rw [gx.take, He.out]; simp⟩), (by (try dsimp only); omega), ((by simp)), (by (simp only [blankT, junkT, List.cons_append, List.nil_append, List.setIfInBounds_toArray, List.set_cons_zero, List.set_cons_succ])), rfl⟩)
  · have hl2 : l = xs.map Dig.of := by rw [he, List.take_of_length_le (by omega)]
    clear he
    go_wp2_with (first | (refine wl_isld rfl ?_; ((first | refine wl_value rfl (ex_l0 hS rfl rfl rfl CellAt.out) ?_ | refine wl_value rfl (ex_lf hS rfl rfl rfl CellAt.out) ?_ | refine wl_value rfl (ex_l1 hS rfl rfl rfl CellAt.out) ?_ | refine wl_value rfl (ex_ldC hS rfl rfl CellAt.out) ?_ | refine wl_value rfl (ex_l0 hS rfl rfl rfl rfl) ?_ | refine wl_value rfl (ex_lf hS rfl rfl rfl rfl) ?_ | refine wl_value rfl (ex_l1 hS rfl rfl rfl rfl) ?_ | refine wl_value rfl (ex_ldC hS rfl rfl rfl) ?_ | refine wl_value rfl (ex_l00 hS rfl rfl CellAt.out) ?_ | refine wl_value rfl (ex_l00 hS rfl rfl rfl) ?_ | refine wl_value rfl (ex_l0f hS rfl rfl CellAt.out) ?_ | refine wl_value rfl (ex_l0f hS rfl rfl rfl) ?_ | refine wl_value rfl (ex_lr hS rfl rfl rfl rfl) ?_ | refine wl_value rfl (ex_lr0 hS rfl rfl rfl) ?_ | refine wl_value rfl (ex_lrz hS rfl rfl rfl) ?_ | refine wl_value rfl (ex_lrf hS rfl rfl rfl) ?_ | refine wl_value rfl (ex_ldrC hS rfl rfl) ?_ | refine wl_value rfl (ex_ldr0 hS rfl rfl rfl) ?_); (try simp only [Act.put, List.setIfInBounds_toArray, List.set_cons_zero, List.set_cons_succ]))) | ((first | refine wl_value rfl (ex_ix hS rfl rfl rfl ?_) ?_); (focus (first | rfl | omega | (simp; done))); (try simp only [Act.put, List.setIfInBounds_toArray, List.set_cons_zero, List.set_cons_succ])) | ((first | refine wl_value rfl (ex_eqA rfl rfl rfl) ?_ | refine wl_value rfl (ex_neA rfl rfl rfl) ?_); (try simp only [Act.put, List.setIfInBounds_toArray, List.set_cons_zero, List.set_cons_succ])) | (refine wl_alloc rfl rfl hS ?_; intro _ _ hS; (try simp only [Act.put, List.setIfInBounds_toArray, List.set_cons_zero, List.set_cons_succ])) | (refine wl_box rfl rfl rfl rfl hS ?_; intro _ _ hS; (try simp only [Act.put, List.setIfInBounds_toArray, List.set_cons_zero, List.set_cons_succ])) | (refine wl_st rfl rfl rfl rfl rfl hS (of_decide_eq_true rfl) ?_; intro _ hS; (try simp only [evT, evC, List.getD_cons_succ, List.getD_cons_zero, List.set_cons_zero, List.set_cons_succ] at hS); (try simp only [List.set_cons_zero, List.set_cons_succ] at hS); (try simp only [Act.put, List.setIfInBounds_toArray, List.set_cons_zero, List.set_cons_succ])) | (refine wl_strC rfl rfl rfl rfl hS rfl rfl ?_; intro _ hS; (try simp only [evT, evC, List.getD_cons_succ, List.getD_cons_zero, List.set_cons_zero, List.set_cons_succ] at hS); (try simp only [Act.put, List.setIfInBounds_toArray, List.set_cons_zero, List.set_cons_succ])))
    go_ret
    subst hl2
    exact ⟨Al, sp, cp, rfl, hO, hS⟩
end
end Go.Tk
