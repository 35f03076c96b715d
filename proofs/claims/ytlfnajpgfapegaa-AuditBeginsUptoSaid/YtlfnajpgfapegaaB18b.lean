/- A worker that may not be started: the program's answer, by its whole book. -/
import Derived.Test.YtlfnajpgfapegaaB18
set_option linter.unusedSectionVars false
set_option linter.unusedSimpArgs false
set_option linter.unusedVariables false
namespace Go.Tk
open Go.RowKit Go.Proofs

theorem find_eq (a b c d : Int) (n : Nat) (w : World) : (Op.equalIn (n + 2) 26 (.agg [Value.int .i64 a, .int .i64 b].toArray) (.agg [Value.int .i64 c, .int .i64 d].toArray)).run Try.prog w = .ok (decide (a = c ∧ b = d)) w := by
  have e : decide (a = c ∧ b = d) = ((a == c) && ((b == d) && true)) := by
    rw [Bool.eq_iff_iff]; simp
  rw [e]
  refine eq_struct Try.underlying26 (by kernel_rfl) ?_
  refine eqF_cons rfl (part_sc (t := 3) rfl) (part_sc (t := 3) rfl) (eq_int Try.underlying3) ?_
  refine eqF_cons rfl (part_sc (t := 3) rfl) (part_sc (t := 3) rfl) (eq_int Try.underlying3) ?_
  exact eqF_nil
theorem eqN_yes (a b : Int) : EqA Try.prog 26 [.int .i64 a, .int .i64 b] [.int .i64 a, .int .i64 b] true := ⟨Try.eqGuardType26, fun w => by rw [find_eq a b a b 9998 w, decide_eq_true ⟨rfl, rfl⟩]⟩
abbrev startE (k : Int) : Ev := ⟨4, 0, k, 0⟩
section
variable {B : Base} {R H : HL} {w : World}
set_option maxRecDepth 100000 in
set_option maxHeartbeats 800000 in
theorem alive_any (hS : Sh B R w) : Calls Try.prog 8 #[] w fun e w' => e = .returned (.bool true) ∧ Sh B R w' := by
  have l1 := fun (w : World) (H : HL) (A : Option Addr) (cap : Nat) (hS : Sh B H w) (r : RdAt evE B H A [startE 1, startE 2]) => Look_any hS ⟨1, 0, 0, 0, 0, 0, 0⟩ (cap := cap) (l := [startE 1, startE 2]) (by decide) (r := r)
  have l2 := fun (w : World) (H : HL) (A : Option Addr) (cap : Nat) (hS : Sh B H w) (r : RdAt evE B H A [startE 1, startE 2]) => Look_any hS ⟨2, 0, 0, 0, 0, 0, 0⟩ (cap := cap) (l := [startE 1, startE 2]) (by decide) (r := r)
  rw [show lookI ⟨1, 0, 0, 0, 0, 0, 0⟩ [startE 1, startE 2] = (6, 1) by decide] at l1
  rw [show lookI ⟨2, 0, 0, 0, 0, 0, 0⟩ [startE 1, startE 2] = (0, 0) by decide] at l2
  dsimp only at l1 l2
  have q1 := eqN_yes 6 1
  have q2 := eqN_yes 0 0
  go_enter Try.func8, Try.ntmps8
  go_upto_region 2 with (first | (refine wl_buildSlice (E := evE) ([startE 1, startE 2]) rfl rfl (by simp only [List.map_toArray, List.map_cons, List.map_nil]; rfl) rfl (by decide) (by decide) hS ?_; intro _ _ hS hN; (try simp only [Act.put, List.setIfInBounds_toArray, List.set_cons_zero, List.set_cons_succ])))
  go_wp2_with fail
  refine (l1 _ _ _ _ hS inferInstance).mono ?_
  rintro e w' ⟨rfl, hS⟩
  dsimp only
  go_wp2_with (first | (refine wl_isld rfl ?_; ((first | refine wl_value rfl (ex_l0 hS rfl rfl rfl CellAt.out) ?_ | refine wl_value rfl (ex_lf hS rfl rfl rfl CellAt.out) ?_ | refine wl_value rfl (ex_l1 hS rfl rfl rfl CellAt.out) ?_ | refine wl_value rfl (ex_ldC hS rfl rfl CellAt.out) ?_ | refine wl_value rfl (ex_l0 hS rfl rfl rfl rfl) ?_ | refine wl_value rfl (ex_lf hS rfl rfl rfl rfl) ?_ | refine wl_value rfl (ex_l1 hS rfl rfl rfl rfl) ?_ | refine wl_value rfl (ex_ldC hS rfl rfl rfl) ?_ | refine wl_value rfl (ex_l00 hS rfl rfl CellAt.out) ?_ | refine wl_value rfl (ex_l00 hS rfl rfl rfl) ?_ | refine wl_value rfl (ex_l0f hS rfl rfl CellAt.out) ?_ | refine wl_value rfl (ex_l0f hS rfl rfl rfl) ?_ | refine wl_value rfl (ex_lr hS rfl rfl rfl rfl) ?_ | refine wl_value rfl (ex_lr0 hS rfl rfl rfl) ?_ | refine wl_value rfl (ex_lrz hS rfl rfl rfl) ?_ | refine wl_value rfl (ex_lrf hS rfl rfl rfl) ?_ | refine wl_value rfl (ex_ldrC hS rfl rfl) ?_ | refine wl_value rfl (ex_ldr0 hS rfl rfl rfl) ?_); (try simp only [Act.put, List.setIfInBounds_toArray, List.set_cons_zero, List.set_cons_succ]))) | ((first | refine wl_value rfl (ex_ix hS rfl rfl rfl ?_) ?_); (focus (first | rfl | omega | (simp; done))); (try simp only [Act.put, List.setIfInBounds_toArray, List.set_cons_zero, List.set_cons_succ])) | ((first | refine wl_value rfl (ex_eqA rfl rfl rfl) ?_ | refine wl_value rfl (ex_neA rfl rfl rfl) ?_); (try simp only [Act.put, List.setIfInBounds_toArray, List.set_cons_zero, List.set_cons_succ])))
  refine (l2 _ _ _ _ hS inferInstance).mono ?_
  rintro e w' ⟨rfl, hS⟩
  dsimp only
  go_wp2_with (first | (refine wl_isld rfl ?_; ((first | refine wl_value rfl (ex_l0 hS rfl rfl rfl CellAt.out) ?_ | refine wl_value rfl (ex_lf hS rfl rfl rfl CellAt.out) ?_ | refine wl_value rfl (ex_l1 hS rfl rfl rfl CellAt.out) ?_ | refine wl_value rfl (ex_ldC hS rfl rfl CellAt.out) ?_ | refine wl_value rfl (ex_l0 hS rfl rfl rfl rfl) ?_ | refine wl_value rfl (ex_lf hS rfl rfl rfl rfl) ?_ | refine wl_value rfl (ex_l1 hS rfl rfl rfl rfl) ?_ | refine wl_value rfl (ex_ldC hS rfl rfl rfl) ?_ | refine wl_value rfl (ex_l00 hS rfl rfl CellAt.out) ?_ | refine wl_value rfl (ex_l00 hS rfl rfl rfl) ?_ | refine wl_value rfl (ex_l0f hS rfl rfl CellAt.out) ?_ | refine wl_value rfl (ex_l0f hS rfl rfl rfl) ?_ | refine wl_value rfl (ex_lr hS rfl rfl rfl rfl) ?_ | refine wl_value rfl (ex_lr0 hS rfl rfl rfl) ?_ | refine wl_value rfl (ex_lrz hS rfl rfl rfl) ?_ | refine wl_value rfl (ex_lrf hS rfl rfl rfl) ?_ | refine wl_value rfl (ex_ldrC hS rfl rfl) ?_ | refine wl_value rfl (ex_ldr0 hS rfl rfl rfl) ?_); (try simp only [Act.put, List.setIfInBounds_toArray, List.set_cons_zero, List.set_cons_succ]))) | ((first | refine wl_value rfl (ex_ix hS rfl rfl rfl ?_) ?_); (focus (first | rfl | omega | (simp; done))); (try simp only [Act.put, List.setIfInBounds_toArray, List.set_cons_zero, List.set_cons_succ])) | ((first | refine wl_value rfl (ex_eqA rfl rfl rfl) ?_ | refine wl_value rfl (ex_neA rfl rfl rfl) ?_); (try simp only [Act.put, List.setIfInBounds_toArray, List.set_cons_zero, List.set_cons_succ])))
  go_ret
  exact ⟨rfl, hS.drop⟩
end
end Go.Tk
