/- The law TreeApplies. -/
import Derived.Test.YtclmemhginekbaaDoorHP40
import Derived.Test.YtclmemhginekbaaDoorGb0b1ef
set_option linter.unusedSectionVars false
set_option linter.unusedSimpArgs false
set_option linter.unusedVariables false
namespace Go.Tk
open Go.RowKit Go.Proofs
section
variable {B : Base} {R H H1 : HL} {w w' : World}
set_option maxRecDepth 100000 in
set_option maxHeartbeats 1600000 in
theorem Applies_any [HasML B] [NoDraw B] (hS : Sh B R w) {A A' : Option Addr} {cap cap' : Nat} {t : List En} {l : List Ch} [r : RdAt enE B R A t] [r' : RdAt enC B R A' l] (hcap : t.length ≤ cap) (hl : t.length ≤ 1048576) (hl' : l.length ≤ 1048576) (hst : SmallE t) (hsl : SmallC l) :
    Calls Tryd.prog 7 #[.slice A t.length cap, .slice A' l.length cap'] w fun e w' => e = .returned (.bool true) ∧ Sh B R w' := by
  have l1 := fun (w : World) (hS : Sh B R w) => TApply_any hS (A := A) (A' := A') (cap := cap) (cap' := cap') (t := t) (l := l) (r := r) (r' := r') (by omega) hl' hst hsl
  have l2 := fun (w : World) (H : HL) (hS : Sh B H w) (r : RdAt enE B H A t) (r' : RdAt enC B H A' l) => RApply_any hS (A := A) (A' := A') (cap := cap) (cap' := cap') (t := t) (l := l) (r := r) (r' := r') hcap (by omega) hl' hst hsl
  obtain ⟨X, hX⟩ : ∃ X, applyR t l = X := ⟨_, rfl⟩
  rw [hX] at l1 l2
  obtain ⟨xs, n⟩ := X
  have l3 := fun (w : World) (H : HL) (hS : Sh B H w) (A A' : Option Addr) (c c' : Nat) (r : RdAt enE B H A xs) (r' : RdAt enE B H A' xs) => Same_any hS (xs := xs) (ys := xs) (c := c) (c' := c') (rA := r) (rB := r')
  rw [decide_eq_true rfl] at l3
  clear hX
  go_enter Tryd.func7, Tryd.ntmps7
  go_wp2_with (first | (go_at_call 21; refine ((l1 _ hS)).mono ?_; rintro e w' (⟨A2, sp2, cap2, rfl, hO, hS⟩)) | (go_at_call 22; refine ((l2 _ _ hS inferInstance inferInstance)).mono ?_; rintro e w' (⟨A3, sp3, cap3, rfl, hO3, hS⟩)) | (go_at_call 17; refine ((l3 _ _ hS _ _ _ _ inferInstance inferInstance)).mono ?_; rintro e w' (⟨rfl, hS⟩)) | (go_at_call 14; refine ((alive_any hS)).mono ?_; rintro e w' (⟨rfl, hS⟩)) | (refine wl_isld rfl ?_; ((first | refine wl_value rfl (ex_l0 hS rfl rfl rfl CellAt.out) ?_ | refine wl_value rfl (ex_lf hS rfl rfl rfl CellAt.out) ?_ | refine wl_value rfl (ex_l1 hS rfl rfl rfl CellAt.out) ?_ | refine wl_value rfl (ex_ldC hS rfl rfl CellAt.out) ?_ | refine wl_value rfl (ex_l0 hS rfl rfl rfl rfl) ?_ | refine wl_value rfl (ex_lf hS rfl rfl rfl rfl) ?_ | refine wl_value rfl (ex_l1 hS rfl rfl rfl rfl) ?_ | refine wl_value rfl (ex_ldC hS rfl rfl rfl) ?_ | refine wl_value rfl (ex_l00 hS rfl rfl CellAt.out) ?_ | refine wl_value rfl (ex_l00 hS rfl rfl rfl) ?_ | refine wl_value rfl (ex_l0f hS rfl rfl CellAt.out) ?_ | refine wl_value rfl (ex_l0f hS rfl rfl rfl) ?_ | refine wl_value rfl (ex_lr hS rfl rfl rfl rfl) ?_ | refine wl_value rfl (ex_lr0 hS rfl rfl rfl) ?_ | refine wl_value rfl (ex_lrz hS rfl rfl rfl) ?_ | refine wl_value rfl (ex_lrf hS rfl rfl rfl) ?_ | refine wl_value rfl (ex_ldrC hS rfl rfl) ?_ | refine wl_value rfl (ex_ldr0 hS rfl rfl rfl) ?_); (try simp only [Act.put, List.setIfInBounds_toArray, List.set_cons_zero, List.set_cons_succ]))) | ((first | refine wl_value rfl (ex_ix hS rfl rfl rfl ?_) ?_); (focus (first | rfl | omega | (simp; done))); (try simp only [Act.put, List.setIfInBounds_toArray, List.set_cons_zero, List.set_cons_succ])) | ((first | refine wl_value rfl (ex_eqA rfl rfl rfl) ?_ | refine wl_value rfl (ex_neA rfl rfl rfl) ?_); (try simp only [Act.put, List.setIfInBounds_toArray, List.set_cons_zero, List.set_cons_succ])) | (refine wl_alloc rfl rfl hS ?_; intro _ _ hS; (try simp only [Act.put, List.setIfInBounds_toArray, List.set_cons_zero, List.set_cons_succ])) | (refine wl_box rfl rfl rfl rfl hS ?_; intro _ _ hS; (try simp only [Act.put, List.setIfInBounds_toArray, List.set_cons_zero, List.set_cons_succ])) | (refine wl_st rfl rfl rfl rfl rfl hS (of_decide_eq_true rfl) ?_; intro _ hS; (try simp only [evT, evC, List.getD_cons_succ, List.getD_cons_zero, List.set_cons_zero, List.set_cons_succ] at hS); (try simp only [List.set_cons_zero, List.set_cons_succ] at hS); (try simp only [Act.put, List.setIfInBounds_toArray, List.set_cons_zero, List.set_cons_succ])) | (refine wl_strC rfl rfl rfl rfl hS rfl rfl ?_; intro _ hS; (try simp only [evT, evC, List.getD_cons_succ, List.getD_cons_zero, List.set_cons_zero, List.set_cons_succ] at hS); (try simp only [Act.put, List.setIfInBounds_toArray, List.set_cons_zero, List.set_cons_succ])))
  go_ret
  exact ⟨rfl, hS.to⟩
end
end Go.Tk
