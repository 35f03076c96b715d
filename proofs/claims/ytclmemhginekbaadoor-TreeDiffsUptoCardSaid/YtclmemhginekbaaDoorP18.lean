/- Entries compared; Same; alive. -/
import Derived.Test.YtclmemhginekbaaDoorP17
set_option linter.unusedSectionVars false
set_option linter.unusedSimpArgs false
set_option linter.unusedVariables false
namespace Go.Tk
open Go.RowKit Go.Proofs

theorem ent_eq (a b : En) (n : Nat) (w : World) : (Op.equalIn (n + 2) 37 (.agg a.cells.toArray) (.agg b.cells.toArray)).run Tryd.prog w = .ok (decide (a = b)) w := by
  have e : decide (a = b) = ((a.path.toList == b.path.toList) && ((a.kind == b.kind) && ((a.data.toList == b.data.toList) && true))) := by
    rw [strEq, strEq]
    cases a; cases b
    rw [Bool.eq_iff_iff]
    simp
  rw [e]
  refine eq_struct Tryd.underlying37 (by kernel_rfl) ?_
  refine eqF_cons rfl (part_sc (t := 9) rfl) (part_sc (t := 9) rfl) (run_equalIn_string w _ _ _ _ Tryd.underlying9) ?_
  refine eqF_cons rfl (part_sc (t := 3) rfl) (part_sc (t := 3) rfl) (eq_int Tryd.underlying3) ?_
  refine eqF_cons rfl (part_sc (t := 9) rfl) (part_sc (t := 9) rfl) (run_equalIn_string w _ _ _ _ Tryd.underlying9) ?_
  exact eqF_nil
theorem eqE (a b : En) : EqA Tryd.prog 37 a.cells b.cells (decide (a = b)) := ⟨Tryd.eqGuardType37, fun w => ent_eq a b 9998 w⟩
theorem eqE_yes (a : En) : EqA Tryd.prog 37 a.cells a.cells true := by
  have := eqE a a
  rwa [decide_eq_true rfl] at this
theorem eqE_no {a b : En} (h : ¬ a = b) : EqA Tryd.prog 37 a.cells b.cells false := by
  have := eqE a b
  rwa [decide_eq_false h] at this
/-- Sorted rows of distinct paths are told by what they have. -/
theorem sorted_uniq : ∀ {ys zs : List En}, ys.Perm zs → ys.Pairwise (fun x y => 0 ≤ lessI y.path x.path) → zs.Pairwise (fun x y => 0 ≤ lessI y.path x.path) → (∀ e ∈ zs, okP e.path = true) → zs.Pairwise (fun x y => ¬ x.path = y.path) → ys = zs
  | [], zs, h, _, _, _, _ => (List.nil_perm.1 h).symm
  | y :: ys, zs, h, h1, h2, hok, hd => by
    cases zs with
    | nil => exact absurd h.length_eq (by simp)
    | cons z zs =>
      rw [List.pairwise_cons] at h1 h2 hd
      by_cases he : y = z
      · subst he
        rw [sorted_uniq (List.Perm.cons_inv h) h1.2 h2.2 (fun e he => hok e (List.mem_cons_of_mem _ he)) hd.2]
      · exfalso
        have hy : y ∈ zs := by
          rcases List.mem_cons.1 (h.subset (List.mem_cons_self ..)) with h3 | h3
          · exact absurd h3 he
          · exact h3
        have hz : z ∈ ys := by
          rcases List.mem_cons.1 (h.symm.subset (List.mem_cons_self ..)) with h3 | h3
          · exact absurd h3.symm he
          · exact h3
        have l1 := h1.1 z hz
        have l2 := h2.1 y hy
        have oy := hok y (List.mem_cons_of_mem _ hy)
        have oz := hok z (List.mem_cons_self ..)
        have := lessI_swap oy oz
        exact hd.1 y hy (lessI_eq oz oy (by omega))
def abE : En := ⟨⟨#[97, 47, 98]⟩, 1, ⟨#[120]⟩⟩
def aE : En := ⟨⟨#[97]⟩, 2, ⟨#[]⟩⟩
theorem make_ab : makeR [abE] = (0, [abE, aE]) := by decide +kernel
theorem check_ab : checkA [aE, abE] = (0, 0) := by decide +kernel
theorem size_ab : sizeI [aE, abE] = 1 := by decide +kernel
section
variable {B : Base} {R H H1 : HL} {w w' : World}
theorem Make_ab [HasML B] [NoDraw B] (hS : Sh B R w) {A : Option Addr} {cap : Nat} [r : RdAt enE B R A [abE]] :
    Calls Tryd.prog 15 #[.slice A 1 cap] w (fun e w' => ∃ A sp cap, e = .returned (.tuple #[.slice A 2 cap, .int .i64 0]) ∧ OwnSl enE A [aE, abE] sp cap ∧ Sh B (rowA A (flat enE [aE, abE] ++ sp) 37 ++ R) w') := by
  refine (TMake_any hS (l := [abE]) (cap := cap) (by decide) (by intro e he; rw [List.mem_singleton.1 he]; decide)).mono ?_
  rw [make_ab]
  rintro e w' ⟨A, sp, cap, ys, he, hp, hw, hO, hS⟩
  have : ys = [aE, abE] := sorted_uniq (hp.trans (List.Perm.swap _ _ _)) hw (by decide +kernel) (by decide +kernel) (by decide +kernel)
  subst this
  exact ⟨A, sp, cap, he, hO, hS⟩
set_option maxRecDepth 100000 in
set_option maxHeartbeats 1600000 in
theorem alive_any [HasML B] [NoDraw B] (hS : Sh B R w) : Calls Tryd.prog 14 #[] w fun e w' => e = .returned (.bool true) ∧ Sh B R w' := by
  have l1 := fun (w : World) (H : HL) (A : Option Addr) (cap : Nat) (hS : Sh B H w) (r : RdAt enE B H A [abE]) => Make_ab (cap := cap) hS (r := r)
  have hsm : SmallE [aE, abE] := by intro e he; simp only [List.mem_cons, List.not_mem_nil, or_false] at he; rcases he with rfl | rfl <;> decide
  have l2 := fun (w : World) (H : HL) (A : Option Addr) (cap : Nat) (hS : Sh B H w) (r : RdAt enE B H A [aE, abE]) => TCheck_any (cap := cap) hS (r := r) (by decide) hsm
  have l3 := fun (w : World) (H : HL) (A : Option Addr) (cap : Nat) (hS : Sh B H w) (r : RdAt enE B H A [aE, abE]) => TSize_any (cap := cap) hS (r := r) (by decide) hsm
  rw [check_ab] at l2
  rw [size_ab] at l3
  have g0 : Nth [aE, abE] 0 aE := ⟨rfl⟩
  have q1 : EqA Tryd.prog 37 (enE.cells aE) [.string ⟨#[97]⟩, .int .i64 2, .string ⟨#[]⟩] true := eqE_yes aE
  clear hsm
  go_enter Tryd.func14, Tryd.ntmps14
  go_wp2_with (first | (refine wl_buildSlice (E := enE) [abE] rfl rfl (by simp only [List.map_toArray, List.map_cons, List.map_nil]; rfl) rfl (by decide) (by decide) hS ?_; intro _ _ hS hN; (try simp only [Act.put, List.setIfInBounds_toArray, List.set_cons_zero, List.set_cons_succ])) | (go_at_call 15; refine ((l1 _ _ _ _ hS inferInstance)).mono ?_; rintro e w' (⟨A2, sp2, cap2, rfl, hO, hS⟩)) | (go_at_call 12; refine ((l2 _ _ _ _ hS inferInstance)).mono ?_; rintro e w' (⟨rfl, hS⟩)) | (go_at_call 38; refine ((l3 _ _ _ _ hS inferInstance)).mono ?_; rintro e w' (⟨rfl, hS⟩)) | (refine wl_isld rfl ?_; ((first | refine wl_value rfl (ex_l0 hS rfl rfl rfl CellAt.out) ?_ | refine wl_value rfl (ex_lf hS rfl rfl rfl CellAt.out) ?_ | refine wl_value rfl (ex_l1 hS rfl rfl rfl CellAt.out) ?_ | refine wl_value rfl (ex_ldC hS rfl rfl CellAt.out) ?_ | refine wl_value rfl (ex_l0 hS rfl rfl rfl rfl) ?_ | refine wl_value rfl (ex_lf hS rfl rfl rfl rfl) ?_ | refine wl_value rfl (ex_l1 hS rfl rfl rfl rfl) ?_ | refine wl_value rfl (ex_ldC hS rfl rfl rfl) ?_ | refine wl_value rfl (ex_l00 hS rfl rfl CellAt.out) ?_ | refine wl_value rfl (ex_l00 hS rfl rfl rfl) ?_ | refine wl_value rfl (ex_l0f hS rfl rfl CellAt.out) ?_ | refine wl_value rfl (ex_l0f hS rfl rfl rfl) ?_ | refine wl_value rfl (ex_lr hS rfl rfl rfl rfl) ?_ | refine wl_value rfl (ex_lr0 hS rfl rfl rfl) ?_ | refine wl_value rfl (ex_lrz hS rfl rfl rfl) ?_ | refine wl_value rfl (ex_lrf hS rfl rfl rfl) ?_ | refine wl_value rfl (ex_ldrC hS rfl rfl) ?_ | refine wl_value rfl (ex_ldr0 hS rfl rfl rfl) ?_); (try simp only [Act.put, List.setIfInBounds_toArray, List.set_cons_zero, List.set_cons_succ]))) | ((first | refine wl_value rfl (ex_ix hS rfl rfl rfl ?_) ?_); (focus (first | rfl | omega | (simp; done))); (try simp only [Act.put, List.setIfInBounds_toArray, List.set_cons_zero, List.set_cons_succ])) | ((first | refine wl_value rfl (ex_eqA rfl rfl rfl) ?_ | refine wl_value rfl (ex_neA rfl rfl rfl) ?_); (try simp only [Act.put, List.setIfInBounds_toArray, List.set_cons_zero, List.set_cons_succ])) | (refine wl_alloc rfl rfl hS ?_; intro _ _ hS; (try simp only [Act.put, List.setIfInBounds_toArray, List.set_cons_zero, List.set_cons_succ])) | (refine wl_box rfl rfl rfl rfl hS ?_; intro _ _ hS; (try simp only [Act.put, List.setIfInBounds_toArray, List.set_cons_zero, List.set_cons_succ])) | (refine wl_st rfl rfl rfl rfl rfl hS (of_decide_eq_true rfl) ?_; intro _ hS; (try simp only [evT, evC, List.getD_cons_succ, List.getD_cons_zero, List.set_cons_zero, List.set_cons_succ] at hS); (try simp only [List.set_cons_zero, List.set_cons_succ] at hS); (try simp only [Act.put, List.setIfInBounds_toArray, List.set_cons_zero, List.set_cons_succ])) | (refine wl_strC rfl rfl rfl rfl hS rfl rfl ?_; intro _ hS; (try simp only [evT, evC, List.getD_cons_succ, List.getD_cons_zero, List.set_cons_zero, List.set_cons_succ] at hS); (try simp only [Act.put, List.setIfInBounds_toArray, List.set_cons_zero, List.set_cons_succ])))
  go_ret
  exact ⟨rfl, hS.to⟩
set_option maxRecDepth 100000 in
theorem Checks_any [HasML B] [NoDraw B] (hS : Sh B R w) {A : Option Addr} {cap : Nat} {t : List En} [r : RdAt enE B R A t] (hc : t.length ≤ cap) (hl : t.length ≤ 16777216) (hsm : SmallE t) :
    Calls Tryd.prog 3 #[.slice A t.length cap] w fun e w' => e = .returned (.bool true) ∧ Sh B R w' := by
  have l1 := fun (w : World) (hS : Sh B R w) => TCheck_any hS (cap := cap) (t := t) (r := r) hl hsm
  have l2 := fun (w : World) (hS : Sh B R w) => CheckR_any hS (cap := cap) (t := t) (r := r) hc hl hsm
  rw [← checks_same] at l2
  go_enter Tryd.func3, Tryd.ntmps3
  go_wp2_with (first | (go_at_call 12; refine ((l1 _ hS)).mono ?_; rintro e w' (⟨rfl, hS⟩)) | (go_at_call 13; refine ((l2 _ hS)).mono ?_; rintro e w' (⟨rfl, hS⟩)) | (go_at_call 14; refine ((alive_any hS)).mono ?_; rintro e w' (⟨rfl, hS⟩)) | (refine wl_isld rfl ?_; ((first | refine wl_value rfl (ex_l0 hS rfl rfl rfl CellAt.out) ?_ | refine wl_value rfl (ex_lf hS rfl rfl rfl CellAt.out) ?_ | refine wl_value rfl (ex_l1 hS rfl rfl rfl CellAt.out) ?_ | refine wl_value rfl (ex_ldC hS rfl rfl CellAt.out) ?_ | refine wl_value rfl (ex_l0 hS rfl rfl rfl rfl) ?_ | refine wl_value rfl (ex_lf hS rfl rfl rfl rfl) ?_ | refine wl_value rfl (ex_l1 hS rfl rfl rfl rfl) ?_ | refine wl_value rfl (ex_ldC hS rfl rfl rfl) ?_ | refine wl_value rfl (ex_l00 hS rfl rfl CellAt.out) ?_ | refine wl_value rfl (ex_l00 hS rfl rfl rfl) ?_ | refine wl_value rfl (ex_l0f hS rfl rfl CellAt.out) ?_ | refine wl_value rfl (ex_l0f hS rfl rfl rfl) ?_ | refine wl_value rfl (ex_lr hS rfl rfl rfl rfl) ?_ | refine wl_value rfl (ex_lr0 hS rfl rfl rfl) ?_ | refine wl_value rfl (ex_lrz hS rfl rfl rfl) ?_ | refine wl_value rfl (ex_lrf hS rfl rfl rfl) ?_ | refine wl_value rfl (ex_ldrC hS rfl rfl) ?_ | refine wl_value rfl (ex_ldr0 hS rfl rfl rfl) ?_); (try simp only [Act.put, List.setIfInBounds_toArray, List.set_cons_zero, List.set_cons_succ]))) | ((first | refine wl_value rfl (ex_ix hS rfl rfl rfl ?_) ?_); (focus (first | rfl | omega | (simp; done))); (try simp only [Act.put, List.setIfInBounds_toArray, List.set_cons_zero, List.set_cons_succ])) | ((first | refine wl_value rfl (ex_eqA rfl rfl rfl) ?_ | refine wl_value rfl (ex_neA rfl rfl rfl) ?_); (try simp only [Act.put, List.setIfInBounds_toArray, List.set_cons_zero, List.set_cons_succ])) | (refine wl_alloc rfl rfl hS ?_; intro _ _ hS; (try simp only [Act.put, List.setIfInBounds_toArray, List.set_cons_zero, List.set_cons_succ])) | (refine wl_box rfl rfl rfl rfl hS ?_; intro _ _ hS; (try simp only [Act.put, List.setIfInBounds_toArray, List.set_cons_zero, List.set_cons_succ])) | (refine wl_st rfl rfl rfl rfl rfl hS (of_decide_eq_true rfl) ?_; intro _ hS; (try simp only [evT, evC, List.getD_cons_succ, List.getD_cons_zero, List.set_cons_zero, List.set_cons_succ] at hS); (try simp only [List.set_cons_zero, List.set_cons_succ] at hS); (try simp only [Act.put, List.setIfInBounds_toArray, List.set_cons_zero, List.set_cons_succ])) | (refine wl_strC rfl rfl rfl rfl hS rfl rfl ?_; intro _ hS; (try simp only [evT, evC, List.getD_cons_succ, List.getD_cons_zero, List.set_cons_zero, List.set_cons_succ] at hS); (try simp only [Act.put, List.setIfInBounds_toArray, List.set_cons_zero, List.set_cons_succ])))
  go_ret
  exact ⟨rfl, hS.to⟩
end
end Go.Tk
