/- Same; the law TreeShuffles; Changes; SameChanges; the changes between two trees, plain; What the document's Make makes, plain: the least right tree, as the program's; What Apply answers, plain; the document's way and the program's meet; slices.IndexFunc and slices.DeleteFunc over entries; place; Apply's closure; The changes between two trees lead from the one to the other, plain; tree.Apply; tree.Find, tree.Put, tree.Remove; tree.Put and tree.Remove; Put and Remove, plain: right trees come of right trees, and what stands where. -/
import Derived.Test.YtclmemhginekbaaGreatDoorG959ba2
import Derived.Test.YtclmemhginekbaaGreatDoorGb7f0c3
set_option linter.unusedSectionVars false
set_option linter.unusedSimpArgs false
set_option linter.unusedVariables false
namespace Go.Tk
open Go.RowKit Go.Proofs
section
variable {B : Base} {R H H1 : HL} {w w' : World}
set_option maxRecDepth 100000 in
set_option maxHeartbeats 1600000 in
theorem Same_any {A A' : Option Addr} {xs ys : List En} {c c' : Nat} (hS : Sh B R w) [rA : RdAt enE B R A xs] [rB : RdAt enE B R A' ys] :
    Calls Tryz.prog 12 #[.slice A xs.length c, .slice A' ys.length c'] w fun e w' => e = .returned (.bool (decide (xs = ys))) ∧ Sh B R w' := by
  have hm := rA.max
  by_cases hlen : xs.length = ys.length
  · have Hlen := Lib.hid hlen
    have d1 : ((xs.length : Int) == (ys.length : Int)) = true := by rw [hlen]; simp
    have d1b : ((xs.length : Int) != (ys.length : Int)) = false := by rw [hlen]; simp
    obtain ⟨X, hX⟩ : ∃ X, decide (xs = ys) = X := ⟨_, rfl⟩
    rw [hX]
    have HX := Lib.hid hX
    clear hX hlen
    go_enter Tryz.func12, Tryz.ntmps12
    go_wp2_with (first | (refine wl_isld rfl ?_; ((first | refine wl_value rfl (ex_l0 hS rfl rfl rfl CellAt.out) ?_ | refine wl_value rfl (ex_lf hS rfl rfl rfl CellAt.out) ?_ | refine wl_value rfl (ex_l1 hS rfl rfl rfl CellAt.out) ?_ | refine wl_value rfl (ex_ldC hS rfl rfl CellAt.out) ?_ | refine wl_value rfl (ex_l0 hS rfl rfl rfl rfl) ?_ | refine wl_value rfl (ex_lf hS rfl rfl rfl rfl) ?_ | refine wl_value rfl (ex_l1 hS rfl rfl rfl rfl) ?_ | refine wl_value rfl (ex_ldC hS rfl rfl rfl) ?_ | refine wl_value rfl (ex_l00 hS rfl rfl CellAt.out) ?_ | refine wl_value rfl (ex_l00 hS rfl rfl rfl) ?_ | refine wl_value rfl (ex_l0f hS rfl rfl CellAt.out) ?_ | refine wl_value rfl (ex_l0f hS rfl rfl rfl) ?_ | refine wl_value rfl (ex_lr hS rfl rfl rfl rfl) ?_ | refine wl_value rfl (ex_lr0 hS rfl rfl rfl) ?_ | refine wl_value rfl (ex_lrz hS rfl rfl rfl) ?_ | refine wl_value rfl (ex_lrf hS rfl rfl rfl) ?_ | refine wl_value rfl (ex_ldrC hS rfl rfl) ?_ | refine wl_value rfl (ex_ldr0 hS rfl rfl rfl) ?_); (try simp only [Act.put, List.setIfInBounds_toArray, List.set_cons_zero, List.set_cons_succ]))) | ((first | refine wl_value rfl (ex_ix hS rfl rfl rfl ?_) ?_); (focus (first | rfl | omega | (simp; done))); (try simp only [Act.put, List.setIfInBounds_toArray, List.set_cons_zero, List.set_cons_succ])) | ((first | refine wl_value rfl (ex_eqA rfl rfl rfl) ?_ | refine wl_value rfl (ex_neA rfl rfl rfl) ?_); (try simp only [Act.put, List.setIfInBounds_toArray, List.set_cons_zero, List.set_cons_succ])) | (refine wl_alloc rfl rfl hS ?_; intro _ _ hS; (try simp only [Act.put, List.setIfInBounds_toArray, List.set_cons_zero, List.set_cons_succ])) | (refine wl_box rfl rfl rfl rfl hS ?_; intro _ _ hS; (try simp only [Act.put, List.setIfInBounds_toArray, List.set_cons_zero, List.set_cons_succ])) | (refine wl_st rfl rfl rfl rfl rfl hS (of_decide_eq_true rfl) ?_; intro _ hS; (try simp only [evT, evC, List.getD_cons_succ, List.getD_cons_zero, List.set_cons_zero, List.set_cons_succ] at hS); (try simp only [List.set_cons_zero, List.set_cons_succ] at hS); (try simp only [Act.put, List.setIfInBounds_toArray, List.set_cons_zero, List.set_cons_succ])) | (refine wl_strC rfl rfl rfl rfl hS rfl rfl ?_; intro _ hS; (try simp only [evT, evC, List.getD_cons_succ, List.getD_cons_zero, List.set_cons_zero, List.set_cons_succ] at hS); (try simp only [Act.put, List.setIfInBounds_toArray, List.set_cons_zero, List.set_cons_succ])))
    have h0 : 0 ≤ xs.length ∧ xs.take 0 = ys.take 0 ∧ Sh B R _ := ⟨Nat.zero_le _, by simp, hS⟩
    clear hS
    refine wp_loopS [5] [4, 11, 12, 13, 14, 15, 16, 17, 18, 19, 20, 21, 22, 23, 24, 25] (fun i : Nat => [.int .i64 i]) (fun i w => i ≤ xs.length ∧ xs.take i = ys.take i ∧ Sh B R w) (fun i => xs.length - i) (0) rfl (h0) ?_
    clear h0
    rintro i J w ⟨hi, htk, hS⟩
    (simp only [Frm, setsT, junkT, List.setIfInBounds_toArray, List.set_cons_zero, List.set_cons_succ])
    by_cases hlt : i < xs.length
    · obtain ⟨x, gx⟩ := Nth.of hlt
      obtain ⟨y, gy⟩ := Nth.of (xs := ys) (j := i) (by rw [← Hlen.out]; exact hlt)
      have Htk := Lib.hid htk
      clear htk
      by_cases hxy : x = y
      · subst hxy
        haveI : EqA Tryz.prog 24 (enE.cells x) (enE.cells x) true := eqE_yes x
        have Hnext := Lib.hid (show xs.take (i + 1) = ys.take (i + 1) by rw [gx.take, gy.take, Htk.out])
        go_wp2_with (first | (refine wl_isld rfl ?_; ((first | refine wl_value rfl (ex_l0 hS rfl rfl rfl CellAt.out) ?_ | refine wl_value rfl (ex_lf hS rfl rfl rfl CellAt.out) ?_ | refine wl_value rfl (ex_l1 hS rfl rfl rfl CellAt.out) ?_ | refine wl_value rfl (ex_ldC hS rfl rfl CellAt.out) ?_ | refine wl_value rfl (ex_l0 hS rfl rfl rfl rfl) ?_ | refine wl_value rfl (ex_lf hS rfl rfl rfl rfl) ?_ | refine wl_value rfl (ex_l1 hS rfl rfl rfl rfl) ?_ | refine wl_value rfl (ex_ldC hS rfl rfl rfl) ?_ | refine wl_value rfl (ex_l00 hS rfl rfl CellAt.out) ?_ | refine wl_value rfl (ex_l00 hS rfl rfl rfl) ?_ | refine wl_value rfl (ex_l0f hS rfl rfl CellAt.out) ?_ | refine wl_value rfl (ex_l0f hS rfl rfl rfl) ?_ | refine wl_value rfl (ex_lr hS rfl rfl rfl rfl) ?_ | refine wl_value rfl (ex_lr0 hS rfl rfl rfl) ?_ | refine wl_value rfl (ex_lrz hS rfl rfl rfl) ?_ | refine wl_value rfl (ex_lrf hS rfl rfl rfl) ?_ | refine wl_value rfl (ex_ldrC hS rfl rfl) ?_ | refine wl_value rfl (ex_ldr0 hS rfl rfl rfl) ?_); (try simp only [Act.put, List.setIfInBounds_toArray, List.set_cons_zero, List.set_cons_succ]))) | ((first | refine wl_value rfl (ex_ix hS rfl rfl rfl ?_) ?_); (focus (first | rfl | omega | (simp; done))); (try simp only [Act.put, List.setIfInBounds_toArray, List.set_cons_zero, List.set_cons_succ])) | ((first | refine wl_value rfl (ex_eqA rfl rfl rfl) ?_ | refine wl_value rfl (ex_neA rfl rfl rfl) ?_); (try simp only [Act.put, List.setIfInBounds_toArray, List.set_cons_zero, List.set_cons_succ])) | (refine wl_alloc rfl rfl hS ?_; intro _ _ hS; (try simp only [Act.put, List.setIfInBounds_toArray, List.set_cons_zero, List.set_cons_succ])) | (refine wl_box rfl rfl rfl rfl hS ?_; intro _ _ hS; (try simp only [Act.put, List.setIfInBounds_toArray, List.set_cons_zero, List.set_cons_succ])) | (refine wl_st rfl rfl rfl rfl rfl hS (of_decide_eq_true rfl) ?_; intro _ hS; (try simp only [evT, evC, List.getD_cons_succ, List.getD_cons_zero, List.set_cons_zero, List.set_cons_succ] at hS); (try simp only [List.set_cons_zero, List.set_cons_succ] at hS); (try simp only [Act.put, List.setIfInBounds_toArray, List.set_cons_zero, List.set_cons_succ])) | (refine wl_strC rfl rfl rfl rfl hS rfl rfl ?_; intro _ hS; (try simp only [evT, evC, List.getD_cons_succ, List.getD_cons_zero, List.set_cons_zero, List.set_cons_succ] at hS); (try simp only [Act.put, List.setIfInBounds_toArray, List.set_cons_zero, List.set_cons_succ])))
        (refine wp_drawnF hS [(0, true), (1, true), (2, true), (3, true), (4, true), (5, true), (6, true), (7, true), (8, true)] (by kernel_rfl) (by kernel_rfl) (by intro d _ _ _ _ h; cases d <;> exact h) ?_; have hS := hS.drew; simp only [picks_cons, picks_nil, opAt, List.toList_toArray]; (refine wpF_U (v := ?_) rfl ?_ (Sh.to hS) ?_; rotate_left; (focus (intro _ _; go_simp; (try (rw [wrap_i64]; (rotate_left; omega))); (try with_reducible rfl))); (try simp only [Act.put, List.setIfInBounds_toArray, List.set_cons_zero, List.set_cons_succ])); (refine wpF_U (v := ?_) rfl ?_ (Sh.to hS) ?_; rotate_left; (focus (intro _ _; go_simp; (try (rw [wrap_i64]; (rotate_left; omega))); (try with_reducible rfl))); (try simp only [Act.put, List.setIfInBounds_toArray, List.set_cons_zero, List.set_cons_succ])); ((first | refine wpF_U rfl (fun _ hT => ex_ix hT rfl rfl rfl ?_) (Sh.to hS) ?_); (focus (first | rfl | omega | (simp; done))); (try simp only [Act.put, List.setIfInBounds_toArray, List.set_cons_zero, List.set_cons_succ])); ((first | refine wpF_U rfl (fun _ hT => ex_l0 hT rfl rfl rfl CellAt.out) (Sh.to hS) ?_ | refine wpF_U rfl (fun _ hT => ex_lf hT rfl rfl rfl CellAt.out) (Sh.to hS) ?_ | refine wpF_U rfl (fun _ hT => ex_l1 hT rfl rfl rfl CellAt.out) (Sh.to hS) ?_ | refine wpF_U rfl (fun _ hT => ex_ldC hT rfl rfl CellAt.out) (Sh.to hS) ?_ | refine wpF_U rfl (fun _ hT => ex_l0 hT rfl rfl rfl rfl) (Sh.to hS) ?_ | refine wpF_U rfl (fun _ hT => ex_lf hT rfl rfl rfl rfl) (Sh.to hS) ?_ | refine wpF_U rfl (fun _ hT => ex_l1 hT rfl rfl rfl rfl) (Sh.to hS) ?_ | refine wpF_U rfl (fun _ hT => ex_ldC hT rfl rfl rfl) (Sh.to hS) ?_ | refine wpF_U rfl (fun _ hT => ex_l00 hT rfl rfl CellAt.out) (Sh.to hS) ?_ | refine wpF_U rfl (fun _ hT => ex_l00 hT rfl rfl rfl) (Sh.to hS) ?_ | refine wpF_U rfl (fun _ hT => ex_l0f hT rfl rfl CellAt.out) (Sh.to hS) ?_ | refine wpF_U rfl (fun _ hT => ex_l0f hT rfl rfl rfl) (Sh.to hS) ?_ | refine wpF_U rfl (fun _ hT => ex_lr hT rfl rfl rfl rfl) (Sh.to hS) ?_ | refine wpF_U rfl (fun _ hT => ex_lr0 hT rfl rfl rfl) (Sh.to hS) ?_ | refine wpF_U rfl (fun _ hT => ex_lrz hT rfl rfl rfl) (Sh.to hS) ?_ | refine wpF_U rfl (fun _ hT => ex_lrf hT rfl rfl rfl) (Sh.to hS) ?_ | refine wpF_U rfl (fun _ hT => ex_ldrC hT rfl rfl) (Sh.to hS) ?_ | refine wpF_U rfl (fun _ hT => ex_ldr0 hT rfl rfl rfl) (Sh.to hS) ?_); (try simp only [Act.put, List.setIfInBounds_toArray, List.set_cons_zero, List.set_cons_succ])); (refine wpF_U (v := ?_) rfl ?_ (Sh.to hS) ?_; rotate_left; (focus (intro _ _; go_simp; (try (rw [wrap_i64]; (rotate_left; omega))); (try with_reducible rfl))); (try simp only [Act.put, List.setIfInBounds_toArray, List.set_cons_zero, List.set_cons_succ])); (refine wpF_U (v := ?_) rfl ?_ (Sh.to hS) ?_; rotate_left; (focus (intro _ _; go_simp; (try (rw [wrap_i64]; (rotate_left; omega))); (try with_reducible rfl))); (try simp only [Act.put, List.setIfInBounds_toArray, List.set_cons_zero, List.set_cons_succ])); ((first | refine wpF_U rfl (fun _ hT => ex_ix hT rfl rfl rfl ?_) (Sh.to hS) ?_); (focus (first | rfl | omega | (simp; done))); (try simp only [Act.put, List.setIfInBounds_toArray, List.set_cons_zero, List.set_cons_succ])); ((first | refine wpF_U rfl (fun _ hT => ex_l0 hT rfl rfl rfl CellAt.out) (Sh.to hS) ?_ | refine wpF_U rfl (fun _ hT => ex_lf hT rfl rfl rfl CellAt.out) (Sh.to hS) ?_ | refine wpF_U rfl (fun _ hT => ex_l1 hT rfl rfl rfl CellAt.out) (Sh.to hS) ?_ | refine wpF_U rfl (fun _ hT => ex_ldC hT rfl rfl CellAt.out) (Sh.to hS) ?_ | refine wpF_U rfl (fun _ hT => ex_l0 hT rfl rfl rfl rfl) (Sh.to hS) ?_ | refine wpF_U rfl (fun _ hT => ex_lf hT rfl rfl rfl rfl) (Sh.to hS) ?_ | refine wpF_U rfl (fun _ hT => ex_l1 hT rfl rfl rfl rfl) (Sh.to hS) ?_ | refine wpF_U rfl (fun _ hT => ex_ldC hT rfl rfl rfl) (Sh.to hS) ?_ | refine wpF_U rfl (fun _ hT => ex_l00 hT rfl rfl CellAt.out) (Sh.to hS) ?_ | refine wpF_U rfl (fun _ hT => ex_l00 hT rfl rfl rfl) (Sh.to hS) ?_ | refine wpF_U rfl (fun _ hT => ex_l0f hT rfl rfl CellAt.out) (Sh.to hS) ?_ | refine wpF_U rfl (fun _ hT => ex_l0f hT rfl rfl rfl) (Sh.to hS) ?_ | refine wpF_U rfl (fun _ hT => ex_lr hT rfl rfl rfl rfl) (Sh.to hS) ?_ | refine wpF_U rfl (fun _ hT => ex_lr0 hT rfl rfl rfl) (Sh.to hS) ?_ | refine wpF_U rfl (fun _ hT => ex_lrz hT rfl rfl rfl) (Sh.to hS) ?_ | refine wpF_U rfl (fun _ hT => ex_lrf hT rfl rfl rfl) (Sh.to hS) ?_ | refine wpF_U rfl (fun _ hT => ex_ldrC hT rfl rfl) (Sh.to hS) ?_ | refine wpF_U rfl (fun _ hT => ex_ldr0 hT rfl rfl rfl) (Sh.to hS) ?_); (try simp only [Act.put, List.setIfInBounds_toArray, List.set_cons_zero, List.set_cons_succ])); (first | ((first | refine wpF_U rfl (fun _ hT => ex_eqA rfl rfl rfl) (Sh.to hS) ?_ | refine wpF_U rfl (fun _ hT => ex_neA rfl rfl rfl) (Sh.to hS) ?_); (try simp only [Act.put, List.setIfInBounds_toArray, List.set_cons_zero, List.set_cons_succ])) | (refine wpF_U (v := ?_) rfl ?_ (Sh.to hS) ?_; rotate_left; (focus (intro _ _; go_simp; (try (rw [wrap_i64]; (rotate_left; omega))); (try with_reducible rfl))); (try simp only [Act.put, List.setIfInBounds_toArray, List.set_cons_zero, List.set_cons_succ]))); (first | (refine wpF_done (by assumption) ?_) | (refine wpF_doneB (by assumption) ?_) | (refine wpF_nil ?_; (try simp only [Exit.inBlock, Exit.then]))))
        go_wp2_with (first | (refine wl_isld rfl ?_; ((first | refine wl_value rfl (ex_l0 hS rfl rfl rfl CellAt.out) ?_ | refine wl_value rfl (ex_lf hS rfl rfl rfl CellAt.out) ?_ | refine wl_value rfl (ex_l1 hS rfl rfl rfl CellAt.out) ?_ | refine wl_value rfl (ex_ldC hS rfl rfl CellAt.out) ?_ | refine wl_value rfl (ex_l0 hS rfl rfl rfl rfl) ?_ | refine wl_value rfl (ex_lf hS rfl rfl rfl rfl) ?_ | refine wl_value rfl (ex_l1 hS rfl rfl rfl rfl) ?_ | refine wl_value rfl (ex_ldC hS rfl rfl rfl) ?_ | refine wl_value rfl (ex_l00 hS rfl rfl CellAt.out) ?_ | refine wl_value rfl (ex_l00 hS rfl rfl rfl) ?_ | refine wl_value rfl (ex_l0f hS rfl rfl CellAt.out) ?_ | refine wl_value rfl (ex_l0f hS rfl rfl rfl) ?_ | refine wl_value rfl (ex_lr hS rfl rfl rfl rfl) ?_ | refine wl_value rfl (ex_lr0 hS rfl rfl rfl) ?_ | refine wl_value rfl (ex_lrz hS rfl rfl rfl) ?_ | refine wl_value rfl (ex_lrf hS rfl rfl rfl) ?_ | refine wl_value rfl (ex_ldrC hS rfl rfl) ?_ | refine wl_value rfl (ex_ldr0 hS rfl rfl rfl) ?_); (try simp only [Act.put, List.setIfInBounds_toArray, List.set_cons_zero, List.set_cons_succ]))) | ((first | refine wl_value rfl (ex_ix hS rfl rfl rfl ?_) ?_); (focus (first | rfl | omega | (simp; done))); (try simp only [Act.put, List.setIfInBounds_toArray, List.set_cons_zero, List.set_cons_succ])) | ((first | refine wl_value rfl (ex_eqA rfl rfl rfl) ?_ | refine wl_value rfl (ex_neA rfl rfl rfl) ?_); (try simp only [Act.put, List.setIfInBounds_toArray, List.set_cons_zero, List.set_cons_succ])) | (refine wl_alloc rfl rfl hS ?_; intro _ _ hS; (try simp only [Act.put, List.setIfInBounds_toArray, List.set_cons_zero, List.set_cons_succ])) | (refine wl_box rfl rfl rfl rfl hS ?_; intro _ _ hS; (try simp only [Act.put, List.setIfInBounds_toArray, List.set_cons_zero, List.set_cons_succ])) | (refine wl_st rfl rfl rfl rfl rfl hS (of_decide_eq_true rfl) ?_; intro _ hS; (try simp only [evT, evC, List.getD_cons_succ, List.getD_cons_zero, List.set_cons_zero, List.set_cons_succ] at hS); (try simp only [List.set_cons_zero, List.set_cons_succ] at hS); (try simp only [Act.put, List.setIfInBounds_toArray, List.set_cons_zero, List.set_cons_succ])) | (refine wl_strC rfl rfl rfl rfl hS rfl rfl ?_; intro _ hS; (try simp only [evT, evC, List.getD_cons_succ, List.getD_cons_zero, List.set_cons_zero, List.set_cons_succ] at hS); (try simp only [Act.put, List.setIfInBounds_toArray, List.set_cons_zero, List.set_cons_succ])))
        (refine ⟨(i + 1), (⟨hlt, Hnext.out, hS⟩), (by (try dsimp only); omega), rfl, (by (simp only [blankT, junkT, List.cons_append, List.nil_append, List.setIfInBounds_toArray, List.set_cons_zero, List.set_cons_succ])), rfl⟩)
      · haveI : EqA Tryz.prog 24 (enE.cells x) (enE.cells y) false := eqE_no hxy
        have Hx := Lib.hid (show X = false by
          rw [← HX.out, decide_eq_false_iff_not]
          intro h
          have h1 := gx.get
          rw [h, gy.get] at h1
          exact hxy (Option.some.inj h1).symm)
        clear hxy
        go_wp2_with (first | (refine wl_isld rfl ?_; ((first | refine wl_value rfl (ex_l0 hS rfl rfl rfl CellAt.out) ?_ | refine wl_value rfl (ex_lf hS rfl rfl rfl CellAt.out) ?_ | refine wl_value rfl (ex_l1 hS rfl rfl rfl CellAt.out) ?_ | refine wl_value rfl (ex_ldC hS rfl rfl CellAt.out) ?_ | refine wl_value rfl (ex_l0 hS rfl rfl rfl rfl) ?_ | refine wl_value rfl (ex_lf hS rfl rfl rfl rfl) ?_ | refine wl_value rfl (ex_l1 hS rfl rfl rfl rfl) ?_ | refine wl_value rfl (ex_ldC hS rfl rfl rfl) ?_ | refine wl_value rfl (ex_l00 hS rfl rfl CellAt.out) ?_ | refine wl_value rfl (ex_l00 hS rfl rfl rfl) ?_ | refine wl_value rfl (ex_l0f hS rfl rfl CellAt.out) ?_ | refine wl_value rfl (ex_l0f hS rfl rfl rfl) ?_ | refine wl_value rfl (ex_lr hS rfl rfl rfl rfl) ?_ | refine wl_value rfl (ex_lr0 hS rfl rfl rfl) ?_ | refine wl_value rfl (ex_lrz hS rfl rfl rfl) ?_ | refine wl_value rfl (ex_lrf hS rfl rfl rfl) ?_ | refine wl_value rfl (ex_ldrC hS rfl rfl) ?_ | refine wl_value rfl (ex_ldr0 hS rfl rfl rfl) ?_); (try simp only [Act.put, List.setIfInBounds_toArray, List.set_cons_zero, List.set_cons_succ]))) | ((first | refine wl_value rfl (ex_ix hS rfl rfl rfl ?_) ?_); (focus (first | rfl | omega | (simp; done))); (try simp only [Act.put, List.setIfInBounds_toArray, List.set_cons_zero, List.set_cons_succ])) | ((first | refine wl_value rfl (ex_eqA rfl rfl rfl) ?_ | refine wl_value rfl (ex_neA rfl rfl rfl) ?_); (try simp only [Act.put, List.setIfInBounds_toArray, List.set_cons_zero, List.set_cons_succ])) | (refine wl_alloc rfl rfl hS ?_; intro _ _ hS; (try simp only [Act.put, List.setIfInBounds_toArray, List.set_cons_zero, List.set_cons_succ])) | (refine wl_box rfl rfl rfl rfl hS ?_; intro _ _ hS; (try simp only [Act.put, List.setIfInBounds_toArray, List.set_cons_zero, List.set_cons_succ])) | (refine wl_st rfl rfl rfl rfl rfl hS (of_decide_eq_true rfl) ?_; intro _ hS; (try simp only [evT, evC, List.getD_cons_succ, List.getD_cons_zero, List.set_cons_zero, List.set_cons_succ] at hS); (try simp only [List.set_cons_zero, List.set_cons_succ] at hS); (try simp only [Act.put, List.setIfInBounds_toArray, List.set_cons_zero, List.set_cons_succ])) | (refine wl_strC rfl rfl rfl rfl hS rfl rfl ?_; intro _ hS; (try simp only [evT, evC, List.getD_cons_succ, List.getD_cons_zero, List.set_cons_zero, List.set_cons_succ] at hS); (try simp only [Act.put, List.setIfInBounds_toArray, List.set_cons_zero, List.set_cons_succ])))
        (refine wp_drawnF hS [(0, true), (1, true), (2, true), (3, true), (4, true), (5, true), (6, true), (7, true), (8, true)] (by kernel_rfl) (by kernel_rfl) (by intro d _ _ _ _ h; cases d <;> exact h) ?_; have hS := hS.drew; simp only [picks_cons, picks_nil, opAt, List.toList_toArray]; (refine wpF_U (v := ?_) rfl ?_ (Sh.to hS) ?_; rotate_left; (focus (intro _ _; go_simp; (try (rw [wrap_i64]; (rotate_left; omega))); (try with_reducible rfl))); (try simp only [Act.put, List.setIfInBounds_toArray, List.set_cons_zero, List.set_cons_succ])); (refine wpF_U (v := ?_) rfl ?_ (Sh.to hS) ?_; rotate_left; (focus (intro _ _; go_simp; (try (rw [wrap_i64]; (rotate_left; omega))); (try with_reducible rfl))); (try simp only [Act.put, List.setIfInBounds_toArray, List.set_cons_zero, List.set_cons_succ])); ((first | refine wpF_U rfl (fun _ hT => ex_ix hT rfl rfl rfl ?_) (Sh.to hS) ?_); (focus (first | rfl | omega | (simp; done))); (try simp only [Act.put, List.setIfInBounds_toArray, List.set_cons_zero, List.set_cons_succ])); ((first | refine wpF_U rfl (fun _ hT => ex_l0 hT rfl rfl rfl CellAt.out) (Sh.to hS) ?_ | refine wpF_U rfl (fun _ hT => ex_lf hT rfl rfl rfl CellAt.out) (Sh.to hS) ?_ | refine wpF_U rfl (fun _ hT => ex_l1 hT rfl rfl rfl CellAt.out) (Sh.to hS) ?_ | refine wpF_U rfl (fun _ hT => ex_ldC hT rfl rfl CellAt.out) (Sh.to hS) ?_ | refine wpF_U rfl (fun _ hT => ex_l0 hT rfl rfl rfl rfl) (Sh.to hS) ?_ | refine wpF_U rfl (fun _ hT => ex_lf hT rfl rfl rfl rfl) (Sh.to hS) ?_ | refine wpF_U rfl (fun _ hT => ex_l1 hT rfl rfl rfl rfl) (Sh.to hS) ?_ | refine wpF_U rfl (fun _ hT => ex_ldC hT rfl rfl rfl) (Sh.to hS) ?_ | refine wpF_U rfl (fun _ hT => ex_l00 hT rfl rfl CellAt.out) (Sh.to hS) ?_ | refine wpF_U rfl (fun _ hT => ex_l00 hT rfl rfl rfl) (Sh.to hS) ?_ | refine wpF_U rfl (fun _ hT => ex_l0f hT rfl rfl CellAt.out) (Sh.to hS) ?_ | refine wpF_U rfl (fun _ hT => ex_l0f hT rfl rfl rfl) (Sh.to hS) ?_ | refine wpF_U rfl (fun _ hT => ex_lr hT rfl rfl rfl rfl) (Sh.to hS) ?_ | refine wpF_U rfl (fun _ hT => ex_lr0 hT rfl rfl rfl) (Sh.to hS) ?_ | refine wpF_U rfl (fun _ hT => ex_lrz hT rfl rfl rfl) (Sh.to hS) ?_ | refine wpF_U rfl (fun _ hT => ex_lrf hT rfl rfl rfl) (Sh.to hS) ?_ | refine wpF_U rfl (fun _ hT => ex_ldrC hT rfl rfl) (Sh.to hS) ?_ | refine wpF_U rfl (fun _ hT => ex_ldr0 hT rfl rfl rfl) (Sh.to hS) ?_); (try simp only [Act.put, List.setIfInBounds_toArray, List.set_cons_zero, List.set_cons_succ])); (refine wpF_U (v := ?_) rfl ?_ (Sh.to hS) ?_; rotate_left; (focus (intro _ _; go_simp; (try (rw [wrap_i64]; (rotate_left; omega))); (try with_reducible rfl))); (try simp only [Act.put, List.setIfInBounds_toArray, List.set_cons_zero, List.set_cons_succ])); (refine wpF_U (v := ?_) rfl ?_ (Sh.to hS) ?_; rotate_left; (focus (intro _ _; go_simp; (try (rw [wrap_i64]; (rotate_left; omega))); (try with_reducible rfl))); (try simp only [Act.put, List.setIfInBounds_toArray, List.set_cons_zero, List.set_cons_succ])); ((first | refine wpF_U rfl (fun _ hT => ex_ix hT rfl rfl rfl ?_) (Sh.to hS) ?_); (focus (first | rfl | omega | (simp; done))); (try simp only [Act.put, List.setIfInBounds_toArray, List.set_cons_zero, List.set_cons_succ])); ((first | refine wpF_U rfl (fun _ hT => ex_l0 hT rfl rfl rfl CellAt.out) (Sh.to hS) ?_ | refine wpF_U rfl (fun _ hT => ex_lf hT rfl rfl rfl CellAt.out) (Sh.to hS) ?_ | refine wpF_U rfl (fun _ hT => ex_l1 hT rfl rfl rfl CellAt.out) (Sh.to hS) ?_ | refine wpF_U rfl (fun _ hT => ex_ldC hT rfl rfl CellAt.out) (Sh.to hS) ?_ | refine wpF_U rfl (fun _ hT => ex_l0 hT rfl rfl rfl rfl) (Sh.to hS) ?_ | refine wpF_U rfl (fun _ hT => ex_lf hT rfl rfl rfl rfl) (Sh.to hS) ?_ | refine wpF_U rfl (fun _ hT => ex_l1 hT rfl rfl rfl rfl) (Sh.to hS) ?_ | refine wpF_U rfl (fun _ hT => ex_ldC hT rfl rfl rfl) (Sh.to hS) ?_ | refine wpF_U rfl (fun _ hT => ex_l00 hT rfl rfl CellAt.out) (Sh.to hS) ?_ | refine wpF_U rfl (fun _ hT => ex_l00 hT rfl rfl rfl) (Sh.to hS) ?_ | refine wpF_U rfl (fun _ hT => ex_l0f hT rfl rfl CellAt.out) (Sh.to hS) ?_ | refine wpF_U rfl (fun _ hT => ex_l0f hT rfl rfl rfl) (Sh.to hS) ?_ | refine wpF_U rfl (fun _ hT => ex_lr hT rfl rfl rfl rfl) (Sh.to hS) ?_ | refine wpF_U rfl (fun _ hT => ex_lr0 hT rfl rfl rfl) (Sh.to hS) ?_ | refine wpF_U rfl (fun _ hT => ex_lrz hT rfl rfl rfl) (Sh.to hS) ?_ | refine wpF_U rfl (fun _ hT => ex_lrf hT rfl rfl rfl) (Sh.to hS) ?_ | refine wpF_U rfl (fun _ hT => ex_ldrC hT rfl rfl) (Sh.to hS) ?_ | refine wpF_U rfl (fun _ hT => ex_ldr0 hT rfl rfl rfl) (Sh.to hS) ?_); (try simp only [Act.put, List.setIfInBounds_toArray, List.set_cons_zero, List.set_cons_succ])); (first | ((first | refine wpF_U rfl (fun _ hT => ex_eqA rfl rfl rfl) (Sh.to hS) ?_ | refine wpF_U rfl (fun _ hT => ex_neA rfl rfl rfl) (Sh.to hS) ?_); (try simp only [Act.put, List.setIfInBounds_toArray, List.set_cons_zero, List.set_cons_succ])) | (refine wpF_U (v := ?_) rfl ?_ (Sh.to hS) ?_; rotate_left; (focus (intro _ _; go_simp; (try (rw [wrap_i64]; (rotate_left; omega))); (try with_reducible rfl))); (try simp only [Act.put, List.setIfInBounds_toArray, List.set_cons_zero, List.set_cons_succ]))); (first | (refine wpF_done (by assumption) ?_) | (refine wpF_doneB (by assumption) ?_) | (refine wpF_nil ?_; (try simp only [Exit.inBlock, Exit.then]))))
        go_wp2_with (first | (refine wl_isld rfl ?_; ((first | refine wl_value rfl (ex_l0 hS rfl rfl rfl CellAt.out) ?_ | refine wl_value rfl (ex_lf hS rfl rfl rfl CellAt.out) ?_ | refine wl_value rfl (ex_l1 hS rfl rfl rfl CellAt.out) ?_ | refine wl_value rfl (ex_ldC hS rfl rfl CellAt.out) ?_ | refine wl_value rfl (ex_l0 hS rfl rfl rfl rfl) ?_ | refine wl_value rfl (ex_lf hS rfl rfl rfl rfl) ?_ | refine wl_value rfl (ex_l1 hS rfl rfl rfl rfl) ?_ | refine wl_value rfl (ex_ldC hS rfl rfl rfl) ?_ | refine wl_value rfl (ex_l00 hS rfl rfl CellAt.out) ?_ | refine wl_value rfl (ex_l00 hS rfl rfl rfl) ?_ | refine wl_value rfl (ex_l0f hS rfl rfl CellAt.out) ?_ | refine wl_value rfl (ex_l0f hS rfl rfl rfl) ?_ | refine wl_value rfl (ex_lr hS rfl rfl rfl rfl) ?_ | refine wl_value rfl (ex_lr0 hS rfl rfl rfl) ?_ | refine wl_value rfl (ex_lrz hS rfl rfl rfl) ?_ | refine wl_value rfl (ex_lrf hS rfl rfl rfl) ?_ | refine wl_value rfl (ex_ldrC hS rfl rfl) ?_ | refine wl_value rfl (ex_ldr0 hS rfl rfl rfl) ?_); (try simp only [Act.put, List.setIfInBounds_toArray, List.set_cons_zero, List.set_cons_succ]))) | ((first | refine wl_value rfl (ex_ix hS rfl rfl rfl ?_) ?_); (focus (first | rfl | omega | (simp; done))); (try simp only [Act.put, List.setIfInBounds_toArray, List.set_cons_zero, List.set_cons_succ])) | ((first | refine wl_value rfl (ex_eqA rfl rfl rfl) ?_ | refine wl_value rfl (ex_neA rfl rfl rfl) ?_); (try simp only [Act.put, List.setIfInBounds_toArray, List.set_cons_zero, List.set_cons_succ])) | (refine wl_alloc rfl rfl hS ?_; intro _ _ hS; (try simp only [Act.put, List.setIfInBounds_toArray, List.set_cons_zero, List.set_cons_succ])) | (refine wl_box rfl rfl rfl rfl hS ?_; intro _ _ hS; (try simp only [Act.put, List.setIfInBounds_toArray, List.set_cons_zero, List.set_cons_succ])) | (refine wl_st rfl rfl rfl rfl rfl hS (of_decide_eq_true rfl) ?_; intro _ hS; (try simp only [evT, evC, List.getD_cons_succ, List.getD_cons_zero, List.set_cons_zero, List.set_cons_succ] at hS); (try simp only [List.set_cons_zero, List.set_cons_succ] at hS); (try simp only [Act.put, List.setIfInBounds_toArray, List.set_cons_zero, List.set_cons_succ])) | (refine wl_strC rfl rfl rfl rfl hS rfl rfl ?_; intro _ hS; (try simp only [evT, evC, List.getD_cons_succ, List.getD_cons_zero, List.set_cons_zero, List.set_cons_succ] at hS); (try simp only [Act.put, List.setIfInBounds_toArray, List.set_cons_zero, List.set_cons_succ])))
        go_ret
        rw [Hx.out]
        exact ⟨rfl, hS⟩
    · rw [List.take_of_length_le (by omega), List.take_of_length_le (by rw [← Hlen.out]; omega)] at htk
      have Hx := Lib.hid (show X = true by rw [← HX.out, htk]; simp)
      clear htk
      go_wp2_with (first | (refine wl_isld rfl ?_; ((first | refine wl_value rfl (ex_l0 hS rfl rfl rfl CellAt.out) ?_ | refine wl_value rfl (ex_lf hS rfl rfl rfl CellAt.out) ?_ | refine wl_value rfl (ex_l1 hS rfl rfl rfl CellAt.out) ?_ | refine wl_value rfl (ex_ldC hS rfl rfl CellAt.out) ?_ | refine wl_value rfl (ex_l0 hS rfl rfl rfl rfl) ?_ | refine wl_value rfl (ex_lf hS rfl rfl rfl rfl) ?_ | refine wl_value rfl (ex_l1 hS rfl rfl rfl rfl) ?_ | refine wl_value rfl (ex_ldC hS rfl rfl rfl) ?_ | refine wl_value rfl (ex_l00 hS rfl rfl CellAt.out) ?_ | refine wl_value rfl (ex_l00 hS rfl rfl rfl) ?_ | refine wl_value rfl (ex_l0f hS rfl rfl CellAt.out) ?_ | refine wl_value rfl (ex_l0f hS rfl rfl rfl) ?_ | refine wl_value rfl (ex_lr hS rfl rfl rfl rfl) ?_ | refine wl_value rfl (ex_lr0 hS rfl rfl rfl) ?_ | refine wl_value rfl (ex_lrz hS rfl rfl rfl) ?_ | refine wl_value rfl (ex_lrf hS rfl rfl rfl) ?_ | refine wl_value rfl (ex_ldrC hS rfl rfl) ?_ | refine wl_value rfl (ex_ldr0 hS rfl rfl rfl) ?_); (try simp only [Act.put, List.setIfInBounds_toArray, List.set_cons_zero, List.set_cons_succ]))) | ((first | refine wl_value rfl (ex_ix hS rfl rfl rfl ?_) ?_); (focus (first | rfl | omega | (simp; done))); (try simp only [Act.put, List.setIfInBounds_toArray, List.set_cons_zero, List.set_cons_succ])) | ((first | refine wl_value rfl (ex_eqA rfl rfl rfl) ?_ | refine wl_value rfl (ex_neA rfl rfl rfl) ?_); (try simp only [Act.put, List.setIfInBounds_toArray, List.set_cons_zero, List.set_cons_succ])) | (refine wl_alloc rfl rfl hS ?_; intro _ _ hS; (try simp only [Act.put, List.setIfInBounds_toArray, List.set_cons_zero, List.set_cons_succ])) | (refine wl_box rfl rfl rfl rfl hS ?_; intro _ _ hS; (try simp only [Act.put, List.setIfInBounds_toArray, List.set_cons_zero, List.set_cons_succ])) | (refine wl_st rfl rfl rfl rfl rfl hS (of_decide_eq_true rfl) ?_; intro _ hS; (try simp only [evT, evC, List.getD_cons_succ, List.getD_cons_zero, List.set_cons_zero, List.set_cons_succ] at hS); (try simp only [List.set_cons_zero, List.set_cons_succ] at hS); (try simp only [Act.put, List.setIfInBounds_toArray, List.set_cons_zero, List.set_cons_succ])) | (refine wl_strC rfl rfl rfl rfl hS rfl rfl ?_; intro _ hS; (try simp only [evT, evC, List.getD_cons_succ, List.getD_cons_zero, List.set_cons_zero, List.set_cons_succ] at hS); (try simp only [Act.put, List.setIfInBounds_toArray, List.set_cons_zero, List.set_cons_succ])))
      go_ret
      rw [Hx.out]
      exact ⟨rfl, hS⟩
  · have Hx := Lib.hid (show decide (xs = ys) = false by rw [decide_eq_false_iff_not]; intro h; exact hlen (by rw [h]))
    have d1 : ((xs.length : Int) == (ys.length : Int)) = false := beq_no (by omega)
    have d1b : ((xs.length : Int) != (ys.length : Int)) = true := bne_no (by omega)
    clear hlen
    go_enter Tryz.func12, Tryz.ntmps12
    go_wp2_with (first | (refine wl_isld rfl ?_; ((first | refine wl_value rfl (ex_l0 hS rfl rfl rfl CellAt.out) ?_ | refine wl_value rfl (ex_lf hS rfl rfl rfl CellAt.out) ?_ | refine wl_value rfl (ex_l1 hS rfl rfl rfl CellAt.out) ?_ | refine wl_value rfl (ex_ldC hS rfl rfl CellAt.out) ?_ | refine wl_value rfl (ex_l0 hS rfl rfl rfl rfl) ?_ | refine wl_value rfl (ex_lf hS rfl rfl rfl rfl) ?_ | refine wl_value rfl (ex_l1 hS rfl rfl rfl rfl) ?_ | refine wl_value rfl (ex_ldC hS rfl rfl rfl) ?_ | refine wl_value rfl (ex_l00 hS rfl rfl CellAt.out) ?_ | refine wl_value rfl (ex_l00 hS rfl rfl rfl) ?_ | refine wl_value rfl (ex_l0f hS rfl rfl CellAt.out) ?_ | refine wl_value rfl (ex_l0f hS rfl rfl rfl) ?_ | refine wl_value rfl (ex_lr hS rfl rfl rfl rfl) ?_ | refine wl_value rfl (ex_lr0 hS rfl rfl rfl) ?_ | refine wl_value rfl (ex_lrz hS rfl rfl rfl) ?_ | refine wl_value rfl (ex_lrf hS rfl rfl rfl) ?_ | refine wl_value rfl (ex_ldrC hS rfl rfl) ?_ | refine wl_value rfl (ex_ldr0 hS rfl rfl rfl) ?_); (try simp only [Act.put, List.setIfInBounds_toArray, List.set_cons_zero, List.set_cons_succ]))) | ((first | refine wl_value rfl (ex_ix hS rfl rfl rfl ?_) ?_); (focus (first | rfl | omega | (simp; done))); (try simp only [Act.put, List.setIfInBounds_toArray, List.set_cons_zero, List.set_cons_succ])) | ((first | refine wl_value rfl (ex_eqA rfl rfl rfl) ?_ | refine wl_value rfl (ex_neA rfl rfl rfl) ?_); (try simp only [Act.put, List.setIfInBounds_toArray, List.set_cons_zero, List.set_cons_succ])) | (refine wl_alloc rfl rfl hS ?_; intro _ _ hS; (try simp only [Act.put, List.setIfInBounds_toArray, List.set_cons_zero, List.set_cons_succ])) | (refine wl_box rfl rfl rfl rfl hS ?_; intro _ _ hS; (try simp only [Act.put, List.setIfInBounds_toArray, List.set_cons_zero, List.set_cons_succ])) | (refine wl_st rfl rfl rfl rfl rfl hS (of_decide_eq_true rfl) ?_; intro _ hS; (try simp only [evT, evC, List.getD_cons_succ, List.getD_cons_zero, List.set_cons_zero, List.set_cons_succ] at hS); (try simp only [List.set_cons_zero, List.set_cons_succ] at hS); (try simp only [Act.put, List.setIfInBounds_toArray, List.set_cons_zero, List.set_cons_succ])) | (refine wl_strC rfl rfl rfl rfl hS rfl rfl ?_; intro _ hS; (try simp only [evT, evC, List.getD_cons_succ, List.getD_cons_zero, List.set_cons_zero, List.set_cons_succ] at hS); (try simp only [Act.put, List.setIfInBounds_toArray, List.set_cons_zero, List.set_cons_succ])))
    go_ret
    rw [Hx.out]
    exact ⟨rfl, hS⟩
end
end Go.Tk

set_option linter.unusedSectionVars false
set_option linter.unusedSimpArgs false
set_option linter.unusedVariables false
namespace Go.Tk
open Go.RowKit Go.Proofs

structure Ch where
  path : ByteArray
  old : En
  new : En
deriving DecidableEq
def Ch.cells (x : Ch) : List Value := [.string x.path, .string x.old.path, .int .i64 x.old.kind, .string x.old.data, .string x.new.path, .int .i64 x.new.kind, .string x.new.data]
def enC : Enc Ch := {
  val x := .agg x.cells.toArray
  cells x := x.cells
  valc _ := rfl
  k := 7
  pos := by decide
  len _ := rfl
  one x := by intro v hv; simp only [Ch.cells, List.mem_cons, List.not_mem_nil, or_false] at hv; rcases hv with rfl | rfl | rfl | rfl | rfl | rfl | rfl <;> rfl }
instance (x : Ch) : CellAt (enC.cells x) 0 (.string x.path) := ⟨rfl⟩
instance (x : Ch) : CellAt x.cells 0 (.string x.path) := ⟨rfl⟩
instance (x : Ch) : RowOk x.cells 7 := ⟨rfl, enC.one x⟩
def zE : En := ⟨⟨#[]⟩, 0, ⟨#[]⟩⟩
def zC : Ch := ⟨⟨#[]⟩, zE, zE⟩
section
variable {B : Base} {R H H1 : HL} {w w' : World}
end
/-- The changes between two rows of entries by rising paths. -/
def diffL : List En → List En → List Ch
  | [], [] => []
  | a :: r, [] => ⟨a.path, a, zE⟩ :: diffL r []
  | [], b :: s => ⟨b.path, zE, b⟩ :: diffL [] s
  | a :: r, b :: s => if lessI a.path b.path < 0 then ⟨a.path, a, zE⟩ :: diffL r (b :: s) else if 0 < lessI a.path b.path then ⟨b.path, zE, b⟩ :: diffL (a :: r) s else if a = b then diffL r s else ⟨b.path, a, b⟩ :: diffL r s
termination_by a b => a.length + b.length
theorem diffL_nil : diffL [] [] = [] := by rw [diffL]
theorem diffL_l (a : En) (r : List En) : diffL (a :: r) [] = ⟨a.path, a, zE⟩ :: diffL r [] := by rw [diffL]
theorem diffL_r (b : En) (s : List En) : diffL [] (b :: s) = ⟨b.path, zE, b⟩ :: diffL [] s := by rw [diffL]
theorem diffL_c (a b : En) (r s : List En) : diffL (a :: r) (b :: s) = if lessI a.path b.path < 0 then ⟨a.path, a, zE⟩ :: diffL r (b :: s) else if 0 < lessI a.path b.path then ⟨b.path, zE, b⟩ :: diffL (a :: r) s else if a = b then diffL r s else ⟨b.path, a, b⟩ :: diffL r s := by rw [diffL]
theorem mayB_zE {a : En} (h : mayB a = true) : ¬ a = zE := by
  intro e
  rw [e] at h
  exact absurd h (by decide +kernel)
/-- What Diff answers. -/
def diffR (a b : List En) : List Ch × Int := if (checkA a).2 = 0 then (if (checkA b).2 = 0 then (diffL a b, 0) else ([], (checkA b).2)) else ([], (checkA a).2)
theorem cutRd {α : Type} {E : Enc α} {B : Base} {H : HL} {A : Option Addr} {cap : Nat} {x : α} {xs : List α} (r : RdAt E B H A (x :: xs)) (hc : (x :: xs).length ≤ cap) : RdAt E B H (if cap = 1 then A else A.map (·.add (1 * E.k))) xs := by
  by_cases h : cap = 1
  · have : xs = [] := by
      rw [List.length_cons] at hc
      exact List.eq_nil_of_length_eq_zero (by omega)
    subst this
    exact RdAt.nil
  · rw [if_neg h]
    exact r.drop 1
end Go.Tk

set_option linter.unusedSectionVars false
set_option linter.unusedSimpArgs false
set_option linter.unusedVariables false
namespace Go.Tk
open Go.RowKit Go.Proofs
/-- The directories above a path. -/
def chainN : Nat → ByteArray → List ByteArray
  | 0, _ => []
  | n + 1, d => if d.size = 0 then [] else d :: chainN n (upP d)
def above (t : List En) : List ByteArray := t.flatMap fun e => chainN e.path.size (upP e.path)
def stepC : Option (List En) → ByteArray → Option (List En)
  | none, _ => none
  | some out, d => if kindI out d = 2 then some out else if kindI out d = 0 then some (out ++ [dirE d]) else none
theorem stepC_some (out : List En) (d : ByteArray) : stepC (some out) d = if kindI out d = 2 then some out else if kindI out d = 0 then some (out ++ [dirE d]) else none := rfl
theorem foldC_none : ∀ D : List ByteArray, D.foldl stepC none = none
  | [] => rfl
  | d :: D => by rw [List.foldl_cons]; exact foldC_none D
theorem climb_fold : ∀ (n : Nat) (out : List En) (d : ByteArray), climb n out d = (chainN n d).foldl stepC (some out)
  | 0, _, _ => rfl
  | n + 1, out, d => by
    rw [climb, chainN]
    by_cases h0 : d.size = 0
    · rw [if_pos h0, if_pos h0]; rfl
    rw [if_neg h0, if_neg h0, List.foldl_cons]
    rw [stepC_some]
    by_cases h2 : kindI out d = 2
    · rw [if_pos h2, if_pos h2]; exact climb_fold n out _
    rw [if_neg h2, if_neg h2]
    by_cases h3 : kindI out d = 0
    · rw [if_pos h3, if_pos h3]; exact climb_fold n _ _
    rw [if_neg h3, if_neg h3]
    exact (foldC_none _).symm
theorem climbs_fold : ∀ (l out : List En), climbs out l = (above l).foldl stepC (some out)
  | [], out => rfl
  | e :: r, out => by
    have ha : above (e :: r) = chainN e.path.size (upP e.path) ++ above r := by simp [above]
    rw [climbs_cons, ha, List.foldl_append, climb_fold]
    cases (chainN e.path.size (upP e.path)).foldl stepC (some out) with
    | none => exact (foldC_none _).symm
    | some o => exact climbs_fold r o
instance (d : ByteArray) (l : List ByteArray) : Decidable (d ∈ l) := decidable_of_iff (l.any (fun x => decide (x = d)) = true) (by simp)
/-- What lacks, each once, as it comes. -/
def news (t : List En) : List ByteArray → List ByteArray → List ByteArray
  | acc, [] => acc
  | acc, d :: D => if kindI t d = 0 ∧ d ∉ acc then news t (acc ++ [d]) D else news t acc D
theorem news_le (t : List En) : ∀ (D acc : List ByteArray), acc.length ≤ (news t acc D).length
  | [], acc => Nat.le_refl _
  | d :: D, acc => by
    rw [news]
    split
    · have := news_le t D (acc ++ [d]); rw [List.length_append] at this; exact Nat.le_trans (Nat.le_add_right _ _) this
    · exact news_le t D acc
theorem news_mem (t : List En) (x : ByteArray) : ∀ (D acc : List ByteArray), x ∈ news t acc D ↔ x ∈ acc ∨ (x ∈ D ∧ kindI t x = 0)
  | [], acc => by simp [news]
  | d :: D, acc => by
    rw [news]
    by_cases h : kindI t d = 0 ∧ d ∉ acc
    · rw [if_pos h, news_mem t x D]
      by_cases hx : x = d
      · subst hx; simp [h.1]
      · simp [hx]
    · rw [if_neg h, news_mem t x D]
      by_cases hx : x = d
      · subst hx
        by_cases hk : kindI t x = 0
        · have : x ∈ acc := Classical.byContradiction fun hn => h ⟨hk, hn⟩
          simp [this]
        · simp [hk]
      · simp [hx]
theorem news_nodup (t : List En) : ∀ (D acc : List ByteArray), acc.Nodup → (news t acc D).Nodup
  | [], acc, h => h
  | d :: D, acc, h => by
    rw [news]
    split
    · rename_i hd
      refine news_nodup t D _ ?_
      rw [List.nodup_append]
      refine ⟨h, by simp, fun a ha b hb => ?_⟩
      rw [List.mem_singleton.1 hb]
      rintro rfl
      exact hd.2 ha
    · exact news_nodup t D acc h
def BadD (t : List En) (D : List ByteArray) : Prop := ∃ d ∈ D, kindI t d ≠ 0 ∧ kindI t d ≠ 2
theorem kindI_cons (e : En) (r : List En) (p : ByteArray) : kindI (e :: r) p = if e.path = p then e.kind else kindI r p := by
  unfold kindI
  rw [List.find?_cons]
  by_cases h : e.path = p <;> simp [h]
theorem kindI_dirs : ∀ (acc : List ByteArray) (d : ByteArray), kindI (acc.map dirE) d = if d ∈ acc then 2 else 0
  | [], d => by simp [kindI]
  | a :: acc, d => by
    rw [List.map_cons, kindI_cons, kindI_dirs acc d]
    show (if a = d then (2 : Int) else _) = _
    by_cases h : a = d
    · subst h; simp
    · have : ¬ d = a := fun e => h e.symm
      simp [h, this]
theorem kindI_with {t : List En} (ht : ∀ e ∈ t, mayB e = true) (acc : List ByteArray) (d : ByteArray) : kindI (t ++ acc.map dirE) d = if kindI t d = 0 then (if d ∈ acc then 2 else 0) else kindI t d := by
  rw [kindI_append _ _ _ ht, kindI_dirs]
theorem foldC_some {t : List En} (ht : ∀ e ∈ t, mayB e = true) : ∀ (D acc : List ByteArray), ¬ BadD t D → D.foldl stepC (some (t ++ acc.map dirE)) = some (t ++ (news t acc D).map dirE)
  | [], acc, _ => rfl
  | d :: D, acc, hb => by
    have hb2 : ¬ BadD t D := fun ⟨x, hx, h⟩ => hb ⟨x, List.mem_cons_of_mem _ hx, h⟩
    have hd : kindI t d = 0 ∨ kindI t d = 2 := by
      refine Classical.byContradiction fun h => hb ⟨d, by simp, fun h0 => h (.inl h0), fun h2 => h (.inr h2)⟩
    rw [List.foldl_cons, news]
    rw [stepC_some]
    rw [kindI_with ht]
    rcases hd with h0 | h2
    · rw [if_pos h0]
      by_cases hm : d ∈ acc
      · rw [if_pos hm, if_pos rfl, if_neg (fun h : kindI t d = 0 ∧ d ∉ acc => h.2 hm)]
        exact foldC_some ht D acc hb2
      · rw [if_neg hm, if_neg (by decide), if_pos rfl, if_pos ⟨h0, hm⟩, List.append_assoc, show acc.map dirE ++ [dirE d] = (acc ++ [d]).map dirE by simp]
        exact foldC_some ht D _ hb2
    · rw [if_neg (show ¬ kindI t d = 0 by omega), if_pos h2, if_neg (fun h : kindI t d = 0 ∧ d ∉ acc => absurd h.1 (by omega))]
      exact foldC_some ht D acc hb2
theorem foldC_bad {t : List En} (ht : ∀ e ∈ t, mayB e = true) : ∀ (D acc : List ByteArray), BadD t D → D.foldl stepC (some (t ++ acc.map dirE)) = none
  | [], acc, ⟨d, hd, _⟩ => nomatch hd
  | d :: D, acc, hb => by
    rw [List.foldl_cons]
    rw [stepC_some]
    rw [kindI_with ht]
    by_cases hd : kindI t d ≠ 0 ∧ kindI t d ≠ 2
    · rw [if_neg hd.1, if_neg hd.2, if_neg hd.1]
      exact foldC_none D
    have hb2 : BadD t D := by
      obtain ⟨x, hx, h⟩ := hb
      rcases List.mem_cons.1 hx with rfl | hx
      · exact absurd h hd
      · exact ⟨x, hx, h⟩
    by_cases h0 : kindI t d = 0
    · rw [if_pos h0]
      by_cases hm : d ∈ acc
      · rw [if_pos hm, if_pos rfl]
        exact foldC_bad ht D acc hb2
      · rw [if_neg hm, if_neg (by decide), if_pos rfl, List.append_assoc, show acc.map dirE ++ [dirE d] = (acc ++ [d]).map dirE by simp]
        exact foldC_bad ht D _ hb2
    · have h2 : kindI t d = 2 := Classical.byContradiction fun h => hd ⟨h0, h⟩
      rw [if_neg h0, if_pos h2]
      exact foldC_bad ht D acc hb2
/-- The document's way: what was put in, whether it was too much, whether it was wrong. -/
structure MrS where
  acc : List ByteArray
  many : Bool
  wrong : Bool
def stepM (t : List En) (x : MrS) (d : ByteArray) : MrS :=
  if kindI t d = 0 then (if d ∈ x.acc then x else if 1024 < t.length + x.acc.length then ⟨x.acc, true, x.wrong⟩ else ⟨x.acc ++ [d], x.many, x.wrong⟩)
  else ⟨x.acc, x.many, x.wrong || decide (kindI t d ≠ 2)⟩
theorem stepM_def (t : List En) (x : MrS) (d : ByteArray) : stepM t x d = if kindI t d = 0 then (if d ∈ x.acc then x else if 1024 < t.length + x.acc.length then ⟨x.acc, true, x.wrong⟩ else ⟨x.acc ++ [d], x.many, x.wrong⟩) else ⟨x.acc, x.many, x.wrong || decide (kindI t d ≠ 2)⟩ := rfl
theorem foldM_wrong (t : List En) : ∀ (D : List ByteArray) (x : MrS), (D.foldl (stepM t) x).wrong = true ↔ x.wrong = true ∨ BadD t D
  | [], x => by
    constructor
    · exact .inl
    · rintro (h | ⟨d, hd, _⟩)
      · exact h
      · exact nomatch hd
  | d :: D, x => by
    rw [List.foldl_cons, foldM_wrong t D]
    have hc : BadD t (d :: D) ↔ (kindI t d ≠ 0 ∧ kindI t d ≠ 2) ∨ BadD t D := by
      unfold BadD; simp
    rw [hc]
    rw [stepM_def]
    by_cases h0 : kindI t d = 0
    · rw [if_pos h0]
      have hw : (if d ∈ x.acc then x else if 1024 < t.length + x.acc.length then ⟨x.acc, true, x.wrong⟩ else ⟨x.acc ++ [d], x.many, x.wrong⟩ : MrS).wrong = x.wrong := by
        split
        · rfl
        · split <;> rfl
      rw [hw]
      simp [h0]
    · rw [if_neg h0]
      by_cases h2 : kindI t d = 2
      · simp [h2]
      · simp [h0, h2]
theorem foldM_keep (t : List En) : ∀ (D : List ByteArray) (x : MrS), x.many = true → (D.foldl (stepM t) x).many = true
  | [], x, h => h
  | d :: D, x, h => by
    rw [List.foldl_cons]
    refine foldM_keep t D _ ?_
    rw [stepM_def]
    split
    · split
      · exact h
      · split
        · rfl
        · exact h
    · exact h
theorem foldM_few (t : List En) : ∀ (D : List ByteArray) (x : MrS), (D.foldl (stepM t) x).many = false → (D.foldl (stepM t) x).acc = news t x.acc D
  | [], x, h => rfl
  | d :: D, x, h => by
    rw [List.foldl_cons] at h ⊢
    rw [foldM_few t D _ h, news]
    rw [stepM_def] at h ⊢
    by_cases h0 : kindI t d = 0
    · rw [if_pos h0] at h ⊢
      by_cases hm : d ∈ x.acc
      · rw [if_pos hm, if_neg (fun h => h.2 hm)]
      · rw [if_neg hm] at h ⊢
        by_cases hb : 1024 < t.length + x.acc.length
        · rw [if_pos hb, foldM_keep t D _ rfl] at h; cases h
        · rw [if_neg hb, if_pos ⟨h0, hm⟩]
    · rw [if_neg h0, if_neg (fun h => h0 h.1)]
theorem foldM_many (t : List En) : ∀ (D : List ByteArray) (x : MrS), (D.foldl (stepM t) x).many = true → x.many = true ∨ 1024 < t.length + (news t x.acc D).length
  | [], x, h => .inl h
  | d :: D, x, h => by
    rw [List.foldl_cons] at h
    have ih := foldM_many t D _ h
    rw [news]
    rw [stepM_def] at ih
    by_cases h0 : kindI t d = 0
    · rw [if_pos h0] at ih
      by_cases hm : d ∈ x.acc
      · rw [if_pos hm] at ih
        rw [if_neg (fun h => h.2 hm)]
        exact ih
      · rw [if_neg hm] at ih
        rw [if_pos ⟨h0, hm⟩]
        by_cases hb : 1024 < t.length + x.acc.length
        · right
          have := news_le t D (x.acc ++ [d])
          rw [List.length_append] at this
          omega
        · rw [if_neg hb] at ih
          exact ih
    · rw [if_neg h0] at ih
      rw [if_neg (fun h => h0 h.1)]
      exact ih
theorem kindI_perm {t l : List En} (hp : t.Perm l) (hd : Dist l) (p : ByteArray) : kindI t p = kindI l p := by
  have hdt := hd.perm hp
  by_cases h : ∃ e ∈ l, e.path = p
  · obtain ⟨e, he, rfl⟩ := h
    rw [kindI_of hd he, kindI_of hdt (hp.symm.subset he)]
  · have h1 : ∀ u : List En, (∀ e ∈ u, e ∈ l) → kindI u p = 0 := by
      intro u hu
      unfold kindI
      rw [List.find?_eq_none.2 (fun e he => by simpa using fun hx => h ⟨e, hu e he, hx⟩)]
    rw [h1 t (fun e he => hp.subset he), h1 l (fun e he => he)]
theorem above_perm {t l : List En} (hp : t.Perm l) (d : ByteArray) : d ∈ above t ↔ d ∈ above l := by
  unfold above
  rw [List.mem_flatMap, List.mem_flatMap]
  exact ⟨fun ⟨e, he, h⟩ => ⟨e, hp.subset he, h⟩, fun ⟨e, he, h⟩ => ⟨e, hp.symm.subset he, h⟩⟩
theorem perm_of_nodup {α : Type} [DecidableEq α] {a b : List α} (ha : a.Nodup) (hb : b.Nodup) (h : ∀ x, x ∈ a ↔ x ∈ b) : a.Perm b := by
  induction a generalizing b with
  | nil =>
    cases b with
    | nil => exact .refl _
    | cons y b => exact absurd ((h y).2 (by simp)) (by simp)
  | cons x a ih =>
    have hx : x ∈ b := (h x).1 (by simp)
    rw [List.nodup_cons] at ha
    refine ((ih ha.2 (hb.erase x) fun y => ?_).cons x).trans (List.perm_cons_erase hx).symm
    rw [hb.mem_erase_iff, ← h y, List.mem_cons]
    constructor
    · intro hy
      refine ⟨?_, .inr hy⟩
      rintro rfl
      exact ha.1 hy
    · rintro ⟨h1, h2 | h2⟩
      · exact absurd h2 h1
      · exact h2
theorem fitsI_perm {a b : List En} (h : a.Perm b) : fitsI a = fitsI b := by unfold fitsI; rw [h.length_eq, sumE_perm h]
theorem makeR_fold {l : List En} (hm : ∀ e ∈ l, mayB e = true) (hd : Dist l) : makeR l = makeT ((above l).foldl stepC (some (l ++ ([] : List ByteArray).map dirE))) := by
  unfold makeR
  rw [if_neg (by rw [List.all_eq_true.2 hm]; decide), if_neg (by rw [twins_no l [] (fun _ h => nomatch h) hm hd]; decide), climbs_fold, List.map_nil, List.append_nil]
/-- The document's Make against the program's. -/
theorem refMake {t l : List En} (hm : ∀ e ∈ l, mayB e = true) (hd : Dist l) (hp : t.Perm l) {x : MrS} (hx : (above t).foldl (stepM t) ⟨[], false, false⟩ = x) :
    (x.wrong = true → makeR l = (52, [])) ∧
    (x.wrong = false → (x.many = true ∨ 1024 < (t ++ x.acc.map dirE).length) → makeR l = (53, [])) ∧
    (x.wrong = false → x.many = false → ¬ 1024 < (t ++ x.acc.map dirE).length → 1048576 < sumE (t ++ x.acc.map dirE) → makeR l = (54, [])) ∧
    (x.wrong = false → x.many = false → ¬ 1024 < (t ++ x.acc.map dirE).length → ¬ 1048576 < sumE (t ++ x.acc.map dirE) → ∃ o, makeR l = (0, o) ∧ (t ++ x.acc.map dirE).Perm o) := by
  have hmk := makeR_fold hm hd
  have hbad : BadD t (above t) ↔ BadD l (above l) := by
    unfold BadD
    constructor
    · rintro ⟨d, h1, h2⟩
      exact ⟨d, (above_perm hp d).1 h1, by rwa [kindI_perm hp hd] at h2⟩
    · rintro ⟨d, h1, h2⟩
      exact ⟨d, (above_perm hp d).2 h1, by rwa [kindI_perm hp hd]⟩
  have hw := foldM_wrong t (above t) ⟨[], false, false⟩
  have hfew := foldM_few t (above t) ⟨[], false, false⟩
  have hmany := foldM_many t (above t) ⟨[], false, false⟩
  rw [hx] at hw hfew hmany
  have hn : (news t [] (above t)).Perm (news l [] (above l)) := by
    refine perm_of_nodup (news_nodup _ _ _ .nil) (news_nodup _ _ _ .nil) fun d => ?_
    rw [news_mem, news_mem, above_perm hp, kindI_perm hp hd]
  have hlen : t.length + (news t [] (above t)).length = (l ++ (news l [] (above l)).map dirE).length := by
    rw [List.length_append, List.length_map, hp.length_eq, hn.length_eq]
  by_cases hb : BadD l (above l)
  · rw [foldC_bad hm _ _ hb] at hmk
    have : x.wrong = true := hw.2 (.inr (hbad.2 hb))
    refine ⟨fun _ => hmk, ?_, ?_, ?_⟩ <;> intro h <;> rw [this] at h <;> cases h
  rw [foldC_some hm _ _ hb] at hmk
  have hw0 : ¬ x.wrong = true := fun h => by
    rcases hw.1 h with h | h
    · cases h
    · exact hb (hbad.1 h)
  unfold makeT at hmk
  dsimp only at hmk
  refine ⟨fun h => absurd h hw0, fun _ h => ?_, fun _ hf h1 h2 => ?_, fun _ hf h1 h2 => ?_⟩
  · have hbig : 1024 < (l ++ (news l [] (above l)).map dirE).length := by
      rw [← hlen]
      by_cases hmn : x.many = true
      · rcases hmany hmn with h | h
        · cases h
        · exact h
      · rcases h with h | h
        · exact absurd h hmn
        · rw [hfew (by simpa using hmn), List.length_append, List.length_map] at h
          exact h
    have h4 : fitsI (l ++ (news l [] (above l)).map dirE) = 53 := by unfold fitsI; rw [if_pos hbig]
    rw [hmk, h4, if_neg (by decide)]
  · have hpo : (t ++ x.acc.map dirE).Perm (l ++ (news l [] (above l)).map dirE) := by
      rw [hfew hf]; exact hp.append (hn.map _)
    have h4 : fitsI (l ++ (news l [] (above l)).map dirE) = 54 := by rw [← fitsI_perm hpo]; unfold fitsI; rw [if_neg h1, if_pos h2]
    rw [hmk, h4, if_neg (by decide)]
  · have hpo : (t ++ x.acc.map dirE).Perm (l ++ (news l [] (above l)).map dirE) := by
      rw [hfew hf]; exact hp.append (hn.map _)
    have h4 : fitsI (l ++ (news l [] (above l)).map dirE) = 0 := by rw [← fitsI_perm hpo]; unfold fitsI; rw [if_neg h1, if_neg h2]
    refine ⟨_, ?_, hpo⟩
    rw [hmk, h4, if_pos rfl]
theorem twins_yes : ∀ (r pre : List En), (∀ e ∈ pre, mayB e = true) → (∀ e ∈ r, mayB e = true) → Dist pre → twins pre r = false → Dist (pre ++ r)
  | [], pre, _, _, h, _ => by rwa [List.append_nil]
  | e :: r, pre, hp, hr, hd, ht => by
    rw [twins_cons] at ht
    by_cases h0 : kindI pre e.path = 0
    · rw [if_pos h0] at ht
      have := twins_yes r (pre ++ [e]) (fun x hx => by
        rcases List.mem_append.1 hx with h1 | h1
        · exact hp x h1
        · rw [List.mem_singleton.1 h1]; exact hr e (by simp)) (fun x hx => hr x (List.mem_cons_of_mem _ hx)) (by
          unfold Dist
          rw [List.pairwise_append]
          refine ⟨hd, List.pairwise_singleton .., fun x hx y hy => ?_⟩
          rw [List.mem_singleton.1 hy]
          exact (kindI_zero hp).1 h0 x hx) ht
      rwa [List.append_assoc] at this
    · rw [if_neg h0] at ht; cases ht
theorem makeR_bad {l : List En} (h : ¬ l.all mayB = true) : makeR l = (50, []) := by
  unfold makeR
  rw [if_pos (by simpa using h)]
theorem makeR_twins {l : List En} (hm : ∀ e ∈ l, mayB e = true) (h : ¬ Dist l) : makeR l = (9, []) := by
  unfold makeR
  rw [if_neg (by rw [List.all_eq_true.2 hm]; decide), if_pos]
  cases ht : twins [] l with
  | true => rfl
  | false => exact absurd (twins_yes l [] (fun _ h => nomatch h) hm .nil ht) h
theorem dist_snoc {t : List En} (hs : t.Pairwise fun x y => 0 ≤ lessI y.path x.path) (hok : ∀ e ∈ t, okP e.path = true) {i : Nat} {x y : En} (gx : Nth t i x) (gy : Nth t (i - 1) y) (hi : 1 ≤ i) (hne : ¬ x.path = y.path) (hd : Dist (t.take i)) : Dist (t.take (i + 1)) := by
  rw [gx.take]
  unfold Dist
  rw [List.pairwise_append]
  refine ⟨hd, List.pairwise_singleton .., fun z hz x' hx' => ?_⟩
  rw [List.mem_singleton.1 hx']
  obtain ⟨j, hj⟩ := List.getElem?_of_mem hz
  have hji : j < i := by
    have := (List.getElem?_eq_some_iff.1 hj).1
    rw [List.length_take] at this
    omega
  rw [List.getElem?_take, if_pos hji] at hj
  obtain ⟨hjl, hjx⟩ := List.getElem?_eq_some_iff.1 hj
  obtain ⟨hyl, hyx⟩ := List.getElem?_eq_some_iff.1 gy.get
  obtain ⟨hxl, hxx⟩ := List.getElem?_eq_some_iff.1 gx.get
  intro he
  by_cases hjy : j = i - 1
  · subst hjy
    rw [hjx] at hyx
    subst hyx
    exact hne he.symm
  have p1 := List.pairwise_iff_getElem.1 hs j (i - 1) hjl hyl (by omega)
  have p2 := List.pairwise_iff_getElem.1 hs (i - 1) i hyl hxl (by omega)
  rw [hjx, hyx] at p1
  rw [hyx, hxx] at p2
  have oz := hok z (List.mem_of_mem_take hz)
  have oy := hok y gy.mem
  rw [← he] at p2
  have := lessI_swap oz oy
  have := lessI_eq oz oy (by omega)
  exact hne (by rw [← he, this])
theorem not_dist {t : List En} {i : Nat} {x y : En} (gx : Nth t i x) (gy : Nth t (i - 1) y) (hi : 1 ≤ i) (he : x.path = y.path) : ¬ Dist t := by
  intro hd
  obtain ⟨hyl, hyx⟩ := List.getElem?_eq_some_iff.1 gy.get
  obtain ⟨hxl, hxx⟩ := List.getElem?_eq_some_iff.1 gx.get
  have := List.pairwise_iff_getElem.1 hd (i - 1) i hyl hxl (by omega)
  rw [hyx, hxx] at this
  exact this he.symm
theorem chain_ok : ∀ (n : Nat) (d : ByteArray), okP d = true → ∀ x ∈ chainN n d, okP x = true ∧ x.size ≠ 0
  | 0, _, _, x, hx => nomatch hx
  | n + 1, d, hd, x, hx => by
    rw [chainN] at hx
    by_cases h0 : d.size = 0
    · rw [if_pos h0] at hx; exact nomatch hx
    rw [if_neg h0] at hx
    rcases List.mem_cons.1 hx with rfl | hx
    · exact ⟨hd, h0⟩
    · exact chain_ok n _ (upP_ok hd) x hx
theorem makeR_dist {l : List En} {o : List En} (h : makeR l = (0, o)) : Dist o ∧ ∀ e ∈ o, mayB e = true := by
  by_cases ha : ¬ l.all mayB = true
  · rw [makeR_bad ha] at h; exact absurd (Prod.mk.inj h).1 (by decide)
  replace ha := Classical.not_not.1 ha
  have hm : ∀ e ∈ l, mayB e = true := fun e he => List.all_eq_true.1 ha e he
  by_cases hd : ¬ Dist l
  · rw [makeR_twins hm hd] at h; exact absurd (Prod.mk.inj h).1 (by decide)
  replace hd := Classical.not_not.1 hd
  have hmk := makeR_fold hm hd
  by_cases hb : BadD l (above l)
  · rw [foldC_bad hm _ _ hb] at hmk
    rw [hmk] at h
    exact absurd (Prod.mk.inj h).1 (by decide)
  rw [foldC_some hm _ _ hb] at hmk
  rw [hmk] at h
  unfold makeT at h
  dsimp only at h
  by_cases hf : ¬ fitsI (l ++ (news l [] (above l)).map dirE) = 0
  · rw [if_neg hf] at h; exact absurd (Prod.mk.inj h).1 hf
  rw [if_pos (Classical.not_not.1 hf)] at h
  obtain rfl := (Prod.mk.inj h).2
  have hk : ∀ d ∈ news l [] (above l), d ∈ above l ∧ kindI l d = 0 := fun d hd => by
    rcases (news_mem l d _ _).1 hd with h | h
    · exact nomatch h
    · exact h
  refine ⟨?_, fun e he => ?_⟩
  · unfold Dist
    rw [List.pairwise_append]
    refine ⟨hd, ?_, fun x hx y hy => ?_⟩
    · rw [List.pairwise_map]
      exact (news_nodup l (above l) [] .nil).imp fun {a b} h e => h e
    · obtain ⟨d, hd2, rfl⟩ := List.mem_map.1 hy
      exact (kindI_zero hm).1 (hk d hd2).2 x hx
  · rcases List.mem_append.1 he with h1 | h1
    · exact hm e h1
    · obtain ⟨d, hd2, rfl⟩ := List.mem_map.1 h1
      obtain ⟨e, he2, h3⟩ := List.mem_flatMap.1 (hk d hd2).1
      have := chain_ok _ _ (upP_ok (mayB_ok (hm e he2)).1) d h3
      exact mayB_dir this.1 this.2
end Go.Tk

set_option linter.unusedSectionVars false
set_option linter.unusedSimpArgs false
set_option linter.unusedVariables false
namespace Go.Tk
open Go.RowKit Go.Proofs
def srt : List En → List En
  | [] => []
  | e :: r => mergeE [e] (srt r)
theorem srt_perm : ∀ t : List En, (srt t).Perm t
  | [] => .refl _
  | e :: r => (mergeE_perm [e] (srt r)).trans ((srt_perm r).cons e)
theorem srt_sorted : ∀ t : List En, (∀ e ∈ t, okP e.path = true) → (srt t).Pairwise fun x y => 0 ≤ lessI y.path x.path
  | [], _ => .nil
  | e :: r, h => mergeE_sorted [e] (srt r) (fun x hx => by rw [List.mem_singleton.1 hx]; exact h e (by simp)) (fun x hx => h x (List.mem_cons_of_mem _ ((srt_perm r).subset hx))) (List.pairwise_singleton ..) (srt_sorted r fun x hx => h x (List.mem_cons_of_mem _ hx))
def sideI (e : En) (p : ByteArray) : Bool := decide (e = zE) || (decide (e.path = p) && mayB e)
def chOk (c : Ch) : Bool := !(decide (c.old = zE) && decide (c.new = zE)) && (sideI c.old c.path && sideI c.new c.path)
def befE (p : Option ByteArray) (q : ByteArray) : Bool := match p with | none => true | some a => decide (lessI a q < 0)
def chsG : Option ByteArray → List Ch → Bool
  | _, [] => true
  | p, c :: r => chOk c && (befE p c.path && chsG (some c.path) r)
theorem chsG_cons (p : Option ByteArray) (c : Ch) (r : List Ch) : chsG p (c :: r) = (chOk c && (befE p c.path && chsG (some c.path) r)) := by cases p <;> rfl
def standE (t : List En) (p : ByteArray) : En := match t.find? (fun e => decide (e.path = p)) with | some e => e | none => zE
def standsB (t : List En) (l : List Ch) : Bool := l.all fun c => decide (standE t c.path = c.old)
def inL (l : List Ch) (p : ByteArray) : Bool := l.any fun c => decide (c.path = p)
def newsL (l : List Ch) : List En := (l.map Ch.new).filter fun e => !decide (e = zE)
def applied (t : List En) (l : List Ch) : List En := (t.filter fun e => !inL l e.path) ++ newsL l
/-- What Apply answers. -/
def applyR (t : List En) (l : List Ch) : List En × Int :=
  if (checkA t).2 = 0 then (if chsG none l = true then (if standsB t l = true then (if (checkA (srt (applied t l))).2 = 0 then (srt (applied t l), 0) else ([], (checkA (srt (applied t l))).2)) else ([], 8)) else ([], 1)) else ([], (checkA t).2)
/-- Distinct paths of changes. -/
def DistC (l : List Ch) : Prop := l.Pairwise fun x y => ¬ x.path = y.path
theorem sideI_may {e : En} {p : ByteArray} (h : sideI e p = true) (hz : ¬ e = zE) : e.path = p ∧ mayB e = true := by
  unfold sideI at h
  simpa [hz] using h
theorem chOk_ok {c : Ch} (h : chOk c = true) : okP c.path = true ∧ sideI c.old c.path = true ∧ sideI c.new c.path = true := by
  unfold chOk at h
  simp only [Bool.and_eq_true, Bool.not_eq_true', Bool.and_eq_false_iff, decide_eq_false_iff_not] at h
  refine ⟨?_, h.2.1, h.2.2⟩
  rcases h.1 with h1 | h1
  · have := sideI_may h.2.1 h1
    rw [← this.1]; exact (mayB_ok this.2).1
  · have := sideI_may h.2.2 h1
    rw [← this.1]; exact (mayB_ok this.2).1
theorem chsG_all : ∀ (l : List Ch) (p : Option ByteArray), chsG p l = true → (∀ q, p = some q → okP q = true) → (∀ c ∈ l, chOk c = true) ∧ l.Pairwise (fun x y => lessI x.path y.path < 0) ∧ ∀ q, p = some q → ∀ c ∈ l, lessI q c.path < 0
  | [], _, _, _ => ⟨(fun _ h => nomatch h), .nil, (fun _ _ _ h => nomatch h)⟩
  | c :: r, p, h, hp => by
    rw [chsG_cons, Bool.and_eq_true, Bool.and_eq_true] at h
    have hc := chOk_ok h.1
    obtain ⟨h1, h2, h3⟩ := chsG_all r (some c.path) h.2.2 (fun q hq => by cases hq; exact hc.1)
    refine ⟨fun x hx => ?_, List.pairwise_cons.2 ⟨fun x hx => h3 _ rfl x hx, h2⟩, fun q hq x hx => ?_⟩
    · rcases List.mem_cons.1 hx with rfl | hx
      · exact h.1
      · exact h1 x hx
    · subst hq
      have h4 : lessI q c.path < 0 := of_decide_eq_true h.2.1
      rcases List.mem_cons.1 hx with rfl | hx
      · exact h4
      · exact lessI_trans (hp q rfl) hc.1 (chOk_ok (h1 x hx)).1 h4 (h3 _ rfl x hx)
theorem chsG_dist {l : List Ch} (h : chsG none l = true) : DistC l :=
  (chsG_all l none h (fun _ h => nomatch h)).2.1.imp fun {x y} h e => by rw [e, lessI_self] at h; omega
theorem inL_iff {l : List Ch} {p : ByteArray} : inL l p = true ↔ ∃ c ∈ l, c.path = p := by
  unfold inL
  rw [List.any_eq_true]
  simp only [decide_eq_true_eq]
theorem newsL_mem {l : List Ch} (h : ∀ c ∈ l, chOk c = true) {e : En} (he : e ∈ newsL l) : mayB e = true ∧ ∃ c ∈ l, c.new = e ∧ c.path = e.path := by
  unfold newsL at he
  rw [List.mem_filter, List.mem_map] at he
  obtain ⟨⟨c, hc, rfl⟩, hz⟩ := he
  have hz' : ¬ c.new = zE := by simpa using hz
  have := sideI_may (chOk_ok (h c hc)).2.2 hz'
  exact ⟨this.2, c, hc, rfl, this.1.symm⟩
theorem applied_ok {t : List En} {l : List Ch} (ht : ∀ e ∈ t, mayB e = true) (hd : Dist t) (h : chsG none l = true) : (∀ e ∈ applied t l, mayB e = true) ∧ Dist (applied t l) := by
  have hall := (chsG_all l none h (fun _ h => nomatch h)).1
  have hdl := chsG_dist h
  refine ⟨fun e he => ?_, ?_⟩
  · rcases List.mem_append.1 he with h1 | h1
    · exact ht e (List.mem_filter.1 h1).1
    · exact (newsL_mem hall h1).1
  · unfold Dist applied
    rw [List.pairwise_append]
    refine ⟨hd.filter _, ?_, fun x hx y hy he => ?_⟩
    · have : (l.map Ch.new).Pairwise fun x y => x = zE ∨ y = zE ∨ ¬ x.path = y.path := by
        rw [List.pairwise_map]
        refine List.Pairwise.imp_of_mem (fun {a b} ha hb hab => ?_) hdl
        by_cases h1 : a.new = zE
        · exact .inl h1
        by_cases h2 : b.new = zE
        · exact .inr (.inl h2)
        rw [(sideI_may (chOk_ok (hall a ha)).2.2 h1).1, (sideI_may (chOk_ok (hall b hb)).2.2 h2).1]
        exact .inr (.inr hab)
      refine List.Pairwise.imp_of_mem (fun {a b} ha hb hab => ?_) (this.filter _)
      have h1 : ¬ a = zE := by have := (List.mem_filter.1 ha).2; simpa using this
      have h2 : ¬ b = zE := by have := (List.mem_filter.1 hb).2; simpa using this
      rcases hab with h | h | h
      · exact absurd h h1
      · exact absurd h h2
      · exact h
    · obtain ⟨_, c, hc, h2, h3⟩ := newsL_mem hall hy
      have h4 := (List.mem_filter.1 hx).2
      have : inL l x.path = true := inL_iff.2 ⟨c, hc, by rw [h3, he]⟩
      rw [this] at h4; cases h4
/-- The document's way: in its place, or behind. -/
def refStep (t : List En) (out : List En) (c : Ch) : List En := match t.findIdx? (fun e => decide (e.path = c.path)) with | some k => out.set k c.new | none => out ++ [c.new]
def repl (l : List Ch) (e : En) : En := match l.find? (fun c => decide (c.path = e.path)) with | some c => c.new | none => e
def outs (t : List En) (l : List Ch) : List En := t.map (repl l) ++ (l.filter fun c => !t.any fun e => decide (e.path = c.path)).map Ch.new
theorem repl_snoc {l : List Ch} {c : Ch} {e : En} : repl (l ++ [c]) e = match l.find? (fun c => decide (c.path = e.path)) with | some c => c.new | none => if c.path = e.path then c.new else e := by
  unfold repl
  rw [List.find?_append]
  cases l.find? (fun c => decide (c.path = e.path)) with
  | some x => rfl
  | none => by_cases h : c.path = e.path <;> simp [h]
theorem refStep_outs {t : List En} (hd : Dist t) {l : List Ch} {c : Ch} (hc : ∀ x ∈ l, ¬ x.path = c.path) : refStep t (outs t l) c = outs t (l ++ [c]) := by
  unfold refStep outs
  cases hk : t.findIdx? (fun e => decide (e.path = c.path)) with
  | none =>
    rw [List.findIdx?_eq_none_iff] at hk
    have h1 : (t.any fun e => decide (e.path = c.path)) = false := by rw [List.any_eq_false]; intro e he; simpa using hk e he
    have h2 : t.map (repl (l ++ [c])) = t.map (repl l) := by
      refine List.map_congr_left fun e he => ?_
      rw [repl_snoc]
      have : ¬ c.path = e.path := fun h => by have := hk e he; simp [h] at this
      unfold repl
      cases l.find? (fun c => decide (c.path = e.path)) with
      | some x => rfl
      | none => simp [this]
    dsimp only
    rw [h2, List.filter_append, List.map_append, List.append_assoc]
    simp [h1]
  | some k =>
    rw [List.findIdx?_eq_some_iff_getElem] at hk
    obtain ⟨hlt, hp, _⟩ := hk
    have hp' : t[k].path = c.path := by simpa using hp
    have h1 : (t.any fun e => decide (e.path = c.path)) = true := List.any_eq_true.2 ⟨t[k], List.getElem_mem _, hp⟩
    have h2 : (t.map (repl l)).set k c.new = t.map (repl (l ++ [c])) := by
      apply List.ext_getElem (by simp)
      intro j hj1 hj2
      have hj : j < t.length := by simpa using hj2
      rw [List.getElem_set, List.getElem_map, List.getElem_map, repl_snoc]
      by_cases hjk : k = j
      · subst hjk
        have : l.find? (fun x => decide (x.path = t[k].path)) = none := List.find?_eq_none.2 fun x hx => by rw [hp']; simpa using hc x hx
        rw [if_pos rfl, this, if_pos hp'.symm]
      · rw [if_neg hjk]
        have hne : ¬ c.path = t[j].path := fun h => by
          have := hd.inj (List.getElem_mem hlt) (List.getElem_mem hj) (hp'.trans h)
          have h3 := List.pairwise_iff_getElem.1 hd
          rcases Nat.lt_or_gt_of_ne hjk with h4 | h4
          · exact h3 k j hlt hj h4 (by rw [this])
          · exact h3 j k hj hlt h4 (by rw [this])
        unfold repl
        cases l.find? (fun c => decide (c.path = t[j].path)) with
        | some x => rfl
        | none => simp [hne]
    dsimp only
    rw [← h2, List.filter_append]
    have h3 : ([c].filter fun c => !t.any fun e => decide (e.path = c.path)) = [] := by simp [h1]
    rw [h3, List.append_nil, List.set_append_left _ _ (by simpa using hlt)]
theorem foldR_outs {t : List En} (hd : Dist t) : ∀ (r l : List Ch), DistC (l ++ r) → r.foldl (refStep t) (outs t l) = outs t (l ++ r)
  | [], l, _ => by rw [List.append_nil]; rfl
  | c :: r, l, h => by
    have h1 : ∀ x ∈ l, ¬ x.path = c.path := fun x hx => (List.pairwise_append.1 h).2.2 x hx c (by simp)
    rw [List.foldl_cons, refStep_outs hd h1, foldR_outs hd r (l ++ [c]) (by rw [List.append_assoc]; exact h), List.append_assoc]
    rfl
theorem outs_nil (t : List En) : outs t [] = t := by
  unfold outs
  rw [show repl [] = id from funext fun e => rfl]
  simp
def newOf (l : List Ch) (p : ByteArray) : En := match l.find? (fun c => decide (c.path = p)) with | some c => c.new | none => zE
theorem newOf_of : ∀ {l : List Ch}, DistC l → ∀ {c : Ch}, c ∈ l → newOf l c.path = c.new
  | [], _, _, h => nomatch h
  | a :: l, hd, c, hc => by
    unfold newOf
    rw [List.find?_cons]
    have hd' := List.pairwise_cons.1 hd
    rcases List.mem_cons.1 hc with rfl | hc
    · simp
    · have : ¬ a.path = c.path := hd'.1 c hc
      simp only [this, decide_false]
      exact newOf_of hd'.2 hc
theorem filter_split {α : Type} (p : α → Bool) : ∀ (l : List α), l.Perm ((l.filter fun x => !p x) ++ l.filter p)
  | [] => .refl _
  | a :: l => by
    cases h : p a
    · simp only [List.filter_cons, h, Bool.not_false, if_true]
      exact (filter_split p l).cons a
    · simp only [List.filter_cons, h, Bool.not_true, if_true]
      exact ((filter_split p l).cons a).trans List.perm_middle.symm
theorem outs_perm {t : List En} (ht : ∀ e ∈ t, mayB e = true) (hd : Dist t) {l : List Ch} (hl : DistC l) : ((outs t l).filter fun e => !decide (e = zE)).Perm (applied t l) := by
  have hs := filter_split (fun e : En => inL l e.path) t
  have hc := filter_split (fun c : Ch => t.any fun e => decide (e.path = c.path)) l
  have h1 : ((t.filter fun e => !inL l e.path).map (repl l)) = t.filter fun e => !inL l e.path := by
    conv => rhs; rw [← List.map_id (t.filter fun e => !inL l e.path)]
    refine List.map_congr_left fun e he => ?_
    have h2 := (List.mem_filter.1 he).2
    unfold repl
    rw [List.find?_eq_none.2 (fun c hc2 => by
      intro h3
      have : inL l e.path = true := inL_iff.2 ⟨c, hc2, by simpa using h3⟩
      rw [this] at h2; cases h2)]
    rfl
  have h2 : ((t.filter fun e => inL l e.path).map (repl l)) = ((t.filter fun e => inL l e.path).map En.path).map (newOf l) := by
    rw [List.map_map]
    refine List.map_congr_left fun e he => ?_
    have h3 := (List.mem_filter.1 he).2
    obtain ⟨c, hc2, h4⟩ := inL_iff.1 h3
    unfold repl newOf
    show _ = (match l.find? (fun c => decide (c.path = e.path)) with | some c => c.new | none => zE)
    cases h5 : l.find? (fun c => decide (c.path = e.path)) with
    | some x => rfl
    | none => exact absurd (by simpa using h4) (List.find?_eq_none.1 h5 c hc2)
  have h3 : ((l.filter fun c => t.any fun e => decide (e.path = c.path)).map Ch.new) = ((l.filter fun c => t.any fun e => decide (e.path = c.path)).map Ch.path).map (newOf l) := by
    rw [List.map_map]
    refine List.map_congr_left fun c hc2 => ?_
    exact (newOf_of hl (List.mem_filter.1 hc2).1).symm
  have h4 : ((t.filter fun e => inL l e.path).map En.path).Perm ((l.filter fun c => t.any fun e => decide (e.path = c.path)).map Ch.path) := by
    refine perm_of_nodup ?_ ?_ fun p => ?_
    · exact List.pairwise_map.2 (hd.filter _)
    · exact List.pairwise_map.2 (hl.filter _)
    · simp only [List.mem_map, List.mem_filter, inL_iff, List.any_eq_true, decide_eq_true_eq]
      constructor
      · rintro ⟨e, ⟨he, c, hc2, h5⟩, rfl⟩
        exact ⟨c, ⟨hc2, e, he, h5.symm⟩, h5⟩
      · rintro ⟨c, ⟨hc2, e, he, h5⟩, rfl⟩
        exact ⟨e, ⟨he, c, hc2, h5.symm⟩, h5⟩
  have h5 : (outs t l).Perm ((t.filter fun e => !inL l e.path) ++ l.map Ch.new) := by
    unfold outs
    have a1 := hs.map (repl l)
    rw [List.map_append, h1, h2] at a1
    have a2 := (h4.map (newOf l))
    rw [← h3] at a2
    have a3 := hc.map Ch.new
    rw [List.map_append] at a3
    refine (List.Perm.append a1 (.refl _)).trans ?_
    rw [List.append_assoc]
    refine List.Perm.append (.refl _) ?_
    refine (List.Perm.append a2 (.refl _)).trans ?_
    exact List.perm_append_comm.trans a3.symm
  have h6 := h5.filter fun e => !decide (e = zE)
  have h7 : (t.filter fun e => !inL l e.path).filter (fun e => !decide (e = zE)) = t.filter fun e => !inL l e.path := List.filter_eq_self.2 fun e he => by
    have := mayB_zE (ht e (List.mem_filter.1 he).1)
    simpa using this
  rw [List.filter_append, h7] at h6
  exact h6
/-- Sorted, of these entries: there is just one such row. -/
theorem sorted_applied {t : List En} {l : List Ch} (ht : ∀ e ∈ t, mayB e = true) (hd : Dist t) (h : chsG none l = true) {ys : List En} (hp : ys.Perm (applied t l)) (hs : ys.Pairwise fun x y => 0 ≤ lessI y.path x.path) : ys = srt (applied t l) := by
  obtain ⟨h1, h2⟩ := applied_ok ht hd h
  have h3 : ∀ e ∈ srt (applied t l), okP e.path = true := fun e he => (mayB_ok (h1 e ((srt_perm _).subset he))).1
  exact sorted_uniq (hp.trans (srt_perm _).symm) hs (srt_sorted _ fun e he => (mayB_ok (h1 e he)).1) h3 (h2.perm (srt_perm _))
end Go.Tk

set_option linter.unusedSectionVars false
set_option linter.unusedSimpArgs false
set_option linter.unusedVariables false
namespace Go.Tk
open Go.RowKit Go.Proofs
/-- A function value that tells of an entry, over what stays. -/
structure PredC (B : Base) (R : HL) (g : Nat) (lb : Array Value) (pr : En → Bool) (ok : En → Prop) : Prop where
  enter : ∀ ar w, (callFunc g ar).run Tryz.prog w = .ok (.enter g ar) w
  call : ∀ (x : En) (H : HL) (w : World), ok x → (∃ d, H = d ++ R) → Sh B H w → Calls Tryz.prog g ([Value.agg x.cells.toArray].toArray ++ lb) w fun e w' => e = .returned (.bool (pr x)) ∧ Sh B H w'
def idxI (t : List En) (pr : En → Bool) : Int := match t.findIdx? pr with | some i => (i : Int) | none => -1
theorem idxI_at {t : List En} {pr : En → Bool} {i : Nat} {e : En} (h : ∀ j e, t[j]? = some e → j < i → pr e = false) (he : t[i]? = some e) (hp : pr e = true) : t.findIdx? pr = some i := by
  rw [List.findIdx?_eq_some_iff_getElem]
  obtain ⟨hi, hx⟩ := List.getElem?_eq_some_iff.1 he
  refine ⟨hi, by rw [hx]; exact hp, fun j hj => ?_⟩
  have := h j t[j] (List.getElem?_eq_getElem (by omega)) hj
  rw [this]; decide
theorem idxI_no {t : List En} {pr : En → Bool} (h : ∀ e ∈ t, pr e = false) : t.findIdx? pr = none := by
  rw [List.findIdx?_eq_none_iff]; intro e he; rw [h e he]
section
variable {B : Base} {R H H1 : HL} {w w' : World}
def IxI (B : Base) (H : HL) (t : List En) (pr : En → Bool) (i : Nat) (w : World) : Prop := i ≤ t.length ∧ (∀ j e, t[j]? = some e → j < i → pr e = false) ∧ Sh B H w
set_option maxRecDepth 100000 in
set_option maxHeartbeats 1600000 in
theorem IdxF_any {g : Nat} {lb : Array Value} {pr : En → Bool} {ok : En → Prop} (hp : PredC B R g lb pr ok) (hd : ∃ d, H = d ++ R) (hS : Sh B H w) {A : Option Addr} {cap : Nat} {t : List En} [r : RdAt enE B H A t] (hl : t.length ≤ 16777216) (hok : ∀ e ∈ t, ok e := by intros; trivial) :
    Calls Tryz.prog 59 #[.slice A t.length cap, .func (.func g) #[] lb] w fun e w' => e = .returned (.int .i64 (idxI t pr)) ∧ Sh B H w' := by
  have hE := hp.enter
  have hc := fun (x : En) (hx : ok x) (w : World) (hS : Sh B H w) => hp.call x H w hx hd hS
  have Hok := Lib.hid hok
  clear hp hd hok
  go_enter Tryz.func59, Tryz.ntmps59
  go_wp2_with (first | (refine wl_isld rfl ?_; ((first | refine wl_value rfl (ex_l0 hS rfl rfl rfl CellAt.out) ?_ | refine wl_value rfl (ex_lf hS rfl rfl rfl CellAt.out) ?_ | refine wl_value rfl (ex_l1 hS rfl rfl rfl CellAt.out) ?_ | refine wl_value rfl (ex_ldC hS rfl rfl CellAt.out) ?_ | refine wl_value rfl (ex_l0 hS rfl rfl rfl rfl) ?_ | refine wl_value rfl (ex_lf hS rfl rfl rfl rfl) ?_ | refine wl_value rfl (ex_l1 hS rfl rfl rfl rfl) ?_ | refine wl_value rfl (ex_ldC hS rfl rfl rfl) ?_ | refine wl_value rfl (ex_l00 hS rfl rfl CellAt.out) ?_ | refine wl_value rfl (ex_l00 hS rfl rfl rfl) ?_ | refine wl_value rfl (ex_l0f hS rfl rfl CellAt.out) ?_ | refine wl_value rfl (ex_l0f hS rfl rfl rfl) ?_ | refine wl_value rfl (ex_lr hS rfl rfl rfl rfl) ?_ | refine wl_value rfl (ex_lr0 hS rfl rfl rfl) ?_ | refine wl_value rfl (ex_lrz hS rfl rfl rfl) ?_ | refine wl_value rfl (ex_lrf hS rfl rfl rfl) ?_ | refine wl_value rfl (ex_ldrC hS rfl rfl) ?_ | refine wl_value rfl (ex_ldr0 hS rfl rfl rfl) ?_); (try simp only [Act.put, List.setIfInBounds_toArray, List.set_cons_zero, List.set_cons_succ]))) | ((first | refine wl_value rfl (ex_ix hS rfl rfl rfl ?_) ?_); (focus (first | rfl | omega | (simp; done))); (try simp only [Act.put, List.setIfInBounds_toArray, List.set_cons_zero, List.set_cons_succ])) | ((first | refine wl_value rfl (ex_eqA rfl rfl rfl) ?_ | refine wl_value rfl (ex_neA rfl rfl rfl) ?_); (try simp only [Act.put, List.setIfInBounds_toArray, List.set_cons_zero, List.set_cons_succ])) | (refine wl_alloc rfl rfl hS ?_; intro _ _ hS; (try simp only [Act.put, List.setIfInBounds_toArray, List.set_cons_zero, List.set_cons_succ])) | (refine wl_box rfl rfl rfl rfl hS ?_; intro _ _ hS; (try simp only [Act.put, List.setIfInBounds_toArray, List.set_cons_zero, List.set_cons_succ])) | (refine wl_st rfl rfl rfl rfl rfl hS (of_decide_eq_true rfl) ?_; intro _ hS; (try simp only [evT, evC, List.getD_cons_succ, List.getD_cons_zero, List.set_cons_zero, List.set_cons_succ] at hS); (try simp only [List.set_cons_zero, List.set_cons_succ] at hS); (try simp only [Act.put, List.setIfInBounds_toArray, List.set_cons_zero, List.set_cons_succ])) | (refine wl_strC rfl rfl rfl rfl hS rfl rfl ?_; intro _ hS; (try simp only [evT, evC, List.getD_cons_succ, List.getD_cons_zero, List.set_cons_zero, List.set_cons_succ] at hS); (try simp only [Act.put, List.setIfInBounds_toArray, List.set_cons_zero, List.set_cons_succ])))
  have h0 : IxI B H t pr 0 _ := ⟨Nat.zero_le _, fun _ _ _ h => absurd h (Nat.not_lt_zero _), hS⟩
  clear hS
  refine wp_loopS [8] [4, 5, 9, 10, 11, 12, 13, 14, 15, 16, 17, 18] (fun i : Nat => [.int .i64 i]) (IxI B H t pr) (fun i => t.length - i) (0) rfl (h0) ?_
  clear h0
  rintro i J w ⟨hi, hno, hS⟩
  have Hno := Lib.hid hno
  clear hno
  (simp only [Frm, setsT, junkT, List.setIfInBounds_toArray, List.set_cons_zero, List.set_cons_succ])
  by_cases hlt : i < t.length
  · obtain ⟨x, gx⟩ := Nth.of hlt
    have hcx := fun (w : World) (hS : Sh B H w) => hc x (Hok.out x gx.mem) w hS
    cases hx : pr x with
    | true =>
      rw [hx] at hcx
      have Hf := Lib.hid (idxI_at Hno.out gx.get hx)
      clear hx
      go_wp2_with (first | (refine wl_callV hE rfl rfl rfl rfl ?_; refine (hcx _ hS).mono ?_; rintro e' w' ⟨rfl, hS⟩; refine ⟨_, rfl, ?_⟩; (try simp only [Act.put, List.setIfInBounds_toArray, List.set_cons_zero, List.set_cons_succ])) | (refine wl_isld rfl ?_; ((first | refine wl_value rfl (ex_l0 hS rfl rfl rfl CellAt.out) ?_ | refine wl_value rfl (ex_lf hS rfl rfl rfl CellAt.out) ?_ | refine wl_value rfl (ex_l1 hS rfl rfl rfl CellAt.out) ?_ | refine wl_value rfl (ex_ldC hS rfl rfl CellAt.out) ?_ | refine wl_value rfl (ex_l0 hS rfl rfl rfl rfl) ?_ | refine wl_value rfl (ex_lf hS rfl rfl rfl rfl) ?_ | refine wl_value rfl (ex_l1 hS rfl rfl rfl rfl) ?_ | refine wl_value rfl (ex_ldC hS rfl rfl rfl) ?_ | refine wl_value rfl (ex_l00 hS rfl rfl CellAt.out) ?_ | refine wl_value rfl (ex_l00 hS rfl rfl rfl) ?_ | refine wl_value rfl (ex_l0f hS rfl rfl CellAt.out) ?_ | refine wl_value rfl (ex_l0f hS rfl rfl rfl) ?_ | refine wl_value rfl (ex_lr hS rfl rfl rfl rfl) ?_ | refine wl_value rfl (ex_lr0 hS rfl rfl rfl) ?_ | refine wl_value rfl (ex_lrz hS rfl rfl rfl) ?_ | refine wl_value rfl (ex_lrf hS rfl rfl rfl) ?_ | refine wl_value rfl (ex_ldrC hS rfl rfl) ?_ | refine wl_value rfl (ex_ldr0 hS rfl rfl rfl) ?_); (try simp only [Act.put, List.setIfInBounds_toArray, List.set_cons_zero, List.set_cons_succ]))) | ((first | refine wl_value rfl (ex_ix hS rfl rfl rfl ?_) ?_); (focus (first | rfl | omega | (simp; done))); (try simp only [Act.put, List.setIfInBounds_toArray, List.set_cons_zero, List.set_cons_succ])) | ((first | refine wl_value rfl (ex_eqA rfl rfl rfl) ?_ | refine wl_value rfl (ex_neA rfl rfl rfl) ?_); (try simp only [Act.put, List.setIfInBounds_toArray, List.set_cons_zero, List.set_cons_succ])) | (refine wl_alloc rfl rfl hS ?_; intro _ _ hS; (try simp only [Act.put, List.setIfInBounds_toArray, List.set_cons_zero, List.set_cons_succ])) | (refine wl_box rfl rfl rfl rfl hS ?_; intro _ _ hS; (try simp only [Act.put, List.setIfInBounds_toArray, List.set_cons_zero, List.set_cons_succ])) | (refine wl_st rfl rfl rfl rfl rfl hS (of_decide_eq_true rfl) ?_; intro _ hS; (try simp only [evT, evC, List.getD_cons_succ, List.getD_cons_zero, List.set_cons_zero, List.set_cons_succ] at hS); (try simp only [List.set_cons_zero, List.set_cons_succ] at hS); (try simp only [Act.put, List.setIfInBounds_toArray, List.set_cons_zero, List.set_cons_succ])) | (refine wl_strC rfl rfl rfl rfl hS rfl rfl ?_; intro _ hS; (try simp only [evT, evC, List.getD_cons_succ, List.getD_cons_zero, List.set_cons_zero, List.set_cons_succ] at hS); (try simp only [Act.put, List.setIfInBounds_toArray, List.set_cons_zero, List.set_cons_succ])))
      go_ret
      exact ⟨by unfold idxI; rw [Hf.out]; rfl, hS⟩
    | false =>
      rw [hx] at hcx
      have Hx := Lib.hid hx
      clear hx
      go_wp2_with (first | (refine wl_callV hE rfl rfl rfl rfl ?_; refine (hcx _ hS).mono ?_; rintro e' w' ⟨rfl, hS⟩; refine ⟨_, rfl, ?_⟩; (try simp only [Act.put, List.setIfInBounds_toArray, List.set_cons_zero, List.set_cons_succ])) | (refine wl_isld rfl ?_; ((first | refine wl_value rfl (ex_l0 hS rfl rfl rfl CellAt.out) ?_ | refine wl_value rfl (ex_lf hS rfl rfl rfl CellAt.out) ?_ | refine wl_value rfl (ex_l1 hS rfl rfl rfl CellAt.out) ?_ | refine wl_value rfl (ex_ldC hS rfl rfl CellAt.out) ?_ | refine wl_value rfl (ex_l0 hS rfl rfl rfl rfl) ?_ | refine wl_value rfl (ex_lf hS rfl rfl rfl rfl) ?_ | refine wl_value rfl (ex_l1 hS rfl rfl rfl rfl) ?_ | refine wl_value rfl (ex_ldC hS rfl rfl rfl) ?_ | refine wl_value rfl (ex_l00 hS rfl rfl CellAt.out) ?_ | refine wl_value rfl (ex_l00 hS rfl rfl rfl) ?_ | refine wl_value rfl (ex_l0f hS rfl rfl CellAt.out) ?_ | refine wl_value rfl (ex_l0f hS rfl rfl rfl) ?_ | refine wl_value rfl (ex_lr hS rfl rfl rfl rfl) ?_ | refine wl_value rfl (ex_lr0 hS rfl rfl rfl) ?_ | refine wl_value rfl (ex_lrz hS rfl rfl rfl) ?_ | refine wl_value rfl (ex_lrf hS rfl rfl rfl) ?_ | refine wl_value rfl (ex_ldrC hS rfl rfl) ?_ | refine wl_value rfl (ex_ldr0 hS rfl rfl rfl) ?_); (try simp only [Act.put, List.setIfInBounds_toArray, List.set_cons_zero, List.set_cons_succ]))) | ((first | refine wl_value rfl (ex_ix hS rfl rfl rfl ?_) ?_); (focus (first | rfl | omega | (simp; done))); (try simp only [Act.put, List.setIfInBounds_toArray, List.set_cons_zero, List.set_cons_succ])) | ((first | refine wl_value rfl (ex_eqA rfl rfl rfl) ?_ | refine wl_value rfl (ex_neA rfl rfl rfl) ?_); (try simp only [Act.put, List.setIfInBounds_toArray, List.set_cons_zero, List.set_cons_succ])) | (refine wl_alloc rfl rfl hS ?_; intro _ _ hS; (try simp only [Act.put, List.setIfInBounds_toArray, List.set_cons_zero, List.set_cons_succ])) | (refine wl_box rfl rfl rfl rfl hS ?_; intro _ _ hS; (try simp only [Act.put, List.setIfInBounds_toArray, List.set_cons_zero, List.set_cons_succ])) | (refine wl_st rfl rfl rfl rfl rfl hS (of_decide_eq_true rfl) ?_; intro _ hS; (try simp only [evT, evC, List.getD_cons_succ, List.getD_cons_zero, List.set_cons_zero, List.set_cons_succ] at hS); (try simp only [List.set_cons_zero, List.set_cons_succ] at hS); (try simp only [Act.put, List.setIfInBounds_toArray, List.set_cons_zero, List.set_cons_succ])) | (refine wl_strC rfl rfl rfl rfl hS rfl rfl ?_; intro _ hS; (try simp only [evT, evC, List.getD_cons_succ, List.getD_cons_zero, List.set_cons_zero, List.set_cons_succ] at hS); (try simp only [Act.put, List.setIfInBounds_toArray, List.set_cons_zero, List.set_cons_succ])))
      (refine ⟨((i + 1 : Nat)), (⟨hlt, fun j y hy hj => by rcases Nat.lt_succ_iff_lt_or_eq.1 hj with h | h; exact Hno.out j y hy h; subst h; rw [gx.get] at hy; cases hy; exact Hx.out, hS⟩), (by (try dsimp only); omega), rfl, (by (simp only [blankT, junkT, List.cons_append, List.nil_append, List.setIfInBounds_toArray, List.set_cons_zero, List.set_cons_succ])), rfl⟩)
  · have Hf := Lib.hid (idxI_no (pr := pr) (t := t) fun e he => by
      obtain ⟨j, hj⟩ := List.getElem?_of_mem he
      exact Hno.out j e hj (by have := (List.getElem?_eq_some_iff.1 hj).1; omega))
    go_wp2_with (first | (refine wl_isld rfl ?_; ((first | refine wl_value rfl (ex_l0 hS rfl rfl rfl CellAt.out) ?_ | refine wl_value rfl (ex_lf hS rfl rfl rfl CellAt.out) ?_ | refine wl_value rfl (ex_l1 hS rfl rfl rfl CellAt.out) ?_ | refine wl_value rfl (ex_ldC hS rfl rfl CellAt.out) ?_ | refine wl_value rfl (ex_l0 hS rfl rfl rfl rfl) ?_ | refine wl_value rfl (ex_lf hS rfl rfl rfl rfl) ?_ | refine wl_value rfl (ex_l1 hS rfl rfl rfl rfl) ?_ | refine wl_value rfl (ex_ldC hS rfl rfl rfl) ?_ | refine wl_value rfl (ex_l00 hS rfl rfl CellAt.out) ?_ | refine wl_value rfl (ex_l00 hS rfl rfl rfl) ?_ | refine wl_value rfl (ex_l0f hS rfl rfl CellAt.out) ?_ | refine wl_value rfl (ex_l0f hS rfl rfl rfl) ?_ | refine wl_value rfl (ex_lr hS rfl rfl rfl rfl) ?_ | refine wl_value rfl (ex_lr0 hS rfl rfl rfl) ?_ | refine wl_value rfl (ex_lrz hS rfl rfl rfl) ?_ | refine wl_value rfl (ex_lrf hS rfl rfl rfl) ?_ | refine wl_value rfl (ex_ldrC hS rfl rfl) ?_ | refine wl_value rfl (ex_ldr0 hS rfl rfl rfl) ?_); (try simp only [Act.put, List.setIfInBounds_toArray, List.set_cons_zero, List.set_cons_succ]))) | ((first | refine wl_value rfl (ex_ix hS rfl rfl rfl ?_) ?_); (focus (first | rfl | omega | (simp; done))); (try simp only [Act.put, List.setIfInBounds_toArray, List.set_cons_zero, List.set_cons_succ])) | ((first | refine wl_value rfl (ex_eqA rfl rfl rfl) ?_ | refine wl_value rfl (ex_neA rfl rfl rfl) ?_); (try simp only [Act.put, List.setIfInBounds_toArray, List.set_cons_zero, List.set_cons_succ])) | (refine wl_alloc rfl rfl hS ?_; intro _ _ hS; (try simp only [Act.put, List.setIfInBounds_toArray, List.set_cons_zero, List.set_cons_succ])) | (refine wl_box rfl rfl rfl rfl hS ?_; intro _ _ hS; (try simp only [Act.put, List.setIfInBounds_toArray, List.set_cons_zero, List.set_cons_succ])) | (refine wl_st rfl rfl rfl rfl rfl hS (of_decide_eq_true rfl) ?_; intro _ hS; (try simp only [evT, evC, List.getD_cons_succ, List.getD_cons_zero, List.set_cons_zero, List.set_cons_succ] at hS); (try simp only [List.set_cons_zero, List.set_cons_succ] at hS); (try simp only [Act.put, List.setIfInBounds_toArray, List.set_cons_zero, List.set_cons_succ])) | (refine wl_strC rfl rfl rfl rfl hS rfl rfl ?_; intro _ hS; (try simp only [evT, evC, List.getD_cons_succ, List.getD_cons_zero, List.set_cons_zero, List.set_cons_succ] at hS); (try simp only [Act.put, List.setIfInBounds_toArray, List.set_cons_zero, List.set_cons_succ])))
    go_ret
    exact ⟨by unfold idxI; rw [Hf.out]; rfl, hS⟩
set_option maxRecDepth 100000 in
theorem place1_any {pb : Nat} {p : ByteArray} : PredC B (cellB pb [.string p] 9 ++ R) 60 #[.pointer (some ⟨pb, 0, none⟩)] (fun e => decide (e.path = p)) (fun _ => True) := by
  refine ⟨EntersC.out (P := Tryz.prog) (f := 60), ?_⟩
  rintro x H w - ⟨d, rfl⟩ hS
  show Calls Tryz.prog 60 #[.agg x.cells.toArray, .pointer (some ⟨pb, 0, none⟩)] w _
  rw [← strEq]
  go_enter Tryz.func60, Tryz.ntmps60
  go_wp2_with (first | (refine wl_box rfl rfl rfl rfl hS ?_; intro xb _ hS; (try simp only [Act.put, List.setIfInBounds_toArray, List.set_cons_zero, List.set_cons_succ])) | (refine wl_isld rfl ?_; ((first | refine wl_value rfl (ex_l0 hS rfl rfl rfl CellAt.out) ?_ | refine wl_value rfl (ex_lf hS rfl rfl rfl CellAt.out) ?_ | refine wl_value rfl (ex_l1 hS rfl rfl rfl CellAt.out) ?_ | refine wl_value rfl (ex_ldC hS rfl rfl CellAt.out) ?_ | refine wl_value rfl (ex_l0 hS rfl rfl rfl rfl) ?_ | refine wl_value rfl (ex_lf hS rfl rfl rfl rfl) ?_ | refine wl_value rfl (ex_l1 hS rfl rfl rfl rfl) ?_ | refine wl_value rfl (ex_ldC hS rfl rfl rfl) ?_ | refine wl_value rfl (ex_l00 hS rfl rfl CellAt.out) ?_ | refine wl_value rfl (ex_l00 hS rfl rfl rfl) ?_ | refine wl_value rfl (ex_l0f hS rfl rfl CellAt.out) ?_ | refine wl_value rfl (ex_l0f hS rfl rfl rfl) ?_ | refine wl_value rfl (ex_lr hS rfl rfl rfl rfl) ?_ | refine wl_value rfl (ex_lr0 hS rfl rfl rfl) ?_ | refine wl_value rfl (ex_lrz hS rfl rfl rfl) ?_ | refine wl_value rfl (ex_lrf hS rfl rfl rfl) ?_ | refine wl_value rfl (ex_ldrC hS rfl rfl) ?_ | refine wl_value rfl (ex_ldr0 hS rfl rfl rfl) ?_); (try simp only [Act.put, List.setIfInBounds_toArray, List.set_cons_zero, List.set_cons_succ]))) | ((first | refine wl_value rfl (ex_ix hS rfl rfl rfl ?_) ?_); (focus (first | rfl | omega | (simp; done))); (try simp only [Act.put, List.setIfInBounds_toArray, List.set_cons_zero, List.set_cons_succ])) | ((first | refine wl_value rfl (ex_eqA rfl rfl rfl) ?_ | refine wl_value rfl (ex_neA rfl rfl rfl) ?_); (try simp only [Act.put, List.setIfInBounds_toArray, List.set_cons_zero, List.set_cons_succ])) | (refine wl_alloc rfl rfl hS ?_; intro _ _ hS; (try simp only [Act.put, List.setIfInBounds_toArray, List.set_cons_zero, List.set_cons_succ])) | (refine wl_box rfl rfl rfl rfl hS ?_; intro _ _ hS; (try simp only [Act.put, List.setIfInBounds_toArray, List.set_cons_zero, List.set_cons_succ])) | (refine wl_st rfl rfl rfl rfl rfl hS (of_decide_eq_true rfl) ?_; intro _ hS; (try simp only [evT, evC, List.getD_cons_succ, List.getD_cons_zero, List.set_cons_zero, List.set_cons_succ] at hS); (try simp only [List.set_cons_zero, List.set_cons_succ] at hS); (try simp only [Act.put, List.setIfInBounds_toArray, List.set_cons_zero, List.set_cons_succ])) | (refine wl_strC rfl rfl rfl rfl hS rfl rfl ?_; intro _ hS; (try simp only [evT, evC, List.getD_cons_succ, List.getD_cons_zero, List.set_cons_zero, List.set_cons_succ] at hS); (try simp only [Act.put, List.setIfInBounds_toArray, List.set_cons_zero, List.set_cons_succ])))
  go_ret
  exact ⟨rfl, hS.to⟩
set_option maxRecDepth 100000 in
theorem Place_any (hS : Sh B R w) {A : Option Addr} {cap : Nat} {t : List En} [r : RdAt enE B R A t] (hl : t.length ≤ 16777216) (p : ByteArray) :
    Calls Tryz.prog 42 #[.slice A t.length cap, .string p] w fun e w' => e = .returned (.int .i64 (findI t p)) ∧ Sh B R w' := by
  have hf := fun (w : World) (pb : Nat) (hS : Sh B (cellB pb [.string p] 9 ++ R) w) (r : RdAt enE B (cellB pb [.string p] 9 ++ R) A t) => IdxF_any (place1_any (pb := pb) (p := p)) ⟨[], rfl⟩ hS (cap := cap) (r := r) hl
  rw [show idxI t (fun e => decide (e.path = p)) = findI t p from rfl] at hf
  go_enter Tryz.func42, Tryz.ntmps42
  go_wp2_with (first | (refine wl_box rfl rfl rfl rfl hS ?_; intro pb _ hS; (try simp only [Act.put, List.setIfInBounds_toArray, List.set_cons_zero, List.set_cons_succ])) | (go_at_call 59; refine ((hf _ _ hS inferInstance)).mono ?_; rintro e w' (⟨rfl, hS⟩)) | (refine wl_isld rfl ?_; ((first | refine wl_value rfl (ex_l0 hS rfl rfl rfl CellAt.out) ?_ | refine wl_value rfl (ex_lf hS rfl rfl rfl CellAt.out) ?_ | refine wl_value rfl (ex_l1 hS rfl rfl rfl CellAt.out) ?_ | refine wl_value rfl (ex_ldC hS rfl rfl CellAt.out) ?_ | refine wl_value rfl (ex_l0 hS rfl rfl rfl rfl) ?_ | refine wl_value rfl (ex_lf hS rfl rfl rfl rfl) ?_ | refine wl_value rfl (ex_l1 hS rfl rfl rfl rfl) ?_ | refine wl_value rfl (ex_ldC hS rfl rfl rfl) ?_ | refine wl_value rfl (ex_l00 hS rfl rfl CellAt.out) ?_ | refine wl_value rfl (ex_l00 hS rfl rfl rfl) ?_ | refine wl_value rfl (ex_l0f hS rfl rfl CellAt.out) ?_ | refine wl_value rfl (ex_l0f hS rfl rfl rfl) ?_ | refine wl_value rfl (ex_lr hS rfl rfl rfl rfl) ?_ | refine wl_value rfl (ex_lr0 hS rfl rfl rfl) ?_ | refine wl_value rfl (ex_lrz hS rfl rfl rfl) ?_ | refine wl_value rfl (ex_lrf hS rfl rfl rfl) ?_ | refine wl_value rfl (ex_ldrC hS rfl rfl) ?_ | refine wl_value rfl (ex_ldr0 hS rfl rfl rfl) ?_); (try simp only [Act.put, List.setIfInBounds_toArray, List.set_cons_zero, List.set_cons_succ]))) | ((first | refine wl_value rfl (ex_ix hS rfl rfl rfl ?_) ?_); (focus (first | rfl | omega | (simp; done))); (try simp only [Act.put, List.setIfInBounds_toArray, List.set_cons_zero, List.set_cons_succ])) | ((first | refine wl_value rfl (ex_eqA rfl rfl rfl) ?_ | refine wl_value rfl (ex_neA rfl rfl rfl) ?_); (try simp only [Act.put, List.setIfInBounds_toArray, List.set_cons_zero, List.set_cons_succ])) | (refine wl_alloc rfl rfl hS ?_; intro _ _ hS; (try simp only [Act.put, List.setIfInBounds_toArray, List.set_cons_zero, List.set_cons_succ])) | (refine wl_box rfl rfl rfl rfl hS ?_; intro _ _ hS; (try simp only [Act.put, List.setIfInBounds_toArray, List.set_cons_zero, List.set_cons_succ])) | (refine wl_st rfl rfl rfl rfl rfl hS (of_decide_eq_true rfl) ?_; intro _ hS; (try simp only [evT, evC, List.getD_cons_succ, List.getD_cons_zero, List.set_cons_zero, List.set_cons_succ] at hS); (try simp only [List.set_cons_zero, List.set_cons_succ] at hS); (try simp only [Act.put, List.setIfInBounds_toArray, List.set_cons_zero, List.set_cons_succ])) | (refine wl_strC rfl rfl rfl rfl hS rfl rfl ?_; intro _ hS; (try simp only [evT, evC, List.getD_cons_succ, List.getD_cons_zero, List.set_cons_zero, List.set_cons_succ] at hS); (try simp only [Act.put, List.setIfInBounds_toArray, List.set_cons_zero, List.set_cons_succ])))
  go_ret
  exact ⟨rfl, hS.to⟩
structure DlSt where
  i : Nat
  j : Nat
  ys : List En
def DlI (B : Base) (R : HL) (A : Option Addr) (xs : List En) (sp : List Value) (cap : Nat) (q : En → Bool) (x : DlSt) (w : World) : Prop :=
  x.i < x.j ∧ x.j ≤ xs.length ∧ x.ys.length = xs.length ∧ x.ys.take x.i = (xs.take x.j).filter q ∧ ((xs.take x.j).filter q).length = x.i ∧ x.ys.drop x.j = xs.drop x.j ∧ OwnSl enE A x.ys sp cap ∧ Sh B (rowA A (flat enE x.ys ++ sp) 24 ++ R) w
def DelP (B : Base) (R : HL) (A : Option Addr) (zs : List En) (cap : Nat) (e : Ending) (w' : World) : Prop :=
  ∃ sp, e = .returned (.slice A zs.length cap) ∧ OwnSl enE A zs sp cap ∧ Sh B (rowA A (flat enE zs ++ sp) 24 ++ R) w'
set_option maxRecDepth 100000 in
set_option maxHeartbeats 3200000 in
theorem DelF_any {g : Nat} {lb : Array Value} {pr : En → Bool} {ok : En → Prop} (hp : PredC B R g lb pr ok) {A : Option Addr} {xs : List En} {sp : List Value} {cap : Nat} (hO : OwnSl enE A xs sp cap) (hS : Sh B (rowA A (flat enE xs ++ sp) 24 ++ R) w) (hl : xs.length ≤ 16777216) (hok : ∀ e ∈ xs, ok e := by intros; trivial) :
    Calls Tryz.prog 46 #[.slice A xs.length cap, .func (.func g) #[] lb] w (DelP B R A (xs.filter fun x => !pr x) cap) := by
  have hix := fun (w : World) (hS : Sh B (rowA A (flat enE xs ++ sp) 24 ++ R) w) (r : RdAt enE B (rowA A (flat enE xs ++ sp) 24 ++ R) A xs) => IdxF_any hp ⟨_, rfl⟩ hS (cap := cap) (r := r) hl hok
  obtain ⟨Z, hZ⟩ : ∃ Z, (xs.filter fun x => !pr x) = Z := ⟨_, rfl⟩
  rw [hZ]
  have HZ := Lib.hid hZ
  unfold idxI at hix
  cases hf : xs.findIdx? pr with
  | none =>
    rw [hf] at hix
    have Hz := Lib.hid (show Z = xs by
      rw [← hZ, List.filter_eq_self]
      intro e he
      rw [List.findIdx?_eq_none_iff.1 hf e he]; rfl)
    clear hZ hf hp
    go_enter Tryz.func46, Tryz.ntmps46
    go_wp2_with (first | (go_at_call 59; refine ((hix _ hS inferInstance)).mono ?_; rintro e w' (⟨rfl, hS⟩)) | (refine wl_isld rfl ?_; ((first | refine wl_value rfl (ex_l0 hS rfl rfl rfl CellAt.out) ?_ | refine wl_value rfl (ex_lf hS rfl rfl rfl CellAt.out) ?_ | refine wl_value rfl (ex_l1 hS rfl rfl rfl CellAt.out) ?_ | refine wl_value rfl (ex_ldC hS rfl rfl CellAt.out) ?_ | refine wl_value rfl (ex_l0 hS rfl rfl rfl rfl) ?_ | refine wl_value rfl (ex_lf hS rfl rfl rfl rfl) ?_ | refine wl_value rfl (ex_l1 hS rfl rfl rfl rfl) ?_ | refine wl_value rfl (ex_ldC hS rfl rfl rfl) ?_ | refine wl_value rfl (ex_l00 hS rfl rfl CellAt.out) ?_ | refine wl_value rfl (ex_l00 hS rfl rfl rfl) ?_ | refine wl_value rfl (ex_l0f hS rfl rfl CellAt.out) ?_ | refine wl_value rfl (ex_l0f hS rfl rfl rfl) ?_ | refine wl_value rfl (ex_lr hS rfl rfl rfl rfl) ?_ | refine wl_value rfl (ex_lr0 hS rfl rfl rfl) ?_ | refine wl_value rfl (ex_lrz hS rfl rfl rfl) ?_ | refine wl_value rfl (ex_lrf hS rfl rfl rfl) ?_ | refine wl_value rfl (ex_ldrC hS rfl rfl) ?_ | refine wl_value rfl (ex_ldr0 hS rfl rfl rfl) ?_); (try simp only [Act.put, List.setIfInBounds_toArray, List.set_cons_zero, List.set_cons_succ]))) | ((first | refine wl_value rfl (ex_ix hS rfl rfl rfl ?_) ?_); (focus (first | rfl | omega | (simp; done))); (try simp only [Act.put, List.setIfInBounds_toArray, List.set_cons_zero, List.set_cons_succ])) | ((first | refine wl_value rfl (ex_eqA rfl rfl rfl) ?_ | refine wl_value rfl (ex_neA rfl rfl rfl) ?_); (try simp only [Act.put, List.setIfInBounds_toArray, List.set_cons_zero, List.set_cons_succ])) | (refine wl_alloc rfl rfl hS ?_; intro _ _ hS; (try simp only [Act.put, List.setIfInBounds_toArray, List.set_cons_zero, List.set_cons_succ])) | (refine wl_box rfl rfl rfl rfl hS ?_; intro _ _ hS; (try simp only [Act.put, List.setIfInBounds_toArray, List.set_cons_zero, List.set_cons_succ])) | (refine wl_st rfl rfl rfl rfl rfl hS (of_decide_eq_true rfl) ?_; intro _ hS; (try simp only [evT, evC, List.getD_cons_succ, List.getD_cons_zero, List.set_cons_zero, List.set_cons_succ] at hS); (try simp only [List.set_cons_zero, List.set_cons_succ] at hS); (try simp only [Act.put, List.setIfInBounds_toArray, List.set_cons_zero, List.set_cons_succ])) | (refine wl_strC rfl rfl rfl rfl hS rfl rfl ?_; intro _ hS; (try simp only [evT, evC, List.getD_cons_succ, List.getD_cons_zero, List.set_cons_zero, List.set_cons_succ] at hS); (try simp only [Act.put, List.setIfInBounds_toArray, List.set_cons_zero, List.set_cons_succ])))
    go_ret
    rw [Hz.out]
    exact ⟨_, rfl, hO, hS.to⟩
  | some i0 =>
    rw [hf] at hix
    have hfi := List.findIdx?_eq_some_iff_getElem.1 hf
    obtain ⟨hi0, hpi, hpj⟩ := hfi
    have hE := hp.enter
    have hc := hp.call
    have Hokx := Lib.hid hok
    clear hok
    have hok := (OwnD.of hO).ok
    have d0 : ((i0 : Int) == -1) = false := beq_no (by omega)
    have hft : (xs.take i0).filter (fun x => !pr x) = xs.take i0 := by
      rw [List.filter_eq_self]
      intro e he
      obtain ⟨j, hj⟩ := List.getElem?_of_mem he
      have hji : j < i0 := by have := (List.getElem?_eq_some_iff.1 hj).1; rw [List.length_take] at this; omega
      rw [List.getElem?_take, if_pos hji] at hj
      obtain ⟨h1, h2⟩ := List.getElem?_eq_some_iff.1 hj
      have := hpj j hji
      rw [h2] at this
      simpa using this
    have g0 : Nth xs i0 xs[i0] := ⟨List.getElem?_eq_getElem hi0⟩
    have hft1 : (xs.take (i0 + 1)).filter (fun x => !pr x) = xs.take i0 := by
      rw [g0.take, List.filter_append, hft]
      simp [hpi]
    have H0 := Lib.hid (show xs.take i0 = (xs.take (i0 + 1)).filter (fun x => !pr x) from hft1.symm)
    have H1 := Lib.hid (show ((xs.take (i0 + 1)).filter (fun x => !pr x)).length = i0 by rw [hft1, List.length_take]; omega)
    have Hi0 := Lib.hid hi0
    have hib : i0 ≤ 16777216 := by omega
    clear hZ hf hp hpi hpj hft hft1 g0 hi0
    go_enter Tryz.func46, Tryz.ntmps46
    go_wp2_with (first | (go_at_call 59; refine ((hix _ hS inferInstance)).mono ?_; rintro e w' (⟨rfl, hS⟩)) | (refine wl_isld rfl ?_; ((first | refine wl_value rfl (ex_l0 hS rfl rfl rfl CellAt.out) ?_ | refine wl_value rfl (ex_lf hS rfl rfl rfl CellAt.out) ?_ | refine wl_value rfl (ex_l1 hS rfl rfl rfl CellAt.out) ?_ | refine wl_value rfl (ex_ldC hS rfl rfl CellAt.out) ?_ | refine wl_value rfl (ex_l0 hS rfl rfl rfl rfl) ?_ | refine wl_value rfl (ex_lf hS rfl rfl rfl rfl) ?_ | refine wl_value rfl (ex_l1 hS rfl rfl rfl rfl) ?_ | refine wl_value rfl (ex_ldC hS rfl rfl rfl) ?_ | refine wl_value rfl (ex_l00 hS rfl rfl CellAt.out) ?_ | refine wl_value rfl (ex_l00 hS rfl rfl rfl) ?_ | refine wl_value rfl (ex_l0f hS rfl rfl CellAt.out) ?_ | refine wl_value rfl (ex_l0f hS rfl rfl rfl) ?_ | refine wl_value rfl (ex_lr hS rfl rfl rfl rfl) ?_ | refine wl_value rfl (ex_lr0 hS rfl rfl rfl) ?_ | refine wl_value rfl (ex_lrz hS rfl rfl rfl) ?_ | refine wl_value rfl (ex_lrf hS rfl rfl rfl) ?_ | refine wl_value rfl (ex_ldrC hS rfl rfl) ?_ | refine wl_value rfl (ex_ldr0 hS rfl rfl rfl) ?_); (try simp only [Act.put, List.setIfInBounds_toArray, List.set_cons_zero, List.set_cons_succ]))) | ((first | refine wl_value rfl (ex_ix hS rfl rfl rfl ?_) ?_); (focus (first | rfl | omega | (simp; done))); (try simp only [Act.put, List.setIfInBounds_toArray, List.set_cons_zero, List.set_cons_succ])) | ((first | refine wl_value rfl (ex_eqA rfl rfl rfl) ?_ | refine wl_value rfl (ex_neA rfl rfl rfl) ?_); (try simp only [Act.put, List.setIfInBounds_toArray, List.set_cons_zero, List.set_cons_succ])) | (refine wl_alloc rfl rfl hS ?_; intro _ _ hS; (try simp only [Act.put, List.setIfInBounds_toArray, List.set_cons_zero, List.set_cons_succ])) | (refine wl_box rfl rfl rfl rfl hS ?_; intro _ _ hS; (try simp only [Act.put, List.setIfInBounds_toArray, List.set_cons_zero, List.set_cons_succ])) | (refine wl_st rfl rfl rfl rfl rfl hS (of_decide_eq_true rfl) ?_; intro _ hS; (try simp only [evT, evC, List.getD_cons_succ, List.getD_cons_zero, List.set_cons_zero, List.set_cons_succ] at hS); (try simp only [List.set_cons_zero, List.set_cons_succ] at hS); (try simp only [Act.put, List.setIfInBounds_toArray, List.set_cons_zero, List.set_cons_succ])) | (refine wl_strC rfl rfl rfl rfl hS rfl rfl ?_; intro _ hS; (try simp only [evT, evC, List.getD_cons_succ, List.getD_cons_zero, List.set_cons_zero, List.set_cons_succ] at hS); (try simp only [Act.put, List.setIfInBounds_toArray, List.set_cons_zero, List.set_cons_succ])))
    have h0 : DlI B R A xs sp cap (fun x => !pr x) ⟨i0, i0 + 1, xs⟩ _ := ⟨Nat.lt_succ_self _, Hi0.out, rfl, H0.out, H1.out, rfl, hO, hS⟩
    clear hS hO hix
    refine wp_loopS [5, 6] [7, 16, 17, 18, 19, 20, 21, 22, 23, 24, 25, 26, 27, 28, 29, 30, 31, 32, 33, 34, 35] (fun x : DlSt => [.int .i64 x.i, .int .i64 x.j]) (DlI B R A xs sp cap (fun x => !pr x)) (fun x => xs.length - x.j) (⟨i0, i0 + 1, xs⟩) rfl (h0) ?_
    clear h0
    rintro ⟨i, j, ys⟩ J w ⟨hij, hj, hlen, htk, hfl, hdr, hO, hS⟩
    dsimp only at hij hj hlen htk hfl hdr hO hS
    have Htk := Lib.hid htk
    have Hfl := Lib.hid hfl
    have Hdr := Lib.hid hdr
    have Hlen := Lib.hid hlen
    clear htk hfl hdr hlen
    (simp only [Frm, setsT, junkT, List.setIfInBounds_toArray, List.set_cons_zero, List.set_cons_succ])
    by_cases hlt : j < xs.length
    · obtain ⟨x, gx⟩ := Nth.of hlt
      have hin : i < xs.length := by omega
      have gy : Nth ys j x := ⟨by
        have h1 := congrArg (fun l => l[0]?) Hdr.out
        simp only [List.getElem?_drop, Nat.add_zero] at h1
        rw [h1]; exact gx.get⟩
      obtain ⟨y0, g0⟩ := Nth.of (xs := ys) (j := i) (by rw [Hlen.out]; exact hin)
      have hcx := fun (vb : Nat) (w : World) (hS : Sh B (cellB vb x.cells 24 ++ (rowA A (flat enE ys ++ sp) 24 ++ R)) w) => hc x _ w (Hokx.out x gx.mem) ⟨cellB vb x.cells 24 ++ rowA A (flat enE ys ++ sp) 24, (List.append_assoc ..).symm⟩ hS
      have hfs : (xs.take (j + 1)).filter (fun x => !pr x) = (xs.take j).filter (fun x => !pr x) ++ [x].filter (fun x => !pr x) := by rw [gx.take, List.filter_append]
      cases hx : pr x with
      | true =>
        rw [hx] at hcx
        have hfs2 : (xs.take (j + 1)).filter (fun x => !pr x) = (xs.take j).filter (fun x => !pr x) := by rw [hfs]; simp [hx]
        have H3 := Lib.hid (show ys.take i = (xs.take (j + 1)).filter (fun x => !pr x) by rw [hfs2]; exact Htk.out)
        have H4 := Lib.hid (show ((xs.take (j + 1)).filter (fun x => !pr x)).length = i by rw [hfs2]; exact Hfl.out)
        have H5 := Lib.hid (show ys.drop (j + 1) = xs.drop (j + 1) by rw [← List.drop_drop, ← List.drop_drop, Hdr.out])
        clear hx hfs hfs2 hc
        go_wp2_with (first | (refine wl_value rfl ((ex_ixN rfl rfl rfl hlt hok)) ?_; (try simp only [Act.put, List.setIfInBounds_toArray, List.set_cons_zero, List.set_cons_succ])) | (refine wl_alloc rfl rfl hS ?_; intro vb _ hS; (try simp only [Act.put, List.setIfInBounds_toArray, List.set_cons_zero, List.set_cons_succ])) | (refine wl_callV hE rfl rfl rfl rfl ?_; refine (hcx _ _ hS).mono ?_; rintro e' w' ⟨rfl, hS⟩; refine ⟨_, rfl, ?_⟩; (try simp only [Act.put, List.setIfInBounds_toArray, List.set_cons_zero, List.set_cons_succ])) | (refine wl_isld rfl ?_; ((first | refine wl_value rfl (ex_l0 hS rfl rfl rfl CellAt.out) ?_ | refine wl_value rfl (ex_lf hS rfl rfl rfl CellAt.out) ?_ | refine wl_value rfl (ex_l1 hS rfl rfl rfl CellAt.out) ?_ | refine wl_value rfl (ex_ldC hS rfl rfl CellAt.out) ?_ | refine wl_value rfl (ex_l0 hS rfl rfl rfl rfl) ?_ | refine wl_value rfl (ex_lf hS rfl rfl rfl rfl) ?_ | refine wl_value rfl (ex_l1 hS rfl rfl rfl rfl) ?_ | refine wl_value rfl (ex_ldC hS rfl rfl rfl) ?_ | refine wl_value rfl (ex_l00 hS rfl rfl CellAt.out) ?_ | refine wl_value rfl (ex_l00 hS rfl rfl rfl) ?_ | refine wl_value rfl (ex_l0f hS rfl rfl CellAt.out) ?_ | refine wl_value rfl (ex_l0f hS rfl rfl rfl) ?_ | refine wl_value rfl (ex_lr hS rfl rfl rfl rfl) ?_ | refine wl_value rfl (ex_lr0 hS rfl rfl rfl) ?_ | refine wl_value rfl (ex_lrz hS rfl rfl rfl) ?_ | refine wl_value rfl (ex_lrf hS rfl rfl rfl) ?_ | refine wl_value rfl (ex_ldrC hS rfl rfl) ?_ | refine wl_value rfl (ex_ldr0 hS rfl rfl rfl) ?_); (try simp only [Act.put, List.setIfInBounds_toArray, List.set_cons_zero, List.set_cons_succ]))) | ((first | refine wl_value rfl (ex_ix hS rfl rfl rfl ?_) ?_); (focus (first | rfl | omega | (simp; done))); (try simp only [Act.put, List.setIfInBounds_toArray, List.set_cons_zero, List.set_cons_succ])) | ((first | refine wl_value rfl (ex_eqA rfl rfl rfl) ?_ | refine wl_value rfl (ex_neA rfl rfl rfl) ?_); (try simp only [Act.put, List.setIfInBounds_toArray, List.set_cons_zero, List.set_cons_succ])) | (refine wl_alloc rfl rfl hS ?_; intro _ _ hS; (try simp only [Act.put, List.setIfInBounds_toArray, List.set_cons_zero, List.set_cons_succ])) | (refine wl_box rfl rfl rfl rfl hS ?_; intro _ _ hS; (try simp only [Act.put, List.setIfInBounds_toArray, List.set_cons_zero, List.set_cons_succ])) | (refine wl_st rfl rfl rfl rfl rfl hS (of_decide_eq_true rfl) ?_; intro _ hS; (try simp only [evT, evC, List.getD_cons_succ, List.getD_cons_zero, List.set_cons_zero, List.set_cons_succ] at hS); (try simp only [List.set_cons_zero, List.set_cons_succ] at hS); (try simp only [Act.put, List.setIfInBounds_toArray, List.set_cons_zero, List.set_cons_succ])) | (refine wl_strC rfl rfl rfl rfl hS rfl rfl ?_; intro _ hS; (try simp only [evT, evC, List.getD_cons_succ, List.getD_cons_zero, List.set_cons_zero, List.set_cons_succ] at hS); (try simp only [Act.put, List.setIfInBounds_toArray, List.set_cons_zero, List.set_cons_succ])))
        exact ⟨(⟨i, j + 1, ys⟩ : DlSt), ⟨Nat.lt_succ_of_lt hij, hlt, Hlen.out, H3.out, H4.out, H5.out, hO, hS.to⟩, (by (try dsimp only); omega), rfl, (by (simp only [blankT, junkT, List.cons_append, List.nil_append, List.setIfInBounds_toArray, List.set_cons_zero, List.set_cons_succ])), rfl⟩
      | false =>
        rw [hx] at hcx
        have hfs2 : (xs.take (j + 1)).filter (fun x => !pr x) = (xs.take j).filter (fun x => !pr x) ++ [x] := by rw [hfs]; simp [hx]
        have hty : (ys.set i x).take (i + 1) = ys.take i ++ [x] := by
          have g1 : Nth (ys.set i x) i x := ⟨by rw [List.getElem?_set_self (by rw [Hlen.out]; exact hin)]⟩
          rw [g1.take, List.take_set_of_le (Nat.le_refl _)]
        have H3 := Lib.hid (show (ys.set i x).take (i + 1) = (xs.take (j + 1)).filter (fun x => !pr x) by rw [hfs2, hty, Htk.out])
        have H4 := Lib.hid (show ((xs.take (j + 1)).filter (fun x => !pr x)).length = i + 1 by rw [hfs2, List.length_append, Hfl.out]; rfl)
        have H5 := Lib.hid (show (ys.set i x).drop (j + 1) = xs.drop (j + 1) by rw [List.drop_set_of_lt (by omega), ← List.drop_drop, ← List.drop_drop, Hdr.out])
        have H6 := Lib.hid (show (ys.set i x).length = xs.length by rw [List.length_set, Hlen.out])
        clear hx hfs hfs2 hc hty
        go_wp2_with (first | (refine wl_value rfl ((ex_ixN rfl rfl rfl hlt hok)) ?_; (try simp only [Act.put, List.setIfInBounds_toArray, List.set_cons_zero, List.set_cons_succ])) | (refine wl_value rfl ((ex_ixN rfl rfl rfl hin hok)) ?_; (try simp only [Act.put, List.setIfInBounds_toArray, List.set_cons_zero, List.set_cons_succ])) | (refine wl_alloc rfl rfl hS ?_; intro vb _ hS; (try simp only [Act.put, List.setIfInBounds_toArray, List.set_cons_zero, List.set_cons_succ])) | (refine wl_callV hE rfl rfl rfl rfl ?_; refine (hcx _ _ hS).mono ?_; rintro e' w' ⟨rfl, hS⟩; refine ⟨_, rfl, ?_⟩; (try simp only [Act.put, List.setIfInBounds_toArray, List.set_cons_zero, List.set_cons_succ])) | (refine wl_stEw rfl rfl rfl rfl hS hO rfl rfl ?_; clear hO; intro _ hS hO g3; (try simp only [evT, evC, List.getD_cons_succ, List.getD_cons_zero, List.set_cons_zero, List.set_cons_succ] at hS); (try simp only [Act.put, List.setIfInBounds_toArray, List.set_cons_zero, List.set_cons_succ])) | (refine wl_isld rfl ?_; ((first | refine wl_value rfl (ex_l0 hS rfl rfl rfl CellAt.out) ?_ | refine wl_value rfl (ex_lf hS rfl rfl rfl CellAt.out) ?_ | refine wl_value rfl (ex_l1 hS rfl rfl rfl CellAt.out) ?_ | refine wl_value rfl (ex_ldC hS rfl rfl CellAt.out) ?_ | refine wl_value rfl (ex_l0 hS rfl rfl rfl rfl) ?_ | refine wl_value rfl (ex_lf hS rfl rfl rfl rfl) ?_ | refine wl_value rfl (ex_l1 hS rfl rfl rfl rfl) ?_ | refine wl_value rfl (ex_ldC hS rfl rfl rfl) ?_ | refine wl_value rfl (ex_l00 hS rfl rfl CellAt.out) ?_ | refine wl_value rfl (ex_l00 hS rfl rfl rfl) ?_ | refine wl_value rfl (ex_l0f hS rfl rfl CellAt.out) ?_ | refine wl_value rfl (ex_l0f hS rfl rfl rfl) ?_ | refine wl_value rfl (ex_lr hS rfl rfl rfl rfl) ?_ | refine wl_value rfl (ex_lr0 hS rfl rfl rfl) ?_ | refine wl_value rfl (ex_lrz hS rfl rfl rfl) ?_ | refine wl_value rfl (ex_lrf hS rfl rfl rfl) ?_ | refine wl_value rfl (ex_ldrC hS rfl rfl) ?_ | refine wl_value rfl (ex_ldr0 hS rfl rfl rfl) ?_); (try simp only [Act.put, List.setIfInBounds_toArray, List.set_cons_zero, List.set_cons_succ]))) | ((first | refine wl_value rfl (ex_ix hS rfl rfl rfl ?_) ?_); (focus (first | rfl | omega | (simp; done))); (try simp only [Act.put, List.setIfInBounds_toArray, List.set_cons_zero, List.set_cons_succ])) | ((first | refine wl_value rfl (ex_eqA rfl rfl rfl) ?_ | refine wl_value rfl (ex_neA rfl rfl rfl) ?_); (try simp only [Act.put, List.setIfInBounds_toArray, List.set_cons_zero, List.set_cons_succ])) | (refine wl_alloc rfl rfl hS ?_; intro _ _ hS; (try simp only [Act.put, List.setIfInBounds_toArray, List.set_cons_zero, List.set_cons_succ])) | (refine wl_box rfl rfl rfl rfl hS ?_; intro _ _ hS; (try simp only [Act.put, List.setIfInBounds_toArray, List.set_cons_zero, List.set_cons_succ])) | (refine wl_st rfl rfl rfl rfl rfl hS (of_decide_eq_true rfl) ?_; intro _ hS; (try simp only [evT, evC, List.getD_cons_succ, List.getD_cons_zero, List.set_cons_zero, List.set_cons_succ] at hS); (try simp only [List.set_cons_zero, List.set_cons_succ] at hS); (try simp only [Act.put, List.setIfInBounds_toArray, List.set_cons_zero, List.set_cons_succ])) | (refine wl_strC rfl rfl rfl rfl hS rfl rfl ?_; intro _ hS; (try simp only [evT, evC, List.getD_cons_succ, List.getD_cons_zero, List.set_cons_zero, List.set_cons_succ] at hS); (try simp only [Act.put, List.setIfInBounds_toArray, List.set_cons_zero, List.set_cons_succ])))
        exact ⟨(⟨i + 1, j + 1, ys.set i x⟩ : DlSt), ⟨Nat.succ_lt_succ hij, hlt, H6.out, H3.out, H4.out, H5.out, hO, hS.to⟩, (by (try dsimp only); omega), rfl, (by (simp only [blankT, junkT, List.cons_append, List.nil_append, List.setIfInBounds_toArray, List.set_cons_zero, List.set_cons_succ])), rfl⟩
    · have hjx : j = xs.length := by omega
      have hile : i ≤ ys.length := by rw [Hlen.out]; omega
      have hic : i ≤ cap := by have := hO.len_le; omega
      have Hz := Lib.hid (show Z = ys.take i by
        rw [← HZ.out, Htk.out, hjx, List.take_length])
      have hix2 : i ≤ xs.length := by omega
      have hn1 : xs.length - i = ys.length - i := by rw [Hlen.out]
      have Hil := Lib.hid (show (ys.take i).length = i by rw [List.length_take]; omega)
      go_wp2_with (first | (refine wl_value rfl ((ex_cutI (l := i) rfl rfl rfl hix2)) ?_; (try simp only [Act.put, List.setIfInBounds_toArray, List.set_cons_zero, List.set_cons_succ])) | (refine wl_value rfl ((ex_cutH (h := i) rfl rfl rfl hic)) ?_; (try simp only [Act.put, List.setIfInBounds_toArray, List.set_cons_zero, List.set_cons_succ])) | (refine wl_clearL (i := i) zE rfl rfl rfl rfl rfl hS hO hn1 hile ?_; intro _ hS hO2; (try simp only [Act.put, List.setIfInBounds_toArray, List.set_cons_zero, List.set_cons_succ])) | (refine wl_isld rfl ?_; ((first | refine wl_value rfl (ex_l0 hS rfl rfl rfl CellAt.out) ?_ | refine wl_value rfl (ex_lf hS rfl rfl rfl CellAt.out) ?_ | refine wl_value rfl (ex_l1 hS rfl rfl rfl CellAt.out) ?_ | refine wl_value rfl (ex_ldC hS rfl rfl CellAt.out) ?_ | refine wl_value rfl (ex_l0 hS rfl rfl rfl rfl) ?_ | refine wl_value rfl (ex_lf hS rfl rfl rfl rfl) ?_ | refine wl_value rfl (ex_l1 hS rfl rfl rfl rfl) ?_ | refine wl_value rfl (ex_ldC hS rfl rfl rfl) ?_ | refine wl_value rfl (ex_l00 hS rfl rfl CellAt.out) ?_ | refine wl_value rfl (ex_l00 hS rfl rfl rfl) ?_ | refine wl_value rfl (ex_l0f hS rfl rfl CellAt.out) ?_ | refine wl_value rfl (ex_l0f hS rfl rfl rfl) ?_ | refine wl_value rfl (ex_lr hS rfl rfl rfl rfl) ?_ | refine wl_value rfl (ex_lr0 hS rfl rfl rfl) ?_ | refine wl_value rfl (ex_lrz hS rfl rfl rfl) ?_ | refine wl_value rfl (ex_lrf hS rfl rfl rfl) ?_ | refine wl_value rfl (ex_ldrC hS rfl rfl) ?_ | refine wl_value rfl (ex_ldr0 hS rfl rfl rfl) ?_); (try simp only [Act.put, List.setIfInBounds_toArray, List.set_cons_zero, List.set_cons_succ]))) | ((first | refine wl_value rfl (ex_ix hS rfl rfl rfl ?_) ?_); (focus (first | rfl | omega | (simp; done))); (try simp only [Act.put, List.setIfInBounds_toArray, List.set_cons_zero, List.set_cons_succ])) | ((first | refine wl_value rfl (ex_eqA rfl rfl rfl) ?_ | refine wl_value rfl (ex_neA rfl rfl rfl) ?_); (try simp only [Act.put, List.setIfInBounds_toArray, List.set_cons_zero, List.set_cons_succ])) | (refine wl_alloc rfl rfl hS ?_; intro _ _ hS; (try simp only [Act.put, List.setIfInBounds_toArray, List.set_cons_zero, List.set_cons_succ])) | (refine wl_box rfl rfl rfl rfl hS ?_; intro _ _ hS; (try simp only [Act.put, List.setIfInBounds_toArray, List.set_cons_zero, List.set_cons_succ])) | (refine wl_st rfl rfl rfl rfl rfl hS (of_decide_eq_true rfl) ?_; intro _ hS; (try simp only [evT, evC, List.getD_cons_succ, List.getD_cons_zero, List.set_cons_zero, List.set_cons_succ] at hS); (try simp only [List.set_cons_zero, List.set_cons_succ] at hS); (try simp only [Act.put, List.setIfInBounds_toArray, List.set_cons_zero, List.set_cons_succ])) | (refine wl_strC rfl rfl rfl rfl hS rfl rfl ?_; intro _ hS; (try simp only [evT, evC, List.getD_cons_succ, List.getD_cons_zero, List.set_cons_zero, List.set_cons_succ] at hS); (try simp only [Act.put, List.setIfInBounds_toArray, List.set_cons_zero, List.set_cons_succ])))
      go_ret
      obtain ⟨h1, h2⟩ := hO2.front
      rw [h2] at hS
      rw [Hz.out]
      exact ⟨_, by rw [Hil.out]; rfl, h1, hS.to⟩
end
end Go.Tk

set_option linter.unusedSectionVars false
set_option linter.unusedSimpArgs false
set_option linter.unusedVariables false
namespace Go.Tk
open Go.RowKit Go.Proofs
theorem standE_cons (a : En) (r : List En) (p : ByteArray) : standE (a :: r) p = if a.path = p then a else standE r p := by
  unfold standE
  rw [List.find?_cons]
  by_cases h : a.path = p <;> simp [h]
theorem standE_none {t : List En} {p : ByteArray} (h : ∀ e ∈ t, ¬ e.path = p) : standE t p = zE := by
  unfold standE
  rw [List.find?_eq_none.2 (fun e he => by simpa using h e he)]
theorem standE_get {t : List En} {p : ByteArray} (h : ¬ standE t p = zE) : standE t p ∈ t ∧ (standE t p).path = p := by
  unfold standE at *
  cases hf : t.find? (fun e => decide (e.path = p)) with
  | none => rw [hf] at h; exact absurd rfl h
  | some e =>
    have := List.find?_some hf
    exact ⟨List.mem_of_find?_eq_some hf, by simpa using this⟩
theorem standE_mem {t : List En} (hd : Dist t) {e : En} (he : e ∈ t) : standE t e.path = e := by
  unfold standE
  cases hf : t.find? (fun x => decide (x.path = e.path)) with
  | none => exact absurd (by simp) (List.find?_eq_none.1 hf e he)
  | some x =>
    have := List.find?_some hf
    exact hd.inj (List.mem_of_find?_eq_some hf) he (by simpa using this)
structure DiffOk (a b : List En) (D : List Ch) : Prop where
  at_ : ∀ c ∈ D, c.old = standE a c.path ∧ c.new = standE b c.path ∧ ¬ c.old = c.new
  all : ∀ p, ¬ standE a p = standE b p → inL D p = true
  ord : D.Pairwise fun x y => lessI x.path y.path < 0
def AboveP (p : ByteArray) (t : List En) : Prop := ∀ e ∈ t, lessI p e.path < 0
theorem AboveP.none {p : ByteArray} {t : List En} (h : AboveP p t) : standE t p = zE := standE_none fun e he hp => by have := h e he; rw [hp, lessI_self] at this; omega
theorem DiffOk.above {a b : List En} {D : List Ch} (h : DiffOk a b D) {p : ByteArray} (ha : AboveP p a) (hb : AboveP p b) : ∀ c ∈ D, lessI p c.path < 0 := by
  intro c hc
  obtain ⟨h1, h2, h3⟩ := h.at_ c hc
  by_cases ho : standE a c.path = zE
  · by_cases hn : standE b c.path = zE
    · exact absurd (by rw [h1, h2, ho, hn]) h3
    · obtain ⟨h4, h5⟩ := standE_get hn
      rw [← h5]; exact hb _ h4
  · obtain ⟨h4, h5⟩ := standE_get ho
    rw [← h5]; exact ha _ h4
theorem DiffOk.cons {a b a' b' : List En} {D : List Ch} {p : ByteArray} {o n : En} (h : DiffOk a' b' D) (ha : AboveP p a') (hb : AboveP p b') (hne : ¬ o = n)
    (sa : ∀ q, standE a q = if p = q then o else standE a' q) (sb : ∀ q, standE b q = if p = q then n else standE b' q) : DiffOk a b (⟨p, o, n⟩ :: D) := by
  have hab := h.above ha hb
  refine ⟨fun c hc => ?_, fun q hq => ?_, List.pairwise_cons.2 ⟨fun c hc => hab c hc, h.ord⟩⟩
  · rcases List.mem_cons.1 hc with rfl | hc
    · rw [sa, sb, if_pos rfl, if_pos rfl]
      exact ⟨rfl, rfl, hne⟩
    · have : ¬ p = c.path := fun e => by have := hab c hc; rw [← e, lessI_self] at this; omega
      rw [sa, sb, if_neg this, if_neg this]
      exact h.at_ c hc
  · rw [inL_iff]
    by_cases hp : p = q
    · exact ⟨_, List.mem_cons_self .., hp⟩
    · rw [sa, sb, if_neg hp, if_neg hp] at hq
      obtain ⟨c, hc, h1⟩ := inL_iff.1 (h.all q hq)
      exact ⟨c, List.mem_cons_of_mem _ hc, h1⟩
theorem DiffOk.skip {a b a' b' : List En} {D : List Ch} {p : ByteArray} {o : En} (h : DiffOk a' b' D) (ha : AboveP p a') (hb : AboveP p b')
    (sa : ∀ q, standE a q = if p = q then o else standE a' q) (sb : ∀ q, standE b q = if p = q then o else standE b' q) : DiffOk a b D := by
  have hab := h.above ha hb
  refine ⟨fun c hc => ?_, fun q hq => ?_, h.ord⟩
  · have : ¬ p = c.path := fun e => by have := hab c hc; rw [← e, lessI_self] at this; omega
    rw [sa, sb, if_neg this, if_neg this]
    exact h.at_ c hc
  · by_cases hp : p = q
    · rw [sa, sb, if_pos hp, if_pos hp] at hq; exact absurd rfl hq
    · rw [sa, sb, if_neg hp, if_neg hp] at hq
      exact h.all q hq
theorem SortedE.above {e : En} {r : List En} (h : SortedE (e :: r)) : AboveP e.path r := fun x hx => (List.pairwise_cons.1 h).1 x hx
theorem SortedE.tail {e : En} {r : List En} (h : SortedE (e :: r)) : SortedE r := (List.pairwise_cons.1 h).2
theorem stand_skip {p : ByteArray} {t : List En} (h : AboveP p t) (q : ByteArray) : standE t q = if p = q then zE else standE t q := by
  by_cases hq : p = q
  · subst hq; rw [if_pos rfl, h.none]
  · rw [if_neg hq]
theorem diffL_ok (a b : List En) (ha : ∀ e ∈ a, mayB e = true) (hb : ∀ e ∈ b, mayB e = true) (sa : SortedE a) (sb : SortedE b) : DiffOk a b (diffL a b) := by
  induction a, b using diffL.induct with
  | case1 => rw [diffL_nil]; exact ⟨(fun _ h => nomatch h), (fun p h => absurd rfl h), .nil⟩
  | case2 a r ih =>
    rw [diffL_l]
    exact (ih (fun e he => ha e (List.mem_cons_of_mem _ he)) hb sa.tail sb).cons sa.above (fun _ h => nomatch h) (mayB_zE (ha a (by simp))) (standE_cons a r) (fun q => by by_cases h : a.path = q <;> simp [h, standE])
  | case3 b s ih =>
    rw [diffL_r]
    exact (ih ha (fun e he => hb e (List.mem_cons_of_mem _ he)) sa sb.tail).cons (fun _ h => nomatch h) sb.above (fun h => mayB_zE (hb b (by simp)) h.symm) (fun q => by by_cases h : b.path = q <;> simp [h, standE]) (standE_cons b s)
  | case4 a r b s h ih =>
    rw [diffL_c, if_pos h]
    have hab : AboveP a.path (b :: s) := fun x hx => by
      rcases List.mem_cons.1 hx with rfl | hx
      · exact h
      · exact lessI_trans (mayB_ok (ha a (by simp))).1 (mayB_ok (hb b (by simp))).1 (mayB_ok (hb x (List.mem_cons_of_mem _ hx))).1 h (sb.above x hx)
    exact (ih (fun e he => ha e (List.mem_cons_of_mem _ he)) hb sa.tail sb).cons sa.above hab (mayB_zE (ha a (by simp))) (standE_cons a r) (stand_skip hab)
  | case5 a r b s h1 h2 ih =>
    rw [diffL_c, if_neg h1, if_pos h2]
    have oa := (mayB_ok (ha a (by simp))).1
    have ob := (mayB_ok (hb b (by simp))).1
    have hlt : lessI b.path a.path < 0 := by have := lessI_swap oa ob; omega
    have hba : AboveP b.path (a :: r) := fun x hx => by
      rcases List.mem_cons.1 hx with rfl | hx
      · exact hlt
      · exact lessI_trans ob oa (mayB_ok (ha x (List.mem_cons_of_mem _ hx))).1 hlt (sa.above x hx)
    exact (ih ha (fun e he => hb e (List.mem_cons_of_mem _ he)) sa sb.tail).cons hba sb.above (fun h => mayB_zE (hb b (by simp)) h.symm) (stand_skip hba) (standE_cons b s)
  | case6 r b s h1 h2 ih =>
    rw [diffL_c, if_neg h1, if_neg h2, if_pos rfl]
    exact (ih (fun e he => ha e (List.mem_cons_of_mem _ he)) (fun e he => hb e (List.mem_cons_of_mem _ he)) sa.tail sb.tail).skip sa.above sb.above (standE_cons b r) (standE_cons b s)
  | case7 a r b s h1 h2 h3 ih =>
    rw [diffL_c, if_neg h1, if_neg h2, if_neg h3]
    have oa := (mayB_ok (ha a (by simp))).1
    have ob := (mayB_ok (hb b (by simp))).1
    have hp : a.path = b.path := lessI_eq oa ob (by omega)
    have hsa := sa.above
    rw [hp] at hsa
    exact (ih (fun e he => ha e (List.mem_cons_of_mem _ he)) (fun e he => hb e (List.mem_cons_of_mem _ he)) sa.tail sb.tail).cons hsa sb.above h3 (fun q => by rw [← hp]; exact standE_cons a r q) (standE_cons b s)
theorem chsG_of : ∀ (l : List Ch) (p : Option ByteArray), (∀ c ∈ l, chOk c = true) → l.Pairwise (fun x y => lessI x.path y.path < 0) → (∀ q, p = some q → ∀ c ∈ l, lessI q c.path < 0) → chsG p l = true
  | [], p, _, _, _ => by cases p <;> rfl
  | c :: r, p, h1, h2, h3 => by
    rw [List.pairwise_cons] at h2
    rw [chsG_cons, h1 c (by simp), chsG_of r (some c.path) (fun x hx => h1 x (List.mem_cons_of_mem _ hx)) h2.2 (fun q hq x hx => by cases hq; exact h2.1 x hx)]
    cases p with
    | none => rfl
    | some q => unfold befE; simp [h3 q rfl c (by simp)]
theorem Dist.nodup {t : List En} (h : Dist t) : t.Nodup := h.imp fun {x y} h e => h (by rw [e])
theorem side_stand {t : List En} (ht : ∀ e ∈ t, mayB e = true) (p : ByteArray) : sideI (standE t p) p = true := by
  unfold sideI
  by_cases h : standE t p = zE
  · simp [h]
  · obtain ⟨h1, h2⟩ := standE_get h
    simp [h2, ht _ h1]
theorem diff_leads {a b : List En} (hA : RightT a) (hB : RightT b) (ha : (checkA a).2 = 0) (hb : (checkA b).2 = 0) : applyR a (diffL a b) = (b, 0) := by
  have hd := diffL_ok a b hA.may hB.may hA.sorted hB.sorted
  have hch : chsG none (diffL a b) = true := chsG_of _ _ (fun c hc => by
    obtain ⟨h1, h2, h3⟩ := hd.at_ c hc
    unfold chOk
    have h4 : (decide (c.old = zE) && decide (c.new = zE)) = false := by
      rw [Bool.and_eq_false_iff, decide_eq_false_iff_not, decide_eq_false_iff_not]
      by_cases ho : c.old = zE
      · exact .inr fun hn => h3 (by rw [ho, hn])
      · exact .inl ho
    rw [h4, h1, h2, side_stand hA.may, side_stand hB.may]
    rfl) hd.ord (fun _ h => nomatch h)
  have hst : standsB a (diffL a b) = true := by
    unfold standsB
    rw [List.all_eq_true]
    intro c hc
    rw [decide_eq_true_eq]
    exact (hd.at_ c hc).1.symm
  have da := hA.sorted.dist
  have db := hB.sorted.dist
  obtain ⟨hap, hdp⟩ := applied_ok hA.may da hch
  have hp : (applied a (diffL a b)).Perm b := by
    refine perm_of_nodup hdp.nodup db.nodup fun e => ?_
    unfold applied newsL
    rw [List.mem_append, List.mem_filter, List.mem_filter, List.mem_map]
    constructor
    · rintro (⟨h1, h2⟩ | ⟨⟨c, hc, rfl⟩, h2⟩)
      · have h3 : standE a e.path = standE b e.path := Classical.byContradiction fun h => by
          rw [hd.all _ h] at h2; cases h2
        rw [standE_mem da h1] at h3
        have : ¬ standE b e.path = zE := fun h => mayB_zE (hA.may e h1) (h3.trans h)
        rw [h3]; exact (standE_get this).1
      · rw [(hd.at_ c hc).2.1] at h2 ⊢
        exact (standE_get (by simpa using h2)).1
    · intro he
      have hz := mayB_zE (hB.may e he)
      have hse := standE_mem db he
      by_cases hi : inL (diffL a b) e.path = true
      · right
        obtain ⟨c, hc, h1⟩ := inL_iff.1 hi
        refine ⟨⟨c, hc, ?_⟩, by simpa using hz⟩
        rw [(hd.at_ c hc).2.1, h1, hse]
      · left
        have h3 : standE a e.path = standE b e.path := Classical.byContradiction fun h => hi (hd.all _ h)
        have : ¬ standE a e.path = zE := by rw [h3, hse]; exact hz
        have h4 := standE_get this
        rw [h3, hse] at h4
        exact ⟨h4.1, by simpa using hi⟩
  have hs : srt (applied a (diffL a b)) = b := right_sorted hB ((srt_perm _).trans hp) (srt_sorted _ fun e he => (mayB_ok (hap e he)).1)
  unfold applyR
  rw [if_pos ha, if_pos hch, if_pos hst, hs, if_pos hb]
theorem diff_same {a b : List En} (hA : RightT a) (hB : RightT b) : diffL a b = [] ↔ a = b := by
  have hd := diffL_ok a b hA.may hB.may hA.sorted hB.sorted
  have da := hA.sorted.dist
  have db := hB.sorted.dist
  constructor
  · intro h
    rw [h] at hd
    have hs : ∀ p, standE a p = standE b p := fun p => Classical.byContradiction fun h => by have := hd.all p h; cases this
    refine right_sorted hB (perm_of_nodup da.nodup db.nodup fun e => ⟨fun he => ?_, fun he => ?_⟩) (hA.sorted.le fun e he => (mayB_ok (hA.may e he)).1)
    · have h1 := standE_mem da he
      have : ¬ standE b e.path = zE := by rw [← hs, h1]; exact mayB_zE (hA.may e he)
      have h2 := (standE_get this).1
      rwa [← hs, h1] at h2
    · have h1 := standE_mem db he
      have : ¬ standE a e.path = zE := by rw [hs, h1]; exact mayB_zE (hB.may e he)
      have h2 := (standE_get this).1
      rwa [hs, h1] at h2
  · rintro rfl
    cases hD : diffL a a with
    | nil => rfl
    | cons c D =>
      obtain ⟨h1, h2, h3⟩ := hd.at_ c (by rw [hD]; simp)
      exact absurd (h1.trans h2.symm) h3
end Go.Tk

set_option linter.unusedSectionVars false
set_option linter.unusedSimpArgs false
set_option linter.unusedVariables false
namespace Go.Tk
open Go.RowKit Go.Proofs
section
variable {B : Base} {R H H1 : HL} {w w' : World}
def ApplyP (B : Base) (R : HL) (x : List En × Int) (e : Ending) (w' : World) : Prop :=
  ∃ A sp cap, e = .returned (.tuple #[.slice A x.1.length cap, .int .i64 x.2]) ∧ OwnSl enE A x.1 sp cap ∧ Sh B (rowA A (flat enE x.1 ++ sp) 24 ++ R) w'
theorem ApplyP.bad {n : Int} {w : World} (h : Sh B R w) : ApplyP B R ([], n) (.returned (.tuple #[.slice none 0 0, .int .i64 n])) w := ⟨none, [], 0, rfl, OwnSl.nothing, h⟩
end
end Go.Tk

set_option linter.unusedSectionVars false
set_option linter.unusedSimpArgs false
set_option linter.unusedVariables false
namespace Go.Tk
open Go.RowKit Go.Proofs
def whereI (t : List En) (dir : ByteArray) : Int := if okP dir = false then 45 else if dir.size = 0 then 0 else if findI t dir = -1 then 8 else if kindI t dir = 2 then 0 else 102
def findE (t : List En) (p : ByteArray) : En × Bool := if (checkA t).2 = 0 then (standE t p, !decide (findI t p = -1)) else (zE, false)
def putO (t : List En) (e : En) : Option (List En) :=
  match t.findIdx? (fun x => decide (x.path = e.path)) with
  | none => some (t ++ [e])
  | some i => if decide (kindI t e.path = 2) = decide (e.kind = 2) then some (t.set i e) else none
def putR (t : List En) (e : En) : List En × Int :=
  if (checkA t).2 = 0 then (if mayB e = true then (if whereI t (upP e.path) = 0 then (match putO t e with | none => ([], 9) | some out => if fitsI out = 0 then (srt out, 0) else ([], fitsI out)) else ([], 52)) else ([], 50)) else ([], (checkA t).2)
def goneB (p : ByteArray) (x : En) : Bool := decide (x.path = p) || aboveB p x.path
def removeR (t : List En) (p : ByteArray) : List En × Int :=
  if (checkA t).2 = 0 then (if okP p = true then (if findI t p = -1 then ([], 8) else (t.filter fun x => !goneB p x, 0)) else ([], 45)) else ([], (checkA t).2)
theorem find_idx {t : List En} {p : ByteArray} : (findI t p = -1 ∧ t.findIdx? (fun x => decide (x.path = p)) = none ∧ kindI t p = 0 ∧ standE t p = zE ∧ ∀ e ∈ t, ¬ e.path = p) ∨
    ∃ (i : Nat) (e : En), findI t p = i ∧ t.findIdx? (fun x => decide (x.path = p)) = some i ∧ Nth t i e ∧ e.path = p ∧ kindI t p = e.kind ∧ standE t p = e := by
  cases hf : t.findIdx? (fun x => decide (x.path = p)) with
  | none =>
    left
    have h2 := List.findIdx?_eq_none_iff.1 hf
    have h3 : t.find? (fun e => decide (e.path = p)) = none := List.find?_eq_none.2 fun e he => by simpa using h2 e he
    exact ⟨by unfold findI; rw [hf], rfl, by unfold kindI; rw [h3], by unfold standE; rw [h3], fun e he => by simpa using h2 e he⟩
  | some i =>
    right
    rcases findI_cases t p with ⟨h1, _⟩ | ⟨j, e, h1, h2, h3, h4⟩
    · unfold findI at h1; rw [hf] at h1; dsimp only at h1; omega
    · have hij : j = i := by unfold findI at h1; rw [hf] at h1; dsimp only at h1; omega
      subst hij
      exact ⟨j, e, h1, rfl, ⟨h2⟩, h3, by unfold kindI; rw [h4], by unfold standE; rw [h4]⟩
theorem putO_ok {t out : List En} {e : En} (ht : ∀ x ∈ t, mayB x = true) (hd : Dist t) (he : mayB e = true) (h : putO t e = some out) : (∀ x ∈ out, mayB x = true) ∧ Dist out := by
  unfold putO at h
  rcases find_idx (t := t) (p := e.path) with ⟨_, h1, _, _, h2⟩ | ⟨i, x, _, h1, hx, h3, _, _⟩
  · rw [h1] at h
    cases h
    refine ⟨fun x hx => ?_, ?_⟩
    · rcases List.mem_append.1 hx with h4 | h4
      · exact ht x h4
      · rw [List.mem_singleton.1 h4]; exact he
    · unfold Dist
      rw [List.pairwise_append]
      refine ⟨hd, List.pairwise_singleton .., fun x hx y hy => ?_⟩
      rw [List.mem_singleton.1 hy]
      exact h2 x hx
  · rw [h1] at h
    dsimp only at h
    split at h
    · cases h
      refine ⟨fun y hy => ?_, ?_⟩
      · rcases List.mem_or_eq_of_mem_set hy with h4 | h4
        · exact ht y h4
        · rw [h4]; exact he
      · have hm : (t.set i e).map En.path = t.map En.path := by
          apply List.ext_getElem (by simp)
          intro j h5 h6
          rw [List.getElem_map, List.getElem_map, List.getElem_set]
          by_cases hij : i = j
          · subst hij
            obtain ⟨h7, h8⟩ := List.getElem?_eq_some_iff.1 hx.get
            rw [if_pos rfl, h8, h3]
          · rw [if_neg hij]
        have h5 : (t.map En.path).Pairwise fun a b => ¬ a = b := List.pairwise_map.2 hd
        rw [← hm] at h5
        exact List.pairwise_map.1 h5
    · cases h
section
variable {B : Base} {R H H1 : HL} {w w' : World}
set_option maxRecDepth 100000 in
theorem Below_any [HasML B] (hS : Sh B R w) (a b : ByteArray) (ha : a.size ≤ 16777216) (hb : b.size ≤ 16777216) : Calls Tryz.prog 48 #[.string a, .string b] w fun e w' => e = .returned (.bool (aboveB a b)) ∧ Sh B R w' := by
  have h1 := fun (w : World) (R : HL) (hS : Sh B R w) => Above_any hS a b ha hb
  go_enter Tryz.func48, Tryz.ntmps48
  go_wp2_with (first | (go_at_call 64; refine ((h1 _ _ hS)).mono ?_; rintro e w' (⟨rfl, hS⟩)) | (refine wl_isld rfl ?_; ((first | refine wl_value rfl (ex_l0 hS rfl rfl rfl CellAt.out) ?_ | refine wl_value rfl (ex_lf hS rfl rfl rfl CellAt.out) ?_ | refine wl_value rfl (ex_l1 hS rfl rfl rfl CellAt.out) ?_ | refine wl_value rfl (ex_ldC hS rfl rfl CellAt.out) ?_ | refine wl_value rfl (ex_l0 hS rfl rfl rfl rfl) ?_ | refine wl_value rfl (ex_lf hS rfl rfl rfl rfl) ?_ | refine wl_value rfl (ex_l1 hS rfl rfl rfl rfl) ?_ | refine wl_value rfl (ex_ldC hS rfl rfl rfl) ?_ | refine wl_value rfl (ex_l00 hS rfl rfl CellAt.out) ?_ | refine wl_value rfl (ex_l00 hS rfl rfl rfl) ?_ | refine wl_value rfl (ex_l0f hS rfl rfl CellAt.out) ?_ | refine wl_value rfl (ex_l0f hS rfl rfl rfl) ?_ | refine wl_value rfl (ex_lr hS rfl rfl rfl rfl) ?_ | refine wl_value rfl (ex_lr0 hS rfl rfl rfl) ?_ | refine wl_value rfl (ex_lrz hS rfl rfl rfl) ?_ | refine wl_value rfl (ex_lrf hS rfl rfl rfl) ?_ | refine wl_value rfl (ex_ldrC hS rfl rfl) ?_ | refine wl_value rfl (ex_ldr0 hS rfl rfl rfl) ?_); (try simp only [Act.put, List.setIfInBounds_toArray, List.set_cons_zero, List.set_cons_succ]))) | ((first | refine wl_value rfl (ex_ix hS rfl rfl rfl ?_) ?_); (focus (first | rfl | omega | (simp; done))); (try simp only [Act.put, List.setIfInBounds_toArray, List.set_cons_zero, List.set_cons_succ])) | ((first | refine wl_value rfl (ex_eqA rfl rfl rfl) ?_ | refine wl_value rfl (ex_neA rfl rfl rfl) ?_); (try simp only [Act.put, List.setIfInBounds_toArray, List.set_cons_zero, List.set_cons_succ])) | (refine wl_alloc rfl rfl hS ?_; intro _ _ hS; (try simp only [Act.put, List.setIfInBounds_toArray, List.set_cons_zero, List.set_cons_succ])) | (refine wl_box rfl rfl rfl rfl hS ?_; intro _ _ hS; (try simp only [Act.put, List.setIfInBounds_toArray, List.set_cons_zero, List.set_cons_succ])) | (refine wl_st rfl rfl rfl rfl rfl hS (of_decide_eq_true rfl) ?_; intro _ hS; (try simp only [evT, evC, List.getD_cons_succ, List.getD_cons_zero, List.set_cons_zero, List.set_cons_succ] at hS); (try simp only [List.set_cons_zero, List.set_cons_succ] at hS); (try simp only [Act.put, List.setIfInBounds_toArray, List.set_cons_zero, List.set_cons_succ])) | (refine wl_strC rfl rfl rfl rfl hS rfl rfl ?_; intro _ hS; (try simp only [evT, evC, List.getD_cons_succ, List.getD_cons_zero, List.set_cons_zero, List.set_cons_succ] at hS); (try simp only [Act.put, List.setIfInBounds_toArray, List.set_cons_zero, List.set_cons_succ])))
  go_ret
  exact ⟨rfl, hS⟩
set_option maxRecDepth 100000 in
theorem rm1_any [HasML B] {pb : Nat} {p : ByteArray} (hp : p.size ≤ 16777216) : PredC B (cellB pb [.string p] 9 ++ R) 47 #[.pointer (some ⟨pb, 0, none⟩)] (goneB p) (fun e => e.path.size ≤ 16777216) := by
  refine ⟨EntersC.out (P := Tryz.prog) (f := 47), ?_⟩
  rintro x H w hx ⟨d, rfl⟩ hS
  show Calls Tryz.prog 47 #[.agg x.cells.toArray, .pointer (some ⟨pb, 0, none⟩)] w _
  have hb := fun (w : World) (R : HL) (hS : Sh B R w) => Below_any hS p x.path hp hx
  by_cases hq : x.path = p
  · have d1 : (x.path.toList == p.toList) = true := by rw [strEq]; simp [hq]
    have Hx := Lib.hid (show goneB p x = true by unfold goneB; simp [hq])
    clear hq
    go_enter Tryz.func47, Tryz.ntmps47
    go_upto_region 1 with (first | (refine wl_box rfl rfl rfl rfl hS ?_; intro xb _ hS; (try simp only [Act.put, List.setIfInBounds_toArray, List.set_cons_zero, List.set_cons_succ])) | (refine wl_isld rfl ?_; ((first | refine wl_value rfl (ex_l0 hS rfl rfl rfl CellAt.out) ?_ | refine wl_value rfl (ex_lf hS rfl rfl rfl CellAt.out) ?_ | refine wl_value rfl (ex_l1 hS rfl rfl rfl CellAt.out) ?_ | refine wl_value rfl (ex_ldC hS rfl rfl CellAt.out) ?_ | refine wl_value rfl (ex_l0 hS rfl rfl rfl rfl) ?_ | refine wl_value rfl (ex_lf hS rfl rfl rfl rfl) ?_ | refine wl_value rfl (ex_l1 hS rfl rfl rfl rfl) ?_ | refine wl_value rfl (ex_ldC hS rfl rfl rfl) ?_ | refine wl_value rfl (ex_l00 hS rfl rfl CellAt.out) ?_ | refine wl_value rfl (ex_l00 hS rfl rfl rfl) ?_ | refine wl_value rfl (ex_l0f hS rfl rfl CellAt.out) ?_ | refine wl_value rfl (ex_l0f hS rfl rfl rfl) ?_ | refine wl_value rfl (ex_lr hS rfl rfl rfl rfl) ?_ | refine wl_value rfl (ex_lr0 hS rfl rfl rfl) ?_ | refine wl_value rfl (ex_lrz hS rfl rfl rfl) ?_ | refine wl_value rfl (ex_lrf hS rfl rfl rfl) ?_ | refine wl_value rfl (ex_ldrC hS rfl rfl) ?_ | refine wl_value rfl (ex_ldr0 hS rfl rfl rfl) ?_); (try simp only [Act.put, List.setIfInBounds_toArray, List.set_cons_zero, List.set_cons_succ]))) | ((first | refine wl_value rfl (ex_ix hS rfl rfl rfl ?_) ?_); (focus (first | rfl | omega | (simp; done))); (try simp only [Act.put, List.setIfInBounds_toArray, List.set_cons_zero, List.set_cons_succ])) | ((first | refine wl_value rfl (ex_eqA rfl rfl rfl) ?_ | refine wl_value rfl (ex_neA rfl rfl rfl) ?_); (try simp only [Act.put, List.setIfInBounds_toArray, List.set_cons_zero, List.set_cons_succ])) | (refine wl_alloc rfl rfl hS ?_; intro _ _ hS; (try simp only [Act.put, List.setIfInBounds_toArray, List.set_cons_zero, List.set_cons_succ])) | (refine wl_box rfl rfl rfl rfl hS ?_; intro _ _ hS; (try simp only [Act.put, List.setIfInBounds_toArray, List.set_cons_zero, List.set_cons_succ])) | (refine wl_st rfl rfl rfl rfl rfl hS (of_decide_eq_true rfl) ?_; intro _ hS; (try simp only [evT, evC, List.getD_cons_succ, List.getD_cons_zero, List.set_cons_zero, List.set_cons_succ] at hS); (try simp only [List.set_cons_zero, List.set_cons_succ] at hS); (try simp only [Act.put, List.setIfInBounds_toArray, List.set_cons_zero, List.set_cons_succ])) | (refine wl_strC rfl rfl rfl rfl hS rfl rfl ?_; intro _ hS; (try simp only [evT, evC, List.getD_cons_succ, List.getD_cons_zero, List.set_cons_zero, List.set_cons_succ] at hS); (try simp only [Act.put, List.setIfInBounds_toArray, List.set_cons_zero, List.set_cons_succ])))
    have c0 := Sh.ldC (b := xb) (off := 0) (v := .string x.path) hS rfl
    have c1 := Sh.ldC (b := pb) (off := 0) (v := .string p) hS rfl
    go_wp2
    go_ret
    rw [Hx.out]
    exact ⟨rfl, hS.to⟩
  · have d1 : (x.path.toList == p.toList) = false := by rw [strEq]; simp [hq]
    have Hx := Lib.hid (show goneB p x = aboveB p x.path by unfold goneB; simp [hq])
    clear hq
    go_enter Tryz.func47, Tryz.ntmps47
    go_upto_region 1 with (first | (refine wl_box rfl rfl rfl rfl hS ?_; intro xb _ hS; (try simp only [Act.put, List.setIfInBounds_toArray, List.set_cons_zero, List.set_cons_succ])) | (refine wl_isld rfl ?_; ((first | refine wl_value rfl (ex_l0 hS rfl rfl rfl CellAt.out) ?_ | refine wl_value rfl (ex_lf hS rfl rfl rfl CellAt.out) ?_ | refine wl_value rfl (ex_l1 hS rfl rfl rfl CellAt.out) ?_ | refine wl_value rfl (ex_ldC hS rfl rfl CellAt.out) ?_ | refine wl_value rfl (ex_l0 hS rfl rfl rfl rfl) ?_ | refine wl_value rfl (ex_lf hS rfl rfl rfl rfl) ?_ | refine wl_value rfl (ex_l1 hS rfl rfl rfl rfl) ?_ | refine wl_value rfl (ex_ldC hS rfl rfl rfl) ?_ | refine wl_value rfl (ex_l00 hS rfl rfl CellAt.out) ?_ | refine wl_value rfl (ex_l00 hS rfl rfl rfl) ?_ | refine wl_value rfl (ex_l0f hS rfl rfl CellAt.out) ?_ | refine wl_value rfl (ex_l0f hS rfl rfl rfl) ?_ | refine wl_value rfl (ex_lr hS rfl rfl rfl rfl) ?_ | refine wl_value rfl (ex_lr0 hS rfl rfl rfl) ?_ | refine wl_value rfl (ex_lrz hS rfl rfl rfl) ?_ | refine wl_value rfl (ex_lrf hS rfl rfl rfl) ?_ | refine wl_value rfl (ex_ldrC hS rfl rfl) ?_ | refine wl_value rfl (ex_ldr0 hS rfl rfl rfl) ?_); (try simp only [Act.put, List.setIfInBounds_toArray, List.set_cons_zero, List.set_cons_succ]))) | ((first | refine wl_value rfl (ex_ix hS rfl rfl rfl ?_) ?_); (focus (first | rfl | omega | (simp; done))); (try simp only [Act.put, List.setIfInBounds_toArray, List.set_cons_zero, List.set_cons_succ])) | ((first | refine wl_value rfl (ex_eqA rfl rfl rfl) ?_ | refine wl_value rfl (ex_neA rfl rfl rfl) ?_); (try simp only [Act.put, List.setIfInBounds_toArray, List.set_cons_zero, List.set_cons_succ])) | (refine wl_alloc rfl rfl hS ?_; intro _ _ hS; (try simp only [Act.put, List.setIfInBounds_toArray, List.set_cons_zero, List.set_cons_succ])) | (refine wl_box rfl rfl rfl rfl hS ?_; intro _ _ hS; (try simp only [Act.put, List.setIfInBounds_toArray, List.set_cons_zero, List.set_cons_succ])) | (refine wl_st rfl rfl rfl rfl rfl hS (of_decide_eq_true rfl) ?_; intro _ hS; (try simp only [evT, evC, List.getD_cons_succ, List.getD_cons_zero, List.set_cons_zero, List.set_cons_succ] at hS); (try simp only [List.set_cons_zero, List.set_cons_succ] at hS); (try simp only [Act.put, List.setIfInBounds_toArray, List.set_cons_zero, List.set_cons_succ])) | (refine wl_strC rfl rfl rfl rfl hS rfl rfl ?_; intro _ hS; (try simp only [evT, evC, List.getD_cons_succ, List.getD_cons_zero, List.set_cons_zero, List.set_cons_succ] at hS); (try simp only [Act.put, List.setIfInBounds_toArray, List.set_cons_zero, List.set_cons_succ])))
    have c0 := Sh.ldC (b := xb) (off := 0) (v := .string x.path) hS rfl
    have c1 := Sh.ldC (b := pb) (off := 0) (v := .string p) hS rfl
    go_wp2_with (first | (go_at_call 48; refine ((hb _ _ hS)).mono ?_; rintro e w' (⟨rfl, hS⟩)))
    go_ret
    rw [Hx.out]
    exact ⟨rfl, hS.to⟩
set_option maxRecDepth 100000 in
set_option maxHeartbeats 1600000 in
theorem Where_any [HasML B] (hS : Sh B R w) {A : Option Addr} {cap : Nat} {t : List En} [r : RdAt enE B R A t] (hl : t.length ≤ 16777216) (dir : ByteArray) (hd : dir.size ≤ 16777216) :
    Calls Tryz.prog 39 #[.slice A t.length cap, .string dir] w fun e w' => e = .returned (.int .i64 (whereI t dir)) ∧ Sh B R w' := by
  have l1 := fun (w : World) (hS : Sh B R w) => Check_any hS dir hd
  have l2 := fun (w : World) (hS : Sh B R w) (r : RdAt enE B R A t) => Place_any hS (cap := cap) (r := r) hl dir
  rw [errN_ok] at l1
  by_cases hok : okP dir = false
  · have Hx := Lib.hid (show whereI t dir = 45 by unfold whereI; rw [if_pos hok])
    rw [hok, if_neg (by decide)] at l1
    clear hok
    go_enter Tryz.func39, Tryz.ntmps39
    go_wp2_with (first | (go_at_call 45; refine ((l1 _ hS)).mono ?_; rintro e w' (⟨rfl, hS⟩)) | (refine wl_isld rfl ?_; ((first | refine wl_value rfl (ex_l0 hS rfl rfl rfl CellAt.out) ?_ | refine wl_value rfl (ex_lf hS rfl rfl rfl CellAt.out) ?_ | refine wl_value rfl (ex_l1 hS rfl rfl rfl CellAt.out) ?_ | refine wl_value rfl (ex_ldC hS rfl rfl CellAt.out) ?_ | refine wl_value rfl (ex_l0 hS rfl rfl rfl rfl) ?_ | refine wl_value rfl (ex_lf hS rfl rfl rfl rfl) ?_ | refine wl_value rfl (ex_l1 hS rfl rfl rfl rfl) ?_ | refine wl_value rfl (ex_ldC hS rfl rfl rfl) ?_ | refine wl_value rfl (ex_l00 hS rfl rfl CellAt.out) ?_ | refine wl_value rfl (ex_l00 hS rfl rfl rfl) ?_ | refine wl_value rfl (ex_l0f hS rfl rfl CellAt.out) ?_ | refine wl_value rfl (ex_l0f hS rfl rfl rfl) ?_ | refine wl_value rfl (ex_lr hS rfl rfl rfl rfl) ?_ | refine wl_value rfl (ex_lr0 hS rfl rfl rfl) ?_ | refine wl_value rfl (ex_lrz hS rfl rfl rfl) ?_ | refine wl_value rfl (ex_lrf hS rfl rfl rfl) ?_ | refine wl_value rfl (ex_ldrC hS rfl rfl) ?_ | refine wl_value rfl (ex_ldr0 hS rfl rfl rfl) ?_); (try simp only [Act.put, List.setIfInBounds_toArray, List.set_cons_zero, List.set_cons_succ]))) | ((first | refine wl_value rfl (ex_ix hS rfl rfl rfl ?_) ?_); (focus (first | rfl | omega | (simp; done))); (try simp only [Act.put, List.setIfInBounds_toArray, List.set_cons_zero, List.set_cons_succ])) | ((first | refine wl_value rfl (ex_eqA rfl rfl rfl) ?_ | refine wl_value rfl (ex_neA rfl rfl rfl) ?_); (try simp only [Act.put, List.setIfInBounds_toArray, List.set_cons_zero, List.set_cons_succ])) | (refine wl_alloc rfl rfl hS ?_; intro _ _ hS; (try simp only [Act.put, List.setIfInBounds_toArray, List.set_cons_zero, List.set_cons_succ])) | (refine wl_box rfl rfl rfl rfl hS ?_; intro _ _ hS; (try simp only [Act.put, List.setIfInBounds_toArray, List.set_cons_zero, List.set_cons_succ])) | (refine wl_st rfl rfl rfl rfl rfl hS (of_decide_eq_true rfl) ?_; intro _ hS; (try simp only [evT, evC, List.getD_cons_succ, List.getD_cons_zero, List.set_cons_zero, List.set_cons_succ] at hS); (try simp only [List.set_cons_zero, List.set_cons_succ] at hS); (try simp only [Act.put, List.setIfInBounds_toArray, List.set_cons_zero, List.set_cons_succ])) | (refine wl_strC rfl rfl rfl rfl hS rfl rfl ?_; intro _ hS; (try simp only [evT, evC, List.getD_cons_succ, List.getD_cons_zero, List.set_cons_zero, List.set_cons_succ] at hS); (try simp only [Act.put, List.setIfInBounds_toArray, List.set_cons_zero, List.set_cons_succ])))
    go_ret
    rw [Hx.out]
    exact ⟨rfl, hS⟩
  have hok1 : okP dir = true := by cases h : okP dir; exact absurd h hok; rfl
  rw [hok1, if_pos rfl] at l1
  by_cases hz : dir.size = 0
  · have Hx := Lib.hid (show whereI t dir = 0 by unfold whereI; rw [if_neg hok, if_pos hz])
    have hde : dir.toList = [] := (empty_prop dir).2 hz
    have d1 : dir.toList.isEmpty = true := by rw [hde]; rfl
    clear hok hok1 hz
    go_enter Tryz.func39, Tryz.ntmps39
    go_wp2_with (first | (go_at_call 45; refine ((l1 _ hS)).mono ?_; rintro e w' (⟨rfl, hS⟩)) | (refine wl_isld rfl ?_; ((first | refine wl_value rfl (ex_l0 hS rfl rfl rfl CellAt.out) ?_ | refine wl_value rfl (ex_lf hS rfl rfl rfl CellAt.out) ?_ | refine wl_value rfl (ex_l1 hS rfl rfl rfl CellAt.out) ?_ | refine wl_value rfl (ex_ldC hS rfl rfl CellAt.out) ?_ | refine wl_value rfl (ex_l0 hS rfl rfl rfl rfl) ?_ | refine wl_value rfl (ex_lf hS rfl rfl rfl rfl) ?_ | refine wl_value rfl (ex_l1 hS rfl rfl rfl rfl) ?_ | refine wl_value rfl (ex_ldC hS rfl rfl rfl) ?_ | refine wl_value rfl (ex_l00 hS rfl rfl CellAt.out) ?_ | refine wl_value rfl (ex_l00 hS rfl rfl rfl) ?_ | refine wl_value rfl (ex_l0f hS rfl rfl CellAt.out) ?_ | refine wl_value rfl (ex_l0f hS rfl rfl rfl) ?_ | refine wl_value rfl (ex_lr hS rfl rfl rfl rfl) ?_ | refine wl_value rfl (ex_lr0 hS rfl rfl rfl) ?_ | refine wl_value rfl (ex_lrz hS rfl rfl rfl) ?_ | refine wl_value rfl (ex_lrf hS rfl rfl rfl) ?_ | refine wl_value rfl (ex_ldrC hS rfl rfl) ?_ | refine wl_value rfl (ex_ldr0 hS rfl rfl rfl) ?_); (try simp only [Act.put, List.setIfInBounds_toArray, List.set_cons_zero, List.set_cons_succ]))) | ((first | refine wl_value rfl (ex_ix hS rfl rfl rfl ?_) ?_); (focus (first | rfl | omega | (simp; done))); (try simp only [Act.put, List.setIfInBounds_toArray, List.set_cons_zero, List.set_cons_succ])) | ((first | refine wl_value rfl (ex_eqA rfl rfl rfl) ?_ | refine wl_value rfl (ex_neA rfl rfl rfl) ?_); (try simp only [Act.put, List.setIfInBounds_toArray, List.set_cons_zero, List.set_cons_succ])) | (refine wl_alloc rfl rfl hS ?_; intro _ _ hS; (try simp only [Act.put, List.setIfInBounds_toArray, List.set_cons_zero, List.set_cons_succ])) | (refine wl_box rfl rfl rfl rfl hS ?_; intro _ _ hS; (try simp only [Act.put, List.setIfInBounds_toArray, List.set_cons_zero, List.set_cons_succ])) | (refine wl_st rfl rfl rfl rfl rfl hS (of_decide_eq_true rfl) ?_; intro _ hS; (try simp only [evT, evC, List.getD_cons_succ, List.getD_cons_zero, List.set_cons_zero, List.set_cons_succ] at hS); (try simp only [List.set_cons_zero, List.set_cons_succ] at hS); (try simp only [Act.put, List.setIfInBounds_toArray, List.set_cons_zero, List.set_cons_succ])) | (refine wl_strC rfl rfl rfl rfl hS rfl rfl ?_; intro _ hS; (try simp only [evT, evC, List.getD_cons_succ, List.getD_cons_zero, List.set_cons_zero, List.set_cons_succ] at hS); (try simp only [Act.put, List.setIfInBounds_toArray, List.set_cons_zero, List.set_cons_succ])))
    go_ret
    rw [Hx.out]
    exact ⟨rfl, hS⟩
  have hde : ¬ dir.toList = [] := fun h => hz ((empty_prop dir).1 h)
  have d1 : dir.toList.isEmpty = false := by rw [empty_iff]; exact decide_eq_false hz
  rcases find_idx (t := t) (p := dir) with ⟨h1, _, _, _, _⟩ | ⟨i, x, h1, _, gx, _, h4, _⟩
  · rw [h1] at l2
    have Hx := Lib.hid (show whereI t dir = 8 by unfold whereI; rw [if_neg hok, if_neg hz, if_pos h1])
    clear hok hok1 hz h1
    go_enter Tryz.func39, Tryz.ntmps39
    go_wp2_with (first | (go_at_call 45; refine ((l1 _ hS)).mono ?_; rintro e w' (⟨rfl, hS⟩)) | (go_at_call 42; refine ((l2 _ hS inferInstance)).mono ?_; rintro e w' (⟨rfl, hS⟩)) | (refine wl_isld rfl ?_; ((first | refine wl_value rfl (ex_l0 hS rfl rfl rfl CellAt.out) ?_ | refine wl_value rfl (ex_lf hS rfl rfl rfl CellAt.out) ?_ | refine wl_value rfl (ex_l1 hS rfl rfl rfl CellAt.out) ?_ | refine wl_value rfl (ex_ldC hS rfl rfl CellAt.out) ?_ | refine wl_value rfl (ex_l0 hS rfl rfl rfl rfl) ?_ | refine wl_value rfl (ex_lf hS rfl rfl rfl rfl) ?_ | refine wl_value rfl (ex_l1 hS rfl rfl rfl rfl) ?_ | refine wl_value rfl (ex_ldC hS rfl rfl rfl) ?_ | refine wl_value rfl (ex_l00 hS rfl rfl CellAt.out) ?_ | refine wl_value rfl (ex_l00 hS rfl rfl rfl) ?_ | refine wl_value rfl (ex_l0f hS rfl rfl CellAt.out) ?_ | refine wl_value rfl (ex_l0f hS rfl rfl rfl) ?_ | refine wl_value rfl (ex_lr hS rfl rfl rfl rfl) ?_ | refine wl_value rfl (ex_lr0 hS rfl rfl rfl) ?_ | refine wl_value rfl (ex_lrz hS rfl rfl rfl) ?_ | refine wl_value rfl (ex_lrf hS rfl rfl rfl) ?_ | refine wl_value rfl (ex_ldrC hS rfl rfl) ?_ | refine wl_value rfl (ex_ldr0 hS rfl rfl rfl) ?_); (try simp only [Act.put, List.setIfInBounds_toArray, List.set_cons_zero, List.set_cons_succ]))) | ((first | refine wl_value rfl (ex_ix hS rfl rfl rfl ?_) ?_); (focus (first | rfl | omega | (simp; done))); (try simp only [Act.put, List.setIfInBounds_toArray, List.set_cons_zero, List.set_cons_succ])) | ((first | refine wl_value rfl (ex_eqA rfl rfl rfl) ?_ | refine wl_value rfl (ex_neA rfl rfl rfl) ?_); (try simp only [Act.put, List.setIfInBounds_toArray, List.set_cons_zero, List.set_cons_succ])) | (refine wl_alloc rfl rfl hS ?_; intro _ _ hS; (try simp only [Act.put, List.setIfInBounds_toArray, List.set_cons_zero, List.set_cons_succ])) | (refine wl_box rfl rfl rfl rfl hS ?_; intro _ _ hS; (try simp only [Act.put, List.setIfInBounds_toArray, List.set_cons_zero, List.set_cons_succ])) | (refine wl_st rfl rfl rfl rfl rfl hS (of_decide_eq_true rfl) ?_; intro _ hS; (try simp only [evT, evC, List.getD_cons_succ, List.getD_cons_zero, List.set_cons_zero, List.set_cons_succ] at hS); (try simp only [List.set_cons_zero, List.set_cons_succ] at hS); (try simp only [Act.put, List.setIfInBounds_toArray, List.set_cons_zero, List.set_cons_succ])) | (refine wl_strC rfl rfl rfl rfl hS rfl rfl ?_; intro _ hS; (try simp only [evT, evC, List.getD_cons_succ, List.getD_cons_zero, List.set_cons_zero, List.set_cons_succ] at hS); (try simp only [Act.put, List.setIfInBounds_toArray, List.set_cons_zero, List.set_cons_succ])))
    go_ret
    rw [Hx.out]
    exact ⟨rfl, hS⟩
  · rw [h1] at l2
    have d4 : decide ((i : Int) < 0) = false := decide_eq_false (by omega)
    by_cases hk : x.kind = 2
    · have d5 : (x.kind == 2) = true := by simp [hk]
      have d6 : (x.kind != 2) = false := by simp [hk]
      have Hx := Lib.hid (show whereI t dir = 0 by unfold whereI; rw [if_neg hok, if_neg hz, if_neg (by omega), h4, if_pos hk])
      clear hok hok1 hz h1 h4 hk
      go_enter Tryz.func39, Tryz.ntmps39
      go_wp2_with (first | (go_at_call 45; refine ((l1 _ hS)).mono ?_; rintro e w' (⟨rfl, hS⟩)) | (go_at_call 42; refine ((l2 _ hS inferInstance)).mono ?_; rintro e w' (⟨rfl, hS⟩)) | (refine wl_isld rfl ?_; ((first | refine wl_value rfl (ex_l0 hS rfl rfl rfl CellAt.out) ?_ | refine wl_value rfl (ex_lf hS rfl rfl rfl CellAt.out) ?_ | refine wl_value rfl (ex_l1 hS rfl rfl rfl CellAt.out) ?_ | refine wl_value rfl (ex_ldC hS rfl rfl CellAt.out) ?_ | refine wl_value rfl (ex_l0 hS rfl rfl rfl rfl) ?_ | refine wl_value rfl (ex_lf hS rfl rfl rfl rfl) ?_ | refine wl_value rfl (ex_l1 hS rfl rfl rfl rfl) ?_ | refine wl_value rfl (ex_ldC hS rfl rfl rfl) ?_ | refine wl_value rfl (ex_l00 hS rfl rfl CellAt.out) ?_ | refine wl_value rfl (ex_l00 hS rfl rfl rfl) ?_ | refine wl_value rfl (ex_l0f hS rfl rfl CellAt.out) ?_ | refine wl_value rfl (ex_l0f hS rfl rfl rfl) ?_ | refine wl_value rfl (ex_lr hS rfl rfl rfl rfl) ?_ | refine wl_value rfl (ex_lr0 hS rfl rfl rfl) ?_ | refine wl_value rfl (ex_lrz hS rfl rfl rfl) ?_ | refine wl_value rfl (ex_lrf hS rfl rfl rfl) ?_ | refine wl_value rfl (ex_ldrC hS rfl rfl) ?_ | refine wl_value rfl (ex_ldr0 hS rfl rfl rfl) ?_); (try simp only [Act.put, List.setIfInBounds_toArray, List.set_cons_zero, List.set_cons_succ]))) | ((first | refine wl_value rfl (ex_ix hS rfl rfl rfl ?_) ?_); (focus (first | rfl | omega | (simp; done))); (try simp only [Act.put, List.setIfInBounds_toArray, List.set_cons_zero, List.set_cons_succ])) | ((first | refine wl_value rfl (ex_eqA rfl rfl rfl) ?_ | refine wl_value rfl (ex_neA rfl rfl rfl) ?_); (try simp only [Act.put, List.setIfInBounds_toArray, List.set_cons_zero, List.set_cons_succ])) | (refine wl_alloc rfl rfl hS ?_; intro _ _ hS; (try simp only [Act.put, List.setIfInBounds_toArray, List.set_cons_zero, List.set_cons_succ])) | (refine wl_box rfl rfl rfl rfl hS ?_; intro _ _ hS; (try simp only [Act.put, List.setIfInBounds_toArray, List.set_cons_zero, List.set_cons_succ])) | (refine wl_st rfl rfl rfl rfl rfl hS (of_decide_eq_true rfl) ?_; intro _ hS; (try simp only [evT, evC, List.getD_cons_succ, List.getD_cons_zero, List.set_cons_zero, List.set_cons_succ] at hS); (try simp only [List.set_cons_zero, List.set_cons_succ] at hS); (try simp only [Act.put, List.setIfInBounds_toArray, List.set_cons_zero, List.set_cons_succ])) | (refine wl_strC rfl rfl rfl rfl hS rfl rfl ?_; intro _ hS; (try simp only [evT, evC, List.getD_cons_succ, List.getD_cons_zero, List.set_cons_zero, List.set_cons_succ] at hS); (try simp only [Act.put, List.setIfInBounds_toArray, List.set_cons_zero, List.set_cons_succ])))
      go_ret
      rw [Hx.out]
      exact ⟨rfl, hS⟩
    · have d5 : (x.kind == 2) = false := beq_no hk
      have d6 : (x.kind != 2) = true := bne_no hk
      have Hx := Lib.hid (show whereI t dir = 102 by unfold whereI; rw [if_neg hok, if_neg hz, if_neg (by omega), h4, if_neg hk])
      clear hok hok1 hz h1 h4 hk
      go_enter Tryz.func39, Tryz.ntmps39
      go_wp2_with (first | (go_at_call 45; refine ((l1 _ hS)).mono ?_; rintro e w' (⟨rfl, hS⟩)) | (go_at_call 42; refine ((l2 _ hS inferInstance)).mono ?_; rintro e w' (⟨rfl, hS⟩)) | (refine wl_isld rfl ?_; ((first | refine wl_value rfl (ex_l0 hS rfl rfl rfl CellAt.out) ?_ | refine wl_value rfl (ex_lf hS rfl rfl rfl CellAt.out) ?_ | refine wl_value rfl (ex_l1 hS rfl rfl rfl CellAt.out) ?_ | refine wl_value rfl (ex_ldC hS rfl rfl CellAt.out) ?_ | refine wl_value rfl (ex_l0 hS rfl rfl rfl rfl) ?_ | refine wl_value rfl (ex_lf hS rfl rfl rfl rfl) ?_ | refine wl_value rfl (ex_l1 hS rfl rfl rfl rfl) ?_ | refine wl_value rfl (ex_ldC hS rfl rfl rfl) ?_ | refine wl_value rfl (ex_l00 hS rfl rfl CellAt.out) ?_ | refine wl_value rfl (ex_l00 hS rfl rfl rfl) ?_ | refine wl_value rfl (ex_l0f hS rfl rfl CellAt.out) ?_ | refine wl_value rfl (ex_l0f hS rfl rfl rfl) ?_ | refine wl_value rfl (ex_lr hS rfl rfl rfl rfl) ?_ | refine wl_value rfl (ex_lr0 hS rfl rfl rfl) ?_ | refine wl_value rfl (ex_lrz hS rfl rfl rfl) ?_ | refine wl_value rfl (ex_lrf hS rfl rfl rfl) ?_ | refine wl_value rfl (ex_ldrC hS rfl rfl) ?_ | refine wl_value rfl (ex_ldr0 hS rfl rfl rfl) ?_); (try simp only [Act.put, List.setIfInBounds_toArray, List.set_cons_zero, List.set_cons_succ]))) | ((first | refine wl_value rfl (ex_ix hS rfl rfl rfl ?_) ?_); (focus (first | rfl | omega | (simp; done))); (try simp only [Act.put, List.setIfInBounds_toArray, List.set_cons_zero, List.set_cons_succ])) | ((first | refine wl_value rfl (ex_eqA rfl rfl rfl) ?_ | refine wl_value rfl (ex_neA rfl rfl rfl) ?_); (try simp only [Act.put, List.setIfInBounds_toArray, List.set_cons_zero, List.set_cons_succ])) | (refine wl_alloc rfl rfl hS ?_; intro _ _ hS; (try simp only [Act.put, List.setIfInBounds_toArray, List.set_cons_zero, List.set_cons_succ])) | (refine wl_box rfl rfl rfl rfl hS ?_; intro _ _ hS; (try simp only [Act.put, List.setIfInBounds_toArray, List.set_cons_zero, List.set_cons_succ])) | (refine wl_st rfl rfl rfl rfl rfl hS (of_decide_eq_true rfl) ?_; intro _ hS; (try simp only [evT, evC, List.getD_cons_succ, List.getD_cons_zero, List.set_cons_zero, List.set_cons_succ] at hS); (try simp only [List.set_cons_zero, List.set_cons_succ] at hS); (try simp only [Act.put, List.setIfInBounds_toArray, List.set_cons_zero, List.set_cons_succ])) | (refine wl_strC rfl rfl rfl rfl hS rfl rfl ?_; intro _ hS; (try simp only [evT, evC, List.getD_cons_succ, List.getD_cons_zero, List.set_cons_zero, List.set_cons_succ] at hS); (try simp only [Act.put, List.setIfInBounds_toArray, List.set_cons_zero, List.set_cons_succ])))
      go_ret
      rw [Hx.out]
      exact ⟨rfl, hS⟩
set_option maxRecDepth 100000 in
set_option maxHeartbeats 1600000 in
theorem TFind_any [HasML B] [NoDraw B] (hS : Sh B R w) {A : Option Addr} {cap : Nat} {t : List En} [r : RdAt enE B R A t] (hl : t.length ≤ 16777216) (hsm : SmallE t) (p : ByteArray) :
    Calls Tryz.prog 19 #[.slice A t.length cap, .string p] w fun e w' => e = .returned (.tuple #[.agg (findE t p).1.cells.toArray, .bool (findE t p).2]) ∧ Sh B R w' := by
  have l1 := fun (w : World) (H : HL) (hS : Sh B H w) (r : RdAt enE B H A t) => Right_any hS (A := A) (cap := cap) (t := t) (r := r) hl hsm
  have l2 := fun (w : World) (H : HL) (hS : Sh B H w) (r : RdAt enE B H A t) => Place_any hS (cap := cap) (r := r) hl p
  by_cases ha : (checkA t).2 = 0
  · rw [ha] at l1
    rcases find_idx (t := t) (p := p) with ⟨h1, _, _, h4, _⟩ | ⟨i, x, h1, _, gx, _, _, h4⟩
    · rw [h1] at l2
      have Hx := Lib.hid (show findE t p = (zE, false) by unfold findE; rw [if_pos ha, h4, h1]; rfl)
      clear ha h1 h4
      go_enter Tryz.func19, Tryz.ntmps19
      go_wp2_with (first | (refine wl_alloc rfl rfl hS ?_; intro rb _ hS; (try simp only [Act.put, List.setIfInBounds_toArray, List.set_cons_zero, List.set_cons_succ])) | (refine wl_build (zE.cells) _ rfl rfl (by simp only [List.map_toArray, List.map_cons, List.map_nil]; rfl) rfl ?_; (try simp only [Act.put, List.setIfInBounds_toArray, List.set_cons_zero, List.set_cons_succ])) | (go_at_call 37; refine ((l1 _ _ hS inferInstance)).mono ?_; rintro e w' (⟨rfl, hS⟩)) | (go_at_call 42; refine ((l2 _ _ hS inferInstance)).mono ?_; rintro e w' (⟨rfl, hS⟩)) | (refine wl_isld rfl ?_; ((first | refine wl_value rfl (ex_l0 hS rfl rfl rfl CellAt.out) ?_ | refine wl_value rfl (ex_lf hS rfl rfl rfl CellAt.out) ?_ | refine wl_value rfl (ex_l1 hS rfl rfl rfl CellAt.out) ?_ | refine wl_value rfl (ex_ldC hS rfl rfl CellAt.out) ?_ | refine wl_value rfl (ex_l0 hS rfl rfl rfl rfl) ?_ | refine wl_value rfl (ex_lf hS rfl rfl rfl rfl) ?_ | refine wl_value rfl (ex_l1 hS rfl rfl rfl rfl) ?_ | refine wl_value rfl (ex_ldC hS rfl rfl rfl) ?_ | refine wl_value rfl (ex_l00 hS rfl rfl CellAt.out) ?_ | refine wl_value rfl (ex_l00 hS rfl rfl rfl) ?_ | refine wl_value rfl (ex_l0f hS rfl rfl CellAt.out) ?_ | refine wl_value rfl (ex_l0f hS rfl rfl rfl) ?_ | refine wl_value rfl (ex_lr hS rfl rfl rfl rfl) ?_ | refine wl_value rfl (ex_lr0 hS rfl rfl rfl) ?_ | refine wl_value rfl (ex_lrz hS rfl rfl rfl) ?_ | refine wl_value rfl (ex_lrf hS rfl rfl rfl) ?_ | refine wl_value rfl (ex_ldrC hS rfl rfl) ?_ | refine wl_value rfl (ex_ldr0 hS rfl rfl rfl) ?_); (try simp only [Act.put, List.setIfInBounds_toArray, List.set_cons_zero, List.set_cons_succ]))) | ((first | refine wl_value rfl (ex_ix hS rfl rfl rfl ?_) ?_); (focus (first | rfl | omega | (simp; done))); (try simp only [Act.put, List.setIfInBounds_toArray, List.set_cons_zero, List.set_cons_succ])) | ((first | refine wl_value rfl (ex_eqA rfl rfl rfl) ?_ | refine wl_value rfl (ex_neA rfl rfl rfl) ?_); (try simp only [Act.put, List.setIfInBounds_toArray, List.set_cons_zero, List.set_cons_succ])) | (refine wl_alloc rfl rfl hS ?_; intro _ _ hS; (try simp only [Act.put, List.setIfInBounds_toArray, List.set_cons_zero, List.set_cons_succ])) | (refine wl_box rfl rfl rfl rfl hS ?_; intro _ _ hS; (try simp only [Act.put, List.setIfInBounds_toArray, List.set_cons_zero, List.set_cons_succ])) | (refine wl_st rfl rfl rfl rfl rfl hS (of_decide_eq_true rfl) ?_; intro _ hS; (try simp only [evT, evC, List.getD_cons_succ, List.getD_cons_zero, List.set_cons_zero, List.set_cons_succ] at hS); (try simp only [List.set_cons_zero, List.set_cons_succ] at hS); (try simp only [Act.put, List.setIfInBounds_toArray, List.set_cons_zero, List.set_cons_succ])) | (refine wl_strC rfl rfl rfl rfl hS rfl rfl ?_; intro _ hS; (try simp only [evT, evC, List.getD_cons_succ, List.getD_cons_zero, List.set_cons_zero, List.set_cons_succ] at hS); (try simp only [Act.put, List.setIfInBounds_toArray, List.set_cons_zero, List.set_cons_succ])))
      refine bodyPost_res (rs := ([.cell 4 24, .tmp 5])) rfl ((.cell rfl (ldv_all hS rfl) (.tmp .nil))) rfl ?_
      rw [Hx.out]
      exact ⟨rfl, hS.to⟩
    · rw [h1] at l2
      have d4 : decide ((0 : Int) ≤ (i : Int)) = true := decide_eq_true (by omega)
      have Hx := Lib.hid (show findE t p = (x, true) by unfold findE; rw [if_pos ha, h4, h1]; have : ¬ ((i : Int) = -1) := by omega
                                                        simp [this])
      clear ha h1 h4
      go_enter Tryz.func19, Tryz.ntmps19
      go_wp2_with (first | (refine wl_alloc rfl rfl hS ?_; intro rb _ hS; (try simp only [Act.put, List.setIfInBounds_toArray, List.set_cons_zero, List.set_cons_succ])) | (go_at_call 37; refine ((l1 _ _ hS inferInstance)).mono ?_; rintro e w' (⟨rfl, hS⟩)) | (go_at_call 42; refine ((l2 _ _ hS inferInstance)).mono ?_; rintro e w' (⟨rfl, hS⟩)) | (refine wl_isld rfl ?_; ((first | refine wl_value rfl (ex_l0 hS rfl rfl rfl CellAt.out) ?_ | refine wl_value rfl (ex_lf hS rfl rfl rfl CellAt.out) ?_ | refine wl_value rfl (ex_l1 hS rfl rfl rfl CellAt.out) ?_ | refine wl_value rfl (ex_ldC hS rfl rfl CellAt.out) ?_ | refine wl_value rfl (ex_l0 hS rfl rfl rfl rfl) ?_ | refine wl_value rfl (ex_lf hS rfl rfl rfl rfl) ?_ | refine wl_value rfl (ex_l1 hS rfl rfl rfl rfl) ?_ | refine wl_value rfl (ex_ldC hS rfl rfl rfl) ?_ | refine wl_value rfl (ex_l00 hS rfl rfl CellAt.out) ?_ | refine wl_value rfl (ex_l00 hS rfl rfl rfl) ?_ | refine wl_value rfl (ex_l0f hS rfl rfl CellAt.out) ?_ | refine wl_value rfl (ex_l0f hS rfl rfl rfl) ?_ | refine wl_value rfl (ex_lr hS rfl rfl rfl rfl) ?_ | refine wl_value rfl (ex_lr0 hS rfl rfl rfl) ?_ | refine wl_value rfl (ex_lrz hS rfl rfl rfl) ?_ | refine wl_value rfl (ex_lrf hS rfl rfl rfl) ?_ | refine wl_value rfl (ex_ldrC hS rfl rfl) ?_ | refine wl_value rfl (ex_ldr0 hS rfl rfl rfl) ?_); (try simp only [Act.put, List.setIfInBounds_toArray, List.set_cons_zero, List.set_cons_succ]))) | ((first | refine wl_value rfl (ex_ix hS rfl rfl rfl ?_) ?_); (focus (first | rfl | omega | (simp; done))); (try simp only [Act.put, List.setIfInBounds_toArray, List.set_cons_zero, List.set_cons_succ])) | ((first | refine wl_value rfl (ex_eqA rfl rfl rfl) ?_ | refine wl_value rfl (ex_neA rfl rfl rfl) ?_); (try simp only [Act.put, List.setIfInBounds_toArray, List.set_cons_zero, List.set_cons_succ])) | (refine wl_alloc rfl rfl hS ?_; intro _ _ hS; (try simp only [Act.put, List.setIfInBounds_toArray, List.set_cons_zero, List.set_cons_succ])) | (refine wl_box rfl rfl rfl rfl hS ?_; intro _ _ hS; (try simp only [Act.put, List.setIfInBounds_toArray, List.set_cons_zero, List.set_cons_succ])) | (refine wl_st rfl rfl rfl rfl rfl hS (of_decide_eq_true rfl) ?_; intro _ hS; (try simp only [evT, evC, List.getD_cons_succ, List.getD_cons_zero, List.set_cons_zero, List.set_cons_succ] at hS); (try simp only [List.set_cons_zero, List.set_cons_succ] at hS); (try simp only [Act.put, List.setIfInBounds_toArray, List.set_cons_zero, List.set_cons_succ])) | (refine wl_strC rfl rfl rfl rfl hS rfl rfl ?_; intro _ hS; (try simp only [evT, evC, List.getD_cons_succ, List.getD_cons_zero, List.set_cons_zero, List.set_cons_succ] at hS); (try simp only [Act.put, List.setIfInBounds_toArray, List.set_cons_zero, List.set_cons_succ])))
      refine bodyPost_res (rs := ([.cell 4 24, .tmp 5])) rfl ((.cell rfl (ldv_all hS rfl) (.tmp .nil))) rfl ?_
      rw [Hx.out]
      exact ⟨rfl, hS.to⟩
  · have Hx := Lib.hid (show findE t p = (zE, false) by unfold findE; rw [if_neg ha])
    have d2 : ((checkA t).2 == 0) = false := beq_no ha
    have d3 : ((checkA t).2 != 0) = true := bne_no ha
    clear ha
    go_enter Tryz.func19, Tryz.ntmps19
    go_wp2_with (first | (refine wl_alloc rfl rfl hS ?_; intro rb _ hS; (try simp only [Act.put, List.setIfInBounds_toArray, List.set_cons_zero, List.set_cons_succ])) | (refine wl_build (zE.cells) _ rfl rfl (by simp only [List.map_toArray, List.map_cons, List.map_nil]; rfl) rfl ?_; (try simp only [Act.put, List.setIfInBounds_toArray, List.set_cons_zero, List.set_cons_succ])) | (go_at_call 37; refine ((l1 _ _ hS inferInstance)).mono ?_; rintro e w' (⟨rfl, hS⟩)) | (refine wl_isld rfl ?_; ((first | refine wl_value rfl (ex_l0 hS rfl rfl rfl CellAt.out) ?_ | refine wl_value rfl (ex_lf hS rfl rfl rfl CellAt.out) ?_ | refine wl_value rfl (ex_l1 hS rfl rfl rfl CellAt.out) ?_ | refine wl_value rfl (ex_ldC hS rfl rfl CellAt.out) ?_ | refine wl_value rfl (ex_l0 hS rfl rfl rfl rfl) ?_ | refine wl_value rfl (ex_lf hS rfl rfl rfl rfl) ?_ | refine wl_value rfl (ex_l1 hS rfl rfl rfl rfl) ?_ | refine wl_value rfl (ex_ldC hS rfl rfl rfl) ?_ | refine wl_value rfl (ex_l00 hS rfl rfl CellAt.out) ?_ | refine wl_value rfl (ex_l00 hS rfl rfl rfl) ?_ | refine wl_value rfl (ex_l0f hS rfl rfl CellAt.out) ?_ | refine wl_value rfl (ex_l0f hS rfl rfl rfl) ?_ | refine wl_value rfl (ex_lr hS rfl rfl rfl rfl) ?_ | refine wl_value rfl (ex_lr0 hS rfl rfl rfl) ?_ | refine wl_value rfl (ex_lrz hS rfl rfl rfl) ?_ | refine wl_value rfl (ex_lrf hS rfl rfl rfl) ?_ | refine wl_value rfl (ex_ldrC hS rfl rfl) ?_ | refine wl_value rfl (ex_ldr0 hS rfl rfl rfl) ?_); (try simp only [Act.put, List.setIfInBounds_toArray, List.set_cons_zero, List.set_cons_succ]))) | ((first | refine wl_value rfl (ex_ix hS rfl rfl rfl ?_) ?_); (focus (first | rfl | omega | (simp; done))); (try simp only [Act.put, List.setIfInBounds_toArray, List.set_cons_zero, List.set_cons_succ])) | ((first | refine wl_value rfl (ex_eqA rfl rfl rfl) ?_ | refine wl_value rfl (ex_neA rfl rfl rfl) ?_); (try simp only [Act.put, List.setIfInBounds_toArray, List.set_cons_zero, List.set_cons_succ])) | (refine wl_alloc rfl rfl hS ?_; intro _ _ hS; (try simp only [Act.put, List.setIfInBounds_toArray, List.set_cons_zero, List.set_cons_succ])) | (refine wl_box rfl rfl rfl rfl hS ?_; intro _ _ hS; (try simp only [Act.put, List.setIfInBounds_toArray, List.set_cons_zero, List.set_cons_succ])) | (refine wl_st rfl rfl rfl rfl rfl hS (of_decide_eq_true rfl) ?_; intro _ hS; (try simp only [evT, evC, List.getD_cons_succ, List.getD_cons_zero, List.set_cons_zero, List.set_cons_succ] at hS); (try simp only [List.set_cons_zero, List.set_cons_succ] at hS); (try simp only [Act.put, List.setIfInBounds_toArray, List.set_cons_zero, List.set_cons_succ])) | (refine wl_strC rfl rfl rfl rfl hS rfl rfl ?_; intro _ hS; (try simp only [evT, evC, List.getD_cons_succ, List.getD_cons_zero, List.set_cons_zero, List.set_cons_succ] at hS); (try simp only [Act.put, List.setIfInBounds_toArray, List.set_cons_zero, List.set_cons_succ])))
    refine bodyPost_res (rs := ([.cell 4 24, .tmp 5])) rfl ((.cell rfl (ldv_all hS rfl) (.tmp .nil))) rfl ?_
    rw [Hx.out]
    exact ⟨rfl, hS.to⟩
end
end Go.Tk

set_option linter.unusedSectionVars false
set_option linter.unusedSimpArgs false
set_option linter.unusedVariables false
namespace Go.Tk
open Go.RowKit Go.Proofs
section
variable {B : Base} {R H H1 : HL} {w w' : World}
set_option maxRecDepth 100000 in
set_option maxHeartbeats 1600000 in
theorem TRemove_any [HasML B] [NoDraw B] (hS : Sh B R w) {A : Option Addr} {cap : Nat} {t : List En} [r : RdAt enE B R A t] (hl : t.length ≤ 16777216) (hsm : SmallE t) (p : ByteArray) (hp : p.size ≤ 16777216) :
    Calls Tryz.prog 14 #[.slice A t.length cap, .string p] w (ApplyP B R (removeR t p)) := by
  have l1 := fun (w : World) (H : HL) (hS : Sh B H w) (r : RdAt enE B H A t) => Right_any hS (A := A) (cap := cap) (t := t) (r := r) hl hsm
  have l2 := fun (w : World) (H : HL) (hS : Sh B H w) => Check_any hS p hp
  have l3 := fun (w : World) (H : HL) (hS : Sh B H w) (r : RdAt enE B H A t) => Place_any hS (cap := cap) (r := r) hl p
  rw [errN_ok] at l2
  by_cases ha : (checkA t).2 = 0
  · rw [ha] at l1
    by_cases hok : okP p = true
    · rw [hok, if_pos rfl] at l2
      rcases find_idx (t := t) (p := p) with ⟨h1, _, _, _, _⟩ | ⟨i, x, h1, _, gx, _, _, _⟩
      · rw [h1] at l3
        have Hx := Lib.hid (show removeR t p = ([], 8) by unfold removeR; rw [if_pos ha, if_pos hok, if_pos h1])
        clear ha hok h1
        go_enter Tryz.func14, Tryz.ntmps14
        go_wp2_with (first | (refine wl_box rfl rfl rfl rfl hS ?_; intro pb _ hS; (try simp only [Act.put, List.setIfInBounds_toArray, List.set_cons_zero, List.set_cons_succ])) | (go_at_call 37; refine ((l1 _ _ hS inferInstance)).mono ?_; rintro e w' (⟨rfl, hS⟩)) | (go_at_call 45; refine ((l2 _ _ hS)).mono ?_; rintro e w' (⟨rfl, hS⟩)) | (go_at_call 42; refine ((l3 _ _ hS inferInstance)).mono ?_; rintro e w' (⟨rfl, hS⟩)) | (refine wl_isld rfl ?_; ((refine wl_value rfl (ex_ldC hS rfl rfl CellAt.out) ?_); (try simp only [Act.put, List.setIfInBounds_toArray, List.set_cons_zero, List.set_cons_succ]))))
        go_ret2
        rw [Hx.out]
        exact .bad hS.to
      · rw [h1] at l3
        have d4 : decide ((i : Int) < 0) = false := decide_eq_false (by omega)
        have Hx := Lib.hid (show removeR t p = (t.filter fun x => !goneB p x, 0) by unfold removeR; rw [if_pos ha, if_pos hok, if_neg (by omega)])
        have hcl := fun (w : World) (R : HL) (hS : Sh B R w) (r : RdAt enE B R A t) => CloneE_any hS (cap := cap) (t := t) (r := r) hl
        have hsz : ∀ e ∈ t, e.path.size ≤ 16777216 := fun e he => (hsm e he).1
        have hdl := fun (w : World) (pb : Nat) (A3 : Option Addr) (sp3 : List Value) (cap3 : Nat) (hO : OwnSl enE A3 t sp3 cap3) (hS : Sh B (rowA A3 (flat enE t ++ sp3) 24 ++ (cellB pb [.string p] 9 ++ R)) w) => DelF_any (rm1_any hp) hO hS hl hsz
        clear ha hok h1 hsz
        go_enter Tryz.func14, Tryz.ntmps14
        go_wp2_with (first | (refine wl_box rfl rfl rfl rfl hS ?_; intro pb _ hS; (try simp only [Act.put, List.setIfInBounds_toArray, List.set_cons_zero, List.set_cons_succ])) | (go_at_call 37; refine ((l1 _ _ hS inferInstance)).mono ?_; rintro e w' (⟨rfl, hS⟩)) | (go_at_call 45; refine ((l2 _ _ hS)).mono ?_; rintro e w' (⟨rfl, hS⟩)) | (go_at_call 42; refine ((l3 _ _ hS inferInstance)).mono ?_; rintro e w' (⟨rfl, hS⟩)) | (go_at_call 41; refine ((hcl _ _ hS inferInstance)).mono ?_; rintro e w' (⟨A2, sp2, cap2, rfl, hO, hS⟩)) | (go_at_call 46; refine ((hdl _ _ _ _ _ hO hS)).mono ?_; rintro e w' (⟨sp3, rfl, hO3, hS⟩)) | (refine wl_isld rfl ?_; ((refine wl_value rfl (ex_ldC hS rfl rfl CellAt.out) ?_); (try simp only [Act.put, List.setIfInBounds_toArray, List.set_cons_zero, List.set_cons_succ]))))
        go_ret2
        rw [Hx.out]
        exact ⟨_, _, _, rfl, hO3, hS.to⟩
    · rw [if_neg hok] at l2
      have Hx := Lib.hid (show removeR t p = ([], 45) by unfold removeR; rw [if_pos ha, if_neg hok])
      clear ha hok
      go_enter Tryz.func14, Tryz.ntmps14
      go_wp2_with (first | (refine wl_box rfl rfl rfl rfl hS ?_; intro pb _ hS; (try simp only [Act.put, List.setIfInBounds_toArray, List.set_cons_zero, List.set_cons_succ])) | (go_at_call 37; refine ((l1 _ _ hS inferInstance)).mono ?_; rintro e w' (⟨rfl, hS⟩)) | (go_at_call 45; refine ((l2 _ _ hS)).mono ?_; rintro e w' (⟨rfl, hS⟩)) | (refine wl_isld rfl ?_; ((refine wl_value rfl (ex_ldC hS rfl rfl CellAt.out) ?_); (try simp only [Act.put, List.setIfInBounds_toArray, List.set_cons_zero, List.set_cons_succ]))))
      go_ret2
      rw [Hx.out]
      exact .bad hS.to
  · have Hx := Lib.hid (show removeR t p = ([], (checkA t).2) by unfold removeR; rw [if_neg ha])
    have d2 : ((checkA t).2 == 0) = false := beq_no ha
    have d3 : ((checkA t).2 != 0) = true := bne_no ha
    clear ha
    go_enter Tryz.func14, Tryz.ntmps14
    go_wp2_with (first | (refine wl_box rfl rfl rfl rfl hS ?_; intro pb _ hS; (try simp only [Act.put, List.setIfInBounds_toArray, List.set_cons_zero, List.set_cons_succ])) | (go_at_call 37; refine ((l1 _ _ hS inferInstance)).mono ?_; rintro e w' (⟨rfl, hS⟩)))
    go_ret2
    rw [Hx.out]
    exact .bad hS.to
theorem kindB {a b : Int} : (decide (a = 2) = decide (b = 2)) → ((a == 2) != (b == 2)) = false := by
  intro h
  have h1 : (a == 2) = decide (a = 2) := by rw [Bool.eq_iff_iff]; simp
  have h2 : (b == 2) = decide (b = 2) := by rw [Bool.eq_iff_iff]; simp
  rw [h1, h2, h]
  cases decide (b = 2) <;> rfl
/-- What comes of putting: too much, or the tree. -/
def fitR (out : List En) : List En × Int := if fitsI out = 0 then (srt out, 0) else ([], fitsI out)
set_option maxRecDepth 100000 in
set_option maxHeartbeats 3200000 in
theorem TPut_any [HasML B] [NoDraw B] (hS : Sh B R w) {A : Option Addr} {cap : Nat} {t : List En} [r : RdAt enE B R A t] (hl : t.length ≤ 16777216) (hsm : SmallE t) (e : En) (hp : e.path.size ≤ 16777216) (hdz : e.data.size ≤ 16777216) :
    Calls Tryz.prog 13 #[.slice A t.length cap, .agg e.cells.toArray] w (ApplyP B R (putR t e)) := by
  have l1 := fun (w : World) (H : HL) (hS : Sh B H w) (r : RdAt enE B H A t) => Right_any hS (A := A) (cap := cap) (t := t) (r := r) hl hsm
  have l2 := fun (w : World) (H : HL) (hS : Sh B H w) => May_any hS e hp
  have l3 := fun (w : World) (H : HL) (hS : Sh B H w) => Up_any hS e.path hp
  have l4 := fun (w : World) (H : HL) (hS : Sh B H w) (r : RdAt enE B H A t) => Where_any hS (cap := cap) (r := r) hl (upP e.path) (Nat.le_trans (upP_le _) hp)
  have l5 := fun (w : World) (H : HL) (hS : Sh B H w) (r : RdAt enE B H A t) => Place_any hS (cap := cap) (r := r) hl e.path
  by_cases ha : (checkA t).2 = 0
  · obtain ⟨_, hT⟩ := right_of ha
    rw [ha] at l1
    by_cases hm : mayB e = true
    · rw [hm] at l2
      by_cases hw : whereI t (upP e.path) = 0
      · rw [hw] at l4
        obtain ⟨X, hX⟩ : ∃ X, putR t e = X := ⟨_, rfl⟩
        rw [hX]
        unfold putR at hX
        rw [if_pos ha, if_pos hm, if_pos hw] at hX
        have hfew := hT.few
        have hcl := fun (w : World) (R : HL) (hS : Sh B R w) (r : RdAt enE B R A t) => CloneE_any hS (cap := cap) (t := t) (r := r) hl
        have key : ∀ out, putO t e = some out → X = fitR out ∧ out.length ≤ t.length + 1 ∧ SmallE out ∧ (∀ x ∈ out, mayB x = true) ∧ ∀ ys : List En, ys.Perm out → (ys.Pairwise fun x y => 0 ≤ lessI y.path x.path) → ys = srt out := by
          intro out ho
          obtain ⟨h1, h2⟩ := putO_ok hT.may hT.sorted.dist hm ho
          rw [ho] at hX
          refine ⟨hX.symm, ?_, ?_, h1, fun ys hy hs => sorted_uniq (hy.trans (srt_perm _).symm) hs (srt_sorted _ fun x hx => (mayB_ok (h1 x hx)).1) (fun x hx => (mayB_ok (h1 x ((srt_perm _).subset hx))).1) (h2.perm (srt_perm _))⟩
          · unfold putO at ho
            split at ho
            · cases ho; simp
            · split at ho
              · cases ho; simp
              · cases ho
          · unfold putO at ho
            split at ho
            · cases ho
              intro x hx
              rcases List.mem_append.1 hx with h4 | h4
              · exact hsm x h4
              · rw [List.mem_singleton.1 h4]; exact ⟨hp, hdz⟩
            · split at ho
              · cases ho
                intro x hx
                rcases List.mem_or_eq_of_mem_set hx with h4 | h4
                · exact hsm x h4
                · rw [h4]; exact ⟨hp, hdz⟩
              · cases ho
        have hun : ∀ {i : Nat}, t.findIdx? (fun x => decide (x.path = e.path)) = some i → putO t e = if decide (kindI t e.path = 2) = decide (e.kind = 2) then some (t.set i e) else none := by
          intro i h
          unfold putO
          rw [h]
        rcases find_idx (t := t) (p := e.path) with ⟨h1, h2, _, _, _⟩ | ⟨i, x, h1, h2, gx, _, h5, _⟩
        · have ho : putO t e = some (t ++ [e]) := by unfold putO; rw [h2]
          obtain ⟨hXo, hol, hos, hom, hou⟩ := key _ ho
          obtain ⟨out, hout⟩ : ∃ out, t ++ [e] = out := ⟨_, rfl⟩
          rw [hout] at hXo hol hos hom hou
          have hft := fun (w : World) (R : HL) (hS : Sh B R w) (A : Option Addr) (cap : Nat) (r : RdAt enE B R A out) => Fits_any hS (cap := cap) (t := out) (r := r) (by omega) hos
          have hso := fun (w : World) (H : HL) (hS : Sh B H w) (A : Option Addr) (sp : List Value) (cap : Nat) (hO : OwnSl enE A out sp cap) (C : HL → HL) (hp : CtxRow H A (flat enE out ++ sp) 24 C) => Sorted_any hO hS (hp := hp) (by omega) (fun x hx => ⟨(mayB_ok (hom x hx)).1, (hos x hx).1⟩)
          rw [h1] at l5
          have Hout := Lib.hid hout
          have Hou := Lib.hid hou
          have HXo := Lib.hid hXo
          clear ha hT hm hw hX key hun h1 h2 ho hout hou hXo hos hom
          go_enter Tryz.func13, Tryz.ntmps13
          go_upto_region 15 with (first | (refine wl_box rfl rfl rfl rfl hS ?_; intro eb _ hS; (try simp only [Act.put, List.setIfInBounds_toArray, List.set_cons_zero, List.set_cons_succ])) | (go_at_call 37; refine ((l1 _ _ hS inferInstance)).mono ?_; rintro e w' (⟨rfl, hS⟩)) | (go_at_call 38; refine ((l2 _ _ hS)).mono ?_; rintro e w' (⟨rfl, hS⟩)) | (go_at_call 40; refine ((l3 _ _ hS)).mono ?_; rintro e w' (⟨rfl, hS⟩)) | (go_at_call 39; refine ((l4 _ _ hS inferInstance)).mono ?_; rintro e w' (⟨rfl, hS⟩)) | (go_at_call 42; refine ((l5 _ _ hS inferInstance)).mono ?_; rintro e w' (⟨rfl, hS⟩)) | (go_at_call 41; refine ((hcl _ _ hS inferInstance)).mono ?_; rintro e w' (⟨A2, sp2, cap2, rfl, hO, hS⟩)) | (refine wl_buildSlice (E := enE) [e] rfl rfl (by simp only [List.map_toArray, List.map_cons, List.map_nil]; rfl) rfl (by decide) (by decide) hS ?_; intro _ _ hS hN; (try simp only [Act.put, List.setIfInBounds_toArray, List.set_cons_zero, List.set_cons_succ])) | (refine wl_apz (E := enE) rfl rfl rfl rfl hS ?_ ?_ ?_ ?_ ?_; (focus (rfl)); (focus (rfl)); (focus ((simp only [List.length_cons, List.length_nil]; omega))); (focus decide); intro zs A3 sp3 cap3 _ hz0 hO3 hS; have Hz := Lib.hid hz0; clear hz0; (try simp only [Act.put, List.setIfInBounds_toArray, List.set_cons_zero, List.set_cons_succ])) | (refine wl_isld rfl ?_; ((first | refine wl_value rfl (ex_ldC hS rfl rfl CellAt.out) ?_ | refine wl_value rfl (ex_ldr0 hS rfl rfl rfl) ?_); (try simp only [Act.put, List.setIfInBounds_toArray, List.set_cons_zero, List.set_cons_succ]))))
          obtain rfl : zs = out := by rw [← Hout.out]; exact Hz
          clear Hz
          by_cases hf : fitsI zs = 0
          · have Hx := Lib.hid (show X = (srt zs, 0) by rw [HXo.out]; unfold fitR; rw [if_pos hf])
            rw [hf] at hft
            clear hf
            go_wp2_with (first | (go_at_call 43; refine ((hft _ _ hS _ _ inferInstance)).mono ?_; rintro e w' (⟨rfl, hS⟩)) | (go_at_call 44; refine ((hso _ _ hS _ _ _ hO3 _ inferInstance)).mono ?_; rintro e w' (⟨rfl, ys, hper, hpw, hO4, hS⟩)))
            go_ret2
            rw [Hx.out]
            have hys := Hou.out ys hper hpw
            rw [hys] at hO4 hS
            exact ⟨_, _, _, (by rw [← hys, hper.length_eq]; rfl), hO4, hS.to⟩
          · have Hx := Lib.hid (show X = ([], fitsI zs) by rw [HXo.out]; unfold fitR; rw [if_neg hf])
            have d2 : (fitsI zs == 0) = false := beq_no hf
            have d3 : (fitsI zs != 0) = true := bne_no hf
            clear hf
            go_wp2_with ((go_at_call 43; refine ((hft _ _ hS _ _ inferInstance)).mono ?_; rintro e w' (⟨rfl, hS⟩)))
            go_ret2
            rw [Hx.out]
            exact .bad hS.to
        · rw [h1] at l5
          have hu := hun h2
          have d4 : decide ((0 : Int) ≤ (i : Int)) = true := decide_eq_true (by omega)
          rw [h5] at hu
          by_cases hk : decide (x.kind = 2) = decide (e.kind = 2)
          · rw [if_pos hk] at hu
            have d5 := kindB hk
            have d6 : ((x.kind == 2) == (e.kind == 2)) = true := by
              revert d5
              cases (x.kind == 2) <;> cases (e.kind == 2) <;> simp
            clear d5
            obtain ⟨hXo, hol, hos, hom, hou⟩ := key _ hu
            have hft := fun (w : World) (R : HL) (hS : Sh B R w) (A : Option Addr) (cap : Nat) (r : RdAt enE B R A (t.set i e)) => Fits_any hS (cap := cap) (t := t.set i e) (r := r) (by omega) hos
            have hso := fun (w : World) (H : HL) (hS : Sh B H w) (A : Option Addr) (sp : List Value) (cap : Nat) (hO : OwnSl enE A (t.set i e) sp cap) (C : HL → HL) (hp : CtxRow H A (flat enE (t.set i e) ++ sp) 24 C) => Sorted_any hO hS (hp := hp) (by omega) (fun x hx => ⟨(mayB_ok (hom x hx)).1, (hos x hx).1⟩)
            rw [List.length_set] at hft hso
            have Hou := Lib.hid hou
            have HXo := Lib.hid hXo
            clear ha hT hm hw hX key hun h1 h2 hu hou hXo hos hom hk h5
            go_enter Tryz.func13, Tryz.ntmps13
            go_upto_region 11 with (first | (refine wl_box rfl rfl rfl rfl hS ?_; intro eb _ hS; (try simp only [Act.put, List.setIfInBounds_toArray, List.set_cons_zero, List.set_cons_succ])) | (go_at_call 37; refine ((l1 _ _ hS inferInstance)).mono ?_; rintro e w' (⟨rfl, hS⟩)) | (go_at_call 38; refine ((l2 _ _ hS)).mono ?_; rintro e w' (⟨rfl, hS⟩)) | (go_at_call 40; refine ((l3 _ _ hS)).mono ?_; rintro e w' (⟨rfl, hS⟩)) | (go_at_call 39; refine ((l4 _ _ hS inferInstance)).mono ?_; rintro e w' (⟨rfl, hS⟩)) | (go_at_call 42; refine ((l5 _ _ hS inferInstance)).mono ?_; rintro e w' (⟨rfl, hS⟩)) | (go_at_call 41; refine ((hcl _ _ hS inferInstance)).mono ?_; rintro e w' (⟨A2, sp2, cap2, rfl, hO, hS⟩)) | (refine wl_isld rfl ?_; ((first | refine wl_value rfl (ex_ldC hS rfl rfl CellAt.out) ?_ | refine wl_value rfl (ex_ldr0 hS rfl rfl rfl) ?_); (try simp only [Act.put, List.setIfInBounds_toArray, List.set_cons_zero, List.set_cons_succ]))))
            (refine wp_drawnF hS [(0, true), (1, true), (2, true), (3, true), (4, true), (5, true), (6, true), (7, true), (8, true), (9, true)] (by kernel_rfl) (by kernel_rfl) (by intro d _ _ _ _ h; cases d <;> exact h) ?_; have hS := hS.drew; simp only [picks_cons, picks_nil, opAt, List.toList_toArray]; (refine wpF_U (v := ?_) rfl ?_ (Sh.to hS) ?_; rotate_left; (focus (intro _ _; go_simp; (try (rw [wrap_i64]; (rotate_left; omega))); (try with_reducible rfl))); (try simp only [Act.put, List.setIfInBounds_toArray, List.set_cons_zero, List.set_cons_succ])); (refine wpF_U (v := ?_) rfl ?_ (Sh.to hS) ?_; rotate_left; (focus (intro _ _; go_simp; (try (rw [wrap_i64]; (rotate_left; omega))); (try with_reducible rfl))); (try simp only [Act.put, List.setIfInBounds_toArray, List.set_cons_zero, List.set_cons_succ])); ((refine wpF_U rfl (fun _ hT => ex_ix hT rfl rfl rfl ?_) (Sh.to hS) ?_); (focus (rfl)); (try simp only [Act.put, List.setIfInBounds_toArray, List.set_cons_zero, List.set_cons_succ])); (refine wpF_U (v := ?_) rfl ?_ (Sh.to hS) ?_; rotate_left; (focus (intro _ _; go_simp; (try (rw [wrap_i64]; (rotate_left; omega))); (try with_reducible rfl))); (try simp only [Act.put, List.setIfInBounds_toArray, List.set_cons_zero, List.set_cons_succ])); ((refine wpF_U rfl (fun _ hT => ex_lf hT rfl rfl rfl CellAt.out) (Sh.to hS) ?_); (try simp only [Act.put, List.setIfInBounds_toArray, List.set_cons_zero, List.set_cons_succ])); ((refine wpF_U (v := ?_) rfl ?_ (Sh.to hS) ?_; rotate_left; (focus (intro _ _; go_simp; (try (rw [wrap_i64]; (rotate_left; omega))); (try with_reducible rfl))); (try simp only [Act.put, List.setIfInBounds_toArray, List.set_cons_zero, List.set_cons_succ]))); (refine wpF_U (v := ?_) rfl ?_ (Sh.to hS) ?_; rotate_left; (focus (intro _ _; go_simp; (try (rw [wrap_i64]; (rotate_left; omega))); (try with_reducible rfl))); (try simp only [Act.put, List.setIfInBounds_toArray, List.set_cons_zero, List.set_cons_succ])); ((refine wpF_U rfl (fun _ hT => ex_ldC hT rfl rfl CellAt.out) (Sh.to hS) ?_); (try simp only [Act.put, List.setIfInBounds_toArray, List.set_cons_zero, List.set_cons_succ])); ((refine wpF_U (v := ?_) rfl ?_ (Sh.to hS) ?_; rotate_left; (focus (intro _ _; go_simp; (try (rw [wrap_i64]; (rotate_left; omega))); (try with_reducible rfl))); (try simp only [Act.put, List.setIfInBounds_toArray, List.set_cons_zero, List.set_cons_succ]))); ((refine wpF_U (v := ?_) rfl ?_ (Sh.to hS) ?_; rotate_left; (focus (intro _ _; go_simp; (try (rw [wrap_i64]; (rotate_left; omega))); (try with_reducible rfl))); (try simp only [Act.put, List.setIfInBounds_toArray, List.set_cons_zero, List.set_cons_succ]))); ((refine wpF_done (by assumption) ?_)))
            go_upto_region 15 with (first | (refine wl_stEw rfl rfl rfl rfl hS hO rfl rfl ?_; clear hO; intro _ hS hO g3; (try simp only [evT, evC, List.getD_cons_succ, List.getD_cons_zero, List.set_cons_zero, List.set_cons_succ] at hS); (try simp only [Act.put, List.setIfInBounds_toArray, List.set_cons_zero, List.set_cons_succ])) | (refine wl_isld rfl ?_; ((refine wl_value rfl (ex_ldr0 hS rfl rfl rfl) ?_); (try simp only [Act.put, List.setIfInBounds_toArray, List.set_cons_zero, List.set_cons_succ]))) | ((refine wl_value rfl (ex_ix hS rfl rfl rfl ?_) ?_); (focus (rfl)); (try simp only [Act.put, List.setIfInBounds_toArray, List.set_cons_zero, List.set_cons_succ])))
            by_cases hf : fitsI (t.set i e) = 0
            · have Hx := Lib.hid (show X = (srt (t.set i e), 0) by rw [HXo.out]; unfold fitR; rw [if_pos hf])
              rw [hf] at hft
              clear hf
              go_wp2_with (first | (go_at_call 43; refine ((hft _ _ hS _ _ inferInstance)).mono ?_; rintro e w' (⟨rfl, hS⟩)) | (go_at_call 44; refine ((hso _ _ hS _ _ _ hO _ inferInstance)).mono ?_; rintro e w' (⟨rfl, ys, hper, hpw, hO4, hS⟩)))
              go_ret2
              rw [Hx.out]
              have hys := Hou.out ys hper hpw
              have hlen := hper.length_eq
              rw [List.length_set] at hlen
              rw [hys] at hO4 hS hlen
              exact ⟨_, _, _, (by rw [hlen]; rfl), hO4, hS.to⟩
            · have Hx := Lib.hid (show X = ([], fitsI (t.set i e)) by rw [HXo.out]; unfold fitR; rw [if_neg hf])
              obtain ⟨v, hv⟩ : ∃ v, fitsI (t.set i e) = v := ⟨_, rfl⟩
              rw [hv] at hft hf Hx
              have d2 : (v == 0) = false := beq_no hf
              have d3 : (v != 0) = true := bne_no hf
              clear hf hv
              go_wp2_with ((go_at_call 43; refine ((hft _ _ hS _ _ inferInstance)).mono ?_; rintro e w' (⟨rfl, hS⟩)))
              go_ret2
              rw [Hx.out]
              exact .bad hS.to
          · rw [if_neg hk] at hu
            have Hx := Lib.hid (show X = ([], 9) by rw [← hX, hu])
            have d5 : ((x.kind == 2) != (e.kind == 2)) = true := by
              have h1 : (x.kind == 2) = decide (x.kind = 2) := by rw [Bool.eq_iff_iff]; simp
              have h2 : (e.kind == 2) = decide (e.kind = 2) := by rw [Bool.eq_iff_iff]; simp
              rw [h1, h2]
              revert hk
              cases decide (x.kind = 2) <;> cases decide (e.kind = 2) <;> simp
            have d6 : ((x.kind == 2) == (e.kind == 2)) = false := by
              revert d5
              cases (x.kind == 2) <;> cases (e.kind == 2) <;> simp
            clear d5
            clear ha hT hm hw hX key hun h1 h2 hu hk h5
            go_enter Tryz.func13, Tryz.ntmps13
            go_upto_region 11 with (first | (refine wl_box rfl rfl rfl rfl hS ?_; intro eb _ hS; (try simp only [Act.put, List.setIfInBounds_toArray, List.set_cons_zero, List.set_cons_succ])) | (go_at_call 37; refine ((l1 _ _ hS inferInstance)).mono ?_; rintro e w' (⟨rfl, hS⟩)) | (go_at_call 38; refine ((l2 _ _ hS)).mono ?_; rintro e w' (⟨rfl, hS⟩)) | (go_at_call 40; refine ((l3 _ _ hS)).mono ?_; rintro e w' (⟨rfl, hS⟩)) | (go_at_call 39; refine ((l4 _ _ hS inferInstance)).mono ?_; rintro e w' (⟨rfl, hS⟩)) | (go_at_call 42; refine ((l5 _ _ hS inferInstance)).mono ?_; rintro e w' (⟨rfl, hS⟩)) | (go_at_call 41; refine ((hcl _ _ hS inferInstance)).mono ?_; rintro e w' (⟨A2, sp2, cap2, rfl, hO, hS⟩)) | (refine wl_isld rfl ?_; ((first | refine wl_value rfl (ex_ldC hS rfl rfl CellAt.out) ?_ | refine wl_value rfl (ex_ldr0 hS rfl rfl rfl) ?_); (try simp only [Act.put, List.setIfInBounds_toArray, List.set_cons_zero, List.set_cons_succ]))))
            (refine wp_drawnF hS [(0, true), (1, true), (2, true), (3, true), (4, true), (5, true), (6, true), (7, true), (8, true), (9, true)] (by kernel_rfl) (by kernel_rfl) (by intro d _ _ _ _ h; cases d <;> exact h) ?_; have hS := hS.drew; simp only [picks_cons, picks_nil, opAt, List.toList_toArray]; (refine wpF_U (v := ?_) rfl ?_ (Sh.to hS) ?_; rotate_left; (focus (intro _ _; go_simp; (try (rw [wrap_i64]; (rotate_left; omega))); (try with_reducible rfl))); (try simp only [Act.put, List.setIfInBounds_toArray, List.set_cons_zero, List.set_cons_succ])); (refine wpF_U (v := ?_) rfl ?_ (Sh.to hS) ?_; rotate_left; (focus (intro _ _; go_simp; (try (rw [wrap_i64]; (rotate_left; omega))); (try with_reducible rfl))); (try simp only [Act.put, List.setIfInBounds_toArray, List.set_cons_zero, List.set_cons_succ])); ((refine wpF_U rfl (fun _ hT => ex_ix hT rfl rfl rfl ?_) (Sh.to hS) ?_); (focus (rfl)); (try simp only [Act.put, List.setIfInBounds_toArray, List.set_cons_zero, List.set_cons_succ])); (refine wpF_U (v := ?_) rfl ?_ (Sh.to hS) ?_; rotate_left; (focus (intro _ _; go_simp; (try (rw [wrap_i64]; (rotate_left; omega))); (try with_reducible rfl))); (try simp only [Act.put, List.setIfInBounds_toArray, List.set_cons_zero, List.set_cons_succ])); ((refine wpF_U rfl (fun _ hT => ex_lf hT rfl rfl rfl CellAt.out) (Sh.to hS) ?_); (try simp only [Act.put, List.setIfInBounds_toArray, List.set_cons_zero, List.set_cons_succ])); ((refine wpF_U (v := ?_) rfl ?_ (Sh.to hS) ?_; rotate_left; (focus (intro _ _; go_simp; (try (rw [wrap_i64]; (rotate_left; omega))); (try with_reducible rfl))); (try simp only [Act.put, List.setIfInBounds_toArray, List.set_cons_zero, List.set_cons_succ]))); (refine wpF_U (v := ?_) rfl ?_ (Sh.to hS) ?_; rotate_left; (focus (intro _ _; go_simp; (try (rw [wrap_i64]; (rotate_left; omega))); (try with_reducible rfl))); (try simp only [Act.put, List.setIfInBounds_toArray, List.set_cons_zero, List.set_cons_succ])); ((refine wpF_U rfl (fun _ hT => ex_ldC hT rfl rfl CellAt.out) (Sh.to hS) ?_); (try simp only [Act.put, List.setIfInBounds_toArray, List.set_cons_zero, List.set_cons_succ])); ((refine wpF_U (v := ?_) rfl ?_ (Sh.to hS) ?_; rotate_left; (focus (intro _ _; go_simp; (try (rw [wrap_i64]; (rotate_left; omega))); (try with_reducible rfl))); (try simp only [Act.put, List.setIfInBounds_toArray, List.set_cons_zero, List.set_cons_succ]))); ((refine wpF_U (v := ?_) rfl ?_ (Sh.to hS) ?_; rotate_left; (focus (intro _ _; go_simp; (try (rw [wrap_i64]; (rotate_left; omega))); (try with_reducible rfl))); (try simp only [Act.put, List.setIfInBounds_toArray, List.set_cons_zero, List.set_cons_succ]))); ((refine wpF_done (by assumption) ?_)))
            go_wp2_with (fail)
            go_ret2
            rw [Hx.out]
            exact .bad hS.to
      · have Hx := Lib.hid (show putR t e = ([], 52) by unfold putR; rw [if_pos ha, if_pos hm, if_neg hw])
        obtain ⟨v, hv⟩ : ∃ v, whereI t (upP e.path) = v := ⟨_, rfl⟩
        rw [hv] at l4 hw
        have d2 : (v == 0) = false := beq_no hw
        have d3 : (v != 0) = true := bne_no hw
        clear ha hT hm hw hv
        go_enter Tryz.func13, Tryz.ntmps13
        go_wp2_with (first | (refine wl_box rfl rfl rfl rfl hS ?_; intro eb _ hS; (try simp only [Act.put, List.setIfInBounds_toArray, List.set_cons_zero, List.set_cons_succ])) | (go_at_call 37; refine ((l1 _ _ hS inferInstance)).mono ?_; rintro e w' (⟨rfl, hS⟩)) | (go_at_call 38; refine ((l2 _ _ hS)).mono ?_; rintro e w' (⟨rfl, hS⟩)) | (go_at_call 40; refine ((l3 _ _ hS)).mono ?_; rintro e w' (⟨rfl, hS⟩)) | (go_at_call 39; refine ((l4 _ _ hS inferInstance)).mono ?_; rintro e w' (⟨rfl, hS⟩)) | (refine wl_isld rfl ?_; ((first | refine wl_value rfl (ex_ldC hS rfl rfl CellAt.out) ?_ | refine wl_value rfl (ex_ldr0 hS rfl rfl rfl) ?_); (try simp only [Act.put, List.setIfInBounds_toArray, List.set_cons_zero, List.set_cons_succ]))))
        go_ret2
        rw [Hx.out]
        exact .bad hS.to
    · have Hx := Lib.hid (show putR t e = ([], 50) by unfold putR; rw [if_pos ha, if_neg hm])
      have hm1 : mayB e = false := by cases h : mayB e; rfl; exact absurd h hm
      rw [hm1] at l2
      clear ha hT hm hm1
      go_enter Tryz.func13, Tryz.ntmps13
      go_wp2_with (first | (refine wl_box rfl rfl rfl rfl hS ?_; intro eb _ hS; (try simp only [Act.put, List.setIfInBounds_toArray, List.set_cons_zero, List.set_cons_succ])) | (go_at_call 37; refine ((l1 _ _ hS inferInstance)).mono ?_; rintro e w' (⟨rfl, hS⟩)) | (go_at_call 38; refine ((l2 _ _ hS)).mono ?_; rintro e w' (⟨rfl, hS⟩)) | (refine wl_isld rfl ?_; ((refine wl_value rfl (ex_ldr0 hS rfl rfl rfl) ?_); (try simp only [Act.put, List.setIfInBounds_toArray, List.set_cons_zero, List.set_cons_succ]))))
      go_ret2
      rw [Hx.out]
      exact .bad hS.to
  · have Hx := Lib.hid (show putR t e = ([], (checkA t).2) by unfold putR; rw [if_neg ha])
    have d2 : ((checkA t).2 == 0) = false := beq_no ha
    have d3 : ((checkA t).2 != 0) = true := bne_no ha
    clear ha
    go_enter Tryz.func13, Tryz.ntmps13
    go_wp2_with (first | (refine wl_box rfl rfl rfl rfl hS ?_; intro eb _ hS; (try simp only [Act.put, List.setIfInBounds_toArray, List.set_cons_zero, List.set_cons_succ])) | (go_at_call 37; refine ((l1 _ _ hS inferInstance)).mono ?_; rintro e w' (⟨rfl, hS⟩)))
    go_ret2
    rw [Hx.out]
    exact .bad hS.to
end
end Go.Tk

set_option linter.unusedSectionVars false
set_option linter.unusedSimpArgs false
set_option linter.unusedVariables false
namespace Go.Tk
open Go.RowKit Go.Proofs
theorem cmpL_dropLast : ∀ (l : List ByteArray), l ≠ [] → cmpL l.dropLast l < 0
  | [], h => absurd rfl h
  | [x], _ => by show (-1 : Int) < 0; decide
  | x :: y :: r, _ => by
    rw [List.dropLast_cons_of_ne_nil (by simp), cmpL_cons, if_pos (cmpS_0.2 rfl)]
    exact cmpL_dropLast (y :: r) (by simp)
theorem up_less {p : ByteArray} (h : okP p = true) (hz : p.size ≠ 0) : lessI (upP p) p < 0 := by
  obtain ⟨l, hl⟩ := okP_some h
  rw [lessI_of (upP_names hl) hl]
  exact cmpL_dropLast l fun h0 => hz ((namesL_join hl).2.1 h0)
theorem sumE_nonneg : ∀ t : List En, 0 ≤ sumE t
  | [] => by simp [sumE]
  | e :: r => by have := sumE_nonneg r; rw [sumE]; omega
theorem sumE_take_le (t : List En) (i : Nat) : sumE (t.take i) ≤ sumE t := by
  conv => rhs; rw [← List.take_append_drop i t, sumE_append]
  have := sumE_nonneg (t.drop i)
  omega
theorem isDir_take {t : List En} (hT : RightT t) {i : Nat} {e : En} (g : Nth t i e) : isDirA (t.take i) (upP e.path) = true := by
  have hd := hT.dirs e g.mem
  unfold isDirA at hd ⊢
  rw [Bool.or_eq_true] at hd ⊢
  rcases hd with h | h
  · exact .inl h
  · right
    obtain ⟨f, hf, h2⟩ := List.any_eq_true.1 h
    have h3 := h2
    simp only [Bool.and_eq_true, decide_eq_true_eq] at h3
    refine List.any_eq_true.2 ⟨f, ?_, h2⟩
    obtain ⟨j, hj⟩ := List.getElem?_of_mem hf
    obtain ⟨hjl, hjx⟩ := List.getElem?_eq_some_iff.1 hj
    obtain ⟨hil, hix⟩ := List.getElem?_eq_some_iff.1 g.get
    have oe := mayB_ok (hT.may e g.mem)
    have hlt := up_less oe.1 oe.2
    rw [← h3.2] at hlt
    have hji : j < i := by
      refine Classical.byContradiction fun hn => ?_
      rcases Nat.lt_or_ge i j with h4 | h4
      · have h5 := List.pairwise_iff_getElem.1 hT.sorted i j hil hjl h4
        rw [hix, hjx] at h5
        have := lessI_swap oe.1 (mayB_ok (hT.may f hf)).1
        omega
      · have : j = i := by omega
        subst this
        rw [hix] at hjx
        subst hjx
        rw [lessI_self] at hlt
        omega
    exact List.mem_of_getElem? (i := j) (by rw [List.getElem?_take, if_pos hji]; exact hj)
theorem checkG_of {t : List En} (hT : RightT t) : ∀ (r : List En) (i : Nat) (sum : Int), t.drop i = r → sum = sumE (t.take i) → checkG isDirA t i sum r = (0, 0)
  | [], _, _, _, _ => rfl
  | e :: r, i, sum, hd, hs => by
    have hi : t[i]? = some e := by have := congrArg (fun l => l[0]?) hd; simpa using this
    have hg : Nth t i e := ⟨hi⟩
    have hr : t.drop (i + 1) = r := by have := hg.drop; rw [hd] at this; exact (List.cons.inj this).2.symm
    rw [checkG_cons, if_neg (by rw [hT.may e hg.mem]; decide), if_neg, if_neg (by rw [isDir_take hT hg]; decide), if_neg]
    · exact checkG_of hT r (i + 1) _ hr (by rw [sumE_take hg, hs])
    · have h1 := sumE_take_le t (i + 1)
      rw [sumE_take hg] at h1
      have := hT.fit
      omega
    · rintro ⟨h0, h1⟩
      obtain ⟨f, gf⟩ := Nth.of (xs := t) (j := i - 1) (by have := hg.lt; omega)
      obtain ⟨h2, h3⟩ := List.getElem?_eq_some_iff.1 gf.get
      obtain ⟨h4, h5⟩ := List.getElem?_eq_some_iff.1 hi
      have := List.pairwise_iff_getElem.1 hT.sorted (i - 1) i h2 h4 (by omega)
      rw [h3, h5] at this
      rw [List.getD_eq_getElem?_getD, gf.get, Option.getD_some] at h1
      exact h1 this
theorem of_right {t : List En} (hT : RightT t) : checkA t = (0, 0) := by
  unfold checkA
  rw [if_neg (by have := hT.few; omega)]
  exact checkG_of hT t 0 0 rfl (by simp [sumE])
theorem sorted_strict {t : List En} (h : t.Pairwise fun x y => 0 ≤ lessI y.path x.path) (hd : Dist t) (hok : ∀ e ∈ t, okP e.path = true) : SortedE t := by
  refine List.Pairwise.imp_of_mem (fun {x y} hx hy hxy => ?_) (h.and hd)
  have h1 := lessI_swap (hok x hx) (hok y hy)
  have h2 : ¬ lessI x.path y.path = 0 := fun e => hxy.2 (lessI_eq (hok x hx) (hok y hy) e)
  have h3 := hxy.1
  show lessI x.path y.path < 0
  omega
theorem stand_same {a b : List En} (ha : Dist a) (hb : Dist b) (hza : ∀ e ∈ a, ¬ e = zE) (hzb : ∀ e ∈ b, ¬ e = zE) {q : ByteArray} (h : ∀ x : En, x.path = q → (x ∈ a ↔ x ∈ b)) : standE a q = standE b q := by
  by_cases h1 : standE a q = zE
  · by_cases h2 : standE b q = zE
    · rw [h1, h2]
    · obtain ⟨h3, h4⟩ := standE_get h2
      have h5 := (h _ h4).2 h3
      have h6 := standE_mem ha h5
      rw [h4] at h6
      exact h6
  · obtain ⟨h3, h4⟩ := standE_get h1
    have h5 := (h _ h4).1 h3
    have h6 := standE_mem hb h5
    rw [h4] at h6
    exact h6.symm
theorem find_stand {t : List En} (hm : ∀ e ∈ t, mayB e = true) (p : ByteArray) : (!decide (findI t p = -1)) = !decide (standE t p = zE) := by
  rcases find_idx (t := t) (p := p) with ⟨h1, _, _, h4, _⟩ | ⟨i, x, h1, _, gx, _, _, h4⟩
  · rw [h1, h4]; simp
  · have h5 := mayB_zE (hm x gx.mem)
    have h6 : ¬ ((i : Int) = -1) := by omega
    rw [h1, h4]; simp [h5, h6]
theorem findE_right {t : List En} (hT : RightT t) (p : ByteArray) : findE t p = (standE t p, !decide (standE t p = zE)) := by
  unfold findE
  rw [of_right hT, if_pos rfl, find_stand hT.may]
theorem srt_right {out : List En} (hm : ∀ e ∈ out, mayB e = true) (hd : Dist out) (hf : fitsI out = 0) (hdir : ∀ e ∈ out, isDirA out (upP e.path) = true) : RightT (srt out) := by
  have hp := srt_perm out
  unfold fitsI at hf
  by_cases h1 : 1024 < out.length
  · rw [if_pos h1] at hf; exact absurd hf (by decide)
  rw [if_neg h1] at hf
  by_cases h2 : 1048576 < sumE out
  · rw [if_pos h2] at hf; exact absurd hf (by decide)
  have hm2 : ∀ e ∈ srt out, mayB e = true := fun e he => hm e (hp.subset he)
  exact {
    few := by rw [hp.length_eq]; omega
    may := hm2
    sorted := sorted_strict (srt_sorted out fun e he => (mayB_ok (hm e he)).1) (hd.perm hp) fun e he => (mayB_ok (hm2 e he)).1
    dirs := fun e he => isDirA_mono (fun x hx => hp.symm.subset hx) (hdir e (hp.subset he))
    fit := by rw [sumE_perm hp]; omega }
theorem where_dir {t : List En} {d : ByteArray} (h : whereI t d = 0) : isDirA t d = true := by
  unfold whereI at h
  by_cases h1 : okP d = false
  · rw [if_pos h1] at h; exact absurd h (by decide)
  rw [if_neg h1] at h
  unfold isDirA
  by_cases h2 : d.size = 0
  · simp [h2]
  rw [if_neg h2] at h
  by_cases h3 : findI t d = -1
  · rw [if_pos h3] at h; exact absurd h (by decide)
  rw [if_neg h3] at h
  rcases find_idx (t := t) (p := d) with ⟨h4, _⟩ | ⟨i, x, _, _, gx, h5, h6, _⟩
  · exact absurd h4 h3
  · rw [h6] at h
    by_cases h7 : x.kind = 2
    · rw [Bool.or_eq_true]
      exact .inr (List.any_eq_true.2 ⟨x, gx.mem, by simp [h5, h7]⟩)
    · rw [if_neg h7] at h; exact absurd h (by decide)
/-- What was put is found; all else is as it was. -/
theorem put_right {t out : List En} {e : En} (hT : RightT t) (he : mayB e = true) (hw : whereI t (upP e.path) = 0) (ho : putO t e = some out) (hf : fitsI out = 0) :
    RightT (srt out) ∧ standE (srt out) e.path = e ∧ ∀ q, ¬ q = e.path → standE (srt out) q = standE t q := by
  obtain ⟨hm, hd⟩ := putO_ok hT.may hT.sorted.dist he ho
  have hp := srt_perm out
  have hmem : e ∈ out ∧ (∀ x : En, ¬ x.path = e.path → (x ∈ out ↔ x ∈ t)) ∧ ∀ d, isDirA t d = true → isDirA out d = true := by
    unfold putO at ho
    rcases find_idx (t := t) (p := e.path) with ⟨_, h1, _, _, h2⟩ | ⟨i, y, _, h1, gy, h3, h4, _⟩
    · rw [h1] at ho
      cases ho
      refine ⟨by simp, fun x hx => ?_, fun d hd => isDirA_mono (fun x hx => List.mem_append_left _ hx) hd⟩
      rw [List.mem_append, List.mem_singleton]
      exact ⟨fun h => h.elim id fun h => absurd (by rw [h]) hx, .inl⟩
    · rw [h1] at ho
      dsimp only at ho
      by_cases hk : ¬ decide (kindI t e.path = 2) = decide (e.kind = 2)
      · rw [if_neg hk] at ho; cases ho
      replace hk := Classical.not_not.1 hk
      rw [if_pos hk] at ho
      cases ho
      obtain ⟨hil, hix⟩ := List.getElem?_eq_some_iff.1 gy.get
      have hin : e ∈ t.set i e := List.mem_of_getElem? (i := i) (by rw [List.getElem?_set_self hil])
      have hkeep : ∀ x ∈ t, ¬ x.path = e.path → x ∈ t.set i e := fun x hx hne => by
        obtain ⟨j, hj⟩ := List.getElem?_of_mem hx
        refine List.mem_of_getElem? (i := j) ?_
        rw [List.getElem?_set_ne, hj]
        rintro rfl
        rw [gy.get] at hj
        cases hj
        exact hne h3
      refine ⟨hin, fun x hx => ⟨fun h => ?_, fun h => hkeep x h hx⟩, fun d hd => ?_⟩
      · rcases List.mem_or_eq_of_mem_set h with h5 | h5
        · exact h5
        · exact absurd (by rw [h5]) hx
      · unfold isDirA at hd ⊢
        rw [Bool.or_eq_true] at hd ⊢
        rcases hd with h | h
        · exact .inl h
        · right
          obtain ⟨f, hf2, h5⟩ := List.any_eq_true.1 h
          have h6 := h5
          simp only [Bool.and_eq_true, decide_eq_true_eq] at h6
          by_cases hfp : f.path = e.path
          · have : f = y := hT.sorted.dist.inj hf2 gy.mem (hfp.trans h3.symm)
            subst this
            rw [h4, h6.1] at hk
            have hk2 : e.kind = 2 := by simpa using hk.symm
            exact List.any_eq_true.2 ⟨e, hin, by simp [hk2, ← hfp, h6.2]⟩
          · exact List.any_eq_true.2 ⟨f, hkeep f hf2 hfp, h5⟩
  obtain ⟨h1, h2, h3⟩ := hmem
  have hR : RightT (srt out) := srt_right hm hd hf fun x hx => by
    by_cases hxp : x.path = e.path
    · rw [hxp]; exact h3 _ (where_dir hw)
    · exact h3 _ (hT.dirs x ((h2 x hxp).1 hx))
  have hds := hd.perm hp
  refine ⟨hR, standE_mem hds (hp.symm.subset h1), fun q hq => ?_⟩
  refine stand_same hds hT.sorted.dist (fun x hx => mayB_zE (hR.may x hx)) (fun x hx => mayB_zE (hT.may x hx)) fun x hx => ?_
  rw [← h2 x (by rw [hx]; exact hq)]
  exact ⟨fun h => hp.subset h, fun h => hp.symm.subset h⟩
theorem sumE_filter (p : En → Bool) : ∀ t : List En, sumE (t.filter p) ≤ sumE t
  | [] => Int.le_refl _
  | e :: r => by
    have := sumE_filter p r
    rw [List.filter_cons]
    split
    · rw [sumE, sumE]; omega
    · rw [sumE]; omega
theorem above_names {a b : ByteArray} {x y : List ByteArray} (ha : namesB a = some x) (hb : namesB b = some y) : aboveB a b = true ↔ ∃ z, z ≠ [] ∧ y = x ++ z := by
  unfold aboveB
  rw [ha, hb]
  dsimp only
  rw [Bool.and_eq_true, decide_eq_true_eq, decide_eq_true_eq]
  constructor
  · rintro ⟨h1, h2⟩
    refine ⟨y.drop x.length, fun h => ?_, ?_⟩
    · have := List.drop_eq_nil_iff.1 h; omega
    · conv => lhs; rw [← List.take_append_drop x.length y, ← h2]
  · rintro ⟨z, hz, rfl⟩
    have : 0 < z.length := List.length_pos_iff.2 hz
    refine ⟨by rw [List.length_append]; omega, by simp⟩
theorem gone_up {p : ByteArray} (hp : okP p = true) {x f : En} (hx : okP x.path = true) (hxz : x.path.size ≠ 0) (hf : f.path = upP x.path) (hg : goneB p f = true) : goneB p x = true := by
  obtain ⟨a, ha⟩ := okP_some hp
  obtain ⟨y, hy⟩ := okP_some hx
  have hne : y ≠ [] := fun h0 => hxz ((namesL_join hy).2.1 h0)
  have hu := upP_names hy
  obtain ⟨v, hv⟩ : ∃ v, y = y.dropLast ++ [v] := ⟨_, (List.dropLast_concat_getLast hne).symm⟩
  unfold goneB at hg ⊢
  rw [Bool.or_eq_true, decide_eq_true_eq] at hg ⊢
  right
  rw [above_names ha hy]
  rcases hg with h | h
  · rw [hf] at h
    rw [← h, hu] at ha
    cases ha
    exact ⟨[v], by simp, hv⟩
  · rw [hf, above_names ha hu] at h
    obtain ⟨z, hz, h2⟩ := h
    exact ⟨z ++ [v], by simp, hv.trans (by rw [h2, List.append_assoc])⟩
theorem remove_right {t : List En} (hT : RightT t) {p : ByteArray} (hp : okP p = true) : RightT (t.filter fun x => !goneB p x) := {
  few := Nat.le_trans (List.length_filter_le ..) hT.few
  may := fun e he => hT.may e (List.mem_filter.1 he).1
  sorted := hT.sorted.filter _
  dirs := fun e he => by
    obtain ⟨h1, h2⟩ := List.mem_filter.1 he
    have hd := hT.dirs e h1
    have oe := mayB_ok (hT.may e h1)
    unfold isDirA at hd ⊢
    rw [Bool.or_eq_true] at hd ⊢
    rcases hd with h | h
    · exact .inl h
    · right
      obtain ⟨f, hf, h5⟩ := List.any_eq_true.1 h
      have h6 := h5
      simp only [Bool.and_eq_true, decide_eq_true_eq] at h6
      refine List.any_eq_true.2 ⟨f, List.mem_filter.2 ⟨hf, ?_⟩, h5⟩
      cases hg : goneB p f with
      | false => rfl
      | true =>
        rw [gone_up hp oe.1 oe.2 h6.2 hg] at h2
        cases h2
  fit := Int.le_trans (sumE_filter _ t) hT.fit }
def gonePB (p q : ByteArray) : Bool := decide (q = p) || aboveB p q
theorem stand_remove {t : List En} (hT : RightT t) {p : ByteArray} (hp : okP p = true) (q : ByteArray) : standE (t.filter fun x => !goneB p x) q = if standE t q = zE then zE else if gonePB p q = true then zE else standE t q := by
  have hR := remove_right hT hp
  by_cases h1 : standE t q = zE
  · rw [if_pos h1]
    refine standE_none fun e he hq => ?_
    have := standE_mem hT.sorted.dist (List.mem_filter.1 he).1
    rw [hq, h1] at this
    exact mayB_zE (hR.may e he) this.symm
  · rw [if_neg h1]
    obtain ⟨h2, h3⟩ := standE_get h1
    by_cases hg : gonePB p q = true
    · rw [if_pos hg]
      refine standE_none fun e he hq => ?_
      obtain ⟨_, h4⟩ := List.mem_filter.1 he
      unfold goneB at h4
      rw [hq] at h4
      unfold gonePB at hg
      rw [hg] at h4
      cases h4
    · rw [if_neg hg]
      have : standE t q ∈ t.filter fun x => !goneB p x := by
        refine List.mem_filter.2 ⟨h2, ?_⟩
        unfold goneB
        rw [h3]
        unfold gonePB at hg
        simpa using hg
      have h4 := standE_mem hR.sorted.dist this
      rw [h3] at h4
      exact h4
/-- Below, as text. -/
theorem splitL_append : ∀ (a b : List UInt8), splitL (a ++ 47 :: b) = splitL a ++ splitL b
  | [], b => by
    rw [List.nil_append]
    conv => lhs; unfold splitL
    rw [if_pos rfl]
    rfl
  | c :: a, b => by
    have ih := splitL_append a b
    rw [List.cons_append]
    conv => lhs; unfold splitL
    conv => rhs; arg 1; unfold splitL
    by_cases hc : c = 47
    · rw [if_pos hc, if_pos hc, ih]; rfl
    · rw [if_neg hc, if_neg hc, ih]
      cases h : splitL a with
      | nil => exact absurd h (splitL_ne a)
      | cons x r => rfl
theorem join_app : ∀ (a b : List (List UInt8)), a ≠ [] → b ≠ [] → Lib.join (a ++ b) [47] = Lib.join a [47] ++ 47 :: Lib.join b [47]
  | [], _, h, _ => absurd rfl h
  | [x], b, _, hb => by
    cases b with
    | nil => exact absurd rfl hb
    | cons y b => rw [List.cons_append, List.nil_append, join2, Lib.join_one]
  | x :: y :: r, b, _, hb => by
    rw [List.cons_append, List.cons_append, join2, ← List.cons_append, join_app (y :: r) b (by simp) hb, join2]
    simp
theorem names_pieces {s : ByteArray} {l : List ByteArray} (h : namesB s = some l) (hz : s.size ≠ 0) : l = piecesB s := by
  unfold namesB at h
  rw [if_neg hz] at h
  split at h
  · cases h
  · split at h
    · cases h; rfl
    · cases h
def underB (p q : ByteArray) : Bool := decide (q = p) || (decide (p.size < q.size) && (decide (q.extract 0 p.size = p) && decide (q.data.toList[p.size]? = some 47)))
theorem extract_iff (p q : ByteArray) : q.extract 0 p.size = p ↔ q.data.toList.take p.size = p.data.toList := by
  rw [← ext_mk]
  constructor
  · intro h
    have := congrArg (fun s : ByteArray => s.data.toList) h
    simpa using this
  · intro h
    apply ba_ext
    rw [data_mkB]
    simpa using h
theorem under_gone {p q : ByteArray} (hp : okP p = true) (hpz : p.size ≠ 0) (hq : okP q = true) (hqz : q.size ≠ 0) : underB p q = gonePB p q := by
  obtain ⟨x, hx⟩ := okP_some hp
  obtain ⟨y, hy⟩ := okP_some hq
  unfold underB gonePB
  congr 1
  rw [Bool.eq_iff_iff, above_names hx hy]
  simp only [Bool.and_eq_true, decide_eq_true_eq]
  rw [extract_iff]
  have sp := ba_size p
  have sq := ba_size q
  constructor
  · rintro ⟨h1, h2, h3⟩
    have hs : q.data.toList = p.data.toList ++ 47 :: q.data.toList.drop (p.size + 1) := by
      conv => lhs; rw [← List.take_append_drop p.size q.data.toList, h2]
      congr 1
      obtain ⟨h4, h5⟩ := List.getElem?_eq_some_iff.1 h3
      rw [List.drop_eq_getElem_cons h4, h5]
    rw [names_pieces hx hpz, names_pieces hy hqz]
    unfold piecesB
    refine ⟨(splitL (q.data.toList.drop (p.size + 1))).map mkB, by simpa using splitL_ne _, ?_⟩
    rw [← List.map_append, ← splitL_append, ← hs]
  · rintro ⟨z, hz, hyz⟩
    have hxn : x ≠ [] := fun h0 => hpz ((namesL_join hx).2.1 h0)
    have hq' : q.data.toList = p.data.toList ++ 47 :: Lib.join (z.map (·.data.toList)) [47] := by
      rw [← (namesL_join hy).1, ← (namesL_join hx).1, hyz]
      unfold joinB
      rw [data_mkB, data_mkB, List.map_append]
      exact join_app _ _ (by simpa using hxn) (by simpa using hz)
    refine ⟨?_, ?_, ?_⟩
    · rw [sq, hq', List.length_append, List.length_cons, ← sp]; omega
    · rw [hq', sp]; simp
    · rw [hq', sp]; simp
/-- What the law asks of removing. -/
theorem removed {t : List En} (hT : RightT t) {p : ByteArray} (hp : okP p = true) (hpz : p.size ≠ 0) (q : ByteArray) : (underB p q = true → standE (t.filter fun x => !goneB p x) q = zE) ∧ (underB p q = false → standE (t.filter fun x => !goneB p x) q = standE t q) := by
  rw [stand_remove hT hp]
  by_cases h1 : standE t q = zE
  · rw [if_pos h1, h1]; exact ⟨fun _ => rfl, fun _ => rfl⟩
  · rw [if_neg h1]
    obtain ⟨h2, h3⟩ := standE_get h1
    have h4 := mayB_ok (hT.may _ h2)
    rw [h3] at h4
    rw [under_gone hp hpz h4.1 h4.2]
    constructor
    · intro h; rw [if_pos h]
    · intro h; rw [if_neg (by rw [h]; decide)]
theorem find_ok {t : List En} (hT : RightT t) {p : ByteArray} (h : ¬ findI t p = -1) : p.size ≠ 0 := by
  rcases find_idx (t := t) (p := p) with ⟨h1, _⟩ | ⟨i, x, _, _, gx, h5, _, _⟩
  · exact absurd h1 h
  · rw [← h5]; exact (mayB_ok (hT.may x gx.mem)).2
end Go.Tk
