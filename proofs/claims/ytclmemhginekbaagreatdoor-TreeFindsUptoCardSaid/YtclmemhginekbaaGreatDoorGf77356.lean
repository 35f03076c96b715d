/- Same; the law TreeShuffles; Changes; SameChanges; the changes between two trees, plain; What the document's Make makes, plain: the least right tree, as the program's; The document's Sort; The document's Make; What Apply answers, plain; the document's way and the program's meet; slices.IndexFunc and slices.DeleteFunc over entries; place; Apply's closure; The changes between two trees lead from the one to the other, plain; tree.Apply; tree.Find, tree.Put, tree.Remove. -/
import Derived.Test.YtclmemhginekbaaGreatDoorG959ba2
import Derived.Test.YtclmemhginekbaaGreatDoorGb7f0c3
set_option linter.unusedSectionVars false
set_option linter.unusedSimpArgs false
set_option linter.unusedVariables false
namespace Go.Tk
open Go.RowKit Go.Proofs
section
variable {B : Base} {R H H1 : HL} {w w' : World}
set_option maxRecDepth 100000 in
set_option maxHeartbeats 1600000 in
theorem Same_any {A A' : Option Addr} {xs ys : List En} {c c' : Nat} (hS : Sh B R w) [rA : RdAt enE B R A xs] [rB : RdAt enE B R A' ys] :
    Calls Tryz.prog 12 #[.slice A xs.length c, .slice A' ys.length c'] w fun e w' => e = .returned (.bool (decide (xs = ys))) ∧ Sh B R w' := by
  have hm := rA.max
  by_cases hlen : xs.length = ys.length
  · have Hlen := Lib.hid hlen
    have d1 : ((xs.length : Int) == (ys.length : Int)) = true := by rw [hlen]; simp
    have d1b : ((xs.length : Int) != (ys.length : Int)) = false := by rw [hlen]; simp
    obtain ⟨X, hX⟩ : ∃ X, decide (xs = ys) = X := ⟨_, rfl⟩
    rw [hX]
    have HX := Lib.hid hX
    clear hX hlen
    go_enter Tryz.func12, Tryz.ntmps12
    go_wp2_with (first | (refine wl_isld rfl ?_; ((first | refine wl_value rfl (ex_l0 hS rfl rfl rfl CellAt.out) ?_ | refine wl_value rfl (ex_lf hS rfl rfl rfl CellAt.out) ?_ | refine wl_value rfl (ex_l1 hS rfl rfl rfl CellAt.out) ?_ | refine wl_value rfl (ex_ldC hS rfl rfl CellAt.out) ?_ | refine wl_value rfl (ex_l0 hS rfl rfl rfl rfl) ?_ | refine wl_value rfl (ex_lf hS rfl rfl rfl rfl) ?_ | refine wl_value rfl (ex_l1 hS rfl rfl rfl rfl) ?_ | refine wl_value rfl (ex_ldC hS rfl rfl rfl) ?_ | refine wl_value rfl (ex_l00 hS rfl rfl CellAt.out) ?_ | refine wl_value rfl (ex_l00 hS rfl rfl rfl) ?_ | refine wl_value rfl (ex_l0f hS rfl rfl CellAt.out) ?_ | refine wl_value rfl (ex_l0f hS rfl rfl rfl) ?_ | refine wl_value rfl (ex_lr hS rfl rfl rfl rfl) ?_ | refine wl_value rfl (ex_lr0 hS rfl rfl rfl) ?_ | refine wl_value rfl (ex_lrz hS rfl rfl rfl) ?_ | refine wl_value rfl (ex_lrf hS rfl rfl rfl) ?_ | refine wl_value rfl (ex_ldrC hS rfl rfl) ?_ | refine wl_value rfl (ex_ldr0 hS rfl rfl rfl) ?_); (try simp only [Act.put, List.setIfInBounds_toArray, List.set_cons_zero, List.set_cons_succ]))) | ((first | refine wl_value rfl (ex_ix hS rfl rfl rfl ?_) ?_); (focus (first | rfl | omega | (simp; done))); (try simp only [Act.put, List.setIfInBounds_toArray, List.set_cons_zero, List.set_cons_succ])) | ((first | refine wl_value rfl (ex_eqA rfl rfl rfl) ?_ | refine wl_value rfl (ex_neA rfl rfl rfl) ?_); (try simp only [Act.put, List.setIfInBounds_toArray, List.set_cons_zero, List.set_cons_succ])) | (refine wl_alloc rfl rfl hS ?_; intro _ _ hS; (try simp only [Act.put, List.setIfInBounds_toArray, List.set_cons_zero, List.set_cons_succ])) | (refine wl_box rfl rfl rfl rfl hS ?_; intro _ _ hS; (try simp only [Act.put, List.setIfInBounds_toArray, List.set_cons_zero, List.set_cons_succ])) | (refine wl_st rfl rfl rfl rfl rfl hS (of_decide_eq_true rfl) ?_; intro _ hS; (try simp only [evT, evC, List.getD_cons_succ, List.getD_cons_zero, List.set_cons_zero, List.set_cons_succ] at hS); (try simp only [List.set_cons_zero, List.set_cons_succ] at hS); (try simp only [Act.put, List.setIfInBounds_toArray, List.set_cons_zero, List.set_cons_succ])) | (refine wl_strC rfl rfl rfl rfl hS rfl rfl ?_; intro _ hS; (try simp only [evT, evC, List.getD_cons_succ, List.getD_cons_zero, List.set_cons_zero, List.set_cons_succ] at hS); (try simp only [Act.put, List.setIfInBounds_toArray, List.set_cons_zero, List.set_cons_succ])))
    have h0 : 0 ≤ xs.length ∧ xs.take 0 = ys.take 0 ∧ Sh B R _ := ⟨Nat.zero_le _, by simp, hS⟩
    clear hS
    refine wp_loopS [5] [4, 11, 12, 13, 14, 15, 16, 17, 18, 19, 20, 21, 22, 23, 24, 25] (fun i : Nat => [.int .i64 i]) (fun i w => i ≤ xs.length ∧ xs.take i = ys.take i ∧ Sh B R w) (fun i => xs.length - i) (0) rfl (h0) ?_
    clear h0
    rintro i J w ⟨hi, htk, hS⟩
    (simp only [Frm, setsT, junkT, List.setIfInBounds_toArray, List.set_cons_zero, List.set_cons_succ])
    by_cases hlt : i < xs.length
    · obtain ⟨x, gx⟩ := Nth.of hlt
      obtain ⟨y, gy⟩ := Nth.of (xs := ys) (j := i) (by rw [← Hlen.out]; exact hlt)
      have Htk := Lib.hid htk
      clear htk
      by_cases hxy : x = y
      · subst hxy
        haveI : EqA Tryz.prog 24 (enE.cells x) (enE.cells x) true := eqE_yes x
        have Hnext := Lib.hid (show xs.take (i + 1) = ys.take (i + 1) by rw [gx.take, gy.take, Htk.out])
        go_wp2_with (first | (refine wl_isld rfl ?_; ((first | refine wl_value rfl (ex_l0 hS rfl rfl rfl CellAt.out) ?_ | refine wl_value rfl (ex_lf hS rfl rfl rfl CellAt.out) ?_ | refine wl_value rfl (ex_l1 hS rfl rfl rfl CellAt.out) ?_ | refine wl_value rfl (ex_ldC hS rfl rfl CellAt.out) ?_ | refine wl_value rfl (ex_l0 hS rfl rfl rfl rfl) ?_ | refine wl_value rfl (ex_lf hS rfl rfl rfl rfl) ?_ | refine wl_value rfl (ex_l1 hS rfl rfl rfl rfl) ?_ | refine wl_value rfl (ex_ldC hS rfl rfl rfl) ?_ | refine wl_value rfl (ex_l00 hS rfl rfl CellAt.out) ?_ | refine wl_value rfl (ex_l00 hS rfl rfl rfl) ?_ | refine wl_value rfl (ex_l0f hS rfl rfl CellAt.out) ?_ | refine wl_value rfl (ex_l0f hS rfl rfl rfl) ?_ | refine wl_value rfl (ex_lr hS rfl rfl rfl rfl) ?_ | refine wl_value rfl (ex_lr0 hS rfl rfl rfl) ?_ | refine wl_value rfl (ex_lrz hS rfl rfl rfl) ?_ | refine wl_value rfl (ex_lrf hS rfl rfl rfl) ?_ | refine wl_value rfl (ex_ldrC hS rfl rfl) ?_ | refine wl_value rfl (ex_ldr0 hS rfl rfl rfl) ?_); (try simp only [Act.put, List.setIfInBounds_toArray, List.set_cons_zero, List.set_cons_succ]))) | ((first | refine wl_value rfl (ex_ix hS rfl rfl rfl ?_) ?_); (focus (first | rfl | omega | (simp; done))); (try simp only [Act.put, List.setIfInBounds_toArray, List.set_cons_zero, List.set_cons_succ])) | ((first | refine wl_value rfl (ex_eqA rfl rfl rfl) ?_ | refine wl_value rfl (ex_neA rfl rfl rfl) ?_); (try simp only [Act.put, List.setIfInBounds_toArray, List.set_cons_zero, List.set_cons_succ])) | (refine wl_alloc rfl rfl hS ?_; intro _ _ hS; (try simp only [Act.put, List.setIfInBounds_toArray, List.set_cons_zero, List.set_cons_succ])) | (refine wl_box rfl rfl rfl rfl hS ?_; intro _ _ hS; (try simp only [Act.put, List.setIfInBounds_toArray, List.set_cons_zero, List.set_cons_succ])) | (refine wl_st rfl rfl rfl rfl rfl hS (of_decide_eq_true rfl) ?_; intro _ hS; (try simp only [evT, evC, List.getD_cons_succ, List.getD_cons_zero, List.set_cons_zero, List.set_cons_succ] at hS); (try simp only [List.set_cons_zero, List.set_cons_succ] at hS); (try simp only [Act.put, List.setIfInBounds_toArray, List.set_cons_zero, List.set_cons_succ])) | (refine wl_strC rfl rfl rfl rfl hS rfl rfl ?_; intro _ hS; (try simp only [evT, evC, List.getD_cons_succ, List.getD_cons_zero, List.set_cons_zero, List.set_cons_succ] at hS); (try simp only [Act.put, List.setIfInBounds_toArray, List.set_cons_zero, List.set_cons_succ])))
        (refine wp_drawnF hS [(0, true), (1, true), (2, true), (3, true), (4, true), (5, true), (6, true), (7, true), (8, true)] (by kernel_rfl) (by kernel_rfl) (by intro d _ _ _ _ h; cases d <;> exact h) ?_; have hS := hS.drew; simp only [picks_cons, picks_nil, opAt, List.toList_toArray]; (refine wpF_U (v := ?_) rfl ?_ (Sh.to hS) ?_; rotate_left; (focus (intro _ _; go_simp; (try (rw [wrap_i64]; (rotate_left; omega))); (try with_reducible rfl))); (try simp only [Act.put, List.setIfInBounds_toArray, List.set_cons_zero, List.set_cons_succ])); (refine wpF_U (v := ?_) rfl ?_ (Sh.to hS) ?_; rotate_left; (focus (intro _ _; go_simp; (try (rw [wrap_i64]; (rotate_left; omega))); (try with_reducible rfl))); (try simp only [Act.put, List.setIfInBounds_toArray, List.set_cons_zero, List.set_cons_succ])); ((first | refine wpF_U rfl (fun _ hT => ex_ix hT rfl rfl rfl ?_) (Sh.to hS) ?_); (focus (first | rfl | omega | (simp; done))); (try simp only [Act.put, List.setIfInBounds_toArray, List.set_cons_zero, List.set_cons_succ])); ((first | refine wpF_U rfl (fun _ hT => ex_l0 hT rfl rfl rfl CellAt.out) (Sh.to hS) ?_ | refine wpF_U rfl (fun _ hT => ex_lf hT rfl rfl rfl CellAt.out) (Sh.to hS) ?_ | refine wpF_U rfl (fun _ hT => ex_l1 hT rfl rfl rfl CellAt.out) (Sh.to hS) ?_ | refine wpF_U rfl (fun _ hT => ex_ldC hT rfl rfl CellAt.out) (Sh.to hS) ?_ | refine wpF_U rfl (fun _ hT => ex_l0 hT rfl rfl rfl rfl) (Sh.to hS) ?_ | refine wpF_U rfl (fun _ hT => ex_lf hT rfl rfl rfl rfl) (Sh.to hS) ?_ | refine wpF_U rfl (fun _ hT => ex_l1 hT rfl rfl rfl rfl) (Sh.to hS) ?_ | refine wpF_U rfl (fun _ hT => ex_ldC hT rfl rfl rfl) (Sh.to hS) ?_ | refine wpF_U rfl (fun _ hT => ex_l00 hT rfl rfl CellAt.out) (Sh.to hS) ?_ | refine wpF_U rfl (fun _ hT => ex_l00 hT rfl rfl rfl) (Sh.to hS) ?_ | refine wpF_U rfl (fun _ hT => ex_l0f hT rfl rfl CellAt.out) (Sh.to hS) ?_ | refine wpF_U rfl (fun _ hT => ex_l0f hT rfl rfl rfl) (Sh.to hS) ?_ | refine wpF_U rfl (fun _ hT => ex_lr hT rfl rfl rfl rfl) (Sh.to hS) ?_ | refine wpF_U rfl (fun _ hT => ex_lr0 hT rfl rfl rfl) (Sh.to hS) ?_ | refine wpF_U rfl (fun _ hT => ex_lrz hT rfl rfl rfl) (Sh.to hS) ?_ | refine wpF_U rfl (fun _ hT => ex_lrf hT rfl rfl rfl) (Sh.to hS) ?_ | refine wpF_U rfl (fun _ hT => ex_ldrC hT rfl rfl) (Sh.to hS) ?_ | refine wpF_U rfl (fun _ hT => ex_ldr0 hT rfl rfl rfl) (Sh.to hS) ?_); (try simp only [Act.put, List.setIfInBounds_toArray, List.set_cons_zero, List.set_cons_succ])); (refine wpF_U (v := ?_) rfl ?_ (Sh.to hS) ?_; rotate_left; (focus (intro _ _; go_simp; (try (rw [wrap_i64]; (rotate_left; omega))); (try with_reducible rfl))); (try simp only [Act.put, List.setIfInBounds_toArray, List.set_cons_zero, List.set_cons_succ])); (refine wpF_U (v := ?_) rfl ?_ (Sh.to hS) ?_; rotate_left; (focus (intro _ _; go_simp; (try (rw [wrap_i64]; (rotate_left; omega))); (try with_reducible rfl))); (try simp only [Act.put, List.setIfInBounds_toArray, List.set_cons_zero, List.set_cons_succ])); ((first | refine wpF_U rfl (fun _ hT => ex_ix hT rfl rfl rfl ?_) (Sh.to hS) ?_); (focus (first | rfl | omega | (simp; done))); (try simp only [Act.put, List.setIfInBounds_toArray, List.set_cons_zero, List.set_cons_succ])); ((first | refine wpF_U rfl (fun _ hT => ex_l0 hT rfl rfl rfl CellAt.out) (Sh.to hS) ?_ | refine wpF_U rfl (fun _ hT => ex_lf hT rfl rfl rfl CellAt.out) (Sh.to hS) ?_ | refine wpF_U rfl (fun _ hT => ex_l1 hT rfl rfl rfl CellAt.out) (Sh.to hS) ?_ | refine wpF_U rfl (fun _ hT => ex_ldC hT rfl rfl CellAt.out) (Sh.to hS) ?_ | refine wpF_U rfl (fun _ hT => ex_l0 hT rfl rfl rfl rfl) (Sh.to hS) ?_ | refine wpF_U rfl (fun _ hT => ex_lf hT rfl rfl rfl rfl) (Sh.to hS) ?_ | refine wpF_U rfl (fun _ hT => ex_l1 hT rfl rfl rfl rfl) (Sh.to hS) ?_ | refine wpF_U rfl (fun _ hT => ex_ldC hT rfl rfl rfl) (Sh.to hS) ?_ | refine wpF_U rfl (fun _ hT => ex_l00 hT rfl rfl CellAt.out) (Sh.to hS) ?_ | refine wpF_U rfl (fun _ hT => ex_l00 hT rfl rfl rfl) (Sh.to hS) ?_ | refine wpF_U rfl (fun _ hT => ex_l0f hT rfl rfl CellAt.out) (Sh.to hS) ?_ | refine wpF_U rfl (fun _ hT => ex_l0f hT rfl rfl rfl) (Sh.to hS) ?_ | refine wpF_U rfl (fun _ hT => ex_lr hT rfl rfl rfl rfl) (Sh.to hS) ?_ | refine wpF_U rfl (fun _ hT => ex_lr0 hT rfl rfl rfl) (Sh.to hS) ?_ | refine wpF_U rfl (fun _ hT => ex_lrz hT rfl rfl rfl) (Sh.to hS) ?_ | refine wpF_U rfl (fun _ hT => ex_lrf hT rfl rfl rfl) (Sh.to hS) ?_ | refine wpF_U rfl (fun _ hT => ex_ldrC hT rfl rfl) (Sh.to hS) ?_ | refine wpF_U rfl (fun _ hT => ex_ldr0 hT rfl rfl rfl) (Sh.to hS) ?_); (try simp only [Act.put, List.setIfInBounds_toArray, List.set_cons_zero, List.set_cons_succ])); (first | ((first | refine wpF_U rfl (fun _ hT => ex_eqA rfl rfl rfl) (Sh.to hS) ?_ | refine wpF_U rfl (fun _ hT => ex_neA rfl rfl rfl) (Sh.to hS) ?_); (try simp only [Act.put, List.setIfInBounds_toArray, List.set_cons_zero, List.set_cons_succ])) | (refine wpF_U (v := ?_) rfl ?_ (Sh.to hS) ?_; rotate_left; (focus (intro _ _; go_simp; (try (rw [wrap_i64]; (rotate_left; omega))); (try with_reducible rfl))); (try simp only [Act.put, List.setIfInBounds_toArray, List.set_cons_zero, List.set_cons_succ]))); (first | (refine wpF_done (by assumption) ?_) | (refine wpF_doneB (by assumption) ?_) | (refine wpF_nil ?_; (try simp only [Exit.inBlock, Exit.then]))))
        go_wp2_with (first | (refine wl_isld rfl ?_; ((first | refine wl_value rfl (ex_l0 hS rfl rfl rfl CellAt.out) ?_ | refine wl_value rfl (ex_lf hS rfl rfl rfl CellAt.out) ?_ | refine wl_value rfl (ex_l1 hS rfl rfl rfl CellAt.out) ?_ | refine wl_value rfl (ex_ldC hS rfl rfl CellAt.out) ?_ | refine wl_value rfl (ex_l0 hS rfl rfl rfl rfl) ?_ | refine wl_value rfl (ex_lf hS rfl rfl rfl rfl) ?_ | refine wl_value rfl (ex_l1 hS rfl rfl rfl rfl) ?_ | refine wl_value rfl (ex_ldC hS rfl rfl rfl) ?_ | refine wl_value rfl (ex_l00 hS rfl rfl CellAt.out) ?_ | refine wl_value rfl (ex_l00 hS rfl rfl rfl) ?_ | refine wl_value rfl (ex_l0f hS rfl rfl CellAt.out) ?_ | refine wl_value rfl (ex_l0f hS rfl rfl rfl) ?_ | refine wl_value rfl (ex_lr hS rfl rfl rfl rfl) ?_ | refine wl_value rfl (ex_lr0 hS rfl rfl rfl) ?_ | refine wl_value rfl (ex_lrz hS rfl rfl rfl) ?_ | refine wl_value rfl (ex_lrf hS rfl rfl rfl) ?_ | refine wl_value rfl (ex_ldrC hS rfl rfl) ?_ | refine wl_value rfl (ex_ldr0 hS rfl rfl rfl) ?_); (try simp only [Act.put, List.setIfInBounds_toArray, List.set_cons_zero, List.set_cons_succ]))) | ((first | refine wl_value rfl (ex_ix hS rfl rfl rfl ?_) ?_); (focus (first | rfl | omega | (simp; done))); (try simp only [Act.put, List.setIfInBounds_toArray, List.set_cons_zero, List.set_cons_succ])) | ((first | refine wl_value rfl (ex_eqA rfl rfl rfl) ?_ | refine wl_value rfl (ex_neA rfl rfl rfl) ?_); (try simp only [Act.put, List.setIfInBounds_toArray, List.set_cons_zero, List.set_cons_succ])) | (refine wl_alloc rfl rfl hS ?_; intro _ _ hS; (try simp only [Act.put, List.setIfInBounds_toArray, List.set_cons_zero, List.set_cons_succ])) | (refine wl_box rfl rfl rfl rfl hS ?_; intro _ _ hS; (try simp only [Act.put, List.setIfInBounds_toArray, List.set_cons_zero, List.set_cons_succ])) | (refine wl_st rfl rfl rfl rfl rfl hS (of_decide_eq_true rfl) ?_; intro _ hS; (try simp only [evT, evC, List.getD_cons_succ, List.getD_cons_zero, List.set_cons_zero, List.set_cons_succ] at hS); (try simp only [List.set_cons_zero, List.set_cons_succ] at hS); (try simp only [Act.put, List.setIfInBounds_toArray, List.set_cons_zero, List.set_cons_succ])) | (refine wl_strC rfl rfl rfl rfl hS rfl rfl ?_; intro _ hS; (try simp only [evT, evC, List.getD_cons_succ, List.getD_cons_zero, List.set_cons_zero, List.set_cons_succ] at hS); (try simp only [Act.put, List.setIfInBounds_toArray, List.set_cons_zero, List.set_cons_succ])))
        (refine ⟨(i + 1), (⟨hlt, Hnext.out, hS⟩), (by (try dsimp only); omega), rfl, (by (simp only [blankT, junkT, List.cons_append, List.nil_append, List.setIfInBounds_toArray, List.set_cons_zero, List.set_cons_succ])), rfl⟩)
      · haveI : EqA Tryz.prog 24 (enE.cells x) (enE.cells y) false := eqE_no hxy
        have Hx := Lib.hid (show X = false by
          rw [← HX.out, decide_eq_false_iff_not]
          intro h
          have h1 := gx.get
          rw [h, gy.get] at h1
          exact hxy (Option.some.inj h1).symm)
        clear hxy
        go_wp2_with (first | (refine wl_isld rfl ?_; ((first | refine wl_value rfl (ex_l0 hS rfl rfl rfl CellAt.out) ?_ | refine wl_value rfl (ex_lf hS rfl rfl rfl CellAt.out) ?_ | refine wl_value rfl (ex_l1 hS rfl rfl rfl CellAt.out) ?_ | refine wl_value rfl (ex_ldC hS rfl rfl CellAt.out) ?_ | refine wl_value rfl (ex_l0 hS rfl rfl rfl rfl) ?_ | refine wl_value rfl (ex_lf hS rfl rfl rfl rfl) ?_ | refine wl_value rfl (ex_l1 hS rfl rfl rfl rfl) ?_ | refine wl_value rfl (ex_ldC hS rfl rfl rfl) ?_ | refine wl_value rfl (ex_l00 hS rfl rfl CellAt.out) ?_ | refine wl_value rfl (ex_l00 hS rfl rfl rfl) ?_ | refine wl_value rfl (ex_l0f hS rfl rfl CellAt.out) ?_ | refine wl_value rfl (ex_l0f hS rfl rfl rfl) ?_ | refine wl_value rfl (ex_lr hS rfl rfl rfl rfl) ?_ | refine wl_value rfl (ex_lr0 hS rfl rfl rfl) ?_ | refine wl_value rfl (ex_lrz hS rfl rfl rfl) ?_ | refine wl_value rfl (ex_lrf hS rfl rfl rfl) ?_ | refine wl_value rfl (ex_ldrC hS rfl rfl) ?_ | refine wl_value rfl (ex_ldr0 hS rfl rfl rfl) ?_); (try simp only [Act.put, List.setIfInBounds_toArray, List.set_cons_zero, List.set_cons_succ]))) | ((first | refine wl_value rfl (ex_ix hS rfl rfl rfl ?_) ?_); (focus (first | rfl | omega | (simp; done))); (try simp only [Act.put, List.setIfInBounds_toArray, List.set_cons_zero, List.set_cons_succ])) | ((first | refine wl_value rfl (ex_eqA rfl rfl rfl) ?_ | refine wl_value rfl (ex_neA rfl rfl rfl) ?_); (try simp only [Act.put, List.setIfInBounds_toArray, List.set_cons_zero, List.set_cons_succ])) | (refine wl_alloc rfl rfl hS ?_; intro _ _ hS; (try simp only [Act.put, List.setIfInBounds_toArray, List.set_cons_zero, List.set_cons_succ])) | (refine wl_box rfl rfl rfl rfl hS ?_; intro _ _ hS; (try simp only [Act.put, List.setIfInBounds_toArray, List.set_cons_zero, List.set_cons_succ])) | (refine wl_st rfl rfl rfl rfl rfl hS (of_decide_eq_true rfl) ?_; intro _ hS; (try simp only [evT, evC, List.getD_cons_succ, List.getD_cons_zero, List.set_cons_zero, List.set_cons_succ] at hS); (try simp only [List.set_cons_zero, List.set_cons_succ] at hS); (try simp only [Act.put, List.setIfInBounds_toArray, List.set_cons_zero, List.set_cons_succ])) | (refine wl_strC rfl rfl rfl rfl hS rfl rfl ?_; intro _ hS; (try simp only [evT, evC, List.getD_cons_succ, List.getD_cons_zero, List.set_cons_zero, List.set_cons_succ] at hS); (try simp only [Act.put, List.setIfInBounds_toArray, List.set_cons_zero, List.set_cons_succ])))
        (refine wp_drawnF hS [(0, true), (1, true), (2, true), (3, true), (4, true), (5, true), (6, true), (7, true), (8, true)] (by kernel_rfl) (by kernel_rfl) (by intro d _ _ _ _ h; cases d <;> exact h) ?_; have hS := hS.drew; simp only [picks_cons, picks_nil, opAt, List.toList_toArray]; (refine wpF_U (v := ?_) rfl ?_ (Sh.to hS) ?_; rotate_left; (focus (intro _ _; go_simp; (try (rw [wrap_i64]; (rotate_left; omega))); (try with_reducible rfl))); (try simp only [Act.put, List.setIfInBounds_toArray, List.set_cons_zero, List.set_cons_succ])); (refine wpF_U (v := ?_) rfl ?_ (Sh.to hS) ?_; rotate_left; (focus (intro _ _; go_simp; (try (rw [wrap_i64]; (rotate_left; omega))); (try with_reducible rfl))); (try simp only [Act.put, List.setIfInBounds_toArray, List.set_cons_zero, List.set_cons_succ])); ((first | refine wpF_U rfl (fun _ hT => ex_ix hT rfl rfl rfl ?_) (Sh.to hS) ?_); (focus (first | rfl | omega | (simp; done))); (try simp only [Act.put, List.setIfInBounds_toArray, List.set_cons_zero, List.set_cons_succ])); ((first | refine wpF_U rfl (fun _ hT => ex_l0 hT rfl rfl rfl CellAt.out) (Sh.to hS) ?_ | refine wpF_U rfl (fun _ hT => ex_lf hT rfl rfl rfl CellAt.out) (Sh.to hS) ?_ | refine wpF_U rfl (fun _ hT => ex_l1 hT rfl rfl rfl CellAt.out) (Sh.to hS) ?_ | refine wpF_U rfl (fun _ hT => ex_ldC hT rfl rfl CellAt.out) (Sh.to hS) ?_ | refine wpF_U rfl (fun _ hT => ex_l0 hT rfl rfl rfl rfl) (Sh.to hS) ?_ | refine wpF_U rfl (fun _ hT => ex_lf hT rfl rfl rfl rfl) (Sh.to hS) ?_ | refine wpF_U rfl (fun _ hT => ex_l1 hT rfl rfl rfl rfl) (Sh.to hS) ?_ | refine wpF_U rfl (fun _ hT => ex_ldC hT rfl rfl rfl) (Sh.to hS) ?_ | refine wpF_U rfl (fun _ hT => ex_l00 hT rfl rfl CellAt.out) (Sh.to hS) ?_ | refine wpF_U rfl (fun _ hT => ex_l00 hT rfl rfl rfl) (Sh.to hS) ?_ | refine wpF_U rfl (fun _ hT => ex_l0f hT rfl rfl CellAt.out) (Sh.to hS) ?_ | refine wpF_U rfl (fun _ hT => ex_l0f hT rfl rfl rfl) (Sh.to hS) ?_ | refine wpF_U rfl (fun _ hT => ex_lr hT rfl rfl rfl rfl) (Sh.to hS) ?_ | refine wpF_U rfl (fun _ hT => ex_lr0 hT rfl rfl rfl) (Sh.to hS) ?_ | refine wpF_U rfl (fun _ hT => ex_lrz hT rfl rfl rfl) (Sh.to hS) ?_ | refine wpF_U rfl (fun _ hT => ex_lrf hT rfl rfl rfl) (Sh.to hS) ?_ | refine wpF_U rfl (fun _ hT => ex_ldrC hT rfl rfl) (Sh.to hS) ?_ | refine wpF_U rfl (fun _ hT => ex_ldr0 hT rfl rfl rfl) (Sh.to hS) ?_); (try simp only [Act.put, List.setIfInBounds_toArray, List.set_cons_zero, List.set_cons_succ])); (refine wpF_U (v := ?_) rfl ?_ (Sh.to hS) ?_; rotate_left; (focus (intro _ _; go_simp; (try (rw [wrap_i64]; (rotate_left; omega))); (try with_reducible rfl))); (try simp only [Act.put, List.setIfInBounds_toArray, List.set_cons_zero, List.set_cons_succ])); (refine wpF_U (v := ?_) rfl ?_ (Sh.to hS) ?_; rotate_left; (focus (intro _ _; go_simp; (try (rw [wrap_i64]; (rotate_left; omega))); (try with_reducible rfl))); (try simp only [Act.put, List.setIfInBounds_toArray, List.set_cons_zero, List.set_cons_succ])); ((first | refine wpF_U rfl (fun _ hT => ex_ix hT rfl rfl rfl ?_) (Sh.to hS) ?_); (focus (first | rfl | omega | (simp; done))); (try simp only [Act.put, List.setIfInBounds_toArray, List.set_cons_zero, List.set_cons_succ])); ((first | refine wpF_U rfl (fun _ hT => ex_l0 hT rfl rfl rfl CellAt.out) (Sh.to hS) ?_ | refine wpF_U rfl (fun _ hT => ex_lf hT rfl rfl rfl CellAt.out) (Sh.to hS) ?_ | refine wpF_U rfl (fun _ hT => ex_l1 hT rfl rfl rfl CellAt.out) (Sh.to hS) ?_ | refine wpF_U rfl (fun _ hT => ex_ldC hT rfl rfl CellAt.out) (Sh.to hS) ?_ | refine wpF_U rfl (fun _ hT => ex_l0 hT rfl rfl rfl rfl) (Sh.to hS) ?_ | refine wpF_U rfl (fun _ hT => ex_lf hT rfl rfl rfl rfl) (Sh.to hS) ?_ | refine wpF_U rfl (fun _ hT => ex_l1 hT rfl rfl rfl rfl) (Sh.to hS) ?_ | refine wpF_U rfl (fun _ hT => ex_ldC hT rfl rfl rfl) (Sh.to hS) ?_ | refine wpF_U rfl (fun _ hT => ex_l00 hT rfl rfl CellAt.out) (Sh.to hS) ?_ | refine wpF_U rfl (fun _ hT => ex_l00 hT rfl rfl rfl) (Sh.to hS) ?_ | refine wpF_U rfl (fun _ hT => ex_l0f hT rfl rfl CellAt.out) (Sh.to hS) ?_ | refine wpF_U rfl (fun _ hT => ex_l0f hT rfl rfl rfl) (Sh.to hS) ?_ | refine wpF_U rfl (fun _ hT => ex_lr hT rfl rfl rfl rfl) (Sh.to hS) ?_ | refine wpF_U rfl (fun _ hT => ex_lr0 hT rfl rfl rfl) (Sh.to hS) ?_ | refine wpF_U rfl (fun _ hT => ex_lrz hT rfl rfl rfl) (Sh.to hS) ?_ | refine wpF_U rfl (fun _ hT => ex_lrf hT rfl rfl rfl) (Sh.to hS) ?_ | refine wpF_U rfl (fun _ hT => ex_ldrC hT rfl rfl) (Sh.to hS) ?_ | refine wpF_U rfl (fun _ hT => ex_ldr0 hT rfl rfl rfl) (Sh.to hS) ?_); (try simp only [Act.put, List.setIfInBounds_toArray, List.set_cons_zero, List.set_cons_succ])); (first | ((first | refine wpF_U rfl (fun _ hT => ex_eqA rfl rfl rfl) (Sh.to hS) ?_ | refine wpF_U rfl (fun _ hT => ex_neA rfl rfl rfl) (Sh.to hS) ?_); (try simp only [Act.put, List.setIfInBounds_toArray, List.set_cons_zero, List.set_cons_succ])) | (refine wpF_U (v := ?_) rfl ?_ (Sh.to hS) ?_; rotate_left; (focus (intro _ _; go_simp; (try (rw [wrap_i64]; (rotate_left; omega))); (try with_reducible rfl))); (try simp only [Act.put, List.setIfInBounds_toArray, List.set_cons_zero, List.set_cons_succ]))); (first | (refine wpF_done (by assumption) ?_) | (refine wpF_doneB (by assumption) ?_) | (refine wpF_nil ?_; (try simp only [Exit.inBlock, Exit.then]))))
        go_wp2_with (first | (refine wl_isld rfl ?_; ((first | refine wl_value rfl (ex_l0 hS rfl rfl rfl CellAt.out) ?_ | refine wl_value rfl (ex_lf hS rfl rfl rfl CellAt.out) ?_ | refine wl_value rfl (ex_l1 hS rfl rfl rfl CellAt.out) ?_ | refine wl_value rfl (ex_ldC hS rfl rfl CellAt.out) ?_ | refine wl_value rfl (ex_l0 hS rfl rfl rfl rfl) ?_ | refine wl_value rfl (ex_lf hS rfl rfl rfl rfl) ?_ | refine wl_value rfl (ex_l1 hS rfl rfl rfl rfl) ?_ | refine wl_value rfl (ex_ldC hS rfl rfl rfl) ?_ | refine wl_value rfl (ex_l00 hS rfl rfl CellAt.out) ?_ | refine wl_value rfl (ex_l00 hS rfl rfl rfl) ?_ | refine wl_value rfl (ex_l0f hS rfl rfl CellAt.out) ?_ | refine wl_value rfl (ex_l0f hS rfl rfl rfl) ?_ | refine wl_value rfl (ex_lr hS rfl rfl rfl rfl) ?_ | refine wl_value rfl (ex_lr0 hS rfl rfl rfl) ?_ | refine wl_value rfl (ex_lrz hS rfl rfl rfl) ?_ | refine wl_value rfl (ex_lrf hS rfl rfl rfl) ?_ | refine wl_value rfl (ex_ldrC hS rfl rfl) ?_ | refine wl_value rfl (ex_ldr0 hS rfl rfl rfl) ?_); (try simp only [Act.put, List.setIfInBounds_toArray, List.set_cons_zero, List.set_cons_succ]))) | ((first | refine wl_value rfl (ex_ix hS rfl rfl rfl ?_) ?_); (focus (first | rfl | omega | (simp; done))); (try simp only [Act.put, List.setIfInBounds_toArray, List.set_cons_zero, List.set_cons_succ])) | ((first | refine wl_value rfl (ex_eqA rfl rfl rfl) ?_ | refine wl_value rfl (ex_neA rfl rfl rfl) ?_); (try simp only [Act.put, List.setIfInBounds_toArray, List.set_cons_zero, List.set_cons_succ])) | (refine wl_alloc rfl rfl hS ?_; intro _ _ hS; (try simp only [Act.put, List.setIfInBounds_toArray, List.set_cons_zero, List.set_cons_succ])) | (refine wl_box rfl rfl rfl rfl hS ?_; intro _ _ hS; (try simp only [Act.put, List.setIfInBounds_toArray, List.set_cons_zero, List.set_cons_succ])) | (refine wl_st rfl rfl rfl rfl rfl hS (of_decide_eq_true rfl) ?_; intro _ hS; (try simp only [evT, evC, List.getD_cons_succ, List.getD_cons_zero, List.set_cons_zero, List.set_cons_succ] at hS); (try simp only [List.set_cons_zero, List.set_cons_succ] at hS); (try simp only [Act.put, List.setIfInBounds_toArray, List.set_cons_zero, List.set_cons_succ])) | (refine wl_strC rfl rfl rfl rfl hS rfl rfl ?_; intro _ hS; (try simp only [evT, evC, List.getD_cons_succ, List.getD_cons_zero, List.set_cons_zero, List.set_cons_succ] at hS); (try simp only [Act.put, List.setIfInBounds_toArray, List.set_cons_zero, List.set_cons_succ])))
        go_ret
        rw [Hx.out]
        exact ⟨rfl, hS⟩
    · rw [List.take_of_length_le (by omega), List.take_of_length_le (by rw [← Hlen.out]; omega)] at htk
      have Hx := Lib.hid (show X = true by rw [← HX.out, htk]; simp)
      clear htk
      go_wp2_with (first | (refine wl_isld rfl ?_; ((first | refine wl_value rfl (ex_l0 hS rfl rfl rfl CellAt.out) ?_ | refine wl_value rfl (ex_lf hS rfl rfl rfl CellAt.out) ?_ | refine wl_value rfl (ex_l1 hS rfl rfl rfl CellAt.out) ?_ | refine wl_value rfl (ex_ldC hS rfl rfl CellAt.out) ?_ | refine wl_value rfl (ex_l0 hS rfl rfl rfl rfl) ?_ | refine wl_value rfl (ex_lf hS rfl rfl rfl rfl) ?_ | refine wl_value rfl (ex_l1 hS rfl rfl rfl rfl) ?_ | refine wl_value rfl (ex_ldC hS rfl rfl rfl) ?_ | refine wl_value rfl (ex_l00 hS rfl rfl CellAt.out) ?_ | refine wl_value rfl (ex_l00 hS rfl rfl rfl) ?_ | refine wl_value rfl (ex_l0f hS rfl rfl CellAt.out) ?_ | refine wl_value rfl (ex_l0f hS rfl rfl rfl) ?_ | refine wl_value rfl (ex_lr hS rfl rfl rfl rfl) ?_ | refine wl_value rfl (ex_lr0 hS rfl rfl rfl) ?_ | refine wl_value rfl (ex_lrz hS rfl rfl rfl) ?_ | refine wl_value rfl (ex_lrf hS rfl rfl rfl) ?_ | refine wl_value rfl (ex_ldrC hS rfl rfl) ?_ | refine wl_value rfl (ex_ldr0 hS rfl rfl rfl) ?_); (try simp only [Act.put, List.setIfInBounds_toArray, List.set_cons_zero, List.set_cons_succ]))) | ((first | refine wl_value rfl (ex_ix hS rfl rfl rfl ?_) ?_); (focus (first | rfl | omega | (simp; done))); (try simp only [Act.put, List.setIfInBounds_toArray, List.set_cons_zero, List.set_cons_succ])) | ((first | refine wl_value rfl (ex_eqA rfl rfl rfl) ?_ | refine wl_value rfl (ex_neA rfl rfl rfl) ?_); (try simp only [Act.put, List.setIfInBounds_toArray, List.set_cons_zero, List.set_cons_succ])) | (refine wl_alloc rfl rfl hS ?_; intro _ _ hS; (try simp only [Act.put, List.setIfInBounds_toArray, List.set_cons_zero, List.set_cons_succ])) | (refine wl_box rfl rfl rfl rfl hS ?_; intro _ _ hS; (try simp only [Act.put, List.setIfInBounds_toArray, List.set_cons_zero, List.set_cons_succ])) | (refine wl_st rfl rfl rfl rfl rfl hS (of_decide_eq_true rfl) ?_; intro _ hS; (try simp only [evT, evC, List.getD_cons_succ, List.getD_cons_zero, List.set_cons_zero, List.set_cons_succ] at hS); (try simp only [List.set_cons_zero, List.set_cons_succ] at hS); (try simp only [Act.put, List.setIfInBounds_toArray, List.set_cons_zero, List.set_cons_succ])) | (refine wl_strC rfl rfl rfl rfl hS rfl rfl ?_; intro _ hS; (try simp only [evT, evC, List.getD_cons_succ, List.getD_cons_zero, List.set_cons_zero, List.set_cons_succ] at hS); (try simp only [Act.put, List.setIfInBounds_toArray, List.set_cons_zero, List.set_cons_succ])))
      go_ret
      rw [Hx.out]
      exact ⟨rfl, hS⟩
  · have Hx := Lib.hid (show decide (xs = ys) = false by rw [decide_eq_false_iff_not]; intro h; exact hlen (by rw [h]))
    have d1 : ((xs.length : Int) == (ys.length : Int)) = false := beq_no (by omega)
    have d1b : ((xs.length : Int) != (ys.length : Int)) = true := bne_no (by omega)
    clear hlen
    go_enter Tryz.func12, Tryz.ntmps12
    go_wp2_with (first | (refine wl_isld rfl ?_; ((first | refine wl_value rfl (ex_l0 hS rfl rfl rfl CellAt.out) ?_ | refine wl_value rfl (ex_lf hS rfl rfl rfl CellAt.out) ?_ | refine wl_value rfl (ex_l1 hS rfl rfl rfl CellAt.out) ?_ | refine wl_value rfl (ex_ldC hS rfl rfl CellAt.out) ?_ | refine wl_value rfl (ex_l0 hS rfl rfl rfl rfl) ?_ | refine wl_value rfl (ex_lf hS rfl rfl rfl rfl) ?_ | refine wl_value rfl (ex_l1 hS rfl rfl rfl rfl) ?_ | refine wl_value rfl (ex_ldC hS rfl rfl rfl) ?_ | refine wl_value rfl (ex_l00 hS rfl rfl CellAt.out) ?_ | refine wl_value rfl (ex_l00 hS rfl rfl rfl) ?_ | refine wl_value rfl (ex_l0f hS rfl rfl CellAt.out) ?_ | refine wl_value rfl (ex_l0f hS rfl rfl rfl) ?_ | refine wl_value rfl (ex_lr hS rfl rfl rfl rfl) ?_ | refine wl_value rfl (ex_lr0 hS rfl rfl rfl) ?_ | refine wl_value rfl (ex_lrz hS rfl rfl rfl) ?_ | refine wl_value rfl (ex_lrf hS rfl rfl rfl) ?_ | refine wl_value rfl (ex_ldrC hS rfl rfl) ?_ | refine wl_value rfl (ex_ldr0 hS rfl rfl rfl) ?_); (try simp only [Act.put, List.setIfInBounds_toArray, List.set_cons_zero, List.set_cons_succ]))) | ((first | refine wl_value rfl (ex_ix hS rfl rfl rfl ?_) ?_); (focus (first | rfl | omega | (simp; done))); (try simp only [Act.put, List.setIfInBounds_toArray, List.set_cons_zero, List.set_cons_succ])) | ((first | refine wl_value rfl (ex_eqA rfl rfl rfl) ?_ | refine wl_value rfl (ex_neA rfl rfl rfl) ?_); (try simp only [Act.put, List.setIfInBounds_toArray, List.set_cons_zero, List.set_cons_succ])) | (refine wl_alloc rfl rfl hS ?_; intro _ _ hS; (try simp only [Act.put, List.setIfInBounds_toArray, List.set_cons_zero, List.set_cons_succ])) | (refine wl_box rfl rfl rfl rfl hS ?_; intro _ _ hS; (try simp only [Act.put, List.setIfInBounds_toArray, List.set_cons_zero, List.set_cons_succ])) | (refine wl_st rfl rfl rfl rfl rfl hS (of_decide_eq_true rfl) ?_; intro _ hS; (try simp only [evT, evC, List.getD_cons_succ, List.getD_cons_zero, List.set_cons_zero, List.set_cons_succ] at hS); (try simp only [List.set_cons_zero, List.set_cons_succ] at hS); (try simp only [Act.put, List.setIfInBounds_toArray, List.set_cons_zero, List.set_cons_succ])) | (refine wl_strC rfl rfl rfl rfl hS rfl rfl ?_; intro _ hS; (try simp only [evT, evC, List.getD_cons_succ, List.getD_cons_zero, List.set_cons_zero, List.set_cons_succ] at hS); (try simp only [Act.put, List.setIfInBounds_toArray, List.set_cons_zero, List.set_cons_succ])))
    go_ret
    rw [Hx.out]
    exact ⟨rfl, hS⟩
end
end Go.Tk

set_option linter.unusedSectionVars false
set_option linter.unusedSimpArgs false
set_option linter.unusedVariables false
namespace Go.Tk
open Go.RowKit Go.Proofs

structure Ch where
  path : ByteArray
  old : En
  new : En
deriving DecidableEq
def Ch.cells (x : Ch) : List Value := [.string x.path, .string x.old.path, .int .i64 x.old.kind, .string x.old.data, .string x.new.path, .int .i64 x.new.kind, .string x.new.data]
def enC : Enc Ch := {
  val x := .agg x.cells.toArray
  cells x := x.cells
  valc _ := rfl
  k := 7
  pos := by decide
  len _ := rfl
  one x := by intro v hv; simp only [Ch.cells, List.mem_cons, List.not_mem_nil, or_false] at hv; rcases hv with rfl | rfl | rfl | rfl | rfl | rfl | rfl <;> rfl }
instance (x : Ch) : CellAt (enC.cells x) 0 (.string x.path) := ⟨rfl⟩
instance (x : Ch) : CellAt x.cells 0 (.string x.path) := ⟨rfl⟩
instance (x : Ch) : RowOk x.cells 7 := ⟨rfl, enC.one x⟩
def zE : En := ⟨⟨#[]⟩, 0, ⟨#[]⟩⟩
def zC : Ch := ⟨⟨#[]⟩, zE, zE⟩
section
variable {B : Base} {R H H1 : HL} {w w' : World}
end
/-- The changes between two rows of entries by rising paths. -/
def diffL : List En → List En → List Ch
  | [], [] => []
  | a :: r, [] => ⟨a.path, a, zE⟩ :: diffL r []
  | [], b :: s => ⟨b.path, zE, b⟩ :: diffL [] s
  | a :: r, b :: s => if lessI a.path b.path < 0 then ⟨a.path, a, zE⟩ :: diffL r (b :: s) else if 0 < lessI a.path b.path then ⟨b.path, zE, b⟩ :: diffL (a :: r) s else if a = b then diffL r s else ⟨b.path, a, b⟩ :: diffL r s
termination_by a b => a.length + b.length
theorem diffL_nil : diffL [] [] = [] := by rw [diffL]
theorem diffL_l (a : En) (r : List En) : diffL (a :: r) [] = ⟨a.path, a, zE⟩ :: diffL r [] := by rw [diffL]
theorem diffL_r (b : En) (s : List En) : diffL [] (b :: s) = ⟨b.path, zE, b⟩ :: diffL [] s := by rw [diffL]
theorem diffL_c (a b : En) (r s : List En) : diffL (a :: r) (b :: s) = if lessI a.path b.path < 0 then ⟨a.path, a, zE⟩ :: diffL r (b :: s) else if 0 < lessI a.path b.path then ⟨b.path, zE, b⟩ :: diffL (a :: r) s else if a = b then diffL r s else ⟨b.path, a, b⟩ :: diffL r s := by rw [diffL]
theorem mayB_zE {a : En} (h : mayB a = true) : ¬ a = zE := by
  intro e
  rw [e] at h
  exact absurd h (by decide +kernel)
/-- What Diff answers. -/
def diffR (a b : List En) : List Ch × Int := if (checkA a).2 = 0 then (if (checkA b).2 = 0 then (diffL a b, 0) else ([], (checkA b).2)) else ([], (checkA a).2)
theorem cutRd {α : Type} {E : Enc α} {B : Base} {H : HL} {A : Option Addr} {cap : Nat} {x : α} {xs : List α} (r : RdAt E B H A (x :: xs)) (hc : (x :: xs).length ≤ cap) : RdAt E B H (if cap = 1 then A else A.map (·.add (1 * E.k))) xs := by
  by_cases h : cap = 1
  · have : xs = [] := by
      rw [List.length_cons] at hc
      exact List.eq_nil_of_length_eq_zero (by omega)
    subst this
    exact RdAt.nil
  · rw [if_neg h]
    exact r.drop 1
end Go.Tk

set_option linter.unusedSectionVars false
set_option linter.unusedSimpArgs false
set_option linter.unusedVariables false
namespace Go.Tk
open Go.RowKit Go.Proofs
/-- The directories above a path. -/
def chainN : Nat → ByteArray → List ByteArray
  | 0, _ => []
  | n + 1, d => if d.size = 0 then [] else d :: chainN n (upP d)
def above (t : List En) : List ByteArray := t.flatMap fun e => chainN e.path.size (upP e.path)
def stepC : Option (List En) → ByteArray → Option (List En)
  | none, _ => none
  | some out, d => if kindI out d = 2 then some out else if kindI out d = 0 then some (out ++ [dirE d]) else none
theorem stepC_some (out : List En) (d : ByteArray) : stepC (some out) d = if kindI out d = 2 then some out else if kindI out d = 0 then some (out ++ [dirE d]) else none := rfl
theorem foldC_none : ∀ D : List ByteArray, D.foldl stepC none = none
  | [] => rfl
  | d :: D => by rw [List.foldl_cons]; exact foldC_none D
theorem climb_fold : ∀ (n : Nat) (out : List En) (d : ByteArray), climb n out d = (chainN n d).foldl stepC (some out)
  | 0, _, _ => rfl
  | n + 1, out, d => by
    rw [climb, chainN]
    by_cases h0 : d.size = 0
    · rw [if_pos h0, if_pos h0]; rfl
    rw [if_neg h0, if_neg h0, List.foldl_cons]
    rw [stepC_some]
    by_cases h2 : kindI out d = 2
    · rw [if_pos h2, if_pos h2]; exact climb_fold n out _
    rw [if_neg h2, if_neg h2]
    by_cases h3 : kindI out d = 0
    · rw [if_pos h3, if_pos h3]; exact climb_fold n _ _
    rw [if_neg h3, if_neg h3]
    exact (foldC_none _).symm
theorem climbs_fold : ∀ (l out : List En), climbs out l = (above l).foldl stepC (some out)
  | [], out => rfl
  | e :: r, out => by
    have ha : above (e :: r) = chainN e.path.size (upP e.path) ++ above r := by simp [above]
    rw [climbs_cons, ha, List.foldl_append, climb_fold]
    cases (chainN e.path.size (upP e.path)).foldl stepC (some out) with
    | none => exact (foldC_none _).symm
    | some o => exact climbs_fold r o
instance (d : ByteArray) (l : List ByteArray) : Decidable (d ∈ l) := decidable_of_iff (l.any (fun x => decide (x = d)) = true) (by simp)
/-- What lacks, each once, as it comes. -/
def news (t : List En) : List ByteArray → List ByteArray → List ByteArray
  | acc, [] => acc
  | acc, d :: D => if kindI t d = 0 ∧ d ∉ acc then news t (acc ++ [d]) D else news t acc D
theorem news_le (t : List En) : ∀ (D acc : List ByteArray), acc.length ≤ (news t acc D).length
  | [], acc => Nat.le_refl _
  | d :: D, acc => by
    rw [news]
    split
    · have := news_le t D (acc ++ [d]); rw [List.length_append] at this; exact Nat.le_trans (Nat.le_add_right _ _) this
    · exact news_le t D acc
theorem news_mem (t : List En) (x : ByteArray) : ∀ (D acc : List ByteArray), x ∈ news t acc D ↔ x ∈ acc ∨ (x ∈ D ∧ kindI t x = 0)
  | [], acc => by simp [news]
  | d :: D, acc => by
    rw [news]
    by_cases h : kindI t d = 0 ∧ d ∉ acc
    · rw [if_pos h, news_mem t x D]
      by_cases hx : x = d
      · subst hx; simp [h.1]
      · simp [hx]
    · rw [if_neg h, news_mem t x D]
      by_cases hx : x = d
      · subst hx
        by_cases hk : kindI t x = 0
        · have : x ∈ acc := Classical.byContradiction fun hn => h ⟨hk, hn⟩
          simp [this]
        · simp [hk]
      · simp [hx]
theorem news_nodup (t : List En) : ∀ (D acc : List ByteArray), acc.Nodup → (news t acc D).Nodup
  | [], acc, h => h
  | d :: D, acc, h => by
    rw [news]
    split
    · rename_i hd
      refine news_nodup t D _ ?_
      rw [List.nodup_append]
      refine ⟨h, by simp, fun a ha b hb => ?_⟩
      rw [List.mem_singleton.1 hb]
      rintro rfl
      exact hd.2 ha
    · exact news_nodup t D acc h
def BadD (t : List En) (D : List ByteArray) : Prop := ∃ d ∈ D, kindI t d ≠ 0 ∧ kindI t d ≠ 2
theorem kindI_cons (e : En) (r : List En) (p : ByteArray) : kindI (e :: r) p = if e.path = p then e.kind else kindI r p := by
  unfold kindI
  rw [List.find?_cons]
  by_cases h : e.path = p <;> simp [h]
theorem kindI_dirs : ∀ (acc : List ByteArray) (d : ByteArray), kindI (acc.map dirE) d = if d ∈ acc then 2 else 0
  | [], d => by simp [kindI]
  | a :: acc, d => by
    rw [List.map_cons, kindI_cons, kindI_dirs acc d]
    show (if a = d then (2 : Int) else _) = _
    by_cases h : a = d
    · subst h; simp
    · have : ¬ d = a := fun e => h e.symm
      simp [h, this]
theorem kindI_with {t : List En} (ht : ∀ e ∈ t, mayB e = true) (acc : List ByteArray) (d : ByteArray) : kindI (t ++ acc.map dirE) d = if kindI t d = 0 then (if d ∈ acc then 2 else 0) else kindI t d := by
  rw [kindI_append _ _ _ ht, kindI_dirs]
theorem foldC_some {t : List En} (ht : ∀ e ∈ t, mayB e = true) : ∀ (D acc : List ByteArray), ¬ BadD t D → D.foldl stepC (some (t ++ acc.map dirE)) = some (t ++ (news t acc D).map dirE)
  | [], acc, _ => rfl
  | d :: D, acc, hb => by
    have hb2 : ¬ BadD t D := fun ⟨x, hx, h⟩ => hb ⟨x, List.mem_cons_of_mem _ hx, h⟩
    have hd : kindI t d = 0 ∨ kindI t d = 2 := by
      refine Classical.byContradiction fun h => hb ⟨d, by simp, fun h0 => h (.inl h0), fun h2 => h (.inr h2)⟩
    rw [List.foldl_cons, news]
    rw [stepC_some]
    rw [kindI_with ht]
    rcases hd with h0 | h2
    · rw [if_pos h0]
      by_cases hm : d ∈ acc
      · rw [if_pos hm, if_pos rfl, if_neg (fun h : kindI t d = 0 ∧ d ∉ acc => h.2 hm)]
        exact foldC_some ht D acc hb2
      · rw [if_neg hm, if_neg (by decide), if_pos rfl, if_pos ⟨h0, hm⟩, List.append_assoc, show acc.map dirE ++ [dirE d] = (acc ++ [d]).map dirE by simp]
        exact foldC_some ht D _ hb2
    · rw [if_neg (show ¬ kindI t d = 0 by omega), if_pos h2, if_neg (fun h : kindI t d = 0 ∧ d ∉ acc => absurd h.1 (by omega))]
      exact foldC_some ht D acc hb2
theorem foldC_bad {t : List En} (ht : ∀ e ∈ t, mayB e = true) : ∀ (D acc : List ByteArray), BadD t D → D.foldl stepC (some (t ++ acc.map dirE)) = none
  | [], acc, ⟨d, hd, _⟩ => nomatch hd
  | d :: D, acc, hb => by
    rw [List.foldl_cons]
    rw [stepC_some]
    rw [kindI_with ht]
    by_cases hd : kindI t d ≠ 0 ∧ kindI t d ≠ 2
    · rw [if_neg hd.1, if_neg hd.2, if_neg hd.1]
      exact foldC_none D
    have hb2 : BadD t D := by
      obtain ⟨x, hx, h⟩ := hb
      rcases List.mem_cons.1 hx with rfl | hx
      · exact absurd h hd
      · exact ⟨x, hx, h⟩
    by_cases h0 : kindI t d = 0
    · rw [if_pos h0]
      by_cases hm : d ∈ acc
      · rw [if_pos hm, if_pos rfl]
        exact foldC_bad ht D acc hb2
      · rw [if_neg hm, if_neg (by decide), if_pos rfl, List.append_assoc, show acc.map dirE ++ [dirE d] = (acc ++ [d]).map dirE by simp]
        exact foldC_bad ht D _ hb2
    · have h2 : kindI t d = 2 := Classical.byContradiction fun h => hd ⟨h0, h⟩
      rw [if_neg h0, if_pos h2]
      exact foldC_bad ht D acc hb2
/-- The document's way: what was put in, whether it was too much, whether it was wrong. -/
structure MrS where
  acc : List ByteArray
  many : Bool
  wrong : Bool
def stepM (t : List En) (x : MrS) (d : ByteArray) : MrS :=
  if kindI t d = 0 then (if d ∈ x.acc then x else if 1024 < t.length + x.acc.length then ⟨x.acc, true, x.wrong⟩ else ⟨x.acc ++ [d], x.many, x.wrong⟩)
  else ⟨x.acc, x.many, x.wrong || decide (kindI t d ≠ 2)⟩
theorem stepM_def (t : List En) (x : MrS) (d : ByteArray) : stepM t x d = if kindI t d = 0 then (if d ∈ x.acc then x else if 1024 < t.length + x.acc.length then ⟨x.acc, true, x.wrong⟩ else ⟨x.acc ++ [d], x.many, x.wrong⟩) else ⟨x.acc, x.many, x.wrong || decide (kindI t d ≠ 2)⟩ := rfl
theorem foldM_wrong (t : List En) : ∀ (D : List ByteArray) (x : MrS), (D.foldl (stepM t) x).wrong = true ↔ x.wrong = true ∨ BadD t D
  | [], x => by
    constructor
    · exact .inl
    · rintro (h | ⟨d, hd, _⟩)
      · exact h
      · exact nomatch hd
  | d :: D, x => by
    rw [List.foldl_cons, foldM_wrong t D]
    have hc : BadD t (d :: D) ↔ (kindI t d ≠ 0 ∧ kindI t d ≠ 2) ∨ BadD t D := by
      unfold BadD; simp
    rw [hc]
    rw [stepM_def]
    by_cases h0 : kindI t d = 0
    · rw [if_pos h0]
      have hw : (if d ∈ x.acc then x else if 1024 < t.length + x.acc.length then ⟨x.acc, true, x.wrong⟩ else ⟨x.acc ++ [d], x.many, x.wrong⟩ : MrS).wrong = x.wrong := by
        split
        · rfl
        · split <;> rfl
      rw [hw]
      simp [h0]
    · rw [if_neg h0]
      by_cases h2 : kindI t d = 2
      · simp [h2]
      · simp [h0, h2]
theorem foldM_keep (t : List En) : ∀ (D : List ByteArray) (x : MrS), x.many = true → (D.foldl (stepM t) x).many = true
  | [], x, h => h
  | d :: D, x, h => by
    rw [List.foldl_cons]
    refine foldM_keep t D _ ?_
    rw [stepM_def]
    split
    · split
      · exact h
      · split
        · rfl
        · exact h
    · exact h
theorem foldM_few (t : List En) : ∀ (D : List ByteArray) (x : MrS), (D.foldl (stepM t) x).many = false → (D.foldl (stepM t) x).acc = news t x.acc D
  | [], x, h => rfl
  | d :: D, x, h => by
    rw [List.foldl_cons] at h ⊢
    rw [foldM_few t D _ h, news]
    rw [stepM_def] at h ⊢
    by_cases h0 : kindI t d = 0
    · rw [if_pos h0] at h ⊢
      by_cases hm : d ∈ x.acc
      · rw [if_pos hm, if_neg (fun h => h.2 hm)]
      · rw [if_neg hm] at h ⊢
        by_cases hb : 1024 < t.length + x.acc.length
        · rw [if_pos hb, foldM_keep t D _ rfl] at h; cases h
        · rw [if_neg hb, if_pos ⟨h0, hm⟩]
    · rw [if_neg h0, if_neg (fun h => h0 h.1)]
theorem foldM_many (t : List En) : ∀ (D : List ByteArray) (x : MrS), (D.foldl (stepM t) x).many = true → x.many = true ∨ 1024 < t.length + (news t x.acc D).length
  | [], x, h => .inl h
  | d :: D, x, h => by
    rw [List.foldl_cons] at h
    have ih := foldM_many t D _ h
    rw [news]
    rw [stepM_def] at ih
    by_cases h0 : kindI t d = 0
    · rw [if_pos h0] at ih
      by_cases hm : d ∈ x.acc
      · rw [if_pos hm] at ih
        rw [if_neg (fun h => h.2 hm)]
        exact ih
      · rw [if_neg hm] at ih
        rw [if_pos ⟨h0, hm⟩]
        by_cases hb : 1024 < t.length + x.acc.length
        · right
          have := news_le t D (x.acc ++ [d])
          rw [List.length_append] at this
          omega
        · rw [if_neg hb] at ih
          exact ih
    · rw [if_neg h0] at ih
      rw [if_neg (fun h => h0 h.1)]
      exact ih
theorem kindI_perm {t l : List En} (hp : t.Perm l) (hd : Dist l) (p : ByteArray) : kindI t p = kindI l p := by
  have hdt := hd.perm hp
  by_cases h : ∃ e ∈ l, e.path = p
  · obtain ⟨e, he, rfl⟩ := h
    rw [kindI_of hd he, kindI_of hdt (hp.symm.subset he)]
  · have h1 : ∀ u : List En, (∀ e ∈ u, e ∈ l) → kindI u p = 0 := by
      intro u hu
      unfold kindI
      rw [List.find?_eq_none.2 (fun e he => by simpa using fun hx => h ⟨e, hu e he, hx⟩)]
    rw [h1 t (fun e he => hp.subset he), h1 l (fun e he => he)]
theorem above_perm {t l : List En} (hp : t.Perm l) (d : ByteArray) : d ∈ above t ↔ d ∈ above l := by
  unfold above
  rw [List.mem_flatMap, List.mem_flatMap]
  exact ⟨fun ⟨e, he, h⟩ => ⟨e, hp.subset he, h⟩, fun ⟨e, he, h⟩ => ⟨e, hp.symm.subset he, h⟩⟩
theorem perm_of_nodup {α : Type} [DecidableEq α] {a b : List α} (ha : a.Nodup) (hb : b.Nodup) (h : ∀ x, x ∈ a ↔ x ∈ b) : a.Perm b := by
  induction a generalizing b with
  | nil =>
    cases b with
    | nil => exact .refl _
    | cons y b => exact absurd ((h y).2 (by simp)) (by simp)
  | cons x a ih =>
    have hx : x ∈ b := (h x).1 (by simp)
    rw [List.nodup_cons] at ha
    refine ((ih ha.2 (hb.erase x) fun y => ?_).cons x).trans (List.perm_cons_erase hx).symm
    rw [hb.mem_erase_iff, ← h y, List.mem_cons]
    constructor
    · intro hy
      refine ⟨?_, .inr hy⟩
      rintro rfl
      exact ha.1 hy
    · rintro ⟨h1, h2 | h2⟩
      · exact absurd h2 h1
      · exact h2
theorem fitsI_perm {a b : List En} (h : a.Perm b) : fitsI a = fitsI b := by unfold fitsI; rw [h.length_eq, sumE_perm h]
theorem makeR_fold {l : List En} (hm : ∀ e ∈ l, mayB e = true) (hd : Dist l) : makeR l = makeT ((above l).foldl stepC (some (l ++ ([] : List ByteArray).map dirE))) := by
  unfold makeR
  rw [if_neg (by rw [List.all_eq_true.2 hm]; decide), if_neg (by rw [twins_no l [] (fun _ h => nomatch h) hm hd]; decide), climbs_fold, List.map_nil, List.append_nil]
/-- The document's Make against the program's. -/
theorem refMake {t l : List En} (hm : ∀ e ∈ l, mayB e = true) (hd : Dist l) (hp : t.Perm l) {x : MrS} (hx : (above t).foldl (stepM t) ⟨[], false, false⟩ = x) :
    (x.wrong = true → makeR l = (52, [])) ∧
    (x.wrong = false → (x.many = true ∨ 1024 < (t ++ x.acc.map dirE).length) → makeR l = (53, [])) ∧
    (x.wrong = false → x.many = false → ¬ 1024 < (t ++ x.acc.map dirE).length → 1048576 < sumE (t ++ x.acc.map dirE) → makeR l = (54, [])) ∧
    (x.wrong = false → x.many = false → ¬ 1024 < (t ++ x.acc.map dirE).length → ¬ 1048576 < sumE (t ++ x.acc.map dirE) → ∃ o, makeR l = (0, o) ∧ (t ++ x.acc.map dirE).Perm o) := by
  have hmk := makeR_fold hm hd
  have hbad : BadD t (above t) ↔ BadD l (above l) := by
    unfold BadD
    constructor
    · rintro ⟨d, h1, h2⟩
      exact ⟨d, (above_perm hp d).1 h1, by rwa [kindI_perm hp hd] at h2⟩
    · rintro ⟨d, h1, h2⟩
      exact ⟨d, (above_perm hp d).2 h1, by rwa [kindI_perm hp hd]⟩
  have hw := foldM_wrong t (above t) ⟨[], false, false⟩
  have hfew := foldM_few t (above t) ⟨[], false, false⟩
  have hmany := foldM_many t (above t) ⟨[], false, false⟩
  rw [hx] at hw hfew hmany
  have hn : (news t [] (above t)).Perm (news l [] (above l)) := by
    refine perm_of_nodup (news_nodup _ _ _ .nil) (news_nodup _ _ _ .nil) fun d => ?_
    rw [news_mem, news_mem, above_perm hp, kindI_perm hp hd]
  have hlen : t.length + (news t [] (above t)).length = (l ++ (news l [] (above l)).map dirE).length := by
    rw [List.length_append, List.length_map, hp.length_eq, hn.length_eq]
  by_cases hb : BadD l (above l)
  · rw [foldC_bad hm _ _ hb] at hmk
    have : x.wrong = true := hw.2 (.inr (hbad.2 hb))
    refine ⟨fun _ => hmk, ?_, ?_, ?_⟩ <;> intro h <;> rw [this] at h <;> cases h
  rw [foldC_some hm _ _ hb] at hmk
  have hw0 : ¬ x.wrong = true := fun h => by
    rcases hw.1 h with h | h
    · cases h
    · exact hb (hbad.1 h)
  unfold makeT at hmk
  dsimp only at hmk
  refine ⟨fun h => absurd h hw0, fun _ h => ?_, fun _ hf h1 h2 => ?_, fun _ hf h1 h2 => ?_⟩
  · have hbig : 1024 < (l ++ (news l [] (above l)).map dirE).length := by
      rw [← hlen]
      by_cases hmn : x.many = true
      · rcases hmany hmn with h | h
        · cases h
        · exact h
      · rcases h with h | h
        · exact absurd h hmn
        · rw [hfew (by simpa using hmn), List.length_append, List.length_map] at h
          exact h
    have h4 : fitsI (l ++ (news l [] (above l)).map dirE) = 53 := by unfold fitsI; rw [if_pos hbig]
    rw [hmk, h4, if_neg (by decide)]
  · have hpo : (t ++ x.acc.map dirE).Perm (l ++ (news l [] (above l)).map dirE) := by
      rw [hfew hf]; exact hp.append (hn.map _)
    have h4 : fitsI (l ++ (news l [] (above l)).map dirE) = 54 := by rw [← fitsI_perm hpo]; unfold fitsI; rw [if_neg h1, if_pos h2]
    rw [hmk, h4, if_neg (by decide)]
  · have hpo : (t ++ x.acc.map dirE).Perm (l ++ (news l [] (above l)).map dirE) := by
      rw [hfew hf]; exact hp.append (hn.map _)
    have h4 : fitsI (l ++ (news l [] (above l)).map dirE) = 0 := by rw [← fitsI_perm hpo]; unfold fitsI; rw [if_neg h1, if_neg h2]
    refine ⟨_, ?_, hpo⟩
    rw [hmk, h4, if_pos rfl]
theorem twins_yes : ∀ (r pre : List En), (∀ e ∈ pre, mayB e = true) → (∀ e ∈ r, mayB e = true) → Dist pre → twins pre r = false → Dist (pre ++ r)
  | [], pre, _, _, h, _ => by rwa [List.append_nil]
  | e :: r, pre, hp, hr, hd, ht => by
    rw [twins_cons] at ht
    by_cases h0 : kindI pre e.path = 0
    · rw [if_pos h0] at ht
      have := twins_yes r (pre ++ [e]) (fun x hx => by
        rcases List.mem_append.1 hx with h1 | h1
        · exact hp x h1
        · rw [List.mem_singleton.1 h1]; exact hr e (by simp)) (fun x hx => hr x (List.mem_cons_of_mem _ hx)) (by
          unfold Dist
          rw [List.pairwise_append]
          refine ⟨hd, List.pairwise_singleton .., fun x hx y hy => ?_⟩
          rw [List.mem_singleton.1 hy]
          exact (kindI_zero hp).1 h0 x hx) ht
      rwa [List.append_assoc] at this
    · rw [if_neg h0] at ht; cases ht
theorem makeR_bad {l : List En} (h : ¬ l.all mayB = true) : makeR l = (50, []) := by
  unfold makeR
  rw [if_pos (by simpa using h)]
theorem makeR_twins {l : List En} (hm : ∀ e ∈ l, mayB e = true) (h : ¬ Dist l) : makeR l = (9, []) := by
  unfold makeR
  rw [if_neg (by rw [List.all_eq_true.2 hm]; decide), if_pos]
  cases ht : twins [] l with
  | true => rfl
  | false => exact absurd (twins_yes l [] (fun _ h => nomatch h) hm .nil ht) h
theorem dist_snoc {t : List En} (hs : t.Pairwise fun x y => 0 ≤ lessI y.path x.path) (hok : ∀ e ∈ t, okP e.path = true) {i : Nat} {x y : En} (gx : Nth t i x) (gy : Nth t (i - 1) y) (hi : 1 ≤ i) (hne : ¬ x.path = y.path) (hd : Dist (t.take i)) : Dist (t.take (i + 1)) := by
  rw [gx.take]
  unfold Dist
  rw [List.pairwise_append]
  refine ⟨hd, List.pairwise_singleton .., fun z hz x' hx' => ?_⟩
  rw [List.mem_singleton.1 hx']
  obtain ⟨j, hj⟩ := List.getElem?_of_mem hz
  have hji : j < i := by
    have := (List.getElem?_eq_some_iff.1 hj).1
    rw [List.length_take] at this
    omega
  rw [List.getElem?_take, if_pos hji] at hj
  obtain ⟨hjl, hjx⟩ := List.getElem?_eq_some_iff.1 hj
  obtain ⟨hyl, hyx⟩ := List.getElem?_eq_some_iff.1 gy.get
  obtain ⟨hxl, hxx⟩ := List.getElem?_eq_some_iff.1 gx.get
  intro he
  by_cases hjy : j = i - 1
  · subst hjy
    rw [hjx] at hyx
    subst hyx
    exact hne he.symm
  have p1 := List.pairwise_iff_getElem.1 hs j (i - 1) hjl hyl (by omega)
  have p2 := List.pairwise_iff_getElem.1 hs (i - 1) i hyl hxl (by omega)
  rw [hjx, hyx] at p1
  rw [hyx, hxx] at p2
  have oz := hok z (List.mem_of_mem_take hz)
  have oy := hok y gy.mem
  rw [← he] at p2
  have := lessI_swap oz oy
  have := lessI_eq oz oy (by omega)
  exact hne (by rw [← he, this])
theorem not_dist {t : List En} {i : Nat} {x y : En} (gx : Nth t i x) (gy : Nth t (i - 1) y) (hi : 1 ≤ i) (he : x.path = y.path) : ¬ Dist t := by
  intro hd
  obtain ⟨hyl, hyx⟩ := List.getElem?_eq_some_iff.1 gy.get
  obtain ⟨hxl, hxx⟩ := List.getElem?_eq_some_iff.1 gx.get
  have := List.pairwise_iff_getElem.1 hd (i - 1) i hyl hxl (by omega)
  rw [hyx, hxx] at this
  exact this he.symm
theorem chain_ok : ∀ (n : Nat) (d : ByteArray), okP d = true → ∀ x ∈ chainN n d, okP x = true ∧ x.size ≠ 0
  | 0, _, _, x, hx => nomatch hx
  | n + 1, d, hd, x, hx => by
    rw [chainN] at hx
    by_cases h0 : d.size = 0
    · rw [if_pos h0] at hx; exact nomatch hx
    rw [if_neg h0] at hx
    rcases List.mem_cons.1 hx with rfl | hx
    · exact ⟨hd, h0⟩
    · exact chain_ok n _ (upP_ok hd) x hx
theorem makeR_dist {l : List En} {o : List En} (h : makeR l = (0, o)) : Dist o ∧ ∀ e ∈ o, mayB e = true := by
  by_cases ha : ¬ l.all mayB = true
  · rw [makeR_bad ha] at h; exact absurd (Prod.mk.inj h).1 (by decide)
  replace ha := Classical.not_not.1 ha
  have hm : ∀ e ∈ l, mayB e = true := fun e he => List.all_eq_true.1 ha e he
  by_cases hd : ¬ Dist l
  · rw [makeR_twins hm hd] at h; exact absurd (Prod.mk.inj h).1 (by decide)
  replace hd := Classical.not_not.1 hd
  have hmk := makeR_fold hm hd
  by_cases hb : BadD l (above l)
  · rw [foldC_bad hm _ _ hb] at hmk
    rw [hmk] at h
    exact absurd (Prod.mk.inj h).1 (by decide)
  rw [foldC_some hm _ _ hb] at hmk
  rw [hmk] at h
  unfold makeT at h
  dsimp only at h
  by_cases hf : ¬ fitsI (l ++ (news l [] (above l)).map dirE) = 0
  · rw [if_neg hf] at h; exact absurd (Prod.mk.inj h).1 hf
  rw [if_pos (Classical.not_not.1 hf)] at h
  obtain rfl := (Prod.mk.inj h).2
  have hk : ∀ d ∈ news l [] (above l), d ∈ above l ∧ kindI l d = 0 := fun d hd => by
    rcases (news_mem l d _ _).1 hd with h | h
    · exact nomatch h
    · exact h
  refine ⟨?_, fun e he => ?_⟩
  · unfold Dist
    rw [List.pairwise_append]
    refine ⟨hd, ?_, fun x hx y hy => ?_⟩
    · rw [List.pairwise_map]
      exact (news_nodup l (above l) [] .nil).imp fun {a b} h e => h e
    · obtain ⟨d, hd2, rfl⟩ := List.mem_map.1 hy
      exact (kindI_zero hm).1 (hk d hd2).2 x hx
  · rcases List.mem_append.1 he with h1 | h1
    · exact hm e h1
    · obtain ⟨d, hd2, rfl⟩ := List.mem_map.1 h1
      obtain ⟨e, he2, h3⟩ := List.mem_flatMap.1 (hk d hd2).1
      have := chain_ok _ _ (upP_ok (mayB_ok (hm e he2)).1) d h3
      exact mayB_dir this.1 this.2
end Go.Tk

set_option linter.unusedSectionVars false
set_option linter.unusedSimpArgs false
set_option linter.unusedVariables false
namespace Go.Tk
open Go.RowKit Go.Proofs
structure SrSt where
  a : List En
  Aa : Option Addr
  ca : Nat
  b : List En
  Ab : Option Addr
  cb : Nat
  out : List En
  A : Option Addr
  cap : Nat
def GoodP (a : List En) : Prop := ∀ e ∈ a, okP e.path = true ∧ e.path.size ≤ 16777216
theorem GoodP.drop {a : List En} (h : GoodP a) (n : Nat) : GoodP (a.drop n) := fun e he => h e (List.mem_of_mem_drop he)
theorem GoodP.take {a : List En} (h : GoodP a) (n : Nat) : GoodP (a.take n) := fun e he => h e (List.mem_of_mem_take he)
theorem GoodP.perm {a b : List En} (h : GoodP a) (hp : b.Perm a) : GoodP b := fun e he => h e (hp.subset he)
section
variable {B : Base} {R H H1 : HL} {w w' : World}
def SrI (B : Base) (R : HL) (N : Nat) (X : List En) (x : SrSt) (w : World) : Prop :=
  ∃ sp, x.out ++ mergeE x.a x.b = X ∧ x.a.length ≤ x.ca ∧ x.b.length ≤ x.cb ∧ x.out.length + x.a.length + x.b.length ≤ N ∧ GoodP x.a ∧ GoodP x.b ∧ RdAt enE B R x.Aa x.a ∧ RdAt enE B R x.Ab x.b ∧
    OwnSl enE x.A x.out sp x.cap ∧ Sh B (rowA x.A (flat enE x.out ++ sp) 24 ++ R) w
def SortRP (B : Base) (R : HL) (t : List En) (e : Ending) (w' : World) : Prop :=
  ∃ A sp cap, ∃ ys : List En, e = .returned (.slice A ys.length cap) ∧ ys.Perm t ∧ ys.Pairwise (fun x y => 0 ≤ lessI y.path x.path) ∧ OwnSl enE A ys sp cap ∧ Sh B (rowA A (flat enE ys ++ sp) 24 ++ R) w'
set_option maxRecDepth 100000 in
set_option maxHeartbeats 6400000 in
theorem SortR_all [HasML B] : ∀ (N : Nat) (t : List En), t.length = N → ∀ {R : HL} {w : World} {A : Option Addr} {cap : Nat}, Sh B R w → RdAt enE B R A t → t.length ≤ cap → t.length ≤ 8388608 → GoodP t →
    Calls Tryz.prog 29 #[.slice A t.length cap] w (SortRP B R t) := by
  intro N
  induction N using Nat.strongRecOn with
  | _ N ih =>
  intro t hN R w A cap hS r hcap hl hg
  have hN0 : OwnSl enE none [] [] 0 := OwnSl.nothing
  by_cases h2 : t.length < 2
  · have d1 : decide ((t.length : Int) < 2) = true := decide_eq_true (by omega)
    have e1 : decide (t.length < 2) = true := decide_eq_true h2
    have hpw : t.Pairwise (fun x y => 0 ≤ lessI y.path x.path) := by
      match t, h2 with
      | [], _ => exact .nil
      | [x], _ => exact List.pairwise_singleton ..
    have Hpw := Lib.hid hpw
    clear hpw h2 ih hg hN
    have hS : Sh B (rowA none (flat enE [] ++ []) 24 ++ R) _ := hS
    go_enter Tryz.func29, Tryz.ntmps29
    go_wp2_with ((refine wl_ap (E := enE) rfl rfl rfl rfl hS ?_ ?_ ?_ ?_ ?_; (focus (rfl)); (focus (rfl)); (focus ((simp only [List.length_nil]; omega))); (focus decide); intro _ _ _ _ hO hS; (try simp only [Act.put, List.setIfInBounds_toArray, List.set_cons_zero, List.set_cons_succ])))
    go_ret
    rw [List.nil_append] at hO hS
    exact ⟨_, _, _, t, rfl, .refl _, Hpw.out, hO, hS.to⟩
  have d1 : decide ((t.length : Int) < 2) = false := decide_eq_false (by omega)
  have e1 : decide (t.length < 2) = false := decide_eq_false h2
  have hk1 : t.length / 2 ≤ cap := by omega
  have hk2 : t.length / 2 ≤ t.length := by omega
  have r1 := RdAt.take r (t.length / 2)
  have r2 := cutRdI (l := t.length / 2) (k := 3) r rfl hcap
  have hlt1 : (t.take (t.length / 2)).length = t.length / 2 := by rw [List.length_take]; omega
  have hlt2 : (t.drop (t.length / 2)).length = t.length - t.length / 2 := by rw [List.length_drop]
  have l1 := fun (w : World) (hS : Sh B R w) => ih _ (by omega) (t.take (t.length / 2)) rfl (cap := cap) hS r1 (by omega) (by omega) (hg.take _)
  have l2 := fun (w : World) (d : HL) (hS : Sh B (d ++ R) w) => ih _ (by omega) (t.drop (t.length / 2)) rfl (cap := cap - t.length / 2) hS (RdAt.tl (h := r2)) (by omega) (by omega) (hg.drop _)
  rw [hlt1] at l1
  rw [hlt2] at l2
  have Hg := Lib.hid hg
  clear hg ih hN hlt1 hlt2 r1 r2 h2
  go_enter Tryz.func29, Tryz.ntmps29
  go_wp2_with (fail)
  (refine wp_drawnT (H := []) (Sh.to hS) ((.u 0 (.u 1 (.u 2 (.u 3 (.u 4 (.u 6 (.u 7 (.u 8 (.u 9 (.u 10 (.e 5 (.e 11 (.u 12 (.u 13 .done))))))))))))))) (by kernel_rfl) (by kernel_rfl) (by intro d _ _ _ _ h; cases d <;> exact h) ?_; have hS := hS.drew; simp only [pk_u, pk_e, pk_b, pk_done, opAt, List.toList_toArray])
  iterate 4 ((refine wpT_U (v := ?_) rfl ?_ (Sh.to hS) ?_; rotate_left; (focus (intro _ _; go_simp; (try (rw [wrap_i64]; (rotate_left; omega))); (try with_reducible rfl))); (try simp only [Act.put, List.setIfInBounds_toArray, List.set_cons_zero, List.set_cons_succ])))
  (refine wpT_U rfl (fun _ _ => ex_cutH (h := t.length / 2) rfl rfl rfl hk1) (Sh.to hS) ?_; (try simp only [Act.put, List.setIfInBounds_toArray, List.set_cons_zero, List.set_cons_succ]))
  iterate 4 ((refine wpT_U (v := ?_) rfl ?_ (Sh.to hS) ?_; rotate_left; (focus (intro _ _; go_simp; (try (rw [wrap_i64]; (rotate_left; omega))); (try with_reducible rfl))); (try simp only [Act.put, List.setIfInBounds_toArray, List.set_cons_zero, List.set_cons_succ])))
  (refine wpT_U rfl (fun _ _ => ex_cutI (l := t.length / 2) rfl rfl rfl hk2) (Sh.to hS) ?_; (try simp only [Act.put, List.setIfInBounds_toArray, List.set_cons_zero, List.set_cons_succ]))
  ((refine wpT_ex ?_); go_wp2_with ((go_at_call 29; refine ((l1 _ hS)).mono ?_; rintro e w' (⟨A2, sp2, cap2, ya, rfl, hp1, hw1, hOa, hS⟩))); (refine ⟨?_, ?_⟩; (focus (exact Or.inr (Sh.to hS)))))
  clear l1
  ((refine wpT_ex ?_); go_wp2_with ((go_at_call 29; refine ((l2 _ _ hS)).mono ?_; rintro e w' (⟨A3, sp3, cap3, yb, rfl, hp2, hw2, hOb, hS⟩))); (refine ⟨?_, ?_⟩; (focus (exact Or.inr (Sh.to hS)))))
  clear l2
  iterate 2 ((refine wpT_U (v := ?_) rfl ?_ (Sh.to hS) ?_; rotate_left; (focus (intro _ _; go_simp; (try (rw [wrap_i64]; (rotate_left; omega))); (try with_reducible rfl))); (try simp only [Act.put, List.setIfInBounds_toArray, List.set_cons_zero, List.set_cons_succ])))
  ((refine wpT_done (by assumption) ?_))
  have hcA : ya.length ≤ cap2 := hOa.len_le
  have hcB : yb.length ≤ cap3 := hOb.len_le
  have hla := hp1.length_eq
  have hlb := hp2.length_eq
  rw [List.length_take] at hla
  rw [List.length_drop] at hlb
  have hga := (Hg.out.take (t.length / 2)).perm hp1
  have hgb := (Hg.out.drop (t.length / 2)).perm hp2
  have Hpm := Lib.hid (show (mergeE ya yb).Perm t by
    have h1 := (mergeE_perm ya yb).trans (hp1.append hp2)
    rwa [List.take_append_drop] at h1)
  have Hps := Lib.hid (mergeE_sorted ya yb (fun e he => (hga e he).1) (fun e he => (hgb e he).1) hw1 hw2)
  obtain ⟨X, hX⟩ : ∃ X, mergeE ya yb = X := ⟨_, rfl⟩
  rw [hX] at Hpm Hps
  have HX := Lib.hid hX
  obtain ⟨R2, hR2⟩ : ∃ R2, rowA A3 (flat enE yb ++ sp3) 24 ++ (rowA A2 (flat enE ya ++ sp2) 24 ++ R) = R2 := ⟨_, rfl⟩
  have rA : RdAt enE B R2 A2 ya := by rw [← hR2]; infer_instance
  have rB : RdAt enE B R2 A3 yb := by rw [← hR2]; infer_instance
  rw [hR2] at hS
  have Hga := Lib.hid hga
  have Hgb := Lib.hid hgb
  have HR2 := Lib.hid hR2
  clear hX hp1 hp2 hw1 hw2 hOa hOb hga hgb hR2
  go_wp2_with (fail)
  have h0 : SrI B R2 t.length X ⟨ya, A2, cap2, yb, A3, cap3, [], none, 0⟩ _ := ⟨[], by rw [List.nil_append]; exact HX.out, hcA, hcB, (by simp; omega), Hga.out, Hgb.out, rA, rB, OwnSl.nothing, hS⟩
  clear hS rA rB
  refine wp_loopS [3, 4, 5] [23, 24, 25, 26, 27, 28, 29, 30, 31, 32, 33, 34, 35, 36, 37, 38, 39, 40, 41, 42, 43, 44, 45, 46, 47, 48, 49, 50, 51, 52, 53, 54, 55] (fun x : SrSt => [.slice x.Aa x.a.length x.ca, .slice x.Ab x.b.length x.cb, .slice x.A x.out.length x.cap]) (SrI B R2 t.length X) (fun x => x.a.length + x.b.length) (⟨ya, A2, cap2, yb, A3, cap3, [], none, 0⟩) rfl (h0) ?_
  clear h0 hcA hcB hla hlb
  rintro ⟨a, A, ca, b, A', cb, out, Ao, capo⟩ J w ⟨sp, hd, hca, hcb, hlen, hga, hgb, r, r', hO, hS⟩
  dsimp only at hd hca hcb hlen hga hgb r r' hO hS
  have Hd := Lib.hid hd
  have Hga := Lib.hid hga
  have Hgb := Lib.hid hgb
  clear hd hga hgb
  (simp only [Frm, setsT, junkT, List.setIfInBounds_toArray, List.set_cons_zero, List.set_cons_succ])
  have Hra := Lib.hid (cutRd1 r hca)
  have Hrb := Lib.hid (cutRd1 r' hcb)
  by_cases hna : 0 < a.length
  · obtain ⟨x, gx⟩ := Nth.of hna
    have Hxg := Lib.hid (Hga.out x gx.mem)
    have Hca := Lib.hid gx.cons
    have p1 : decide (0 < (a.length : Int)) = true := decide_eq_true (by omega)
    have p3 : decide (0 < a.length) = true := decide_eq_true hna
    have hle1 : 1 ≤ a.length := hna
    by_cases hnb : 0 < b.length
    · obtain ⟨y, gy⟩ := Nth.of hnb
      have Hyg := Lib.hid (Hgb.out y gy.mem)
      have Hcb := Lib.hid gy.cons
      have q1 : decide (0 < (b.length : Int)) = true := decide_eq_true (by omega)
      have q3 : decide (0 < b.length) = true := decide_eq_true hnb
      have hle2 : 1 ≤ b.length := hnb
      have hls := fun (w : World) (R : HL) (hS : Sh B R w) => LessR_any hS y.path x.path Hyg.out.2 Hxg.out.2
      have hD := mergeE_c x y (a.drop 1) (b.drop 1)
      rw [← Hca.out, ← Hcb.out] at hD
      obtain ⟨c, hc⟩ : ∃ c, lessI y.path x.path = c := ⟨_, rfl⟩
      rw [hc] at hls hD
      clear hc
      by_cases hc1 : c < 0
      · rw [if_pos hc1] at hD
        rw [decide_eq_true hc1] at hls
        have Hn := Lib.hid (show out ++ mergeE a b = (out ++ [y]) ++ mergeE a (b.drop 1) by rw [hD]; simp)
        clear hD hc1
        go_wp2_with (fail)
        (refine wp_drawnF hS [(0, true), (1, true), (2, true), (3, true), (4, true), (5, true), (6, true), (7, true), (8, false)] (by kernel_rfl) (by kernel_rfl) (by intro d _ _ _ _ h; cases d <;> exact h) ?_; have hS := hS.drew; simp only [picks_cons, picks_nil, opAt, List.toList_toArray]; (refine wpF_U (v := ?_) rfl ?_ (Sh.to hS) ?_; rotate_left; (focus (intro _ _; go_simp; (try (rw [wrap_i64]; (rotate_left; omega))); (try with_reducible rfl))); (try simp only [Act.put, List.setIfInBounds_toArray, List.set_cons_zero, List.set_cons_succ])); ((refine wpF_U rfl (fun _ hT => ex_ix hT rfl rfl rfl ?_) (Sh.to hS) ?_); (focus (rfl)); (try simp only [Act.put, List.setIfInBounds_toArray, List.set_cons_zero, List.set_cons_succ])); (refine wpF_U (v := ?_) rfl ?_ (Sh.to hS) ?_; rotate_left; (focus (intro _ _; go_simp; (try (rw [wrap_i64]; (rotate_left; omega))); (try with_reducible rfl))); (try simp only [Act.put, List.setIfInBounds_toArray, List.set_cons_zero, List.set_cons_succ])); ((refine wpF_U rfl (fun _ hT => ex_l00 hT rfl rfl CellAt.out) (Sh.to hS) ?_); (try simp only [Act.put, List.setIfInBounds_toArray, List.set_cons_zero, List.set_cons_succ])); (refine wpF_U (v := ?_) rfl ?_ (Sh.to hS) ?_; rotate_left; (focus (intro _ _; go_simp; (try (rw [wrap_i64]; (rotate_left; omega))); (try with_reducible rfl))); (try simp only [Act.put, List.setIfInBounds_toArray, List.set_cons_zero, List.set_cons_succ])); ((refine wpF_U rfl (fun _ hT => ex_ix hT rfl rfl rfl ?_) (Sh.to hS) ?_); (focus (rfl)); (try simp only [Act.put, List.setIfInBounds_toArray, List.set_cons_zero, List.set_cons_succ])); (refine wpF_U (v := ?_) rfl ?_ (Sh.to hS) ?_; rotate_left; (focus (intro _ _; go_simp; (try (rw [wrap_i64]; (rotate_left; omega))); (try with_reducible rfl))); (try simp only [Act.put, List.setIfInBounds_toArray, List.set_cons_zero, List.set_cons_succ])); ((refine wpF_U rfl (fun _ hT => ex_l00 hT rfl rfl CellAt.out) (Sh.to hS) ?_); (try simp only [Act.put, List.setIfInBounds_toArray, List.set_cons_zero, List.set_cons_succ])); (refine wpF_ex ?_); go_wp2_with ((go_at_call 57; refine ((hls _ _ hS)).mono ?_; rintro e w' (⟨rfl, hS⟩))); (refine ⟨?_, ?_⟩; (focus (exact Or.inl trivial))); ((refine wpF_done (by assumption) ?_)))
        go_wp2_with (first | (refine wl_buildSlice (E := enE) [y] rfl rfl (by simp only [List.map_toArray, List.map_cons, List.map_nil]; rfl) rfl (by decide) (by decide) hS ?_; intro _ _ hS hN; (try simp only [Act.put, List.setIfInBounds_toArray, List.set_cons_zero, List.set_cons_succ])) | (refine wl_ap (E := enE) rfl rfl rfl rfl hS ?_ ?_ ?_ ?_ ?_; (focus (rfl)); (focus (rfl)); (focus ((simp only [List.length_cons, List.length_nil]; omega))); (focus decide); intro _ _ _ _ hO2 hS; (try simp only [Act.put, List.setIfInBounds_toArray, List.set_cons_zero, List.set_cons_succ])) | (refine wl_value rfl ((ex_cut1 rfl rfl rfl hle2)) ?_; (try simp only [Act.put, List.setIfInBounds_toArray, List.set_cons_zero, List.set_cons_succ])) | (refine wl_isld rfl ?_; ((refine wl_value rfl (ex_lr hS rfl rfl rfl rfl) ?_); (try simp only [Act.put, List.setIfInBounds_toArray, List.set_cons_zero, List.set_cons_succ]))) | ((refine wl_value rfl (ex_ix hS rfl rfl rfl ?_) ?_); (focus (rfl)); (try simp only [Act.put, List.setIfInBounds_toArray, List.set_cons_zero, List.set_cons_succ])))
        exact ⟨(⟨a, A, ca, b.drop 1, _, _, out ++ [y], _, _⟩ : SrSt), ⟨_, (by rw [← Hd.out, Hn.out]), hca, (by show (b.drop 1).length ≤ cb - 1; rw [List.length_drop]; omega), (by show (out ++ [y]).length + a.length + (b.drop 1).length ≤ t.length; rw [List.length_append, List.length_drop]; simp; omega), Hga.out, Hgb.out.drop 1, r, Hrb.out, hO2, hS.to⟩, (by dsimp only; rw [List.length_drop]; omega), (by dsimp only; rw [List.length_append, List.length_drop]; rfl), (by (simp only [blankT, junkT, List.cons_append, List.nil_append, List.setIfInBounds_toArray, List.set_cons_zero, List.set_cons_succ])), rfl⟩
      · rw [if_neg hc1] at hD
        rw [decide_eq_false hc1] at hls
        have Hn := Lib.hid (show out ++ mergeE a b = (out ++ [x]) ++ mergeE (a.drop 1) b by rw [hD]; simp)
        clear hD hc1
        go_wp2_with (fail)
        (refine wp_drawnF hS [(0, true), (1, true), (2, true), (3, true), (4, true), (5, true), (6, true), (7, true), (8, false)] (by kernel_rfl) (by kernel_rfl) (by intro d _ _ _ _ h; cases d <;> exact h) ?_; have hS := hS.drew; simp only [picks_cons, picks_nil, opAt, List.toList_toArray]; (refine wpF_U (v := ?_) rfl ?_ (Sh.to hS) ?_; rotate_left; (focus (intro _ _; go_simp; (try (rw [wrap_i64]; (rotate_left; omega))); (try with_reducible rfl))); (try simp only [Act.put, List.setIfInBounds_toArray, List.set_cons_zero, List.set_cons_succ])); ((refine wpF_U rfl (fun _ hT => ex_ix hT rfl rfl rfl ?_) (Sh.to hS) ?_); (focus (rfl)); (try simp only [Act.put, List.setIfInBounds_toArray, List.set_cons_zero, List.set_cons_succ])); (refine wpF_U (v := ?_) rfl ?_ (Sh.to hS) ?_; rotate_left; (focus (intro _ _; go_simp; (try (rw [wrap_i64]; (rotate_left; omega))); (try with_reducible rfl))); (try simp only [Act.put, List.setIfInBounds_toArray, List.set_cons_zero, List.set_cons_succ])); ((refine wpF_U rfl (fun _ hT => ex_l00 hT rfl rfl CellAt.out) (Sh.to hS) ?_); (try simp only [Act.put, List.setIfInBounds_toArray, List.set_cons_zero, List.set_cons_succ])); (refine wpF_U (v := ?_) rfl ?_ (Sh.to hS) ?_; rotate_left; (focus (intro _ _; go_simp; (try (rw [wrap_i64]; (rotate_left; omega))); (try with_reducible rfl))); (try simp only [Act.put, List.setIfInBounds_toArray, List.set_cons_zero, List.set_cons_succ])); ((refine wpF_U rfl (fun _ hT => ex_ix hT rfl rfl rfl ?_) (Sh.to hS) ?_); (focus (rfl)); (try simp only [Act.put, List.setIfInBounds_toArray, List.set_cons_zero, List.set_cons_succ])); (refine wpF_U (v := ?_) rfl ?_ (Sh.to hS) ?_; rotate_left; (focus (intro _ _; go_simp; (try (rw [wrap_i64]; (rotate_left; omega))); (try with_reducible rfl))); (try simp only [Act.put, List.setIfInBounds_toArray, List.set_cons_zero, List.set_cons_succ])); ((refine wpF_U rfl (fun _ hT => ex_l00 hT rfl rfl CellAt.out) (Sh.to hS) ?_); (try simp only [Act.put, List.setIfInBounds_toArray, List.set_cons_zero, List.set_cons_succ])); (refine wpF_ex ?_); go_wp2_with ((go_at_call 57; refine ((hls _ _ hS)).mono ?_; rintro e w' (⟨rfl, hS⟩))); (refine ⟨?_, ?_⟩; (focus (exact Or.inl trivial))); ((refine wpF_done (by assumption) ?_)))
        go_wp2_with (first | (refine wl_buildSlice (E := enE) [x] rfl rfl (by simp only [List.map_toArray, List.map_cons, List.map_nil]; rfl) rfl (by decide) (by decide) hS ?_; intro _ _ hS hN; (try simp only [Act.put, List.setIfInBounds_toArray, List.set_cons_zero, List.set_cons_succ])) | (refine wl_ap (E := enE) rfl rfl rfl rfl hS ?_ ?_ ?_ ?_ ?_; (focus (rfl)); (focus (rfl)); (focus ((simp only [List.length_cons, List.length_nil]; omega))); (focus decide); intro _ _ _ _ hO2 hS; (try simp only [Act.put, List.setIfInBounds_toArray, List.set_cons_zero, List.set_cons_succ])) | (refine wl_value rfl ((ex_cut1 rfl rfl rfl hle1)) ?_; (try simp only [Act.put, List.setIfInBounds_toArray, List.set_cons_zero, List.set_cons_succ])) | (refine wl_isld rfl ?_; ((refine wl_value rfl (ex_lr hS rfl rfl rfl rfl) ?_); (try simp only [Act.put, List.setIfInBounds_toArray, List.set_cons_zero, List.set_cons_succ]))) | ((refine wl_value rfl (ex_ix hS rfl rfl rfl ?_) ?_); (focus (rfl)); (try simp only [Act.put, List.setIfInBounds_toArray, List.set_cons_zero, List.set_cons_succ])))
        exact ⟨(⟨a.drop 1, _, _, b, A', cb, out ++ [x], _, _⟩ : SrSt), ⟨_, (by rw [← Hd.out, Hn.out]), (by show (a.drop 1).length ≤ ca - 1; rw [List.length_drop]; omega), hcb, (by show (out ++ [x]).length + (a.drop 1).length + b.length ≤ t.length; rw [List.length_append, List.length_drop]; simp; omega), Hga.out.drop 1, Hgb.out, Hra.out, r', hO2, hS.to⟩, (by dsimp only; rw [List.length_drop]; omega), (by dsimp only; rw [List.length_append, List.length_drop]; rfl), (by (simp only [blankT, junkT, List.cons_append, List.nil_append, List.setIfInBounds_toArray, List.set_cons_zero, List.set_cons_succ])), rfl⟩
    · have hb0 : b = [] := List.eq_nil_of_length_eq_zero (by omega)
      have q1 : decide (0 < (b.length : Int)) = false := decide_eq_false (by omega)
      have q3 : decide (0 < b.length) = false := decide_eq_false hnb
      have He := Lib.hid (show (out ++ a) ++ b = X by rw [← Hd.out, hb0, mergeE_r, List.append_nil])
      clear hb0
      go_wp2_with ((refine wl_ap (E := enE) rfl rfl rfl rfl hS ?_ ?_ ?_ ?_ ?_; (focus (rfl)); (focus (rfl)); (focus (((try rw [List.length_append]); omega))); (focus decide); intro _ _ _ _ hO2 hS; (try simp only [Act.put, List.setIfInBounds_toArray, List.set_cons_zero, List.set_cons_succ])))
      go_ret
      rw [← HR2.out] at hS
      exact ⟨_, _, _, (out ++ a) ++ b, rfl, (by rw [He.out]; exact Hpm.out), (by rw [He.out]; exact Hps.out), hO2, hS.to⟩
  · have ha0 : a = [] := List.eq_nil_of_length_eq_zero (by omega)
    have p1 : decide (0 < (a.length : Int)) = false := decide_eq_false (by omega)
    have p3 : decide (0 < a.length) = false := decide_eq_false hna
    have He := Lib.hid (show (out ++ a) ++ b = X by rw [← Hd.out, ha0, mergeE_l, List.append_nil])
    clear ha0
    go_wp2_with ((refine wl_ap (E := enE) rfl rfl rfl rfl hS ?_ ?_ ?_ ?_ ?_; (focus (rfl)); (focus (rfl)); (focus (((try rw [List.length_append]); omega))); (focus decide); intro _ _ _ _ hO2 hS; (try simp only [Act.put, List.setIfInBounds_toArray, List.set_cons_zero, List.set_cons_succ])))
    go_ret
    rw [← HR2.out] at hS
    exact ⟨_, _, _, (out ++ a) ++ b, rfl, (by rw [He.out]; exact Hpm.out), (by rw [He.out]; exact Hps.out), hO2, hS.to⟩
end
end Go.Tk

set_option linter.unusedSectionVars false
set_option linter.unusedSimpArgs false
set_option linter.unusedVariables false
namespace Go.Tk
open Go.RowKit Go.Proofs
section
variable {B : Base} {R H H1 : HL} {w w' : World}
set_option maxRecDepth 100000 in
set_option maxHeartbeats 1600000 in
theorem SizeR_any (hS : Sh B R w) {A : Option Addr} {cap : Nat} {t : List En} [r : RdAt enE B R A t] (hl : t.length ≤ 16777216) (hsm : SmallE t) :
    Calls Tryz.prog 23 #[.slice A t.length cap] w fun e w' => e = .returned (.int .i64 (sumE t)) ∧ Sh B R w' := by
  have Hsm := Lib.hid hsm
  clear hsm
  go_enter Tryz.func23, Tryz.ntmps23
  go_wp2
  have h0 : SzP B R t ⟨0, 0⟩ _ := ⟨Nat.zero_le _, Int.le_refl _, by simp, by simp [sumE], hS⟩
  clear hS
  refine wp_loopS [3, 4] [5, 6, 7, 8, 9, 10, 11, 12, 13, 14, 15, 16, 17, 18] (fun x : CkSt => [.int .i64 x.sum, .int .i64 x.i]) (SzP B R t) (fun x => t.length - x.i) (⟨0, 0⟩) rfl (h0) ?_
  clear h0
  rintro ⟨i, sum⟩ J w ⟨hi, hs0, hs1, hsu, hS⟩
  dsimp only at hi hs0 hs1 hsu hS
  (simp only [Frm, setsT, junkT, List.setIfInBounds_toArray, List.set_cons_zero, List.set_cons_succ])
  by_cases hlt : i < t.length
  · obtain ⟨e, ge⟩ := Nth.of hlt
    have hsz := Hsm.out e ge.mem
    have hdz := hsz.2
    have Hsu := Lib.hid (show sumE (t.take (i + 1)) = sum + (e.data.size : Int) by rw [sumE_take ge, hsu])
    clear hsu hsz
    go_wp2_with (first | (refine wl_isld rfl ?_; ((refine wl_value rfl (ex_lf hS rfl rfl rfl CellAt.out) ?_); (try simp only [Act.put, List.setIfInBounds_toArray, List.set_cons_zero, List.set_cons_succ]))) | ((refine wl_value rfl (ex_ix hS rfl rfl rfl ?_) ?_); (focus (rfl)); (try simp only [Act.put, List.setIfInBounds_toArray, List.set_cons_zero, List.set_cons_succ])))
    exact ⟨(⟨i + 1, sum + e.data.size⟩ : CkSt), ⟨hlt, (by show 0 ≤ sum + (e.data.size : Int); omega), (by show sum + (e.data.size : Int) ≤ ((i + 1 : Nat) : Int) * 16777216; omega), Hsu.out, hS.to⟩, (by (try dsimp only); omega), rfl, (by (simp only [blankT, junkT, List.cons_append, List.nil_append, List.setIfInBounds_toArray, List.set_cons_zero, List.set_cons_succ])), rfl⟩
  · rw [List.take_of_length_le (by omega)] at hsu
    have Hsu := Lib.hid hsu
    clear hsu
    go_wp2_with (fail)
    go_ret
    rw [Hsu.out]
    exact ⟨rfl, hS.to⟩
end
theorem find_none {t : List En} (ht : ∀ e ∈ t, mayB e = true) {d : ByteArray} (h : kindI t d = 0) : findI t d = -1 := findI_no ((kindI_zero ht).1 h)
theorem find_some {t : List En} {d : ByteArray} (h : ¬ kindI t d = 0) : ∃ (i : Nat) (e : En), findI t d = i ∧ Nth t i e ∧ e.kind = kindI t d := by
  rcases findI_cases t d with ⟨_, hn⟩ | ⟨i, e, h1, h2, h3, h4⟩
  · exact absurd (by unfold kindI; rw [hn]) h
  · exact ⟨i, e, h1, ⟨h2⟩, by unfold kindI; rw [h4]⟩
theorem stepM_big {t : List En} (ht : ∀ e ∈ t, mayB e = true) {acc : List ByteArray} {d : ByteArray} {m wr : Bool} (h0 : kindI (t ++ acc.map dirE) d = 0) (hb : 1024 < (t ++ acc.map dirE).length) : stepM t ⟨acc, m, wr⟩ d = ⟨acc, true, wr⟩ ∧ kindI t d = 0 := by
  rw [kindI_with ht] at h0
  have h1 : kindI t d = 0 := Classical.byContradiction fun h => by rw [if_neg h] at h0; exact h h0
  rw [if_pos h1] at h0
  have h2 : ¬ d ∈ acc := fun h => by rw [if_pos h] at h0; exact absurd h0 (by decide)
  rw [List.length_append, List.length_map] at hb
  rw [stepM_def, if_pos h1]
  dsimp only
  rw [if_neg h2, if_pos hb]
  exact ⟨rfl, h1⟩
theorem stepM_put {t : List En} (ht : ∀ e ∈ t, mayB e = true) {acc : List ByteArray} {d : ByteArray} {m wr : Bool} (h0 : kindI (t ++ acc.map dirE) d = 0) (hb : ¬ 1024 < (t ++ acc.map dirE).length) : stepM t ⟨acc, m, wr⟩ d = ⟨acc ++ [d], m, wr⟩ := by
  rw [kindI_with ht] at h0
  have h1 : kindI t d = 0 := Classical.byContradiction fun h => by rw [if_neg h] at h0; exact h h0
  rw [if_pos h1] at h0
  have h2 : ¬ d ∈ acc := fun h => by rw [if_pos h] at h0; exact absurd h0 (by decide)
  rw [List.length_append, List.length_map] at hb
  rw [stepM_def, if_pos h1]
  dsimp only
  rw [if_neg h2, if_neg hb]
theorem stepM_dir {t : List En} (ht : ∀ e ∈ t, mayB e = true) {acc : List ByteArray} {d : ByteArray} {m wr : Bool} (h2 : kindI (t ++ acc.map dirE) d = 2) : stepM t ⟨acc, m, wr⟩ d = ⟨acc, m, wr⟩ := by
  rw [kindI_with ht] at h2
  rw [stepM_def]
  dsimp only
  by_cases h1 : kindI t d = 0
  · rw [if_pos h1] at h2 ⊢
    by_cases hm : d ∈ acc
    · rw [if_pos hm]
    · rw [if_neg hm] at h2; exact absurd h2 (by decide)
  · rw [if_neg h1] at h2 ⊢
    simp [h2]
theorem stepM_bad {t : List En} (ht : ∀ e ∈ t, mayB e = true) {acc : List ByteArray} {d : ByteArray} {m wr : Bool} (h0 : ¬ kindI (t ++ acc.map dirE) d = 0) (h2 : ¬ kindI (t ++ acc.map dirE) d = 2) : stepM t ⟨acc, m, wr⟩ d = ⟨acc, m, true⟩ := by
  rw [kindI_with ht] at h0 h2
  rw [stepM_def]
  dsimp only
  by_cases h1 : kindI t d = 0
  · rw [if_pos h1] at h0 h2
    by_cases hm : d ∈ acc
    · rw [if_pos hm] at h2; exact absurd rfl h2
    · rw [if_neg hm] at h0; exact absurd rfl h0
  · rw [if_neg h1] at h2 ⊢
    simp [h2]
structure MoSt where
  i : Nat
  A : Option Addr
  all : List En
  cap : Nat
  many : Bool
  wrong : Bool
structure MiSt where
  d : ByteArray
  A : Option Addr
  all : List En
  cap : Nat
  many : Bool
  wrong : Bool
theorem chain_go {n : Nat} {d : ByteArray} (h : d.size ≠ 0) (hn : d.size ≤ n) : ∃ m, n = m + 1 ∧ (upP d).size ≤ m ∧ chainN n d = d :: chainN m (upP d) := by
  cases n with
  | zero => omega
  | succ m =>
    have := upP_lt h
    exact ⟨m, rfl, by omega, by rw [chainN, if_neg h]⟩
theorem chain_stop {n : Nat} {d : ByteArray} (h : d.size = 0) : chainN n d = [] := by
  cases n with
  | zero => rfl
  | succ n => rw [chainN, if_pos h]
theorem above_cons (e : En) (r : List En) : above (e :: r) = chainN e.path.size (upP e.path) ++ above r := by simp [above]
section
variable {B : Base} {R H H1 : HL} {w w' : World}
def Mr2 (B : Base) (R : HL) (t : List En) (i : Nat) (w : World) : Prop := 1 ≤ i ∧ i ≤ t.length + 1 ∧ Dist (t.take i) ∧ Sh B R w
def Mo (B : Base) (R : HL) (t : List En) (X : MrS) (x : MoSt) (w : World) : Prop :=
  ∃ sp acc, x.i ≤ t.length ∧ x.all = t ++ acc.map dirE ∧ (above (t.drop x.i)).foldl (stepM t) ⟨acc, x.many, x.wrong⟩ = X ∧ acc.length ≤ 1025 ∧ OutOk x.all ∧ OwnSl enE x.A x.all sp x.cap ∧ Sh B (rowA x.A (flat enE x.all ++ sp) 24 ++ R) w
def Mi (B : Base) (R : HL) (t rest : List En) (X : MrS) (x : MiSt) (w : World) : Prop :=
  ∃ sp acc n, x.d.size ≤ n ∧ x.all = t ++ acc.map dirE ∧ (chainN n x.d ++ above rest).foldl (stepM t) ⟨acc, x.many, x.wrong⟩ = X ∧ okP x.d = true ∧ x.d.size ≤ 16777216 ∧ acc.length ≤ 1025 ∧ OutOk x.all ∧ OwnSl enE x.A x.all sp x.cap ∧ Sh B (rowA x.A (flat enE x.all ++ sp) 24 ++ R) w
set_option maxRecDepth 100000 in
set_option maxHeartbeats 20000000 in
theorem RMake_any [HasML B] (hS : Sh B R w) {A : Option Addr} {cap : Nat} {l : List En} [r : RdAt enE B R A l] (hcap : l.length ≤ cap) (hl : l.length ≤ 8000000) (hsm : SmallE l) :
    Calls Tryz.prog 8 #[.slice A l.length cap] w (MakeP B R (makeR l)) := by
  obtain ⟨X, hX⟩ : ∃ X, makeR l = X := ⟨_, rfl⟩
  rw [hX]
  have HX := Lib.hid hX
  have Hsm := Lib.hid hsm
  clear hX hsm
  go_enter Tryz.func8, Tryz.ntmps8
  go_wp2
  have h0 : Mk0 B R l 0 _ := ⟨Nat.zero_le _, by simp, hS⟩
  clear hS
  refine wp_loopS [4] [2, 3, 13, 14, 15, 16, 17, 18, 19, 20, 21, 22, 23, 24] (fun i : Nat => [.int .i64 i]) (Mk0 B R l) (fun i => l.length - i) (0) rfl (h0) ?_
  clear h0
  rintro i J w ⟨hi, hall, hS⟩
  have Hall := Lib.hid hall
  clear hall
  (simp only [Frm, setsT, junkT, List.setIfInBounds_toArray, List.set_cons_zero, List.set_cons_succ])
  by_cases hlt : i < l.length
  · obtain ⟨e, ge⟩ := Nth.of hlt
    have hsz := Hsm.out e ge.mem
    have hpz := hsz.1
    have hmy := fun (w : World) (R : HL) (hS : Sh B R w) => MayR_any hS e hpz
    have Htk := Lib.hid ge.take
    have Hmem := Lib.hid ge.mem
    clear hsz
    by_cases hmb : mayB e = false
    · rw [hmb] at hmy
      have Hx := Lib.hid (show X = (50, []) by
        rw [← HX.out]
        refine makeR_bad fun h => ?_
        have := List.all_eq_true.1 h e Hmem.out
        rw [hmb] at this
        cases this)
      clear hmb
      go_wp2_with (first | (go_at_call 28; refine ((hmy _ _ hS)).mono ?_; rintro e w' (⟨rfl, hS⟩)) | (refine wl_isld rfl ?_; ((refine wl_value rfl (ex_lr hS rfl rfl rfl rfl) ?_); (try simp only [Act.put, List.setIfInBounds_toArray, List.set_cons_zero, List.set_cons_succ]))) | ((refine wl_value rfl (ex_ix hS rfl rfl rfl ?_) ?_); (focus (rfl)); (try simp only [Act.put, List.setIfInBounds_toArray, List.set_cons_zero, List.set_cons_succ])))
      go_ret2
      rw [Hx.out]
      exact .bad hS.to
    have hm1 : mayB e = true := by cases h : mayB e; exact absurd h hmb; rfl
    rw [hm1] at hmy
    have Hall2 := Lib.hid (show ∀ x ∈ l.take (i + 1), mayB x = true by
      rw [Htk.out]
      intro x hx
      rcases List.mem_append.1 hx with h1 | h1
      · exact Hall.out x h1
      · rw [List.mem_singleton.1 h1]; exact hm1)
    clear hmb hm1
    go_wp2_with (first | (go_at_call 28; refine ((hmy _ _ hS)).mono ?_; rintro e w' (⟨rfl, hS⟩)) | (refine wl_isld rfl ?_; ((refine wl_value rfl (ex_lr hS rfl rfl rfl rfl) ?_); (try simp only [Act.put, List.setIfInBounds_toArray, List.set_cons_zero, List.set_cons_succ]))) | ((refine wl_value rfl (ex_ix hS rfl rfl rfl ?_) ?_); (focus (rfl)); (try simp only [Act.put, List.setIfInBounds_toArray, List.set_cons_zero, List.set_cons_succ])))
    (refine ⟨(i + 1), (⟨hlt, Hall2.out, hS.to⟩), (by (try dsimp only); omega), rfl, (by (simp only [blankT, junkT, List.cons_append, List.nil_append, List.setIfInBounds_toArray, List.set_cons_zero, List.set_cons_succ])), rfl⟩)
  have HM := Lib.hid (show ∀ e ∈ l, mayB e = true by
    have := Hall.out
    rwa [List.take_of_length_le (by omega)] at this)
  have hgl : GoodP l := fun e he => ⟨(mayB_ok (HM.out e he)).1, (Hsm.out e he).1⟩
  have Hgl := Lib.hid hgl
  have hso := fun (w : World) (H : HL) (hS : Sh B H w) (r : RdAt enE B H A l) => SortR_all _ l rfl (cap := cap) hS r hcap (by omega) Hgl.out
  clear hgl
  go_upto_region 7 with ((go_at_call 29; refine ((hso _ _ hS inferInstance)).mono ?_; rintro e w' (⟨A2, sp2, cap2, t, rfl, hp, hw, hO, hS⟩)))
  clear hso
  have Hp := Lib.hid hp
  have Hw := Lib.hid hw
  have htl : t.length ≤ 8000000 := by have := hp.length_eq; omega
  have Hok := Lib.hid (show ∀ e ∈ t, okP e.path = true from fun e he => (Hgl.out e (hp.subset he)).1)
  clear hp hw hi hlt
  go_wp2_with (fail)
  have h0 : Mr2 B (rowA A2 (flat enE t ++ sp2) 24 ++ R) t 1 _ := ⟨Nat.le_refl _, by omega, (by
    cases t with
    | nil => exact .nil
    | cons x t => rw [List.take_succ_cons, List.take_zero]; exact List.pairwise_singleton ..), hS⟩
  clear hS
  refine wp_loopS [6] [2, 3, 27, 28, 29, 30, 31, 32, 33, 34, 35, 36, 37, 38, 39, 40, 41, 42, 43, 44] (fun i : Nat => [.int .i64 i]) (Mr2 B (rowA A2 (flat enE t ++ sp2) 24 ++ R) t) (fun i => t.length + 1 - i) (1) rfl (h0) ?_
  clear h0
  rintro j J2 w ⟨hj1, hi, hdi, hS⟩
  have Hdi := Lib.hid hdi
  clear hdi
  (simp only [Frm, setsT, junkT, List.setIfInBounds_toArray, List.set_cons_zero, List.set_cons_succ])
  by_cases hlt : j < t.length
  · obtain ⟨x, gx⟩ := Nth.of hlt
    obtain ⟨y, gy⟩ := Nth.of (xs := t) (j := j - 1) (by omega)
    haveI hN : IsN ((j : Int) - 1) (j - 1) := ⟨by omega⟩
    by_cases hxy : x.path = y.path
    · have d1 : (x.path.toList == y.path.toList) = true := by rw [strEq]; simp [hxy]
      have Hx := Lib.hid (show X = (9, []) by
        rw [← HX.out]
        exact makeR_twins HM.out fun hd => not_dist gx gy hj1 hxy (hd.perm Hp.out))
      clear hxy
      go_wp2_with (fail)
      (refine wp_drawnF hS [(0, true), (1, true), (2, true), (3, true), (4, true), (5, true), (6, true), (7, true), (8, true), (9, true), (10, true), (11, true)] (by kernel_rfl) (by kernel_rfl) (by intro d _ _ _ _ h; cases d <;> exact h) ?_; have hS := hS.drew; simp only [picks_cons, picks_nil, opAt, List.toList_toArray]; (refine wpF_U (v := ?_) rfl ?_ (Sh.to hS) ?_; rotate_left; (focus (intro _ _; go_simp; (try (rw [wrap_i64]; (rotate_left; omega))); (try with_reducible rfl))); (try simp only [Act.put, List.setIfInBounds_toArray, List.set_cons_zero, List.set_cons_succ])); (refine wpF_U (v := ?_) rfl ?_ (Sh.to hS) ?_; rotate_left; (focus (intro _ _; go_simp; (try (rw [wrap_i64]; (rotate_left; omega))); (try with_reducible rfl))); (try simp only [Act.put, List.setIfInBounds_toArray, List.set_cons_zero, List.set_cons_succ])); ((refine wpF_U rfl (fun _ hT => ex_ix hT rfl rfl rfl ?_) (Sh.to hS) ?_); (focus (rfl)); (try simp only [Act.put, List.setIfInBounds_toArray, List.set_cons_zero, List.set_cons_succ])); (refine wpF_U (v := ?_) rfl ?_ (Sh.to hS) ?_; rotate_left; (focus (intro _ _; go_simp; (try (rw [wrap_i64]; (rotate_left; omega))); (try with_reducible rfl))); (try simp only [Act.put, List.setIfInBounds_toArray, List.set_cons_zero, List.set_cons_succ])); ((refine wpF_U rfl (fun _ hT => ex_l0 hT rfl rfl rfl CellAt.out) (Sh.to hS) ?_); (try simp only [Act.put, List.setIfInBounds_toArray, List.set_cons_zero, List.set_cons_succ])); (refine wpF_U (v := ?_) rfl ?_ (Sh.to hS) ?_; rotate_left; (focus (intro _ _; go_simp; (try (rw [wrap_i64]; (rotate_left; omega))); (try with_reducible rfl))); (try simp only [Act.put, List.setIfInBounds_toArray, List.set_cons_zero, List.set_cons_succ])); (refine wpF_U (v := ?_) rfl ?_ (Sh.to hS) ?_; rotate_left; (focus (intro _ _; go_simp; (try (rw [wrap_i64]; (rotate_left; omega))); (try with_reducible rfl))); (try simp only [Act.put, List.setIfInBounds_toArray, List.set_cons_zero, List.set_cons_succ])); (refine wpF_U (v := ?_) rfl ?_ (Sh.to hS) ?_; rotate_left; (focus (intro _ _; go_simp; (try (rw [wrap_i64]; (rotate_left; omega))); (try with_reducible rfl))); (try simp only [Act.put, List.setIfInBounds_toArray, List.set_cons_zero, List.set_cons_succ])); ((refine wpF_U rfl (fun _ hT => ex_ix hT rfl rfl rfl ?_) (Sh.to hS) ?_); (focus (rfl)); (try simp only [Act.put, List.setIfInBounds_toArray, List.set_cons_zero, List.set_cons_succ])); (refine wpF_U (v := ?_) rfl ?_ (Sh.to hS) ?_; rotate_left; (focus (intro _ _; go_simp; (try (rw [wrap_i64]; (rotate_left; omega))); (try with_reducible rfl))); (try simp only [Act.put, List.setIfInBounds_toArray, List.set_cons_zero, List.set_cons_succ])); ((refine wpF_U rfl (fun _ hT => ex_l0 hT rfl rfl rfl CellAt.out) (Sh.to hS) ?_); (try simp only [Act.put, List.setIfInBounds_toArray, List.set_cons_zero, List.set_cons_succ])); ((refine wpF_U (v := ?_) rfl ?_ (Sh.to hS) ?_; rotate_left; (focus (intro _ _; go_simp; (try (rw [wrap_i64]; (rotate_left; omega))); (try with_reducible rfl))); (try simp only [Act.put, List.setIfInBounds_toArray, List.set_cons_zero, List.set_cons_succ]))); ((refine wpF_done (by assumption) ?_)))
      go_wp2_with (fail)
      go_ret2
      rw [Hx.out]
      exact .bad hS.to
    · have d1 : (x.path.toList == y.path.toList) = false := by rw [strEq]; simp [hxy]
      have Hd2 := Lib.hid (dist_snoc Hw.out Hok.out gx gy hj1 hxy Hdi.out)
      clear hxy
      go_wp2_with (fail)
      (refine wp_drawnF hS [(0, true), (1, true), (2, true), (3, true), (4, true), (5, true), (6, true), (7, true), (8, true), (9, true), (10, true), (11, true)] (by kernel_rfl) (by kernel_rfl) (by intro d _ _ _ _ h; cases d <;> exact h) ?_; have hS := hS.drew; simp only [picks_cons, picks_nil, opAt, List.toList_toArray]; (refine wpF_U (v := ?_) rfl ?_ (Sh.to hS) ?_; rotate_left; (focus (intro _ _; go_simp; (try (rw [wrap_i64]; (rotate_left; omega))); (try with_reducible rfl))); (try simp only [Act.put, List.setIfInBounds_toArray, List.set_cons_zero, List.set_cons_succ])); (refine wpF_U (v := ?_) rfl ?_ (Sh.to hS) ?_; rotate_left; (focus (intro _ _; go_simp; (try (rw [wrap_i64]; (rotate_left; omega))); (try with_reducible rfl))); (try simp only [Act.put, List.setIfInBounds_toArray, List.set_cons_zero, List.set_cons_succ])); ((refine wpF_U rfl (fun _ hT => ex_ix hT rfl rfl rfl ?_) (Sh.to hS) ?_); (focus (rfl)); (try simp only [Act.put, List.setIfInBounds_toArray, List.set_cons_zero, List.set_cons_succ])); (refine wpF_U (v := ?_) rfl ?_ (Sh.to hS) ?_; rotate_left; (focus (intro _ _; go_simp; (try (rw [wrap_i64]; (rotate_left; omega))); (try with_reducible rfl))); (try simp only [Act.put, List.setIfInBounds_toArray, List.set_cons_zero, List.set_cons_succ])); ((refine wpF_U rfl (fun _ hT => ex_l0 hT rfl rfl rfl CellAt.out) (Sh.to hS) ?_); (try simp only [Act.put, List.setIfInBounds_toArray, List.set_cons_zero, List.set_cons_succ])); (refine wpF_U (v := ?_) rfl ?_ (Sh.to hS) ?_; rotate_left; (focus (intro _ _; go_simp; (try (rw [wrap_i64]; (rotate_left; omega))); (try with_reducible rfl))); (try simp only [Act.put, List.setIfInBounds_toArray, List.set_cons_zero, List.set_cons_succ])); (refine wpF_U (v := ?_) rfl ?_ (Sh.to hS) ?_; rotate_left; (focus (intro _ _; go_simp; (try (rw [wrap_i64]; (rotate_left; omega))); (try with_reducible rfl))); (try simp only [Act.put, List.setIfInBounds_toArray, List.set_cons_zero, List.set_cons_succ])); (refine wpF_U (v := ?_) rfl ?_ (Sh.to hS) ?_; rotate_left; (focus (intro _ _; go_simp; (try (rw [wrap_i64]; (rotate_left; omega))); (try with_reducible rfl))); (try simp only [Act.put, List.setIfInBounds_toArray, List.set_cons_zero, List.set_cons_succ])); ((refine wpF_U rfl (fun _ hT => ex_ix hT rfl rfl rfl ?_) (Sh.to hS) ?_); (focus (rfl)); (try simp only [Act.put, List.setIfInBounds_toArray, List.set_cons_zero, List.set_cons_succ])); (refine wpF_U (v := ?_) rfl ?_ (Sh.to hS) ?_; rotate_left; (focus (intro _ _; go_simp; (try (rw [wrap_i64]; (rotate_left; omega))); (try with_reducible rfl))); (try simp only [Act.put, List.setIfInBounds_toArray, List.set_cons_zero, List.set_cons_succ])); ((refine wpF_U rfl (fun _ hT => ex_l0 hT rfl rfl rfl CellAt.out) (Sh.to hS) ?_); (try simp only [Act.put, List.setIfInBounds_toArray, List.set_cons_zero, List.set_cons_succ])); ((refine wpF_U (v := ?_) rfl ?_ (Sh.to hS) ?_; rotate_left; (focus (intro _ _; go_simp; (try (rw [wrap_i64]; (rotate_left; omega))); (try with_reducible rfl))); (try simp only [Act.put, List.setIfInBounds_toArray, List.set_cons_zero, List.set_cons_succ]))); ((refine wpF_done (by assumption) ?_)))
      go_wp2_with (fail)
      (refine ⟨(j + 1), (⟨by omega, by omega, Hd2.out, hS⟩), (by (try dsimp only); omega), rfl, (by (simp only [blankT, junkT, List.cons_append, List.nil_append, List.setIfInBounds_toArray, List.set_cons_zero, List.set_cons_succ])), rfl⟩)
  have Hdt := Lib.hid (show Dist t by
    have := Hdi.out
    rwa [List.take_of_length_le (by omega)] at this)
  have Hdl := Lib.hid (show Dist l from Hdt.out.perm Hp.out.symm)
  have Hmt := Lib.hid (show ∀ e ∈ t, mayB e = true from fun e he => HM.out e (Hp.out.subset he))
  have Hst := Lib.hid (show SmallE t from fun e he => Hsm.out e (Hp.out.subset he))
  obtain ⟨Y, hY⟩ : ∃ Y, (above t).foldl (stepM t) ⟨[], false, false⟩ = Y := ⟨_, rfl⟩
  have HY := Lib.hid hY
  have HF := Lib.hid (refMake HM.out Hdl.out Hp.out hY)
  have hN0 : OwnSl enE none [] [] 0 := OwnSl.nothing
  have hS : Sh B (rowA none (flat enE [] ++ []) 24 ++ (rowA A2 (flat enE t ++ sp2) 24 ++ R)) _ := hS
  clear hY hj1 hi
  go_wp2_with ((refine wl_ap (E := enE) rfl rfl rfl rfl hS ?_ ?_ ?_ ?_ ?_; (focus (rfl)); (focus (rfl)); (focus ((simp only [List.length_nil]; omega))); (focus decide); intro _ _ _ _ hO3 hS; (try simp only [Act.put, List.setIfInBounds_toArray, List.set_cons_zero, List.set_cons_succ])))
  rw [List.nil_append] at hO3 hS
  have h0 : Mo B (rowA A2 (flat enE t ++ sp2) 24 ++ R) t Y ⟨0, _, t, _, false, false⟩ _ := ⟨_, [], Nat.zero_le _, by simp, HY.out, by simp, ⟨Hmt.out, Hst.out⟩, hO3, hS.to⟩
  clear hS hO3 hN0
  refine wp_loopS [7, 8, 9, 10] [11, 12, 47, 48, 49, 50, 51, 52, 53, 54, 55, 56, 57, 58, 59, 60, 61, 62, 63, 64, 65, 66, 67, 68, 69, 70, 71, 72, 73, 74, 75, 76, 77, 78, 79, 80, 81, 82, 83, 84, 85, 86, 87, 88, 89, 90, 91, 92, 93, 94, 95, 96, 97, 98, 99, 100, 101, 102, 103, 104] (fun x : MoSt => [.slice x.A x.all.length x.cap, .bool x.many, .bool x.wrong, .int .i64 x.i]) (Mo B (rowA A2 (flat enE t ++ sp2) 24 ++ R) t Y) (fun x => t.length - x.i) (⟨0, _, t, _, false, false⟩) rfl (h0) ?_
  clear h0
  rintro ⟨i, A4, al, cap4, mn, wr⟩ J3 w ⟨sp4, acc, hi, hal, hfo, hac, hok, hO4, hS⟩
  dsimp only at hi hal hfo hac hok hO4 hS
  have Hal := Lib.hid hal
  have Hok := Lib.hid hok
  have hall : al.length ≤ 8002000 := by rw [hal, List.length_append, List.length_map]; omega
  clear hal hok
  (simp only [Frm, setsT, junkT, List.setIfInBounds_toArray, List.set_cons_zero, List.set_cons_succ])
  by_cases hlt : i < t.length
  · obtain ⟨e, ge⟩ := Nth.of hlt
    have hpz := (Hst.out e ge.mem).1
    have Hom := Lib.hid (mayB_ok (Hmt.out e ge.mem)).1
    rw [ge.drop, above_cons] at hfo
    have Hfo := Lib.hid hfo
    have hup := fun (w : World) (R : HL) (hS : Sh B R w) => UpR_any hS e.path hpz
    clear hfo
    go_wp2_with (first | (go_at_call 30; refine ((hup _ _ hS)).mono ?_; rintro e w' (⟨rfl, hS⟩)) | (refine wl_isld rfl ?_; ((refine wl_value rfl (ex_l0 hS rfl rfl rfl CellAt.out) ?_); (try simp only [Act.put, List.setIfInBounds_toArray, List.set_cons_zero, List.set_cons_succ]))) | ((refine wl_value rfl (ex_ix hS rfl rfl rfl ?_) ?_); (focus (rfl)); (try simp only [Act.put, List.setIfInBounds_toArray, List.set_cons_zero, List.set_cons_succ])))
    have h0 : Mi B (rowA A2 (flat enE t ++ sp2) 24 ++ R) t (t.drop (i + 1)) Y ⟨upP e.path, A4, al, cap4, mn, wr⟩ _ := ⟨_, acc, _, upP_le _, Hal.out, Hfo.out, upP_ok Hom.out, Nat.le_trans (upP_le _) hpz, hac, Hok.out, hO4, hS.to⟩
    clear hS hO4 hup hac hall
    refine wp_loopS [7, 8, 9, 11] [12, 59, 60, 61, 62, 63, 64, 65, 66, 67, 68, 69, 70, 71, 72, 73, 74, 75, 76, 77, 78, 79, 80, 81, 82, 83, 84, 85, 86, 87, 88, 89, 90, 91, 92, 93, 94, 95, 96, 97, 98, 99, 100, 101, 102, 103, 104] (fun x : MiSt => [.slice x.A x.all.length x.cap, .bool x.many, .bool x.wrong, .string x.d]) (Mi B (rowA A2 (flat enE t ++ sp2) 24 ++ R) t (t.drop (i + 1)) Y) (fun x => x.d.size) (⟨upP e.path, A4, al, cap4, mn, wr⟩) rfl (h0) ?_
    clear h0
    rintro ⟨d, A5, al5, cap5, mn5, wr5⟩ J4 w ⟨sp5, ac5, n, hn, hal, hct, hod, hdz, hac, hok, hO5, hS⟩
    dsimp only at hn hal hct hod hdz hac hok hO5 hS
    have Hal5 := Lib.hid hal
    have Hok5 := Lib.hid hok
    have hall : al5.length ≤ 8002000 := by rw [hal, List.length_append, List.length_map]; omega
    clear hal hok
    (simp only [Frm, setsT, junkT, List.setIfInBounds_toArray, List.set_cons_zero, List.set_cons_succ])
    by_cases hd0 : d.size = 0
    · have hde : d.toList = [] := (empty_prop d).2 hd0
      have d1 : d.toList.isEmpty = true := by rw [hde]; rfl
      rw [chain_stop hd0, List.nil_append] at hct
      have Hct := Lib.hid hct
      clear hct hd0 hn
      go_wp2_with (fail)
      (refine ⟨((⟨i + 1, A5, al5, cap5, mn5, wr5⟩ : MoSt)), (⟨_, ac5, hlt, Hal5.out, Hct.out, hac, Hok5.out, hO5, hS⟩), (by (try dsimp only); omega), rfl, (by (simp only [blankT, junkT, List.cons_append, List.nil_append, List.setIfInBounds_toArray, List.set_cons_zero, List.set_cons_succ])), rfl⟩)
    have hde : ¬ d.toList = [] := fun h => hd0 ((empty_prop d).1 h)
    have d1 : d.toList.isEmpty = false := by rw [empty_iff]; exact decide_eq_false hd0
    obtain ⟨k, hnk, hupk, hgo⟩ := chain_go hd0 hn
    rw [hgo, List.cons_append, List.foldl_cons] at hct
    have hup := fun (w : World) (R : HL) (hS : Sh B R w) => UpR_any hS d hdz
    have hf := fun (w : World) (R : HL) (hS : Sh B R w) (r : RdAt enE B R A5 al5) => FindR_any hS (cap := cap5) (t := al5) (r := r) (by omega) d
    have Hupk := Lib.hid hupk
    have Hupl := Lib.hid (upP_lt hd0)
    have Hule := Lib.hid (Nat.le_trans (Nat.le_of_lt (upP_lt hd0)) hdz)
    have Huo := Lib.hid (upP_ok hod)
    have Hod := Lib.hid hod
    have Hd0 := Lib.hid hd0
    clear hgo hnk hn hupk hod hd0
    by_cases hk0 : kindI al5 d = 0
    · rw [find_none Hok5.out.may hk0] at hf
      by_cases hb : 1024 < al5.length
      · have d4 : decide ((1024 : Int) < (al5.length : Int)) = true := decide_eq_true (by omega)
        have e4 : decide (1024 < al5.length) = true := decide_eq_true hb
        have hst := stepM_big Hmt.out (m := mn5) (wr := wr5) (by rw [← Hal5.out]; exact hk0) (by rw [← Hal5.out]; exact hb)
        have hf2 := fun (w : World) (R : HL) (hS : Sh B R w) (r : RdAt enE B R A2 t) => FindR_any hS (cap := cap2) (t := t) (r := r) (by omega) d
        rw [find_none Hmt.out hst.2] at hf2
        rw [hst.1] at hct
        have Hct := Lib.hid hct
        clear hct hst hk0 hb
        go_upto_region 23 with ((go_at_call 20; refine ((hf _ _ hS inferInstance)).mono ?_; rintro e w' (⟨rfl, hS⟩)))
        clear hf
        cases wr5 with
        | false =>
          go_wp2_with (first | (go_at_call 20; refine ((hf2 _ _ hS inferInstance)).mono ?_; rintro e w' (⟨rfl, hS⟩)) | (go_at_call 30; refine ((hup _ _ hS)).mono ?_; rintro e w' (⟨rfl, hS⟩)))
          exact ⟨(⟨upP d, A5, al5, cap5, true, false⟩ : MiSt), ⟨_, _, _, Hupk.out, Hal5.out, Hct.out, Huo.out, Hule.out, hac, Hok5.out, hO5, hS.to⟩, Hupl.out, rfl, (by (simp only [blankT, junkT, List.cons_append, List.nil_append, List.setIfInBounds_toArray, List.set_cons_zero, List.set_cons_succ])), rfl⟩
        | true =>
          go_wp2_with (first | (go_at_call 20; refine ((hf2 _ _ hS inferInstance)).mono ?_; rintro e w' (⟨rfl, hS⟩)) | (go_at_call 30; refine ((hup _ _ hS)).mono ?_; rintro e w' (⟨rfl, hS⟩)))
          exact ⟨(⟨upP d, A5, al5, cap5, true, true⟩ : MiSt), ⟨_, _, _, Hupk.out, Hal5.out, Hct.out, Huo.out, Hule.out, hac, Hok5.out, hO5, hS.to⟩, Hupl.out, rfl, (by (simp only [blankT, junkT, List.cons_append, List.nil_append, List.setIfInBounds_toArray, List.set_cons_zero, List.set_cons_succ])), rfl⟩
      · have d4 : decide ((1024 : Int) < (al5.length : Int)) = false := decide_eq_false (by omega)
        have e4 : decide (1024 < al5.length) = false := decide_eq_false hb
        have hst := stepM_put Hmt.out (m := mn5) (wr := wr5) (by rw [← Hal5.out]; exact hk0) (by rw [← Hal5.out]; exact hb)
        have Hac := Lib.hid (show (ac5 ++ [d]).length ≤ 1025 by
          have := Hal5.out
          rw [this, List.length_append, List.length_map] at hb
          rw [List.length_append, List.length_singleton]
          omega)
        rw [hst] at hct
        have Hct := Lib.hid hct
        have Hal6 := Lib.hid (show al5 ++ [dirE d] = t ++ (ac5 ++ [d]).map dirE by rw [Hal5.out]; simp)
        have Hok6 := Lib.hid (Hok5.out.dir Hod.out Hd0.out hdz)
        clear hct hst hk0 hb
        go_wp2_with (first | (go_at_call 20; refine ((hf _ _ hS inferInstance)).mono ?_; rintro e w' (⟨rfl, hS⟩)) | (go_at_call 30; refine ((hup _ _ hS)).mono ?_; rintro e w' (⟨rfl, hS⟩)) | (refine wl_build ((enE.cells (dirE d))) _ rfl rfl (by simp only [List.map_toArray, List.map_cons, List.map_nil]; rfl) rfl ?_; (try simp only [Act.put, List.setIfInBounds_toArray, List.set_cons_zero, List.set_cons_succ])) | (refine wl_buildSlice (E := enE) ([dirE d]) rfl rfl (by simp only [List.map_toArray, List.map_cons, List.map_nil]; rfl) rfl (by decide) (by decide) hS ?_; intro _ _ hS hN; (try simp only [Act.put, List.setIfInBounds_toArray, List.set_cons_zero, List.set_cons_succ])) | (refine wl_ap (E := enE) rfl rfl rfl rfl hS ?_ ?_ ?_ ?_ ?_; (focus (rfl)); (focus (rfl)); (focus ((simp only [List.length_cons, List.length_nil]; omega))); (focus decide); intro _ _ _ _ hO6 hS; (try simp only [Act.put, List.setIfInBounds_toArray, List.set_cons_zero, List.set_cons_succ])))
        exact ⟨(⟨upP d, _, al5 ++ [dirE d], _, mn5, wr5⟩ : MiSt), ⟨_, _, _, Hupk.out, Hal6.out, Hct.out, Huo.out, Hule.out, Hac.out, Hok6.out, hO6, hS.to⟩, Hupl.out, (by dsimp only; rw [List.length_append]; rfl), (by (simp only [blankT, junkT, List.cons_append, List.nil_append, List.setIfInBounds_toArray, List.set_cons_zero, List.set_cons_succ])), rfl⟩
    · obtain ⟨ki, ek, hfi, gk, hek⟩ := find_some hk0
      rw [hfi] at hf
      have d5 : decide ((ki : Int) < 0) = false := decide_eq_false (by omega)
      by_cases hk2 : kindI al5 d = 2
      · rw [stepM_dir Hmt.out (by rw [← Hal5.out]; exact hk2)] at hct
        rw [hk2] at hek
        have d6 : (ek.kind == 2) = true := by rw [hek]; rfl
        have d7 : (ek.kind != 2) = false := by rw [hek]; rfl
        have Hct := Lib.hid hct
        clear hct hk0 hk2 hfi hek
        cases wr5 with
        | false =>
          go_wp2_with (first | (go_at_call 20; refine ((hf _ _ hS inferInstance)).mono ?_; rintro e w' (⟨rfl, hS⟩)) | (go_at_call 30; refine ((hup _ _ hS)).mono ?_; rintro e w' (⟨rfl, hS⟩)) | (refine wl_isld rfl ?_; ((refine wl_value rfl (ex_lf hS rfl rfl rfl CellAt.out) ?_); (try simp only [Act.put, List.setIfInBounds_toArray, List.set_cons_zero, List.set_cons_succ]))) | ((refine wl_value rfl (ex_ix hS rfl rfl rfl ?_) ?_); (focus (rfl)); (try simp only [Act.put, List.setIfInBounds_toArray, List.set_cons_zero, List.set_cons_succ])))
          exact ⟨(⟨upP d, A5, al5, cap5, mn5, false⟩ : MiSt), ⟨_, _, _, Hupk.out, Hal5.out, Hct.out, Huo.out, Hule.out, hac, Hok5.out, hO5, hS.to⟩, Hupl.out, rfl, (by (simp only [blankT, junkT, List.cons_append, List.nil_append, List.setIfInBounds_toArray, List.set_cons_zero, List.set_cons_succ])), rfl⟩
        | true =>
          go_wp2_with (first | (go_at_call 20; refine ((hf _ _ hS inferInstance)).mono ?_; rintro e w' (⟨rfl, hS⟩)) | (go_at_call 30; refine ((hup _ _ hS)).mono ?_; rintro e w' (⟨rfl, hS⟩)))
          exact ⟨(⟨upP d, A5, al5, cap5, mn5, true⟩ : MiSt), ⟨_, _, _, Hupk.out, Hal5.out, Hct.out, Huo.out, Hule.out, hac, Hok5.out, hO5, hS.to⟩, Hupl.out, rfl, (by (simp only [blankT, junkT, List.cons_append, List.nil_append, List.setIfInBounds_toArray, List.set_cons_zero, List.set_cons_succ])), rfl⟩
      · rw [stepM_bad Hmt.out (by rw [← Hal5.out]; exact hk0) (by rw [← Hal5.out]; exact hk2)] at hct
        have d6 : (ek.kind == 2) = false := beq_no (by rw [hek]; exact hk2)
        have d7 : (ek.kind != 2) = true := bne_no (by rw [hek]; exact hk2)
        have Hct := Lib.hid hct
        clear hct hk0 hk2 hfi hek
        cases wr5 with
        | false =>
          go_wp2_with (first | (go_at_call 20; refine ((hf _ _ hS inferInstance)).mono ?_; rintro e w' (⟨rfl, hS⟩)) | (go_at_call 30; refine ((hup _ _ hS)).mono ?_; rintro e w' (⟨rfl, hS⟩)) | (refine wl_isld rfl ?_; ((refine wl_value rfl (ex_lf hS rfl rfl rfl CellAt.out) ?_); (try simp only [Act.put, List.setIfInBounds_toArray, List.set_cons_zero, List.set_cons_succ]))) | ((refine wl_value rfl (ex_ix hS rfl rfl rfl ?_) ?_); (focus (rfl)); (try simp only [Act.put, List.setIfInBounds_toArray, List.set_cons_zero, List.set_cons_succ])))
          exact ⟨(⟨upP d, A5, al5, cap5, mn5, true⟩ : MiSt), ⟨_, _, _, Hupk.out, Hal5.out, Hct.out, Huo.out, Hule.out, hac, Hok5.out, hO5, hS.to⟩, Hupl.out, rfl, (by (simp only [blankT, junkT, List.cons_append, List.nil_append, List.setIfInBounds_toArray, List.set_cons_zero, List.set_cons_succ])), rfl⟩
        | true =>
          go_wp2_with (first | (go_at_call 20; refine ((hf _ _ hS inferInstance)).mono ?_; rintro e w' (⟨rfl, hS⟩)) | (go_at_call 30; refine ((hup _ _ hS)).mono ?_; rintro e w' (⟨rfl, hS⟩)))
          exact ⟨(⟨upP d, A5, al5, cap5, mn5, true⟩ : MiSt), ⟨_, _, _, Hupk.out, Hal5.out, Hct.out, Huo.out, Hule.out, hac, Hok5.out, hO5, hS.to⟩, Hupl.out, rfl, (by (simp only [blankT, junkT, List.cons_append, List.nil_append, List.setIfInBounds_toArray, List.set_cons_zero, List.set_cons_succ])), rfl⟩
  · rw [List.drop_eq_nil_of_le (by omega)] at hfo
    have hfo : (⟨acc, mn, wr⟩ : MrS) = Y := hfo
    subst hfo
    have hF := HF.out
    dsimp only at hF
    rw [← Hal.out] at hF
    obtain ⟨f1, f2, f3, f4⟩ := hF
    rw [HX.out] at f1 f2 f3 f4
    cases wr with
    | true =>
      have Hx := Lib.hid (f1 rfl)
      clear f1 f2 f3 f4
      go_wp2_with (fail)
      go_ret2
      rw [Hx.out]
      exact .bad hS.to
    | false =>
    cases mn with
    | true =>
      have Hx := Lib.hid (f2 rfl (.inl rfl))
      clear f1 f2 f3 f4
      go_wp2_with (fail)
      go_ret2
      rw [Hx.out]
      exact .bad hS.to
    | false =>
    by_cases hb : 1024 < al.length
    · have d4 : decide ((1024 : Int) < (al.length : Int)) = true := decide_eq_true (by omega)
      have e4 : decide (1024 < al.length) = true := decide_eq_true hb
      have Hx := Lib.hid (f2 rfl (.inr hb))
      clear f1 f2 f3 f4 hb
      go_wp2_with (fail)
      go_ret2
      rw [Hx.out]
      exact .bad hS.to
    have d4 : decide ((1024 : Int) < (al.length : Int)) = false := decide_eq_false (by omega)
    have e4 : decide (1024 < al.length) = false := decide_eq_false hb
    have hsz := fun (w : World) (R : HL) (hS : Sh B R w) (r : RdAt enE B R A4 al) => SizeR_any hS (cap := cap4) (t := al) (r := r) (by omega) Hok.out.small
    by_cases hbs : 1048576 < sumE al
    · have d5 : decide (1048576 < sumE al) = true := decide_eq_true hbs
      have Hx := Lib.hid (f3 rfl rfl hb hbs)
      clear f1 f2 f3 f4 hb hbs
      go_wp2_with ((go_at_call 23; refine ((hsz _ _ hS inferInstance)).mono ?_; rintro e w' (⟨rfl, hS⟩)))
      go_ret2
      rw [Hx.out]
      exact .bad hS.to
    have d5 : decide (1048576 < sumE al) = false := decide_eq_false hbs
    obtain ⟨o, hxo, hpo⟩ := f4 rfl rfl (by omega) (by omega)
    have Hx := Lib.hid hxo
    have Hpo := Lib.hid hpo
    have hcap4 : al.length ≤ cap4 := by have h1 := hO4.capEq; have h2 : enE.k = 3 := rfl; rw [h2] at h1; omega
    have hso := fun (w : World) (H : HL) (hS : Sh B H w) (r : RdAt enE B H A4 al) => SortR_all _ al rfl (cap := cap4) hS r hcap4 (by omega) fun e he => ⟨(mayB_ok (Hok.out.may e he)).1, (Hok.out.small e he).1⟩
    clear f1 f2 f3 f4 hb hbs hxo hpo
    go_wp2_with (first | (go_at_call 23; refine ((hsz _ _ hS inferInstance)).mono ?_; rintro e w' (⟨rfl, hS⟩)) | (go_at_call 29; refine ((hso _ _ hS inferInstance)).mono ?_; rintro e w' (⟨A6, sp6, cap6, ys, rfl, hp6, hw6, hO6, hS⟩)))
    go_ret2
    rw [Hx.out]
    exact ⟨_, _, _, ys, rfl, hp6.trans Hpo.out, hw6, hO6, hS.to⟩
end
end Go.Tk

set_option linter.unusedSectionVars false
set_option linter.unusedSimpArgs false
set_option linter.unusedVariables false
namespace Go.Tk
open Go.RowKit Go.Proofs
def srt : List En → List En
  | [] => []
  | e :: r => mergeE [e] (srt r)
theorem srt_perm : ∀ t : List En, (srt t).Perm t
  | [] => .refl _
  | e :: r => (mergeE_perm [e] (srt r)).trans ((srt_perm r).cons e)
theorem srt_sorted : ∀ t : List En, (∀ e ∈ t, okP e.path = true) → (srt t).Pairwise fun x y => 0 ≤ lessI y.path x.path
  | [], _ => .nil
  | e :: r, h => mergeE_sorted [e] (srt r) (fun x hx => by rw [List.mem_singleton.1 hx]; exact h e (by simp)) (fun x hx => h x (List.mem_cons_of_mem _ ((srt_perm r).subset hx))) (List.pairwise_singleton ..) (srt_sorted r fun x hx => h x (List.mem_cons_of_mem _ hx))
def sideI (e : En) (p : ByteArray) : Bool := decide (e = zE) || (decide (e.path = p) && mayB e)
def chOk (c : Ch) : Bool := !(decide (c.old = zE) && decide (c.new = zE)) && (sideI c.old c.path && sideI c.new c.path)
def befE (p : Option ByteArray) (q : ByteArray) : Bool := match p with | none => true | some a => decide (lessI a q < 0)
def chsG : Option ByteArray → List Ch → Bool
  | _, [] => true
  | p, c :: r => chOk c && (befE p c.path && chsG (some c.path) r)
theorem chsG_cons (p : Option ByteArray) (c : Ch) (r : List Ch) : chsG p (c :: r) = (chOk c && (befE p c.path && chsG (some c.path) r)) := by cases p <;> rfl
def standE (t : List En) (p : ByteArray) : En := match t.find? (fun e => decide (e.path = p)) with | some e => e | none => zE
def standsB (t : List En) (l : List Ch) : Bool := l.all fun c => decide (standE t c.path = c.old)
def inL (l : List Ch) (p : ByteArray) : Bool := l.any fun c => decide (c.path = p)
def newsL (l : List Ch) : List En := (l.map Ch.new).filter fun e => !decide (e = zE)
def applied (t : List En) (l : List Ch) : List En := (t.filter fun e => !inL l e.path) ++ newsL l
/-- What Apply answers. -/
def applyR (t : List En) (l : List Ch) : List En × Int :=
  if (checkA t).2 = 0 then (if chsG none l = true then (if standsB t l = true then (if (checkA (srt (applied t l))).2 = 0 then (srt (applied t l), 0) else ([], (checkA (srt (applied t l))).2)) else ([], 8)) else ([], 1)) else ([], (checkA t).2)
/-- Distinct paths of changes. -/
def DistC (l : List Ch) : Prop := l.Pairwise fun x y => ¬ x.path = y.path
theorem sideI_may {e : En} {p : ByteArray} (h : sideI e p = true) (hz : ¬ e = zE) : e.path = p ∧ mayB e = true := by
  unfold sideI at h
  simpa [hz] using h
theorem chOk_ok {c : Ch} (h : chOk c = true) : okP c.path = true ∧ sideI c.old c.path = true ∧ sideI c.new c.path = true := by
  unfold chOk at h
  simp only [Bool.and_eq_true, Bool.not_eq_true', Bool.and_eq_false_iff, decide_eq_false_iff_not] at h
  refine ⟨?_, h.2.1, h.2.2⟩
  rcases h.1 with h1 | h1
  · have := sideI_may h.2.1 h1
    rw [← this.1]; exact (mayB_ok this.2).1
  · have := sideI_may h.2.2 h1
    rw [← this.1]; exact (mayB_ok this.2).1
theorem chsG_all : ∀ (l : List Ch) (p : Option ByteArray), chsG p l = true → (∀ q, p = some q → okP q = true) → (∀ c ∈ l, chOk c = true) ∧ l.Pairwise (fun x y => lessI x.path y.path < 0) ∧ ∀ q, p = some q → ∀ c ∈ l, lessI q c.path < 0
  | [], _, _, _ => ⟨(fun _ h => nomatch h), .nil, (fun _ _ _ h => nomatch h)⟩
  | c :: r, p, h, hp => by
    rw [chsG_cons, Bool.and_eq_true, Bool.and_eq_true] at h
    have hc := chOk_ok h.1
    obtain ⟨h1, h2, h3⟩ := chsG_all r (some c.path) h.2.2 (fun q hq => by cases hq; exact hc.1)
    refine ⟨fun x hx => ?_, List.pairwise_cons.2 ⟨fun x hx => h3 _ rfl x hx, h2⟩, fun q hq x hx => ?_⟩
    · rcases List.mem_cons.1 hx with rfl | hx
      · exact h.1
      · exact h1 x hx
    · subst hq
      have h4 : lessI q c.path < 0 := of_decide_eq_true h.2.1
      rcases List.mem_cons.1 hx with rfl | hx
      · exact h4
      · exact lessI_trans (hp q rfl) hc.1 (chOk_ok (h1 x hx)).1 h4 (h3 _ rfl x hx)
theorem chsG_dist {l : List Ch} (h : chsG none l = true) : DistC l :=
  (chsG_all l none h (fun _ h => nomatch h)).2.1.imp fun {x y} h e => by rw [e, lessI_self] at h; omega
theorem inL_iff {l : List Ch} {p : ByteArray} : inL l p = true ↔ ∃ c ∈ l, c.path = p := by
  unfold inL
  rw [List.any_eq_true]
  simp only [decide_eq_true_eq]
theorem newsL_mem {l : List Ch} (h : ∀ c ∈ l, chOk c = true) {e : En} (he : e ∈ newsL l) : mayB e = true ∧ ∃ c ∈ l, c.new = e ∧ c.path = e.path := by
  unfold newsL at he
  rw [List.mem_filter, List.mem_map] at he
  obtain ⟨⟨c, hc, rfl⟩, hz⟩ := he
  have hz' : ¬ c.new = zE := by simpa using hz
  have := sideI_may (chOk_ok (h c hc)).2.2 hz'
  exact ⟨this.2, c, hc, rfl, this.1.symm⟩
theorem applied_ok {t : List En} {l : List Ch} (ht : ∀ e ∈ t, mayB e = true) (hd : Dist t) (h : chsG none l = true) : (∀ e ∈ applied t l, mayB e = true) ∧ Dist (applied t l) := by
  have hall := (chsG_all l none h (fun _ h => nomatch h)).1
  have hdl := chsG_dist h
  refine ⟨fun e he => ?_, ?_⟩
  · rcases List.mem_append.1 he with h1 | h1
    · exact ht e (List.mem_filter.1 h1).1
    · exact (newsL_mem hall h1).1
  · unfold Dist applied
    rw [List.pairwise_append]
    refine ⟨hd.filter _, ?_, fun x hx y hy he => ?_⟩
    · have : (l.map Ch.new).Pairwise fun x y => x = zE ∨ y = zE ∨ ¬ x.path = y.path := by
        rw [List.pairwise_map]
        refine List.Pairwise.imp_of_mem (fun {a b} ha hb hab => ?_) hdl
        by_cases h1 : a.new = zE
        · exact .inl h1
        by_cases h2 : b.new = zE
        · exact .inr (.inl h2)
        rw [(sideI_may (chOk_ok (hall a ha)).2.2 h1).1, (sideI_may (chOk_ok (hall b hb)).2.2 h2).1]
        exact .inr (.inr hab)
      refine List.Pairwise.imp_of_mem (fun {a b} ha hb hab => ?_) (this.filter _)
      have h1 : ¬ a = zE := by have := (List.mem_filter.1 ha).2; simpa using this
      have h2 : ¬ b = zE := by have := (List.mem_filter.1 hb).2; simpa using this
      rcases hab with h | h | h
      · exact absurd h h1
      · exact absurd h h2
      · exact h
    · obtain ⟨_, c, hc, h2, h3⟩ := newsL_mem hall hy
      have h4 := (List.mem_filter.1 hx).2
      have : inL l x.path = true := inL_iff.2 ⟨c, hc, by rw [h3, he]⟩
      rw [this] at h4; cases h4
/-- The document's way: in its place, or behind. -/
def refStep (t : List En) (out : List En) (c : Ch) : List En := match t.findIdx? (fun e => decide (e.path = c.path)) with | some k => out.set k c.new | none => out ++ [c.new]
def repl (l : List Ch) (e : En) : En := match l.find? (fun c => decide (c.path = e.path)) with | some c => c.new | none => e
def outs (t : List En) (l : List Ch) : List En := t.map (repl l) ++ (l.filter fun c => !t.any fun e => decide (e.path = c.path)).map Ch.new
theorem repl_snoc {l : List Ch} {c : Ch} {e : En} : repl (l ++ [c]) e = match l.find? (fun c => decide (c.path = e.path)) with | some c => c.new | none => if c.path = e.path then c.new else e := by
  unfold repl
  rw [List.find?_append]
  cases l.find? (fun c => decide (c.path = e.path)) with
  | some x => rfl
  | none => by_cases h : c.path = e.path <;> simp [h]
theorem refStep_outs {t : List En} (hd : Dist t) {l : List Ch} {c : Ch} (hc : ∀ x ∈ l, ¬ x.path = c.path) : refStep t (outs t l) c = outs t (l ++ [c]) := by
  unfold refStep outs
  cases hk : t.findIdx? (fun e => decide (e.path = c.path)) with
  | none =>
    rw [List.findIdx?_eq_none_iff] at hk
    have h1 : (t.any fun e => decide (e.path = c.path)) = false := by rw [List.any_eq_false]; intro e he; simpa using hk e he
    have h2 : t.map (repl (l ++ [c])) = t.map (repl l) := by
      refine List.map_congr_left fun e he => ?_
      rw [repl_snoc]
      have : ¬ c.path = e.path := fun h => by have := hk e he; simp [h] at this
      unfold repl
      cases l.find? (fun c => decide (c.path = e.path)) with
      | some x => rfl
      | none => simp [this]
    dsimp only
    rw [h2, List.filter_append, List.map_append, List.append_assoc]
    simp [h1]
  | some k =>
    rw [List.findIdx?_eq_some_iff_getElem] at hk
    obtain ⟨hlt, hp, _⟩ := hk
    have hp' : t[k].path = c.path := by simpa using hp
    have h1 : (t.any fun e => decide (e.path = c.path)) = true := List.any_eq_true.2 ⟨t[k], List.getElem_mem _, hp⟩
    have h2 : (t.map (repl l)).set k c.new = t.map (repl (l ++ [c])) := by
      apply List.ext_getElem (by simp)
      intro j hj1 hj2
      have hj : j < t.length := by simpa using hj2
      rw [List.getElem_set, List.getElem_map, List.getElem_map, repl_snoc]
      by_cases hjk : k = j
      · subst hjk
        have : l.find? (fun x => decide (x.path = t[k].path)) = none := List.find?_eq_none.2 fun x hx => by rw [hp']; simpa using hc x hx
        rw [if_pos rfl, this, if_pos hp'.symm]
      · rw [if_neg hjk]
        have hne : ¬ c.path = t[j].path := fun h => by
          have := hd.inj (List.getElem_mem hlt) (List.getElem_mem hj) (hp'.trans h)
          have h3 := List.pairwise_iff_getElem.1 hd
          rcases Nat.lt_or_gt_of_ne hjk with h4 | h4
          · exact h3 k j hlt hj h4 (by rw [this])
          · exact h3 j k hj hlt h4 (by rw [this])
        unfold repl
        cases l.find? (fun c => decide (c.path = t[j].path)) with
        | some x => rfl
        | none => simp [hne]
    dsimp only
    rw [← h2, List.filter_append]
    have h3 : ([c].filter fun c => !t.any fun e => decide (e.path = c.path)) = [] := by simp [h1]
    rw [h3, List.append_nil, List.set_append_left _ _ (by simpa using hlt)]
theorem foldR_outs {t : List En} (hd : Dist t) : ∀ (r l : List Ch), DistC (l ++ r) → r.foldl (refStep t) (outs t l) = outs t (l ++ r)
  | [], l, _ => by rw [List.append_nil]; rfl
  | c :: r, l, h => by
    have h1 : ∀ x ∈ l, ¬ x.path = c.path := fun x hx => (List.pairwise_append.1 h).2.2 x hx c (by simp)
    rw [List.foldl_cons, refStep_outs hd h1, foldR_outs hd r (l ++ [c]) (by rw [List.append_assoc]; exact h), List.append_assoc]
    rfl
theorem outs_nil (t : List En) : outs t [] = t := by
  unfold outs
  rw [show repl [] = id from funext fun e => rfl]
  simp
def newOf (l : List Ch) (p : ByteArray) : En := match l.find? (fun c => decide (c.path = p)) with | some c => c.new | none => zE
theorem newOf_of : ∀ {l : List Ch}, DistC l → ∀ {c : Ch}, c ∈ l → newOf l c.path = c.new
  | [], _, _, h => nomatch h
  | a :: l, hd, c, hc => by
    unfold newOf
    rw [List.find?_cons]
    have hd' := List.pairwise_cons.1 hd
    rcases List.mem_cons.1 hc with rfl | hc
    · simp
    · have : ¬ a.path = c.path := hd'.1 c hc
      simp only [this, decide_false]
      exact newOf_of hd'.2 hc
theorem filter_split {α : Type} (p : α → Bool) : ∀ (l : List α), l.Perm ((l.filter fun x => !p x) ++ l.filter p)
  | [] => .refl _
  | a :: l => by
    cases h : p a
    · simp only [List.filter_cons, h, Bool.not_false, if_true]
      exact (filter_split p l).cons a
    · simp only [List.filter_cons, h, Bool.not_true, if_true]
      exact ((filter_split p l).cons a).trans List.perm_middle.symm
theorem outs_perm {t : List En} (ht : ∀ e ∈ t, mayB e = true) (hd : Dist t) {l : List Ch} (hl : DistC l) : ((outs t l).filter fun e => !decide (e = zE)).Perm (applied t l) := by
  have hs := filter_split (fun e : En => inL l e.path) t
  have hc := filter_split (fun c : Ch => t.any fun e => decide (e.path = c.path)) l
  have h1 : ((t.filter fun e => !inL l e.path).map (repl l)) = t.filter fun e => !inL l e.path := by
    conv => rhs; rw [← List.map_id (t.filter fun e => !inL l e.path)]
    refine List.map_congr_left fun e he => ?_
    have h2 := (List.mem_filter.1 he).2
    unfold repl
    rw [List.find?_eq_none.2 (fun c hc2 => by
      intro h3
      have : inL l e.path = true := inL_iff.2 ⟨c, hc2, by simpa using h3⟩
      rw [this] at h2; cases h2)]
    rfl
  have h2 : ((t.filter fun e => inL l e.path).map (repl l)) = ((t.filter fun e => inL l e.path).map En.path).map (newOf l) := by
    rw [List.map_map]
    refine List.map_congr_left fun e he => ?_
    have h3 := (List.mem_filter.1 he).2
    obtain ⟨c, hc2, h4⟩ := inL_iff.1 h3
    unfold repl newOf
    show _ = (match l.find? (fun c => decide (c.path = e.path)) with | some c => c.new | none => zE)
    cases h5 : l.find? (fun c => decide (c.path = e.path)) with
    | some x => rfl
    | none => exact absurd (by simpa using h4) (List.find?_eq_none.1 h5 c hc2)
  have h3 : ((l.filter fun c => t.any fun e => decide (e.path = c.path)).map Ch.new) = ((l.filter fun c => t.any fun e => decide (e.path = c.path)).map Ch.path).map (newOf l) := by
    rw [List.map_map]
    refine List.map_congr_left fun c hc2 => ?_
    exact (newOf_of hl (List.mem_filter.1 hc2).1).symm
  have h4 : ((t.filter fun e => inL l e.path).map En.path).Perm ((l.filter fun c => t.any fun e => decide (e.path = c.path)).map Ch.path) := by
    refine perm_of_nodup ?_ ?_ fun p => ?_
    · exact List.pairwise_map.2 (hd.filter _)
    · exact List.pairwise_map.2 (hl.filter _)
    · simp only [List.mem_map, List.mem_filter, inL_iff, List.any_eq_true, decide_eq_true_eq]
      constructor
      · rintro ⟨e, ⟨he, c, hc2, h5⟩, rfl⟩
        exact ⟨c, ⟨hc2, e, he, h5.symm⟩, h5⟩
      · rintro ⟨c, ⟨hc2, e, he, h5⟩, rfl⟩
        exact ⟨e, ⟨he, c, hc2, h5.symm⟩, h5⟩
  have h5 : (outs t l).Perm ((t.filter fun e => !inL l e.path) ++ l.map Ch.new) := by
    unfold outs
    have a1 := hs.map (repl l)
    rw [List.map_append, h1, h2] at a1
    have a2 := (h4.map (newOf l))
    rw [← h3] at a2
    have a3 := hc.map Ch.new
    rw [List.map_append] at a3
    refine (List.Perm.append a1 (.refl _)).trans ?_
    rw [List.append_assoc]
    refine List.Perm.append (.refl _) ?_
    refine (List.Perm.append a2 (.refl _)).trans ?_
    exact List.perm_append_comm.trans a3.symm
  have h6 := h5.filter fun e => !decide (e = zE)
  have h7 : (t.filter fun e => !inL l e.path).filter (fun e => !decide (e = zE)) = t.filter fun e => !inL l e.path := List.filter_eq_self.2 fun e he => by
    have := mayB_zE (ht e (List.mem_filter.1 he).1)
    simpa using this
  rw [List.filter_append, h7] at h6
  exact h6
/-- Sorted, of these entries: there is just one such row. -/
theorem sorted_applied {t : List En} {l : List Ch} (ht : ∀ e ∈ t, mayB e = true) (hd : Dist t) (h : chsG none l = true) {ys : List En} (hp : ys.Perm (applied t l)) (hs : ys.Pairwise fun x y => 0 ≤ lessI y.path x.path) : ys = srt (applied t l) := by
  obtain ⟨h1, h2⟩ := applied_ok ht hd h
  have h3 : ∀ e ∈ srt (applied t l), okP e.path = true := fun e he => (mayB_ok (h1 e ((srt_perm _).subset he))).1
  exact sorted_uniq (hp.trans (srt_perm _).symm) hs (srt_sorted _ fun e he => (mayB_ok (h1 e he)).1) h3 (h2.perm (srt_perm _))
end Go.Tk

set_option linter.unusedSectionVars false
set_option linter.unusedSimpArgs false
set_option linter.unusedVariables false
namespace Go.Tk
open Go.RowKit Go.Proofs
/-- A function value that tells of an entry, over what stays. -/
structure PredC (B : Base) (R : HL) (g : Nat) (lb : Array Value) (pr : En → Bool) (ok : En → Prop) : Prop where
  enter : ∀ ar w, (callFunc g ar).run Tryz.prog w = .ok (.enter g ar) w
  call : ∀ (x : En) (H : HL) (w : World), ok x → (∃ d, H = d ++ R) → Sh B H w → Calls Tryz.prog g ([Value.agg x.cells.toArray].toArray ++ lb) w fun e w' => e = .returned (.bool (pr x)) ∧ Sh B H w'
def idxI (t : List En) (pr : En → Bool) : Int := match t.findIdx? pr with | some i => (i : Int) | none => -1
theorem idxI_at {t : List En} {pr : En → Bool} {i : Nat} {e : En} (h : ∀ j e, t[j]? = some e → j < i → pr e = false) (he : t[i]? = some e) (hp : pr e = true) : t.findIdx? pr = some i := by
  rw [List.findIdx?_eq_some_iff_getElem]
  obtain ⟨hi, hx⟩ := List.getElem?_eq_some_iff.1 he
  refine ⟨hi, by rw [hx]; exact hp, fun j hj => ?_⟩
  have := h j t[j] (List.getElem?_eq_getElem (by omega)) hj
  rw [this]; decide
theorem idxI_no {t : List En} {pr : En → Bool} (h : ∀ e ∈ t, pr e = false) : t.findIdx? pr = none := by
  rw [List.findIdx?_eq_none_iff]; intro e he; rw [h e he]
section
variable {B : Base} {R H H1 : HL} {w w' : World}
def IxI (B : Base) (H : HL) (t : List En) (pr : En → Bool) (i : Nat) (w : World) : Prop := i ≤ t.length ∧ (∀ j e, t[j]? = some e → j < i → pr e = false) ∧ Sh B H w
set_option maxRecDepth 100000 in
set_option maxHeartbeats 1600000 in
theorem IdxF_any {g : Nat} {lb : Array Value} {pr : En → Bool} {ok : En → Prop} (hp : PredC B R g lb pr ok) (hd : ∃ d, H = d ++ R) (hS : Sh B H w) {A : Option Addr} {cap : Nat} {t : List En} [r : RdAt enE B H A t] (hl : t.length ≤ 16777216) (hok : ∀ e ∈ t, ok e := by intros; trivial) :
    Calls Tryz.prog 59 #[.slice A t.length cap, .func (.func g) #[] lb] w fun e w' => e = .returned (.int .i64 (idxI t pr)) ∧ Sh B H w' := by
  have hE := hp.enter
  have hc := fun (x : En) (hx : ok x) (w : World) (hS : Sh B H w) => hp.call x H w hx hd hS
  have Hok := Lib.hid hok
  clear hp hd hok
  go_enter Tryz.func59, Tryz.ntmps59
  go_wp2_with (first | (refine wl_isld rfl ?_; ((first | refine wl_value rfl (ex_l0 hS rfl rfl rfl CellAt.out) ?_ | refine wl_value rfl (ex_lf hS rfl rfl rfl CellAt.out) ?_ | refine wl_value rfl (ex_l1 hS rfl rfl rfl CellAt.out) ?_ | refine wl_value rfl (ex_ldC hS rfl rfl CellAt.out) ?_ | refine wl_value rfl (ex_l0 hS rfl rfl rfl rfl) ?_ | refine wl_value rfl (ex_lf hS rfl rfl rfl rfl) ?_ | refine wl_value rfl (ex_l1 hS rfl rfl rfl rfl) ?_ | refine wl_value rfl (ex_ldC hS rfl rfl rfl) ?_ | refine wl_value rfl (ex_l00 hS rfl rfl CellAt.out) ?_ | refine wl_value rfl (ex_l00 hS rfl rfl rfl) ?_ | refine wl_value rfl (ex_l0f hS rfl rfl CellAt.out) ?_ | refine wl_value rfl (ex_l0f hS rfl rfl rfl) ?_ | refine wl_value rfl (ex_lr hS rfl rfl rfl rfl) ?_ | refine wl_value rfl (ex_lr0 hS rfl rfl rfl) ?_ | refine wl_value rfl (ex_lrz hS rfl rfl rfl) ?_ | refine wl_value rfl (ex_lrf hS rfl rfl rfl) ?_ | refine wl_value rfl (ex_ldrC hS rfl rfl) ?_ | refine wl_value rfl (ex_ldr0 hS rfl rfl rfl) ?_); (try simp only [Act.put, List.setIfInBounds_toArray, List.set_cons_zero, List.set_cons_succ]))) | ((first | refine wl_value rfl (ex_ix hS rfl rfl rfl ?_) ?_); (focus (first | rfl | omega | (simp; done))); (try simp only [Act.put, List.setIfInBounds_toArray, List.set_cons_zero, List.set_cons_succ])) | ((first | refine wl_value rfl (ex_eqA rfl rfl rfl) ?_ | refine wl_value rfl (ex_neA rfl rfl rfl) ?_); (try simp only [Act.put, List.setIfInBounds_toArray, List.set_cons_zero, List.set_cons_succ])) | (refine wl_alloc rfl rfl hS ?_; intro _ _ hS; (try simp only [Act.put, List.setIfInBounds_toArray, List.set_cons_zero, List.set_cons_succ])) | (refine wl_box rfl rfl rfl rfl hS ?_; intro _ _ hS; (try simp only [Act.put, List.setIfInBounds_toArray, List.set_cons_zero, List.set_cons_succ])) | (refine wl_st rfl rfl rfl rfl rfl hS (of_decide_eq_true rfl) ?_; intro _ hS; (try simp only [evT, evC, List.getD_cons_succ, List.getD_cons_zero, List.set_cons_zero, List.set_cons_succ] at hS); (try simp only [List.set_cons_zero, List.set_cons_succ] at hS); (try simp only [Act.put, List.setIfInBounds_toArray, List.set_cons_zero, List.set_cons_succ])) | (refine wl_strC rfl rfl rfl rfl hS rfl rfl ?_; intro _ hS; (try simp only [evT, evC, List.getD_cons_succ, List.getD_cons_zero, List.set_cons_zero, List.set_cons_succ] at hS); (try simp only [Act.put, List.setIfInBounds_toArray, List.set_cons_zero, List.set_cons_succ])))
  have h0 : IxI B H t pr 0 _ := ⟨Nat.zero_le _, fun _ _ _ h => absurd h (Nat.not_lt_zero _), hS⟩
  clear hS
  refine wp_loopS [8] [4, 5, 9, 10, 11, 12, 13, 14, 15, 16, 17, 18] (fun i : Nat => [.int .i64 i]) (IxI B H t pr) (fun i => t.length - i) (0) rfl (h0) ?_
  clear h0
  rintro i J w ⟨hi, hno, hS⟩
  have Hno := Lib.hid hno
  clear hno
  (simp only [Frm, setsT, junkT, List.setIfInBounds_toArray, List.set_cons_zero, List.set_cons_succ])
  by_cases hlt : i < t.length
  · obtain ⟨x, gx⟩ := Nth.of hlt
    have hcx := fun (w : World) (hS : Sh B H w) => hc x (Hok.out x gx.mem) w hS
    cases hx : pr x with
    | true =>
      rw [hx] at hcx
      have Hf := Lib.hid (idxI_at Hno.out gx.get hx)
      clear hx
      go_wp2_with (first | (refine wl_callV hE rfl rfl rfl rfl ?_; refine (hcx _ hS).mono ?_; rintro e' w' ⟨rfl, hS⟩; refine ⟨_, rfl, ?_⟩; (try simp only [Act.put, List.setIfInBounds_toArray, List.set_cons_zero, List.set_cons_succ])) | (refine wl_isld rfl ?_; ((first | refine wl_value rfl (ex_l0 hS rfl rfl rfl CellAt.out) ?_ | refine wl_value rfl (ex_lf hS rfl rfl rfl CellAt.out) ?_ | refine wl_value rfl (ex_l1 hS rfl rfl rfl CellAt.out) ?_ | refine wl_value rfl (ex_ldC hS rfl rfl CellAt.out) ?_ | refine wl_value rfl (ex_l0 hS rfl rfl rfl rfl) ?_ | refine wl_value rfl (ex_lf hS rfl rfl rfl rfl) ?_ | refine wl_value rfl (ex_l1 hS rfl rfl rfl rfl) ?_ | refine wl_value rfl (ex_ldC hS rfl rfl rfl) ?_ | refine wl_value rfl (ex_l00 hS rfl rfl CellAt.out) ?_ | refine wl_value rfl (ex_l00 hS rfl rfl rfl) ?_ | refine wl_value rfl (ex_l0f hS rfl rfl CellAt.out) ?_ | refine wl_value rfl (ex_l0f hS rfl rfl rfl) ?_ | refine wl_value rfl (ex_lr hS rfl rfl rfl rfl) ?_ | refine wl_value rfl (ex_lr0 hS rfl rfl rfl) ?_ | refine wl_value rfl (ex_lrz hS rfl rfl rfl) ?_ | refine wl_value rfl (ex_lrf hS rfl rfl rfl) ?_ | refine wl_value rfl (ex_ldrC hS rfl rfl) ?_ | refine wl_value rfl (ex_ldr0 hS rfl rfl rfl) ?_); (try simp only [Act.put, List.setIfInBounds_toArray, List.set_cons_zero, List.set_cons_succ]))) | ((first | refine wl_value rfl (ex_ix hS rfl rfl rfl ?_) ?_); (focus (first | rfl | omega | (simp; done))); (try simp only [Act.put, List.setIfInBounds_toArray, List.set_cons_zero, List.set_cons_succ])) | ((first | refine wl_value rfl (ex_eqA rfl rfl rfl) ?_ | refine wl_value rfl (ex_neA rfl rfl rfl) ?_); (try simp only [Act.put, List.setIfInBounds_toArray, List.set_cons_zero, List.set_cons_succ])) | (refine wl_alloc rfl rfl hS ?_; intro _ _ hS; (try simp only [Act.put, List.setIfInBounds_toArray, List.set_cons_zero, List.set_cons_succ])) | (refine wl_box rfl rfl rfl rfl hS ?_; intro _ _ hS; (try simp only [Act.put, List.setIfInBounds_toArray, List.set_cons_zero, List.set_cons_succ])) | (refine wl_st rfl rfl rfl rfl rfl hS (of_decide_eq_true rfl) ?_; intro _ hS; (try simp only [evT, evC, List.getD_cons_succ, List.getD_cons_zero, List.set_cons_zero, List.set_cons_succ] at hS); (try simp only [List.set_cons_zero, List.set_cons_succ] at hS); (try simp only [Act.put, List.setIfInBounds_toArray, List.set_cons_zero, List.set_cons_succ])) | (refine wl_strC rfl rfl rfl rfl hS rfl rfl ?_; intro _ hS; (try simp only [evT, evC, List.getD_cons_succ, List.getD_cons_zero, List.set_cons_zero, List.set_cons_succ] at hS); (try simp only [Act.put, List.setIfInBounds_toArray, List.set_cons_zero, List.set_cons_succ])))
      go_ret
      exact ⟨by unfold idxI; rw [Hf.out]; rfl, hS⟩
    | false =>
      rw [hx] at hcx
      have Hx := Lib.hid hx
      clear hx
      go_wp2_with (first | (refine wl_callV hE rfl rfl rfl rfl ?_; refine (hcx _ hS).mono ?_; rintro e' w' ⟨rfl, hS⟩; refine ⟨_, rfl, ?_⟩; (try simp only [Act.put, List.setIfInBounds_toArray, List.set_cons_zero, List.set_cons_succ])) | (refine wl_isld rfl ?_; ((first | refine wl_value rfl (ex_l0 hS rfl rfl rfl CellAt.out) ?_ | refine wl_value rfl (ex_lf hS rfl rfl rfl CellAt.out) ?_ | refine wl_value rfl (ex_l1 hS rfl rfl rfl CellAt.out) ?_ | refine wl_value rfl (ex_ldC hS rfl rfl CellAt.out) ?_ | refine wl_value rfl (ex_l0 hS rfl rfl rfl rfl) ?_ | refine wl_value rfl (ex_lf hS rfl rfl rfl rfl) ?_ | refine wl_value rfl (ex_l1 hS rfl rfl rfl rfl) ?_ | refine wl_value rfl (ex_ldC hS rfl rfl rfl) ?_ | refine wl_value rfl (ex_l00 hS rfl rfl CellAt.out) ?_ | refine wl_value rfl (ex_l00 hS rfl rfl rfl) ?_ | refine wl_value rfl (ex_l0f hS rfl rfl CellAt.out) ?_ | refine wl_value rfl (ex_l0f hS rfl rfl rfl) ?_ | refine wl_value rfl (ex_lr hS rfl rfl rfl rfl) ?_ | refine wl_value rfl (ex_lr0 hS rfl rfl rfl) ?_ | refine wl_value rfl (ex_lrz hS rfl rfl rfl) ?_ | refine wl_value rfl (ex_lrf hS rfl rfl rfl) ?_ | refine wl_value rfl (ex_ldrC hS rfl rfl) ?_ | refine wl_value rfl (ex_ldr0 hS rfl rfl rfl) ?_); (try simp only [Act.put, List.setIfInBounds_toArray, List.set_cons_zero, List.set_cons_succ]))) | ((first | refine wl_value rfl (ex_ix hS rfl rfl rfl ?_) ?_); (focus (first | rfl | omega | (simp; done))); (try simp only [Act.put, List.setIfInBounds_toArray, List.set_cons_zero, List.set_cons_succ])) | ((first | refine wl_value rfl (ex_eqA rfl rfl rfl) ?_ | refine wl_value rfl (ex_neA rfl rfl rfl) ?_); (try simp only [Act.put, List.setIfInBounds_toArray, List.set_cons_zero, List.set_cons_succ])) | (refine wl_alloc rfl rfl hS ?_; intro _ _ hS; (try simp only [Act.put, List.setIfInBounds_toArray, List.set_cons_zero, List.set_cons_succ])) | (refine wl_box rfl rfl rfl rfl hS ?_; intro _ _ hS; (try simp only [Act.put, List.setIfInBounds_toArray, List.set_cons_zero, List.set_cons_succ])) | (refine wl_st rfl rfl rfl rfl rfl hS (of_decide_eq_true rfl) ?_; intro _ hS; (try simp only [evT, evC, List.getD_cons_succ, List.getD_cons_zero, List.set_cons_zero, List.set_cons_succ] at hS); (try simp only [List.set_cons_zero, List.set_cons_succ] at hS); (try simp only [Act.put, List.setIfInBounds_toArray, List.set_cons_zero, List.set_cons_succ])) | (refine wl_strC rfl rfl rfl rfl hS rfl rfl ?_; intro _ hS; (try simp only [evT, evC, List.getD_cons_succ, List.getD_cons_zero, List.set_cons_zero, List.set_cons_succ] at hS); (try simp only [Act.put, List.setIfInBounds_toArray, List.set_cons_zero, List.set_cons_succ])))
      (refine ⟨((i + 1 : Nat)), (⟨hlt, fun j y hy hj => by rcases Nat.lt_succ_iff_lt_or_eq.1 hj with h | h; exact Hno.out j y hy h; subst h; rw [gx.get] at hy; cases hy; exact Hx.out, hS⟩), (by (try dsimp only); omega), rfl, (by (simp only [blankT, junkT, List.cons_append, List.nil_append, List.setIfInBounds_toArray, List.set_cons_zero, List.set_cons_succ])), rfl⟩)
  · have Hf := Lib.hid (idxI_no (pr := pr) (t := t) fun e he => by
      obtain ⟨j, hj⟩ := List.getElem?_of_mem he
      exact Hno.out j e hj (by have := (List.getElem?_eq_some_iff.1 hj).1; omega))
    go_wp2_with (first | (refine wl_isld rfl ?_; ((first | refine wl_value rfl (ex_l0 hS rfl rfl rfl CellAt.out) ?_ | refine wl_value rfl (ex_lf hS rfl rfl rfl CellAt.out) ?_ | refine wl_value rfl (ex_l1 hS rfl rfl rfl CellAt.out) ?_ | refine wl_value rfl (ex_ldC hS rfl rfl CellAt.out) ?_ | refine wl_value rfl (ex_l0 hS rfl rfl rfl rfl) ?_ | refine wl_value rfl (ex_lf hS rfl rfl rfl rfl) ?_ | refine wl_value rfl (ex_l1 hS rfl rfl rfl rfl) ?_ | refine wl_value rfl (ex_ldC hS rfl rfl rfl) ?_ | refine wl_value rfl (ex_l00 hS rfl rfl CellAt.out) ?_ | refine wl_value rfl (ex_l00 hS rfl rfl rfl) ?_ | refine wl_value rfl (ex_l0f hS rfl rfl CellAt.out) ?_ | refine wl_value rfl (ex_l0f hS rfl rfl rfl) ?_ | refine wl_value rfl (ex_lr hS rfl rfl rfl rfl) ?_ | refine wl_value rfl (ex_lr0 hS rfl rfl rfl) ?_ | refine wl_value rfl (ex_lrz hS rfl rfl rfl) ?_ | refine wl_value rfl (ex_lrf hS rfl rfl rfl) ?_ | refine wl_value rfl (ex_ldrC hS rfl rfl) ?_ | refine wl_value rfl (ex_ldr0 hS rfl rfl rfl) ?_); (try simp only [Act.put, List.setIfInBounds_toArray, List.set_cons_zero, List.set_cons_succ]))) | ((first | refine wl_value rfl (ex_ix hS rfl rfl rfl ?_) ?_); (focus (first | rfl | omega | (simp; done))); (try simp only [Act.put, List.setIfInBounds_toArray, List.set_cons_zero, List.set_cons_succ])) | ((first | refine wl_value rfl (ex_eqA rfl rfl rfl) ?_ | refine wl_value rfl (ex_neA rfl rfl rfl) ?_); (try simp only [Act.put, List.setIfInBounds_toArray, List.set_cons_zero, List.set_cons_succ])) | (refine wl_alloc rfl rfl hS ?_; intro _ _ hS; (try simp only [Act.put, List.setIfInBounds_toArray, List.set_cons_zero, List.set_cons_succ])) | (refine wl_box rfl rfl rfl rfl hS ?_; intro _ _ hS; (try simp only [Act.put, List.setIfInBounds_toArray, List.set_cons_zero, List.set_cons_succ])) | (refine wl_st rfl rfl rfl rfl rfl hS (of_decide_eq_true rfl) ?_; intro _ hS; (try simp only [evT, evC, List.getD_cons_succ, List.getD_cons_zero, List.set_cons_zero, List.set_cons_succ] at hS); (try simp only [List.set_cons_zero, List.set_cons_succ] at hS); (try simp only [Act.put, List.setIfInBounds_toArray, List.set_cons_zero, List.set_cons_succ])) | (refine wl_strC rfl rfl rfl rfl hS rfl rfl ?_; intro _ hS; (try simp only [evT, evC, List.getD_cons_succ, List.getD_cons_zero, List.set_cons_zero, List.set_cons_succ] at hS); (try simp only [Act.put, List.setIfInBounds_toArray, List.set_cons_zero, List.set_cons_succ])))
    go_ret
    exact ⟨by unfold idxI; rw [Hf.out]; rfl, hS⟩
set_option maxRecDepth 100000 in
theorem place1_any {pb : Nat} {p : ByteArray} : PredC B (cellB pb [.string p] 9 ++ R) 60 #[.pointer (some ⟨pb, 0, none⟩)] (fun e => decide (e.path = p)) (fun _ => True) := by
  refine ⟨EntersC.out (P := Tryz.prog) (f := 60), ?_⟩
  rintro x H w - ⟨d, rfl⟩ hS
  show Calls Tryz.prog 60 #[.agg x.cells.toArray, .pointer (some ⟨pb, 0, none⟩)] w _
  rw [← strEq]
  go_enter Tryz.func60, Tryz.ntmps60
  go_wp2_with (first | (refine wl_box rfl rfl rfl rfl hS ?_; intro xb _ hS; (try simp only [Act.put, List.setIfInBounds_toArray, List.set_cons_zero, List.set_cons_succ])) | (refine wl_isld rfl ?_; ((first | refine wl_value rfl (ex_l0 hS rfl rfl rfl CellAt.out) ?_ | refine wl_value rfl (ex_lf hS rfl rfl rfl CellAt.out) ?_ | refine wl_value rfl (ex_l1 hS rfl rfl rfl CellAt.out) ?_ | refine wl_value rfl (ex_ldC hS rfl rfl CellAt.out) ?_ | refine wl_value rfl (ex_l0 hS rfl rfl rfl rfl) ?_ | refine wl_value rfl (ex_lf hS rfl rfl rfl rfl) ?_ | refine wl_value rfl (ex_l1 hS rfl rfl rfl rfl) ?_ | refine wl_value rfl (ex_ldC hS rfl rfl rfl) ?_ | refine wl_value rfl (ex_l00 hS rfl rfl CellAt.out) ?_ | refine wl_value rfl (ex_l00 hS rfl rfl rfl) ?_ | refine wl_value rfl (ex_l0f hS rfl rfl CellAt.out) ?_ | refine wl_value rfl (ex_l0f hS rfl rfl rfl) ?_ | refine wl_value rfl (ex_lr hS rfl rfl rfl rfl) ?_ | refine wl_value rfl (ex_lr0 hS rfl rfl rfl) ?_ | refine wl_value rfl (ex_lrz hS rfl rfl rfl) ?_ | refine wl_value rfl (ex_lrf hS rfl rfl rfl) ?_ | refine wl_value rfl (ex_ldrC hS rfl rfl) ?_ | refine wl_value rfl (ex_ldr0 hS rfl rfl rfl) ?_); (try simp only [Act.put, List.setIfInBounds_toArray, List.set_cons_zero, List.set_cons_succ]))) | ((first | refine wl_value rfl (ex_ix hS rfl rfl rfl ?_) ?_); (focus (first | rfl | omega | (simp; done))); (try simp only [Act.put, List.setIfInBounds_toArray, List.set_cons_zero, List.set_cons_succ])) | ((first | refine wl_value rfl (ex_eqA rfl rfl rfl) ?_ | refine wl_value rfl (ex_neA rfl rfl rfl) ?_); (try simp only [Act.put, List.setIfInBounds_toArray, List.set_cons_zero, List.set_cons_succ])) | (refine wl_alloc rfl rfl hS ?_; intro _ _ hS; (try simp only [Act.put, List.setIfInBounds_toArray, List.set_cons_zero, List.set_cons_succ])) | (refine wl_box rfl rfl rfl rfl hS ?_; intro _ _ hS; (try simp only [Act.put, List.setIfInBounds_toArray, List.set_cons_zero, List.set_cons_succ])) | (refine wl_st rfl rfl rfl rfl rfl hS (of_decide_eq_true rfl) ?_; intro _ hS; (try simp only [evT, evC, List.getD_cons_succ, List.getD_cons_zero, List.set_cons_zero, List.set_cons_succ] at hS); (try simp only [List.set_cons_zero, List.set_cons_succ] at hS); (try simp only [Act.put, List.setIfInBounds_toArray, List.set_cons_zero, List.set_cons_succ])) | (refine wl_strC rfl rfl rfl rfl hS rfl rfl ?_; intro _ hS; (try simp only [evT, evC, List.getD_cons_succ, List.getD_cons_zero, List.set_cons_zero, List.set_cons_succ] at hS); (try simp only [Act.put, List.setIfInBounds_toArray, List.set_cons_zero, List.set_cons_succ])))
  go_ret
  exact ⟨rfl, hS.to⟩
set_option maxRecDepth 100000 in
theorem Place_any (hS : Sh B R w) {A : Option Addr} {cap : Nat} {t : List En} [r : RdAt enE B R A t] (hl : t.length ≤ 16777216) (p : ByteArray) :
    Calls Tryz.prog 42 #[.slice A t.length cap, .string p] w fun e w' => e = .returned (.int .i64 (findI t p)) ∧ Sh B R w' := by
  have hf := fun (w : World) (pb : Nat) (hS : Sh B (cellB pb [.string p] 9 ++ R) w) (r : RdAt enE B (cellB pb [.string p] 9 ++ R) A t) => IdxF_any (place1_any (pb := pb) (p := p)) ⟨[], rfl⟩ hS (cap := cap) (r := r) hl
  rw [show idxI t (fun e => decide (e.path = p)) = findI t p from rfl] at hf
  go_enter Tryz.func42, Tryz.ntmps42
  go_wp2_with (first | (refine wl_box rfl rfl rfl rfl hS ?_; intro pb _ hS; (try simp only [Act.put, List.setIfInBounds_toArray, List.set_cons_zero, List.set_cons_succ])) | (go_at_call 59; refine ((hf _ _ hS inferInstance)).mono ?_; rintro e w' (⟨rfl, hS⟩)) | (refine wl_isld rfl ?_; ((first | refine wl_value rfl (ex_l0 hS rfl rfl rfl CellAt.out) ?_ | refine wl_value rfl (ex_lf hS rfl rfl rfl CellAt.out) ?_ | refine wl_value rfl (ex_l1 hS rfl rfl rfl CellAt.out) ?_ | refine wl_value rfl (ex_ldC hS rfl rfl CellAt.out) ?_ | refine wl_value rfl (ex_l0 hS rfl rfl rfl rfl) ?_ | refine wl_value rfl (ex_lf hS rfl rfl rfl rfl) ?_ | refine wl_value rfl (ex_l1 hS rfl rfl rfl rfl) ?_ | refine wl_value rfl (ex_ldC hS rfl rfl rfl) ?_ | refine wl_value rfl (ex_l00 hS rfl rfl CellAt.out) ?_ | refine wl_value rfl (ex_l00 hS rfl rfl rfl) ?_ | refine wl_value rfl (ex_l0f hS rfl rfl CellAt.out) ?_ | refine wl_value rfl (ex_l0f hS rfl rfl rfl) ?_ | refine wl_value rfl (ex_lr hS rfl rfl rfl rfl) ?_ | refine wl_value rfl (ex_lr0 hS rfl rfl rfl) ?_ | refine wl_value rfl (ex_lrz hS rfl rfl rfl) ?_ | refine wl_value rfl (ex_lrf hS rfl rfl rfl) ?_ | refine wl_value rfl (ex_ldrC hS rfl rfl) ?_ | refine wl_value rfl (ex_ldr0 hS rfl rfl rfl) ?_); (try simp only [Act.put, List.setIfInBounds_toArray, List.set_cons_zero, List.set_cons_succ]))) | ((first | refine wl_value rfl (ex_ix hS rfl rfl rfl ?_) ?_); (focus (first | rfl | omega | (simp; done))); (try simp only [Act.put, List.setIfInBounds_toArray, List.set_cons_zero, List.set_cons_succ])) | ((first | refine wl_value rfl (ex_eqA rfl rfl rfl) ?_ | refine wl_value rfl (ex_neA rfl rfl rfl) ?_); (try simp only [Act.put, List.setIfInBounds_toArray, List.set_cons_zero, List.set_cons_succ])) | (refine wl_alloc rfl rfl hS ?_; intro _ _ hS; (try simp only [Act.put, List.setIfInBounds_toArray, List.set_cons_zero, List.set_cons_succ])) | (refine wl_box rfl rfl rfl rfl hS ?_; intro _ _ hS; (try simp only [Act.put, List.setIfInBounds_toArray, List.set_cons_zero, List.set_cons_succ])) | (refine wl_st rfl rfl rfl rfl rfl hS (of_decide_eq_true rfl) ?_; intro _ hS; (try simp only [evT, evC, List.getD_cons_succ, List.getD_cons_zero, List.set_cons_zero, List.set_cons_succ] at hS); (try simp only [List.set_cons_zero, List.set_cons_succ] at hS); (try simp only [Act.put, List.setIfInBounds_toArray, List.set_cons_zero, List.set_cons_succ])) | (refine wl_strC rfl rfl rfl rfl hS rfl rfl ?_; intro _ hS; (try simp only [evT, evC, List.getD_cons_succ, List.getD_cons_zero, List.set_cons_zero, List.set_cons_succ] at hS); (try simp only [Act.put, List.setIfInBounds_toArray, List.set_cons_zero, List.set_cons_succ])))
  go_ret
  exact ⟨rfl, hS.to⟩
structure DlSt where
  i : Nat
  j : Nat
  ys : List En
def DlI (B : Base) (R : HL) (A : Option Addr) (xs : List En) (sp : List Value) (cap : Nat) (q : En → Bool) (x : DlSt) (w : World) : Prop :=
  x.i < x.j ∧ x.j ≤ xs.length ∧ x.ys.length = xs.length ∧ x.ys.take x.i = (xs.take x.j).filter q ∧ ((xs.take x.j).filter q).length = x.i ∧ x.ys.drop x.j = xs.drop x.j ∧ OwnSl enE A x.ys sp cap ∧ Sh B (rowA A (flat enE x.ys ++ sp) 24 ++ R) w
def DelP (B : Base) (R : HL) (A : Option Addr) (zs : List En) (cap : Nat) (e : Ending) (w' : World) : Prop :=
  ∃ sp, e = .returned (.slice A zs.length cap) ∧ OwnSl enE A zs sp cap ∧ Sh B (rowA A (flat enE zs ++ sp) 24 ++ R) w'
set_option maxRecDepth 100000 in
set_option maxHeartbeats 3200000 in
theorem DelF_any {g : Nat} {lb : Array Value} {pr : En → Bool} {ok : En → Prop} (hp : PredC B R g lb pr ok) {A : Option Addr} {xs : List En} {sp : List Value} {cap : Nat} (hO : OwnSl enE A xs sp cap) (hS : Sh B (rowA A (flat enE xs ++ sp) 24 ++ R) w) (hl : xs.length ≤ 16777216) (hok : ∀ e ∈ xs, ok e := by intros; trivial) :
    Calls Tryz.prog 46 #[.slice A xs.length cap, .func (.func g) #[] lb] w (DelP B R A (xs.filter fun x => !pr x) cap) := by
  have hix := fun (w : World) (hS : Sh B (rowA A (flat enE xs ++ sp) 24 ++ R) w) (r : RdAt enE B (rowA A (flat enE xs ++ sp) 24 ++ R) A xs) => IdxF_any hp ⟨_, rfl⟩ hS (cap := cap) (r := r) hl hok
  obtain ⟨Z, hZ⟩ : ∃ Z, (xs.filter fun x => !pr x) = Z := ⟨_, rfl⟩
  rw [hZ]
  have HZ := Lib.hid hZ
  unfold idxI at hix
  cases hf : xs.findIdx? pr with
  | none =>
    rw [hf] at hix
    have Hz := Lib.hid (show Z = xs by
      rw [← hZ, List.filter_eq_self]
      intro e he
      rw [List.findIdx?_eq_none_iff.1 hf e he]; rfl)
    clear hZ hf hp
    go_enter Tryz.func46, Tryz.ntmps46
    go_wp2_with (first | (go_at_call 59; refine ((hix _ hS inferInstance)).mono ?_; rintro e w' (⟨rfl, hS⟩)) | (refine wl_isld rfl ?_; ((first | refine wl_value rfl (ex_l0 hS rfl rfl rfl CellAt.out) ?_ | refine wl_value rfl (ex_lf hS rfl rfl rfl CellAt.out) ?_ | refine wl_value rfl (ex_l1 hS rfl rfl rfl CellAt.out) ?_ | refine wl_value rfl (ex_ldC hS rfl rfl CellAt.out) ?_ | refine wl_value rfl (ex_l0 hS rfl rfl rfl rfl) ?_ | refine wl_value rfl (ex_lf hS rfl rfl rfl rfl) ?_ | refine wl_value rfl (ex_l1 hS rfl rfl rfl rfl) ?_ | refine wl_value rfl (ex_ldC hS rfl rfl rfl) ?_ | refine wl_value rfl (ex_l00 hS rfl rfl CellAt.out) ?_ | refine wl_value rfl (ex_l00 hS rfl rfl rfl) ?_ | refine wl_value rfl (ex_l0f hS rfl rfl CellAt.out) ?_ | refine wl_value rfl (ex_l0f hS rfl rfl rfl) ?_ | refine wl_value rfl (ex_lr hS rfl rfl rfl rfl) ?_ | refine wl_value rfl (ex_lr0 hS rfl rfl rfl) ?_ | refine wl_value rfl (ex_lrz hS rfl rfl rfl) ?_ | refine wl_value rfl (ex_lrf hS rfl rfl rfl) ?_ | refine wl_value rfl (ex_ldrC hS rfl rfl) ?_ | refine wl_value rfl (ex_ldr0 hS rfl rfl rfl) ?_); (try simp only [Act.put, List.setIfInBounds_toArray, List.set_cons_zero, List.set_cons_succ]))) | ((first | refine wl_value rfl (ex_ix hS rfl rfl rfl ?_) ?_); (focus (first | rfl | omega | (simp; done))); (try simp only [Act.put, List.setIfInBounds_toArray, List.set_cons_zero, List.set_cons_succ])) | ((first | refine wl_value rfl (ex_eqA rfl rfl rfl) ?_ | refine wl_value rfl (ex_neA rfl rfl rfl) ?_); (try simp only [Act.put, List.setIfInBounds_toArray, List.set_cons_zero, List.set_cons_succ])) | (refine wl_alloc rfl rfl hS ?_; intro _ _ hS; (try simp only [Act.put, List.setIfInBounds_toArray, List.set_cons_zero, List.set_cons_succ])) | (refine wl_box rfl rfl rfl rfl hS ?_; intro _ _ hS; (try simp only [Act.put, List.setIfInBounds_toArray, List.set_cons_zero, List.set_cons_succ])) | (refine wl_st rfl rfl rfl rfl rfl hS (of_decide_eq_true rfl) ?_; intro _ hS; (try simp only [evT, evC, List.getD_cons_succ, List.getD_cons_zero, List.set_cons_zero, List.set_cons_succ] at hS); (try simp only [List.set_cons_zero, List.set_cons_succ] at hS); (try simp only [Act.put, List.setIfInBounds_toArray, List.set_cons_zero, List.set_cons_succ])) | (refine wl_strC rfl rfl rfl rfl hS rfl rfl ?_; intro _ hS; (try simp only [evT, evC, List.getD_cons_succ, List.getD_cons_zero, List.set_cons_zero, List.set_cons_succ] at hS); (try simp only [Act.put, List.setIfInBounds_toArray, List.set_cons_zero, List.set_cons_succ])))
    go_ret
    rw [Hz.out]
    exact ⟨_, rfl, hO, hS.to⟩
  | some i0 =>
    rw [hf] at hix
    have hfi := List.findIdx?_eq_some_iff_getElem.1 hf
    obtain ⟨hi0, hpi, hpj⟩ := hfi
    have hE := hp.enter
    have hc := hp.call
    have Hokx := Lib.hid hok
    clear hok
    have hok := (OwnD.of hO).ok
    have d0 : ((i0 : Int) == -1) = false := beq_no (by omega)
    have hft : (xs.take i0).filter (fun x => !pr x) = xs.take i0 := by
      rw [List.filter_eq_self]
      intro e he
      obtain ⟨j, hj⟩ := List.getElem?_of_mem he
      have hji : j < i0 := by have := (List.getElem?_eq_some_iff.1 hj).1; rw [List.length_take] at this; omega
      rw [List.getElem?_take, if_pos hji] at hj
      obtain ⟨h1, h2⟩ := List.getElem?_eq_some_iff.1 hj
      have := hpj j hji
      rw [h2] at this
      simpa using this
    have g0 : Nth xs i0 xs[i0] := ⟨List.getElem?_eq_getElem hi0⟩
    have hft1 : (xs.take (i0 + 1)).filter (fun x => !pr x) = xs.take i0 := by
      rw [g0.take, List.filter_append, hft]
      simp [hpi]
    have H0 := Lib.hid (show xs.take i0 = (xs.take (i0 + 1)).filter (fun x => !pr x) from hft1.symm)
    have H1 := Lib.hid (show ((xs.take (i0 + 1)).filter (fun x => !pr x)).length = i0 by rw [hft1, List.length_take]; omega)
    have Hi0 := Lib.hid hi0
    have hib : i0 ≤ 16777216 := by omega
    clear hZ hf hp hpi hpj hft hft1 g0 hi0
    go_enter Tryz.func46, Tryz.ntmps46
    go_wp2_with (first | (go_at_call 59; refine ((hix _ hS inferInstance)).mono ?_; rintro e w' (⟨rfl, hS⟩)) | (refine wl_isld rfl ?_; ((first | refine wl_value rfl (ex_l0 hS rfl rfl rfl CellAt.out) ?_ | refine wl_value rfl (ex_lf hS rfl rfl rfl CellAt.out) ?_ | refine wl_value rfl (ex_l1 hS rfl rfl rfl CellAt.out) ?_ | refine wl_value rfl (ex_ldC hS rfl rfl CellAt.out) ?_ | refine wl_value rfl (ex_l0 hS rfl rfl rfl rfl) ?_ | refine wl_value rfl (ex_lf hS rfl rfl rfl rfl) ?_ | refine wl_value rfl (ex_l1 hS rfl rfl rfl rfl) ?_ | refine wl_value rfl (ex_ldC hS rfl rfl rfl) ?_ | refine wl_value rfl (ex_l00 hS rfl rfl CellAt.out) ?_ | refine wl_value rfl (ex_l00 hS rfl rfl rfl) ?_ | refine wl_value rfl (ex_l0f hS rfl rfl CellAt.out) ?_ | refine wl_value rfl (ex_l0f hS rfl rfl rfl) ?_ | refine wl_value rfl (ex_lr hS rfl rfl rfl rfl) ?_ | refine wl_value rfl (ex_lr0 hS rfl rfl rfl) ?_ | refine wl_value rfl (ex_lrz hS rfl rfl rfl) ?_ | refine wl_value rfl (ex_lrf hS rfl rfl rfl) ?_ | refine wl_value rfl (ex_ldrC hS rfl rfl) ?_ | refine wl_value rfl (ex_ldr0 hS rfl rfl rfl) ?_); (try simp only [Act.put, List.setIfInBounds_toArray, List.set_cons_zero, List.set_cons_succ]))) | ((first | refine wl_value rfl (ex_ix hS rfl rfl rfl ?_) ?_); (focus (first | rfl | omega | (simp; done))); (try simp only [Act.put, List.setIfInBounds_toArray, List.set_cons_zero, List.set_cons_succ])) | ((first | refine wl_value rfl (ex_eqA rfl rfl rfl) ?_ | refine wl_value rfl (ex_neA rfl rfl rfl) ?_); (try simp only [Act.put, List.setIfInBounds_toArray, List.set_cons_zero, List.set_cons_succ])) | (refine wl_alloc rfl rfl hS ?_; intro _ _ hS; (try simp only [Act.put, List.setIfInBounds_toArray, List.set_cons_zero, List.set_cons_succ])) | (refine wl_box rfl rfl rfl rfl hS ?_; intro _ _ hS; (try simp only [Act.put, List.setIfInBounds_toArray, List.set_cons_zero, List.set_cons_succ])) | (refine wl_st rfl rfl rfl rfl rfl hS (of_decide_eq_true rfl) ?_; intro _ hS; (try simp only [evT, evC, List.getD_cons_succ, List.getD_cons_zero, List.set_cons_zero, List.set_cons_succ] at hS); (try simp only [List.set_cons_zero, List.set_cons_succ] at hS); (try simp only [Act.put, List.setIfInBounds_toArray, List.set_cons_zero, List.set_cons_succ])) | (refine wl_strC rfl rfl rfl rfl hS rfl rfl ?_; intro _ hS; (try simp only [evT, evC, List.getD_cons_succ, List.getD_cons_zero, List.set_cons_zero, List.set_cons_succ] at hS); (try simp only [Act.put, List.setIfInBounds_toArray, List.set_cons_zero, List.set_cons_succ])))
    have h0 : DlI B R A xs sp cap (fun x => !pr x) ⟨i0, i0 + 1, xs⟩ _ := ⟨Nat.lt_succ_self _, Hi0.out, rfl, H0.out, H1.out, rfl, hO, hS⟩
    clear hS hO hix
    refine wp_loopS [5, 6] [7, 16, 17, 18, 19, 20, 21, 22, 23, 24, 25, 26, 27, 28, 29, 30, 31, 32, 33, 34, 35] (fun x : DlSt => [.int .i64 x.i, .int .i64 x.j]) (DlI B R A xs sp cap (fun x => !pr x)) (fun x => xs.length - x.j) (⟨i0, i0 + 1, xs⟩) rfl (h0) ?_
    clear h0
    rintro ⟨i, j, ys⟩ J w ⟨hij, hj, hlen, htk, hfl, hdr, hO, hS⟩
    dsimp only at hij hj hlen htk hfl hdr hO hS
    have Htk := Lib.hid htk
    have Hfl := Lib.hid hfl
    have Hdr := Lib.hid hdr
    have Hlen := Lib.hid hlen
    clear htk hfl hdr hlen
    (simp only [Frm, setsT, junkT, List.setIfInBounds_toArray, List.set_cons_zero, List.set_cons_succ])
    by_cases hlt : j < xs.length
    · obtain ⟨x, gx⟩ := Nth.of hlt
      have hin : i < xs.length := by omega
      have gy : Nth ys j x := ⟨by
        have h1 := congrArg (fun l => l[0]?) Hdr.out
        simp only [List.getElem?_drop, Nat.add_zero] at h1
        rw [h1]; exact gx.get⟩
      obtain ⟨y0, g0⟩ := Nth.of (xs := ys) (j := i) (by rw [Hlen.out]; exact hin)
      have hcx := fun (vb : Nat) (w : World) (hS : Sh B (cellB vb x.cells 24 ++ (rowA A (flat enE ys ++ sp) 24 ++ R)) w) => hc x _ w (Hokx.out x gx.mem) ⟨cellB vb x.cells 24 ++ rowA A (flat enE ys ++ sp) 24, (List.append_assoc ..).symm⟩ hS
      have hfs : (xs.take (j + 1)).filter (fun x => !pr x) = (xs.take j).filter (fun x => !pr x) ++ [x].filter (fun x => !pr x) := by rw [gx.take, List.filter_append]
      cases hx : pr x with
      | true =>
        rw [hx] at hcx
        have hfs2 : (xs.take (j + 1)).filter (fun x => !pr x) = (xs.take j).filter (fun x => !pr x) := by rw [hfs]; simp [hx]
        have H3 := Lib.hid (show ys.take i = (xs.take (j + 1)).filter (fun x => !pr x) by rw [hfs2]; exact Htk.out)
        have H4 := Lib.hid (show ((xs.take (j + 1)).filter (fun x => !pr x)).length = i by rw [hfs2]; exact Hfl.out)
        have H5 := Lib.hid (show ys.drop (j + 1) = xs.drop (j + 1) by rw [← List.drop_drop, ← List.drop_drop, Hdr.out])
        clear hx hfs hfs2 hc
        go_wp2_with (first | (refine wl_value rfl ((ex_ixN rfl rfl rfl hlt hok)) ?_; (try simp only [Act.put, List.setIfInBounds_toArray, List.set_cons_zero, List.set_cons_succ])) | (refine wl_alloc rfl rfl hS ?_; intro vb _ hS; (try simp only [Act.put, List.setIfInBounds_toArray, List.set_cons_zero, List.set_cons_succ])) | (refine wl_callV hE rfl rfl rfl rfl ?_; refine (hcx _ _ hS).mono ?_; rintro e' w' ⟨rfl, hS⟩; refine ⟨_, rfl, ?_⟩; (try simp only [Act.put, List.setIfInBounds_toArray, List.set_cons_zero, List.set_cons_succ])) | (refine wl_isld rfl ?_; ((first | refine wl_value rfl (ex_l0 hS rfl rfl rfl CellAt.out) ?_ | refine wl_value rfl (ex_lf hS rfl rfl rfl CellAt.out) ?_ | refine wl_value rfl (ex_l1 hS rfl rfl rfl CellAt.out) ?_ | refine wl_value rfl (ex_ldC hS rfl rfl CellAt.out) ?_ | refine wl_value rfl (ex_l0 hS rfl rfl rfl rfl) ?_ | refine wl_value rfl (ex_lf hS rfl rfl rfl rfl) ?_ | refine wl_value rfl (ex_l1 hS rfl rfl rfl rfl) ?_ | refine wl_value rfl (ex_ldC hS rfl rfl rfl) ?_ | refine wl_value rfl (ex_l00 hS rfl rfl CellAt.out) ?_ | refine wl_value rfl (ex_l00 hS rfl rfl rfl) ?_ | refine wl_value rfl (ex_l0f hS rfl rfl CellAt.out) ?_ | refine wl_value rfl (ex_l0f hS rfl rfl rfl) ?_ | refine wl_value rfl (ex_lr hS rfl rfl rfl rfl) ?_ | refine wl_value rfl (ex_lr0 hS rfl rfl rfl) ?_ | refine wl_value rfl (ex_lrz hS rfl rfl rfl) ?_ | refine wl_value rfl (ex_lrf hS rfl rfl rfl) ?_ | refine wl_value rfl (ex_ldrC hS rfl rfl) ?_ | refine wl_value rfl (ex_ldr0 hS rfl rfl rfl) ?_); (try simp only [Act.put, List.setIfInBounds_toArray, List.set_cons_zero, List.set_cons_succ]))) | ((first | refine wl_value rfl (ex_ix hS rfl rfl rfl ?_) ?_); (focus (first | rfl | omega | (simp; done))); (try simp only [Act.put, List.setIfInBounds_toArray, List.set_cons_zero, List.set_cons_succ])) | ((first | refine wl_value rfl (ex_eqA rfl rfl rfl) ?_ | refine wl_value rfl (ex_neA rfl rfl rfl) ?_); (try simp only [Act.put, List.setIfInBounds_toArray, List.set_cons_zero, List.set_cons_succ])) | (refine wl_alloc rfl rfl hS ?_; intro _ _ hS; (try simp only [Act.put, List.setIfInBounds_toArray, List.set_cons_zero, List.set_cons_succ])) | (refine wl_box rfl rfl rfl rfl hS ?_; intro _ _ hS; (try simp only [Act.put, List.setIfInBounds_toArray, List.set_cons_zero, List.set_cons_succ])) | (refine wl_st rfl rfl rfl rfl rfl hS (of_decide_eq_true rfl) ?_; intro _ hS; (try simp only [evT, evC, List.getD_cons_succ, List.getD_cons_zero, List.set_cons_zero, List.set_cons_succ] at hS); (try simp only [List.set_cons_zero, List.set_cons_succ] at hS); (try simp only [Act.put, List.setIfInBounds_toArray, List.set_cons_zero, List.set_cons_succ])) | (refine wl_strC rfl rfl rfl rfl hS rfl rfl ?_; intro _ hS; (try simp only [evT, evC, List.getD_cons_succ, List.getD_cons_zero, List.set_cons_zero, List.set_cons_succ] at hS); (try simp only [Act.put, List.setIfInBounds_toArray, List.set_cons_zero, List.set_cons_succ])))
        exact ⟨(⟨i, j + 1, ys⟩ : DlSt), ⟨Nat.lt_succ_of_lt hij, hlt, Hlen.out, H3.out, H4.out, H5.out, hO, hS.to⟩, (by (try dsimp only); omega), rfl, (by (simp only [blankT, junkT, List.cons_append, List.nil_append, List.setIfInBounds_toArray, List.set_cons_zero, List.set_cons_succ])), rfl⟩
      | false =>
        rw [hx] at hcx
        have hfs2 : (xs.take (j + 1)).filter (fun x => !pr x) = (xs.take j).filter (fun x => !pr x) ++ [x] := by rw [hfs]; simp [hx]
        have hty : (ys.set i x).take (i + 1) = ys.take i ++ [x] := by
          have g1 : Nth (ys.set i x) i x := ⟨by rw [List.getElem?_set_self (by rw [Hlen.out]; exact hin)]⟩
          rw [g1.take, List.take_set_of_le (Nat.le_refl _)]
        have H3 := Lib.hid (show (ys.set i x).take (i + 1) = (xs.take (j + 1)).filter (fun x => !pr x) by rw [hfs2, hty, Htk.out])
        have H4 := Lib.hid (show ((xs.take (j + 1)).filter (fun x => !pr x)).length = i + 1 by rw [hfs2, List.length_append, Hfl.out]; rfl)
        have H5 := Lib.hid (show (ys.set i x).drop (j + 1) = xs.drop (j + 1) by rw [List.drop_set_of_lt (by omega), ← List.drop_drop, ← List.drop_drop, Hdr.out])
        have H6 := Lib.hid (show (ys.set i x).length = xs.length by rw [List.length_set, Hlen.out])
        clear hx hfs hfs2 hc hty
        go_wp2_with (first | (refine wl_value rfl ((ex_ixN rfl rfl rfl hlt hok)) ?_; (try simp only [Act.put, List.setIfInBounds_toArray, List.set_cons_zero, List.set_cons_succ])) | (refine wl_value rfl ((ex_ixN rfl rfl rfl hin hok)) ?_; (try simp only [Act.put, List.setIfInBounds_toArray, List.set_cons_zero, List.set_cons_succ])) | (refine wl_alloc rfl rfl hS ?_; intro vb _ hS; (try simp only [Act.put, List.setIfInBounds_toArray, List.set_cons_zero, List.set_cons_succ])) | (refine wl_callV hE rfl rfl rfl rfl ?_; refine (hcx _ _ hS).mono ?_; rintro e' w' ⟨rfl, hS⟩; refine ⟨_, rfl, ?_⟩; (try simp only [Act.put, List.setIfInBounds_toArray, List.set_cons_zero, List.set_cons_succ])) | (refine wl_stEw rfl rfl rfl rfl hS hO rfl rfl ?_; clear hO; intro _ hS hO g3; (try simp only [evT, evC, List.getD_cons_succ, List.getD_cons_zero, List.set_cons_zero, List.set_cons_succ] at hS); (try simp only [Act.put, List.setIfInBounds_toArray, List.set_cons_zero, List.set_cons_succ])) | (refine wl_isld rfl ?_; ((first | refine wl_value rfl (ex_l0 hS rfl rfl rfl CellAt.out) ?_ | refine wl_value rfl (ex_lf hS rfl rfl rfl CellAt.out) ?_ | refine wl_value rfl (ex_l1 hS rfl rfl rfl CellAt.out) ?_ | refine wl_value rfl (ex_ldC hS rfl rfl CellAt.out) ?_ | refine wl_value rfl (ex_l0 hS rfl rfl rfl rfl) ?_ | refine wl_value rfl (ex_lf hS rfl rfl rfl rfl) ?_ | refine wl_value rfl (ex_l1 hS rfl rfl rfl rfl) ?_ | refine wl_value rfl (ex_ldC hS rfl rfl rfl) ?_ | refine wl_value rfl (ex_l00 hS rfl rfl CellAt.out) ?_ | refine wl_value rfl (ex_l00 hS rfl rfl rfl) ?_ | refine wl_value rfl (ex_l0f hS rfl rfl CellAt.out) ?_ | refine wl_value rfl (ex_l0f hS rfl rfl rfl) ?_ | refine wl_value rfl (ex_lr hS rfl rfl rfl rfl) ?_ | refine wl_value rfl (ex_lr0 hS rfl rfl rfl) ?_ | refine wl_value rfl (ex_lrz hS rfl rfl rfl) ?_ | refine wl_value rfl (ex_lrf hS rfl rfl rfl) ?_ | refine wl_value rfl (ex_ldrC hS rfl rfl) ?_ | refine wl_value rfl (ex_ldr0 hS rfl rfl rfl) ?_); (try simp only [Act.put, List.setIfInBounds_toArray, List.set_cons_zero, List.set_cons_succ]))) | ((first | refine wl_value rfl (ex_ix hS rfl rfl rfl ?_) ?_); (focus (first | rfl | omega | (simp; done))); (try simp only [Act.put, List.setIfInBounds_toArray, List.set_cons_zero, List.set_cons_succ])) | ((first | refine wl_value rfl (ex_eqA rfl rfl rfl) ?_ | refine wl_value rfl (ex_neA rfl rfl rfl) ?_); (try simp only [Act.put, List.setIfInBounds_toArray, List.set_cons_zero, List.set_cons_succ])) | (refine wl_alloc rfl rfl hS ?_; intro _ _ hS; (try simp only [Act.put, List.setIfInBounds_toArray, List.set_cons_zero, List.set_cons_succ])) | (refine wl_box rfl rfl rfl rfl hS ?_; intro _ _ hS; (try simp only [Act.put, List.setIfInBounds_toArray, List.set_cons_zero, List.set_cons_succ])) | (refine wl_st rfl rfl rfl rfl rfl hS (of_decide_eq_true rfl) ?_; intro _ hS; (try simp only [evT, evC, List.getD_cons_succ, List.getD_cons_zero, List.set_cons_zero, List.set_cons_succ] at hS); (try simp only [List.set_cons_zero, List.set_cons_succ] at hS); (try simp only [Act.put, List.setIfInBounds_toArray, List.set_cons_zero, List.set_cons_succ])) | (refine wl_strC rfl rfl rfl rfl hS rfl rfl ?_; intro _ hS; (try simp only [evT, evC, List.getD_cons_succ, List.getD_cons_zero, List.set_cons_zero, List.set_cons_succ] at hS); (try simp only [Act.put, List.setIfInBounds_toArray, List.set_cons_zero, List.set_cons_succ])))
        exact ⟨(⟨i + 1, j + 1, ys.set i x⟩ : DlSt), ⟨Nat.succ_lt_succ hij, hlt, H6.out, H3.out, H4.out, H5.out, hO, hS.to⟩, (by (try dsimp only); omega), rfl, (by (simp only [blankT, junkT, List.cons_append, List.nil_append, List.setIfInBounds_toArray, List.set_cons_zero, List.set_cons_succ])), rfl⟩
    · have hjx : j = xs.length := by omega
      have hile : i ≤ ys.length := by rw [Hlen.out]; omega
      have hic : i ≤ cap := by have := hO.len_le; omega
      have Hz := Lib.hid (show Z = ys.take i by
        rw [← HZ.out, Htk.out, hjx, List.take_length])
      have hix2 : i ≤ xs.length := by omega
      have hn1 : xs.length - i = ys.length - i := by rw [Hlen.out]
      have Hil := Lib.hid (show (ys.take i).length = i by rw [List.length_take]; omega)
      go_wp2_with (first | (refine wl_value rfl ((ex_cutI (l := i) rfl rfl rfl hix2)) ?_; (try simp only [Act.put, List.setIfInBounds_toArray, List.set_cons_zero, List.set_cons_succ])) | (refine wl_value rfl ((ex_cutH (h := i) rfl rfl rfl hic)) ?_; (try simp only [Act.put, List.setIfInBounds_toArray, List.set_cons_zero, List.set_cons_succ])) | (refine wl_clearL (i := i) zE rfl rfl rfl rfl rfl hS hO hn1 hile ?_; intro _ hS hO2; (try simp only [Act.put, List.setIfInBounds_toArray, List.set_cons_zero, List.set_cons_succ])) | (refine wl_isld rfl ?_; ((first | refine wl_value rfl (ex_l0 hS rfl rfl rfl CellAt.out) ?_ | refine wl_value rfl (ex_lf hS rfl rfl rfl CellAt.out) ?_ | refine wl_value rfl (ex_l1 hS rfl rfl rfl CellAt.out) ?_ | refine wl_value rfl (ex_ldC hS rfl rfl CellAt.out) ?_ | refine wl_value rfl (ex_l0 hS rfl rfl rfl rfl) ?_ | refine wl_value rfl (ex_lf hS rfl rfl rfl rfl) ?_ | refine wl_value rfl (ex_l1 hS rfl rfl rfl rfl) ?_ | refine wl_value rfl (ex_ldC hS rfl rfl rfl) ?_ | refine wl_value rfl (ex_l00 hS rfl rfl CellAt.out) ?_ | refine wl_value rfl (ex_l00 hS rfl rfl rfl) ?_ | refine wl_value rfl (ex_l0f hS rfl rfl CellAt.out) ?_ | refine wl_value rfl (ex_l0f hS rfl rfl rfl) ?_ | refine wl_value rfl (ex_lr hS rfl rfl rfl rfl) ?_ | refine wl_value rfl (ex_lr0 hS rfl rfl rfl) ?_ | refine wl_value rfl (ex_lrz hS rfl rfl rfl) ?_ | refine wl_value rfl (ex_lrf hS rfl rfl rfl) ?_ | refine wl_value rfl (ex_ldrC hS rfl rfl) ?_ | refine wl_value rfl (ex_ldr0 hS rfl rfl rfl) ?_); (try simp only [Act.put, List.setIfInBounds_toArray, List.set_cons_zero, List.set_cons_succ]))) | ((first | refine wl_value rfl (ex_ix hS rfl rfl rfl ?_) ?_); (focus (first | rfl | omega | (simp; done))); (try simp only [Act.put, List.setIfInBounds_toArray, List.set_cons_zero, List.set_cons_succ])) | ((first | refine wl_value rfl (ex_eqA rfl rfl rfl) ?_ | refine wl_value rfl (ex_neA rfl rfl rfl) ?_); (try simp only [Act.put, List.setIfInBounds_toArray, List.set_cons_zero, List.set_cons_succ])) | (refine wl_alloc rfl rfl hS ?_; intro _ _ hS; (try simp only [Act.put, List.setIfInBounds_toArray, List.set_cons_zero, List.set_cons_succ])) | (refine wl_box rfl rfl rfl rfl hS ?_; intro _ _ hS; (try simp only [Act.put, List.setIfInBounds_toArray, List.set_cons_zero, List.set_cons_succ])) | (refine wl_st rfl rfl rfl rfl rfl hS (of_decide_eq_true rfl) ?_; intro _ hS; (try simp only [evT, evC, List.getD_cons_succ, List.getD_cons_zero, List.set_cons_zero, List.set_cons_succ] at hS); (try simp only [List.set_cons_zero, List.set_cons_succ] at hS); (try simp only [Act.put, List.setIfInBounds_toArray, List.set_cons_zero, List.set_cons_succ])) | (refine wl_strC rfl rfl rfl rfl hS rfl rfl ?_; intro _ hS; (try simp only [evT, evC, List.getD_cons_succ, List.getD_cons_zero, List.set_cons_zero, List.set_cons_succ] at hS); (try simp only [Act.put, List.setIfInBounds_toArray, List.set_cons_zero, List.set_cons_succ])))
      go_ret
      obtain ⟨h1, h2⟩ := hO2.front
      rw [h2] at hS
      rw [Hz.out]
      exact ⟨_, by rw [Hil.out]; rfl, h1, hS.to⟩
end
end Go.Tk

set_option linter.unusedSectionVars false
set_option linter.unusedSimpArgs false
set_option linter.unusedVariables false
namespace Go.Tk
open Go.RowKit Go.Proofs
theorem standE_cons (a : En) (r : List En) (p : ByteArray) : standE (a :: r) p = if a.path = p then a else standE r p := by
  unfold standE
  rw [List.find?_cons]
  by_cases h : a.path = p <;> simp [h]
theorem standE_none {t : List En} {p : ByteArray} (h : ∀ e ∈ t, ¬ e.path = p) : standE t p = zE := by
  unfold standE
  rw [List.find?_eq_none.2 (fun e he => by simpa using h e he)]
theorem standE_get {t : List En} {p : ByteArray} (h : ¬ standE t p = zE) : standE t p ∈ t ∧ (standE t p).path = p := by
  unfold standE at *
  cases hf : t.find? (fun e => decide (e.path = p)) with
  | none => rw [hf] at h; exact absurd rfl h
  | some e =>
    have := List.find?_some hf
    exact ⟨List.mem_of_find?_eq_some hf, by simpa using this⟩
theorem standE_mem {t : List En} (hd : Dist t) {e : En} (he : e ∈ t) : standE t e.path = e := by
  unfold standE
  cases hf : t.find? (fun x => decide (x.path = e.path)) with
  | none => exact absurd (by simp) (List.find?_eq_none.1 hf e he)
  | some x =>
    have := List.find?_some hf
    exact hd.inj (List.mem_of_find?_eq_some hf) he (by simpa using this)
structure DiffOk (a b : List En) (D : List Ch) : Prop where
  at_ : ∀ c ∈ D, c.old = standE a c.path ∧ c.new = standE b c.path ∧ ¬ c.old = c.new
  all : ∀ p, ¬ standE a p = standE b p → inL D p = true
  ord : D.Pairwise fun x y => lessI x.path y.path < 0
def AboveP (p : ByteArray) (t : List En) : Prop := ∀ e ∈ t, lessI p e.path < 0
theorem AboveP.none {p : ByteArray} {t : List En} (h : AboveP p t) : standE t p = zE := standE_none fun e he hp => by have := h e he; rw [hp, lessI_self] at this; omega
theorem DiffOk.above {a b : List En} {D : List Ch} (h : DiffOk a b D) {p : ByteArray} (ha : AboveP p a) (hb : AboveP p b) : ∀ c ∈ D, lessI p c.path < 0 := by
  intro c hc
  obtain ⟨h1, h2, h3⟩ := h.at_ c hc
  by_cases ho : standE a c.path = zE
  · by_cases hn : standE b c.path = zE
    · exact absurd (by rw [h1, h2, ho, hn]) h3
    · obtain ⟨h4, h5⟩ := standE_get hn
      rw [← h5]; exact hb _ h4
  · obtain ⟨h4, h5⟩ := standE_get ho
    rw [← h5]; exact ha _ h4
theorem DiffOk.cons {a b a' b' : List En} {D : List Ch} {p : ByteArray} {o n : En} (h : DiffOk a' b' D) (ha : AboveP p a') (hb : AboveP p b') (hne : ¬ o = n)
    (sa : ∀ q, standE a q = if p = q then o else standE a' q) (sb : ∀ q, standE b q = if p = q then n else standE b' q) : DiffOk a b (⟨p, o, n⟩ :: D) := by
  have hab := h.above ha hb
  refine ⟨fun c hc => ?_, fun q hq => ?_, List.pairwise_cons.2 ⟨fun c hc => hab c hc, h.ord⟩⟩
  · rcases List.mem_cons.1 hc with rfl | hc
    · rw [sa, sb, if_pos rfl, if_pos rfl]
      exact ⟨rfl, rfl, hne⟩
    · have : ¬ p = c.path := fun e => by have := hab c hc; rw [← e, lessI_self] at this; omega
      rw [sa, sb, if_neg this, if_neg this]
      exact h.at_ c hc
  · rw [inL_iff]
    by_cases hp : p = q
    · exact ⟨_, List.mem_cons_self .., hp⟩
    · rw [sa, sb, if_neg hp, if_neg hp] at hq
      obtain ⟨c, hc, h1⟩ := inL_iff.1 (h.all q hq)
      exact ⟨c, List.mem_cons_of_mem _ hc, h1⟩
theorem DiffOk.skip {a b a' b' : List En} {D : List Ch} {p : ByteArray} {o : En} (h : DiffOk a' b' D) (ha : AboveP p a') (hb : AboveP p b')
    (sa : ∀ q, standE a q = if p = q then o else standE a' q) (sb : ∀ q, standE b q = if p = q then o else standE b' q) : DiffOk a b D := by
  have hab := h.above ha hb
  refine ⟨fun c hc => ?_, fun q hq => ?_, h.ord⟩
  · have : ¬ p = c.path := fun e => by have := hab c hc; rw [← e, lessI_self] at this; omega
    rw [sa, sb, if_neg this, if_neg this]
    exact h.at_ c hc
  · by_cases hp : p = q
    · rw [sa, sb, if_pos hp, if_pos hp] at hq; exact absurd rfl hq
    · rw [sa, sb, if_neg hp, if_neg hp] at hq
      exact h.all q hq
theorem SortedE.above {e : En} {r : List En} (h : SortedE (e :: r)) : AboveP e.path r := fun x hx => (List.pairwise_cons.1 h).1 x hx
theorem SortedE.tail {e : En} {r : List En} (h : SortedE (e :: r)) : SortedE r := (List.pairwise_cons.1 h).2
theorem stand_skip {p : ByteArray} {t : List En} (h : AboveP p t) (q : ByteArray) : standE t q = if p = q then zE else standE t q := by
  by_cases hq : p = q
  · subst hq; rw [if_pos rfl, h.none]
  · rw [if_neg hq]
theorem diffL_ok (a b : List En) (ha : ∀ e ∈ a, mayB e = true) (hb : ∀ e ∈ b, mayB e = true) (sa : SortedE a) (sb : SortedE b) : DiffOk a b (diffL a b) := by
  induction a, b using diffL.induct with
  | case1 => rw [diffL_nil]; exact ⟨(fun _ h => nomatch h), (fun p h => absurd rfl h), .nil⟩
  | case2 a r ih =>
    rw [diffL_l]
    exact (ih (fun e he => ha e (List.mem_cons_of_mem _ he)) hb sa.tail sb).cons sa.above (fun _ h => nomatch h) (mayB_zE (ha a (by simp))) (standE_cons a r) (fun q => by by_cases h : a.path = q <;> simp [h, standE])
  | case3 b s ih =>
    rw [diffL_r]
    exact (ih ha (fun e he => hb e (List.mem_cons_of_mem _ he)) sa sb.tail).cons (fun _ h => nomatch h) sb.above (fun h => mayB_zE (hb b (by simp)) h.symm) (fun q => by by_cases h : b.path = q <;> simp [h, standE]) (standE_cons b s)
  | case4 a r b s h ih =>
    rw [diffL_c, if_pos h]
    have hab : AboveP a.path (b :: s) := fun x hx => by
      rcases List.mem_cons.1 hx with rfl | hx
      · exact h
      · exact lessI_trans (mayB_ok (ha a (by simp))).1 (mayB_ok (hb b (by simp))).1 (mayB_ok (hb x (List.mem_cons_of_mem _ hx))).1 h (sb.above x hx)
    exact (ih (fun e he => ha e (List.mem_cons_of_mem _ he)) hb sa.tail sb).cons sa.above hab (mayB_zE (ha a (by simp))) (standE_cons a r) (stand_skip hab)
  | case5 a r b s h1 h2 ih =>
    rw [diffL_c, if_neg h1, if_pos h2]
    have oa := (mayB_ok (ha a (by simp))).1
    have ob := (mayB_ok (hb b (by simp))).1
    have hlt : lessI b.path a.path < 0 := by have := lessI_swap oa ob; omega
    have hba : AboveP b.path (a :: r) := fun x hx => by
      rcases List.mem_cons.1 hx with rfl | hx
      · exact hlt
      · exact lessI_trans ob oa (mayB_ok (ha x (List.mem_cons_of_mem _ hx))).1 hlt (sa.above x hx)
    exact (ih ha (fun e he => hb e (List.mem_cons_of_mem _ he)) sa sb.tail).cons hba sb.above (fun h => mayB_zE (hb b (by simp)) h.symm) (stand_skip hba) (standE_cons b s)
  | case6 r b s h1 h2 ih =>
    rw [diffL_c, if_neg h1, if_neg h2, if_pos rfl]
    exact (ih (fun e he => ha e (List.mem_cons_of_mem _ he)) (fun e he => hb e (List.mem_cons_of_mem _ he)) sa.tail sb.tail).skip sa.above sb.above (standE_cons b r) (standE_cons b s)
  | case7 a r b s h1 h2 h3 ih =>
    rw [diffL_c, if_neg h1, if_neg h2, if_neg h3]
    have oa := (mayB_ok (ha a (by simp))).1
    have ob := (mayB_ok (hb b (by simp))).1
    have hp : a.path = b.path := lessI_eq oa ob (by omega)
    have hsa := sa.above
    rw [hp] at hsa
    exact (ih (fun e he => ha e (List.mem_cons_of_mem _ he)) (fun e he => hb e (List.mem_cons_of_mem _ he)) sa.tail sb.tail).cons hsa sb.above h3 (fun q => by rw [← hp]; exact standE_cons a r q) (standE_cons b s)
theorem chsG_of : ∀ (l : List Ch) (p : Option ByteArray), (∀ c ∈ l, chOk c = true) → l.Pairwise (fun x y => lessI x.path y.path < 0) → (∀ q, p = some q → ∀ c ∈ l, lessI q c.path < 0) → chsG p l = true
  | [], p, _, _, _ => by cases p <;> rfl
  | c :: r, p, h1, h2, h3 => by
    rw [List.pairwise_cons] at h2
    rw [chsG_cons, h1 c (by simp), chsG_of r (some c.path) (fun x hx => h1 x (List.mem_cons_of_mem _ hx)) h2.2 (fun q hq x hx => by cases hq; exact h2.1 x hx)]
    cases p with
    | none => rfl
    | some q => unfold befE; simp [h3 q rfl c (by simp)]
theorem Dist.nodup {t : List En} (h : Dist t) : t.Nodup := h.imp fun {x y} h e => h (by rw [e])
theorem side_stand {t : List En} (ht : ∀ e ∈ t, mayB e = true) (p : ByteArray) : sideI (standE t p) p = true := by
  unfold sideI
  by_cases h : standE t p = zE
  · simp [h]
  · obtain ⟨h1, h2⟩ := standE_get h
    simp [h2, ht _ h1]
theorem diff_leads {a b : List En} (hA : RightT a) (hB : RightT b) (ha : (checkA a).2 = 0) (hb : (checkA b).2 = 0) : applyR a (diffL a b) = (b, 0) := by
  have hd := diffL_ok a b hA.may hB.may hA.sorted hB.sorted
  have hch : chsG none (diffL a b) = true := chsG_of _ _ (fun c hc => by
    obtain ⟨h1, h2, h3⟩ := hd.at_ c hc
    unfold chOk
    have h4 : (decide (c.old = zE) && decide (c.new = zE)) = false := by
      rw [Bool.and_eq_false_iff, decide_eq_false_iff_not, decide_eq_false_iff_not]
      by_cases ho : c.old = zE
      · exact .inr fun hn => h3 (by rw [ho, hn])
      · exact .inl ho
    rw [h4, h1, h2, side_stand hA.may, side_stand hB.may]
    rfl) hd.ord (fun _ h => nomatch h)
  have hst : standsB a (diffL a b) = true := by
    unfold standsB
    rw [List.all_eq_true]
    intro c hc
    rw [decide_eq_true_eq]
    exact (hd.at_ c hc).1.symm
  have da := hA.sorted.dist
  have db := hB.sorted.dist
  obtain ⟨hap, hdp⟩ := applied_ok hA.may da hch
  have hp : (applied a (diffL a b)).Perm b := by
    refine perm_of_nodup hdp.nodup db.nodup fun e => ?_
    unfold applied newsL
    rw [List.mem_append, List.mem_filter, List.mem_filter, List.mem_map]
    constructor
    · rintro (⟨h1, h2⟩ | ⟨⟨c, hc, rfl⟩, h2⟩)
      · have h3 : standE a e.path = standE b e.path := Classical.byContradiction fun h => by
          rw [hd.all _ h] at h2; cases h2
        rw [standE_mem da h1] at h3
        have : ¬ standE b e.path = zE := fun h => mayB_zE (hA.may e h1) (h3.trans h)
        rw [h3]; exact (standE_get this).1
      · rw [(hd.at_ c hc).2.1] at h2 ⊢
        exact (standE_get (by simpa using h2)).1
    · intro he
      have hz := mayB_zE (hB.may e he)
      have hse := standE_mem db he
      by_cases hi : inL (diffL a b) e.path = true
      · right
        obtain ⟨c, hc, h1⟩ := inL_iff.1 hi
        refine ⟨⟨c, hc, ?_⟩, by simpa using hz⟩
        rw [(hd.at_ c hc).2.1, h1, hse]
      · left
        have h3 : standE a e.path = standE b e.path := Classical.byContradiction fun h => hi (hd.all _ h)
        have : ¬ standE a e.path = zE := by rw [h3, hse]; exact hz
        have h4 := standE_get this
        rw [h3, hse] at h4
        exact ⟨h4.1, by simpa using hi⟩
  have hs : srt (applied a (diffL a b)) = b := right_sorted hB ((srt_perm _).trans hp) (srt_sorted _ fun e he => (mayB_ok (hap e he)).1)
  unfold applyR
  rw [if_pos ha, if_pos hch, if_pos hst, hs, if_pos hb]
theorem diff_same {a b : List En} (hA : RightT a) (hB : RightT b) : diffL a b = [] ↔ a = b := by
  have hd := diffL_ok a b hA.may hB.may hA.sorted hB.sorted
  have da := hA.sorted.dist
  have db := hB.sorted.dist
  constructor
  · intro h
    rw [h] at hd
    have hs : ∀ p, standE a p = standE b p := fun p => Classical.byContradiction fun h => by have := hd.all p h; cases this
    refine right_sorted hB (perm_of_nodup da.nodup db.nodup fun e => ⟨fun he => ?_, fun he => ?_⟩) (hA.sorted.le fun e he => (mayB_ok (hA.may e he)).1)
    · have h1 := standE_mem da he
      have : ¬ standE b e.path = zE := by rw [← hs, h1]; exact mayB_zE (hA.may e he)
      have h2 := (standE_get this).1
      rwa [← hs, h1] at h2
    · have h1 := standE_mem db he
      have : ¬ standE a e.path = zE := by rw [hs, h1]; exact mayB_zE (hB.may e he)
      have h2 := (standE_get this).1
      rwa [hs, h1] at h2
  · rintro rfl
    cases hD : diffL a a with
    | nil => rfl
    | cons c D =>
      obtain ⟨h1, h2, h3⟩ := hd.at_ c (by rw [hD]; simp)
      exact absurd (h1.trans h2.symm) h3
end Go.Tk

set_option linter.unusedSectionVars false
set_option linter.unusedSimpArgs false
set_option linter.unusedVariables false
namespace Go.Tk
open Go.RowKit Go.Proofs
section
variable {B : Base} {R H H1 : HL} {w w' : World}
def ApplyP (B : Base) (R : HL) (x : List En × Int) (e : Ending) (w' : World) : Prop :=
  ∃ A sp cap, e = .returned (.tuple #[.slice A x.1.length cap, .int .i64 x.2]) ∧ OwnSl enE A x.1 sp cap ∧ Sh B (rowA A (flat enE x.1 ++ sp) 24 ++ R) w'
theorem ApplyP.bad {n : Int} {w : World} (h : Sh B R w) : ApplyP B R ([], n) (.returned (.tuple #[.slice none 0 0, .int .i64 n])) w := ⟨none, [], 0, rfl, OwnSl.nothing, h⟩
end
end Go.Tk

set_option linter.unusedSectionVars false
set_option linter.unusedSimpArgs false
set_option linter.unusedVariables false
namespace Go.Tk
open Go.RowKit Go.Proofs
def whereI (t : List En) (dir : ByteArray) : Int := if okP dir = false then 45 else if dir.size = 0 then 0 else if findI t dir = -1 then 8 else if kindI t dir = 2 then 0 else 102
def findE (t : List En) (p : ByteArray) : En × Bool := if (checkA t).2 = 0 then (standE t p, !decide (findI t p = -1)) else (zE, false)
def putO (t : List En) (e : En) : Option (List En) :=
  match t.findIdx? (fun x => decide (x.path = e.path)) with
  | none => some (t ++ [e])
  | some i => if decide (kindI t e.path = 2) = decide (e.kind = 2) then some (t.set i e) else none
def putR (t : List En) (e : En) : List En × Int :=
  if (checkA t).2 = 0 then (if mayB e = true then (if whereI t (upP e.path) = 0 then (match putO t e with | none => ([], 9) | some out => if fitsI out = 0 then (srt out, 0) else ([], fitsI out)) else ([], 52)) else ([], 50)) else ([], (checkA t).2)
def goneB (p : ByteArray) (x : En) : Bool := decide (x.path = p) || aboveB p x.path
def removeR (t : List En) (p : ByteArray) : List En × Int :=
  if (checkA t).2 = 0 then (if okP p = true then (if findI t p = -1 then ([], 8) else (t.filter fun x => !goneB p x, 0)) else ([], 45)) else ([], (checkA t).2)
theorem find_idx {t : List En} {p : ByteArray} : (findI t p = -1 ∧ t.findIdx? (fun x => decide (x.path = p)) = none ∧ kindI t p = 0 ∧ standE t p = zE ∧ ∀ e ∈ t, ¬ e.path = p) ∨
    ∃ (i : Nat) (e : En), findI t p = i ∧ t.findIdx? (fun x => decide (x.path = p)) = some i ∧ Nth t i e ∧ e.path = p ∧ kindI t p = e.kind ∧ standE t p = e := by
  cases hf : t.findIdx? (fun x => decide (x.path = p)) with
  | none =>
    left
    have h2 := List.findIdx?_eq_none_iff.1 hf
    have h3 : t.find? (fun e => decide (e.path = p)) = none := List.find?_eq_none.2 fun e he => by simpa using h2 e he
    exact ⟨by unfold findI; rw [hf], rfl, by unfold kindI; rw [h3], by unfold standE; rw [h3], fun e he => by simpa using h2 e he⟩
  | some i =>
    right
    rcases findI_cases t p with ⟨h1, _⟩ | ⟨j, e, h1, h2, h3, h4⟩
    · unfold findI at h1; rw [hf] at h1; dsimp only at h1; omega
    · have hij : j = i := by unfold findI at h1; rw [hf] at h1; dsimp only at h1; omega
      subst hij
      exact ⟨j, e, h1, rfl, ⟨h2⟩, h3, by unfold kindI; rw [h4], by unfold standE; rw [h4]⟩
theorem putO_ok {t out : List En} {e : En} (ht : ∀ x ∈ t, mayB x = true) (hd : Dist t) (he : mayB e = true) (h : putO t e = some out) : (∀ x ∈ out, mayB x = true) ∧ Dist out := by
  unfold putO at h
  rcases find_idx (t := t) (p := e.path) with ⟨_, h1, _, _, h2⟩ | ⟨i, x, _, h1, hx, h3, _, _⟩
  · rw [h1] at h
    cases h
    refine ⟨fun x hx => ?_, ?_⟩
    · rcases List.mem_append.1 hx with h4 | h4
      · exact ht x h4
      · rw [List.mem_singleton.1 h4]; exact he
    · unfold Dist
      rw [List.pairwise_append]
      refine ⟨hd, List.pairwise_singleton .., fun x hx y hy => ?_⟩
      rw [List.mem_singleton.1 hy]
      exact h2 x hx
  · rw [h1] at h
    dsimp only at h
    split at h
    · cases h
      refine ⟨fun y hy => ?_, ?_⟩
      · rcases List.mem_or_eq_of_mem_set hy with h4 | h4
        · exact ht y h4
        · rw [h4]; exact he
      · have hm : (t.set i e).map En.path = t.map En.path := by
          apply List.ext_getElem (by simp)
          intro j h5 h6
          rw [List.getElem_map, List.getElem_map, List.getElem_set]
          by_cases hij : i = j
          · subst hij
            obtain ⟨h7, h8⟩ := List.getElem?_eq_some_iff.1 hx.get
            rw [if_pos rfl, h8, h3]
          · rw [if_neg hij]
        have h5 : (t.map En.path).Pairwise fun a b => ¬ a = b := List.pairwise_map.2 hd
        rw [← hm] at h5
        exact List.pairwise_map.1 h5
    · cases h
section
variable {B : Base} {R H H1 : HL} {w w' : World}
set_option maxRecDepth 100000 in
theorem Below_any [HasML B] (hS : Sh B R w) (a b : ByteArray) (ha : a.size ≤ 16777216) (hb : b.size ≤ 16777216) : Calls Tryz.prog 48 #[.string a, .string b] w fun e w' => e = .returned (.bool (aboveB a b)) ∧ Sh B R w' := by
  have h1 := fun (w : World) (R : HL) (hS : Sh B R w) => Above_any hS a b ha hb
  go_enter Tryz.func48, Tryz.ntmps48
  go_wp2_with (first | (go_at_call 64; refine ((h1 _ _ hS)).mono ?_; rintro e w' (⟨rfl, hS⟩)) | (refine wl_isld rfl ?_; ((first | refine wl_value rfl (ex_l0 hS rfl rfl rfl CellAt.out) ?_ | refine wl_value rfl (ex_lf hS rfl rfl rfl CellAt.out) ?_ | refine wl_value rfl (ex_l1 hS rfl rfl rfl CellAt.out) ?_ | refine wl_value rfl (ex_ldC hS rfl rfl CellAt.out) ?_ | refine wl_value rfl (ex_l0 hS rfl rfl rfl rfl) ?_ | refine wl_value rfl (ex_lf hS rfl rfl rfl rfl) ?_ | refine wl_value rfl (ex_l1 hS rfl rfl rfl rfl) ?_ | refine wl_value rfl (ex_ldC hS rfl rfl rfl) ?_ | refine wl_value rfl (ex_l00 hS rfl rfl CellAt.out) ?_ | refine wl_value rfl (ex_l00 hS rfl rfl rfl) ?_ | refine wl_value rfl (ex_l0f hS rfl rfl CellAt.out) ?_ | refine wl_value rfl (ex_l0f hS rfl rfl rfl) ?_ | refine wl_value rfl (ex_lr hS rfl rfl rfl rfl) ?_ | refine wl_value rfl (ex_lr0 hS rfl rfl rfl) ?_ | refine wl_value rfl (ex_lrz hS rfl rfl rfl) ?_ | refine wl_value rfl (ex_lrf hS rfl rfl rfl) ?_ | refine wl_value rfl (ex_ldrC hS rfl rfl) ?_ | refine wl_value rfl (ex_ldr0 hS rfl rfl rfl) ?_); (try simp only [Act.put, List.setIfInBounds_toArray, List.set_cons_zero, List.set_cons_succ]))) | ((first | refine wl_value rfl (ex_ix hS rfl rfl rfl ?_) ?_); (focus (first | rfl | omega | (simp; done))); (try simp only [Act.put, List.setIfInBounds_toArray, List.set_cons_zero, List.set_cons_succ])) | ((first | refine wl_value rfl (ex_eqA rfl rfl rfl) ?_ | refine wl_value rfl (ex_neA rfl rfl rfl) ?_); (try simp only [Act.put, List.setIfInBounds_toArray, List.set_cons_zero, List.set_cons_succ])) | (refine wl_alloc rfl rfl hS ?_; intro _ _ hS; (try simp only [Act.put, List.setIfInBounds_toArray, List.set_cons_zero, List.set_cons_succ])) | (refine wl_box rfl rfl rfl rfl hS ?_; intro _ _ hS; (try simp only [Act.put, List.setIfInBounds_toArray, List.set_cons_zero, List.set_cons_succ])) | (refine wl_st rfl rfl rfl rfl rfl hS (of_decide_eq_true rfl) ?_; intro _ hS; (try simp only [evT, evC, List.getD_cons_succ, List.getD_cons_zero, List.set_cons_zero, List.set_cons_succ] at hS); (try simp only [List.set_cons_zero, List.set_cons_succ] at hS); (try simp only [Act.put, List.setIfInBounds_toArray, List.set_cons_zero, List.set_cons_succ])) | (refine wl_strC rfl rfl rfl rfl hS rfl rfl ?_; intro _ hS; (try simp only [evT, evC, List.getD_cons_succ, List.getD_cons_zero, List.set_cons_zero, List.set_cons_succ] at hS); (try simp only [Act.put, List.setIfInBounds_toArray, List.set_cons_zero, List.set_cons_succ])))
  go_ret
  exact ⟨rfl, hS⟩
set_option maxRecDepth 100000 in
theorem rm1_any [HasML B] {pb : Nat} {p : ByteArray} (hp : p.size ≤ 16777216) : PredC B (cellB pb [.string p] 9 ++ R) 47 #[.pointer (some ⟨pb, 0, none⟩)] (goneB p) (fun e => e.path.size ≤ 16777216) := by
  refine ⟨EntersC.out (P := Tryz.prog) (f := 47), ?_⟩
  rintro x H w hx ⟨d, rfl⟩ hS
  show Calls Tryz.prog 47 #[.agg x.cells.toArray, .pointer (some ⟨pb, 0, none⟩)] w _
  have hb := fun (w : World) (R : HL) (hS : Sh B R w) => Below_any hS p x.path hp hx
  by_cases hq : x.path = p
  · have d1 : (x.path.toList == p.toList) = true := by rw [strEq]; simp [hq]
    have Hx := Lib.hid (show goneB p x = true by unfold goneB; simp [hq])
    clear hq
    go_enter Tryz.func47, Tryz.ntmps47
    go_upto_region 1 with (first | (refine wl_box rfl rfl rfl rfl hS ?_; intro xb _ hS; (try simp only [Act.put, List.setIfInBounds_toArray, List.set_cons_zero, List.set_cons_succ])) | (refine wl_isld rfl ?_; ((first | refine wl_value rfl (ex_l0 hS rfl rfl rfl CellAt.out) ?_ | refine wl_value rfl (ex_lf hS rfl rfl rfl CellAt.out) ?_ | refine wl_value rfl (ex_l1 hS rfl rfl rfl CellAt.out) ?_ | refine wl_value rfl (ex_ldC hS rfl rfl CellAt.out) ?_ | refine wl_value rfl (ex_l0 hS rfl rfl rfl rfl) ?_ | refine wl_value rfl (ex_lf hS rfl rfl rfl rfl) ?_ | refine wl_value rfl (ex_l1 hS rfl rfl rfl rfl) ?_ | refine wl_value rfl (ex_ldC hS rfl rfl rfl) ?_ | refine wl_value rfl (ex_l00 hS rfl rfl CellAt.out) ?_ | refine wl_value rfl (ex_l00 hS rfl rfl rfl) ?_ | refine wl_value rfl (ex_l0f hS rfl rfl CellAt.out) ?_ | refine wl_value rfl (ex_l0f hS rfl rfl rfl) ?_ | refine wl_value rfl (ex_lr hS rfl rfl rfl rfl) ?_ | refine wl_value rfl (ex_lr0 hS rfl rfl rfl) ?_ | refine wl_value rfl (ex_lrz hS rfl rfl rfl) ?_ | refine wl_value rfl (ex_lrf hS rfl rfl rfl) ?_ | refine wl_value rfl (ex_ldrC hS rfl rfl) ?_ | refine wl_value rfl (ex_ldr0 hS rfl rfl rfl) ?_); (try simp only [Act.put, List.setIfInBounds_toArray, List.set_cons_zero, List.set_cons_succ]))) | ((first | refine wl_value rfl (ex_ix hS rfl rfl rfl ?_) ?_); (focus (first | rfl | omega | (simp; done))); (try simp only [Act.put, List.setIfInBounds_toArray, List.set_cons_zero, List.set_cons_succ])) | ((first | refine wl_value rfl (ex_eqA rfl rfl rfl) ?_ | refine wl_value rfl (ex_neA rfl rfl rfl) ?_); (try simp only [Act.put, List.setIfInBounds_toArray, List.set_cons_zero, List.set_cons_succ])) | (refine wl_alloc rfl rfl hS ?_; intro _ _ hS; (try simp only [Act.put, List.setIfInBounds_toArray, List.set_cons_zero, List.set_cons_succ])) | (refine wl_box rfl rfl rfl rfl hS ?_; intro _ _ hS; (try simp only [Act.put, List.setIfInBounds_toArray, List.set_cons_zero, List.set_cons_succ])) | (refine wl_st rfl rfl rfl rfl rfl hS (of_decide_eq_true rfl) ?_; intro _ hS; (try simp only [evT, evC, List.getD_cons_succ, List.getD_cons_zero, List.set_cons_zero, List.set_cons_succ] at hS); (try simp only [List.set_cons_zero, List.set_cons_succ] at hS); (try simp only [Act.put, List.setIfInBounds_toArray, List.set_cons_zero, List.set_cons_succ])) | (refine wl_strC rfl rfl rfl rfl hS rfl rfl ?_; intro _ hS; (try simp only [evT, evC, List.getD_cons_succ, List.getD_cons_zero, List.set_cons_zero, List.set_cons_succ] at hS); (try simp only [Act.put, List.setIfInBounds_toArray, List.set_cons_zero, List.set_cons_succ])))
    have c0 := Sh.ldC (b := xb) (off := 0) (v := .string x.path) hS rfl
    have c1 := Sh.ldC (b := pb) (off := 0) (v := .string p) hS rfl
    go_wp2
    go_ret
    rw [Hx.out]
    exact ⟨rfl, hS.to⟩
  · have d1 : (x.path.toList == p.toList) = false := by rw [strEq]; simp [hq]
    have Hx := Lib.hid (show goneB p x = aboveB p x.path by unfold goneB; simp [hq])
    clear hq
    go_enter Tryz.func47, Tryz.ntmps47
    go_upto_region 1 with (first | (refine wl_box rfl rfl rfl rfl hS ?_; intro xb _ hS; (try simp only [Act.put, List.setIfInBounds_toArray, List.set_cons_zero, List.set_cons_succ])) | (refine wl_isld rfl ?_; ((first | refine wl_value rfl (ex_l0 hS rfl rfl rfl CellAt.out) ?_ | refine wl_value rfl (ex_lf hS rfl rfl rfl CellAt.out) ?_ | refine wl_value rfl (ex_l1 hS rfl rfl rfl CellAt.out) ?_ | refine wl_value rfl (ex_ldC hS rfl rfl CellAt.out) ?_ | refine wl_value rfl (ex_l0 hS rfl rfl rfl rfl) ?_ | refine wl_value rfl (ex_lf hS rfl rfl rfl rfl) ?_ | refine wl_value rfl (ex_l1 hS rfl rfl rfl rfl) ?_ | refine wl_value rfl (ex_ldC hS rfl rfl rfl) ?_ | refine wl_value rfl (ex_l00 hS rfl rfl CellAt.out) ?_ | refine wl_value rfl (ex_l00 hS rfl rfl rfl) ?_ | refine wl_value rfl (ex_l0f hS rfl rfl CellAt.out) ?_ | refine wl_value rfl (ex_l0f hS rfl rfl rfl) ?_ | refine wl_value rfl (ex_lr hS rfl rfl rfl rfl) ?_ | refine wl_value rfl (ex_lr0 hS rfl rfl rfl) ?_ | refine wl_value rfl (ex_lrz hS rfl rfl rfl) ?_ | refine wl_value rfl (ex_lrf hS rfl rfl rfl) ?_ | refine wl_value rfl (ex_ldrC hS rfl rfl) ?_ | refine wl_value rfl (ex_ldr0 hS rfl rfl rfl) ?_); (try simp only [Act.put, List.setIfInBounds_toArray, List.set_cons_zero, List.set_cons_succ]))) | ((first | refine wl_value rfl (ex_ix hS rfl rfl rfl ?_) ?_); (focus (first | rfl | omega | (simp; done))); (try simp only [Act.put, List.setIfInBounds_toArray, List.set_cons_zero, List.set_cons_succ])) | ((first | refine wl_value rfl (ex_eqA rfl rfl rfl) ?_ | refine wl_value rfl (ex_neA rfl rfl rfl) ?_); (try simp only [Act.put, List.setIfInBounds_toArray, List.set_cons_zero, List.set_cons_succ])) | (refine wl_alloc rfl rfl hS ?_; intro _ _ hS; (try simp only [Act.put, List.setIfInBounds_toArray, List.set_cons_zero, List.set_cons_succ])) | (refine wl_box rfl rfl rfl rfl hS ?_; intro _ _ hS; (try simp only [Act.put, List.setIfInBounds_toArray, List.set_cons_zero, List.set_cons_succ])) | (refine wl_st rfl rfl rfl rfl rfl hS (of_decide_eq_true rfl) ?_; intro _ hS; (try simp only [evT, evC, List.getD_cons_succ, List.getD_cons_zero, List.set_cons_zero, List.set_cons_succ] at hS); (try simp only [List.set_cons_zero, List.set_cons_succ] at hS); (try simp only [Act.put, List.setIfInBounds_toArray, List.set_cons_zero, List.set_cons_succ])) | (refine wl_strC rfl rfl rfl rfl hS rfl rfl ?_; intro _ hS; (try simp only [evT, evC, List.getD_cons_succ, List.getD_cons_zero, List.set_cons_zero, List.set_cons_succ] at hS); (try simp only [Act.put, List.setIfInBounds_toArray, List.set_cons_zero, List.set_cons_succ])))
    have c0 := Sh.ldC (b := xb) (off := 0) (v := .string x.path) hS rfl
    have c1 := Sh.ldC (b := pb) (off := 0) (v := .string p) hS rfl
    go_wp2_with (first | (go_at_call 48; refine ((hb _ _ hS)).mono ?_; rintro e w' (⟨rfl, hS⟩)))
    go_ret
    rw [Hx.out]
    exact ⟨rfl, hS.to⟩
set_option maxRecDepth 100000 in
set_option maxHeartbeats 1600000 in
theorem Where_any [HasML B] (hS : Sh B R w) {A : Option Addr} {cap : Nat} {t : List En} [r : RdAt enE B R A t] (hl : t.length ≤ 16777216) (dir : ByteArray) (hd : dir.size ≤ 16777216) :
    Calls Tryz.prog 39 #[.slice A t.length cap, .string dir] w fun e w' => e = .returned (.int .i64 (whereI t dir)) ∧ Sh B R w' := by
  have l1 := fun (w : World) (hS : Sh B R w) => Check_any hS dir hd
  have l2 := fun (w : World) (hS : Sh B R w) (r : RdAt enE B R A t) => Place_any hS (cap := cap) (r := r) hl dir
  rw [errN_ok] at l1
  by_cases hok : okP dir = false
  · have Hx := Lib.hid (show whereI t dir = 45 by unfold whereI; rw [if_pos hok])
    rw [hok, if_neg (by decide)] at l1
    clear hok
    go_enter Tryz.func39, Tryz.ntmps39
    go_wp2_with (first | (go_at_call 45; refine ((l1 _ hS)).mono ?_; rintro e w' (⟨rfl, hS⟩)) | (refine wl_isld rfl ?_; ((first | refine wl_value rfl (ex_l0 hS rfl rfl rfl CellAt.out) ?_ | refine wl_value rfl (ex_lf hS rfl rfl rfl CellAt.out) ?_ | refine wl_value rfl (ex_l1 hS rfl rfl rfl CellAt.out) ?_ | refine wl_value rfl (ex_ldC hS rfl rfl CellAt.out) ?_ | refine wl_value rfl (ex_l0 hS rfl rfl rfl rfl) ?_ | refine wl_value rfl (ex_lf hS rfl rfl rfl rfl) ?_ | refine wl_value rfl (ex_l1 hS rfl rfl rfl rfl) ?_ | refine wl_value rfl (ex_ldC hS rfl rfl rfl) ?_ | refine wl_value rfl (ex_l00 hS rfl rfl CellAt.out) ?_ | refine wl_value rfl (ex_l00 hS rfl rfl rfl) ?_ | refine wl_value rfl (ex_l0f hS rfl rfl CellAt.out) ?_ | refine wl_value rfl (ex_l0f hS rfl rfl rfl) ?_ | refine wl_value rfl (ex_lr hS rfl rfl rfl rfl) ?_ | refine wl_value rfl (ex_lr0 hS rfl rfl rfl) ?_ | refine wl_value rfl (ex_lrz hS rfl rfl rfl) ?_ | refine wl_value rfl (ex_lrf hS rfl rfl rfl) ?_ | refine wl_value rfl (ex_ldrC hS rfl rfl) ?_ | refine wl_value rfl (ex_ldr0 hS rfl rfl rfl) ?_); (try simp only [Act.put, List.setIfInBounds_toArray, List.set_cons_zero, List.set_cons_succ]))) | ((first | refine wl_value rfl (ex_ix hS rfl rfl rfl ?_) ?_); (focus (first | rfl | omega | (simp; done))); (try simp only [Act.put, List.setIfInBounds_toArray, List.set_cons_zero, List.set_cons_succ])) | ((first | refine wl_value rfl (ex_eqA rfl rfl rfl) ?_ | refine wl_value rfl (ex_neA rfl rfl rfl) ?_); (try simp only [Act.put, List.setIfInBounds_toArray, List.set_cons_zero, List.set_cons_succ])) | (refine wl_alloc rfl rfl hS ?_; intro _ _ hS; (try simp only [Act.put, List.setIfInBounds_toArray, List.set_cons_zero, List.set_cons_succ])) | (refine wl_box rfl rfl rfl rfl hS ?_; intro _ _ hS; (try simp only [Act.put, List.setIfInBounds_toArray, List.set_cons_zero, List.set_cons_succ])) | (refine wl_st rfl rfl rfl rfl rfl hS (of_decide_eq_true rfl) ?_; intro _ hS; (try simp only [evT, evC, List.getD_cons_succ, List.getD_cons_zero, List.set_cons_zero, List.set_cons_succ] at hS); (try simp only [List.set_cons_zero, List.set_cons_succ] at hS); (try simp only [Act.put, List.setIfInBounds_toArray, List.set_cons_zero, List.set_cons_succ])) | (refine wl_strC rfl rfl rfl rfl hS rfl rfl ?_; intro _ hS; (try simp only [evT, evC, List.getD_cons_succ, List.getD_cons_zero, List.set_cons_zero, List.set_cons_succ] at hS); (try simp only [Act.put, List.setIfInBounds_toArray, List.set_cons_zero, List.set_cons_succ])))
    go_ret
    rw [Hx.out]
    exact ⟨rfl, hS⟩
  have hok1 : okP dir = true := by cases h : okP dir; exact absurd h hok; rfl
  rw [hok1, if_pos rfl] at l1
  by_cases hz : dir.size = 0
  · have Hx := Lib.hid (show whereI t dir = 0 by unfold whereI; rw [if_neg hok, if_pos hz])
    have hde : dir.toList = [] := (empty_prop dir).2 hz
    have d1 : dir.toList.isEmpty = true := by rw [hde]; rfl
    clear hok hok1 hz
    go_enter Tryz.func39, Tryz.ntmps39
    go_wp2_with (first | (go_at_call 45; refine ((l1 _ hS)).mono ?_; rintro e w' (⟨rfl, hS⟩)) | (refine wl_isld rfl ?_; ((first | refine wl_value rfl (ex_l0 hS rfl rfl rfl CellAt.out) ?_ | refine wl_value rfl (ex_lf hS rfl rfl rfl CellAt.out) ?_ | refine wl_value rfl (ex_l1 hS rfl rfl rfl CellAt.out) ?_ | refine wl_value rfl (ex_ldC hS rfl rfl CellAt.out) ?_ | refine wl_value rfl (ex_l0 hS rfl rfl rfl rfl) ?_ | refine wl_value rfl (ex_lf hS rfl rfl rfl rfl) ?_ | refine wl_value rfl (ex_l1 hS rfl rfl rfl rfl) ?_ | refine wl_value rfl (ex_ldC hS rfl rfl rfl) ?_ | refine wl_value rfl (ex_l00 hS rfl rfl CellAt.out) ?_ | refine wl_value rfl (ex_l00 hS rfl rfl rfl) ?_ | refine wl_value rfl (ex_l0f hS rfl rfl CellAt.out) ?_ | refine wl_value rfl (ex_l0f hS rfl rfl rfl) ?_ | refine wl_value rfl (ex_lr hS rfl rfl rfl rfl) ?_ | refine wl_value rfl (ex_lr0 hS rfl rfl rfl) ?_ | refine wl_value rfl (ex_lrz hS rfl rfl rfl) ?_ | refine wl_value rfl (ex_lrf hS rfl rfl rfl) ?_ | refine wl_value rfl (ex_ldrC hS rfl rfl) ?_ | refine wl_value rfl (ex_ldr0 hS rfl rfl rfl) ?_); (try simp only [Act.put, List.setIfInBounds_toArray, List.set_cons_zero, List.set_cons_succ]))) | ((first | refine wl_value rfl (ex_ix hS rfl rfl rfl ?_) ?_); (focus (first | rfl | omega | (simp; done))); (try simp only [Act.put, List.setIfInBounds_toArray, List.set_cons_zero, List.set_cons_succ])) | ((first | refine wl_value rfl (ex_eqA rfl rfl rfl) ?_ | refine wl_value rfl (ex_neA rfl rfl rfl) ?_); (try simp only [Act.put, List.setIfInBounds_toArray, List.set_cons_zero, List.set_cons_succ])) | (refine wl_alloc rfl rfl hS ?_; intro _ _ hS; (try simp only [Act.put, List.setIfInBounds_toArray, List.set_cons_zero, List.set_cons_succ])) | (refine wl_box rfl rfl rfl rfl hS ?_; intro _ _ hS; (try simp only [Act.put, List.setIfInBounds_toArray, List.set_cons_zero, List.set_cons_succ])) | (refine wl_st rfl rfl rfl rfl rfl hS (of_decide_eq_true rfl) ?_; intro _ hS; (try simp only [evT, evC, List.getD_cons_succ, List.getD_cons_zero, List.set_cons_zero, List.set_cons_succ] at hS); (try simp only [List.set_cons_zero, List.set_cons_succ] at hS); (try simp only [Act.put, List.setIfInBounds_toArray, List.set_cons_zero, List.set_cons_succ])) | (refine wl_strC rfl rfl rfl rfl hS rfl rfl ?_; intro _ hS; (try simp only [evT, evC, List.getD_cons_succ, List.getD_cons_zero, List.set_cons_zero, List.set_cons_succ] at hS); (try simp only [Act.put, List.setIfInBounds_toArray, List.set_cons_zero, List.set_cons_succ])))
    go_ret
    rw [Hx.out]
    exact ⟨rfl, hS⟩
  have hde : ¬ dir.toList = [] := fun h => hz ((empty_prop dir).1 h)
  have d1 : dir.toList.isEmpty = false := by rw [empty_iff]; exact decide_eq_false hz
  rcases find_idx (t := t) (p := dir) with ⟨h1, _, _, _, _⟩ | ⟨i, x, h1, _, gx, _, h4, _⟩
  · rw [h1] at l2
    have Hx := Lib.hid (show whereI t dir = 8 by unfold whereI; rw [if_neg hok, if_neg hz, if_pos h1])
    clear hok hok1 hz h1
    go_enter Tryz.func39, Tryz.ntmps39
    go_wp2_with (first | (go_at_call 45; refine ((l1 _ hS)).mono ?_; rintro e w' (⟨rfl, hS⟩)) | (go_at_call 42; refine ((l2 _ hS inferInstance)).mono ?_; rintro e w' (⟨rfl, hS⟩)) | (refine wl_isld rfl ?_; ((first | refine wl_value rfl (ex_l0 hS rfl rfl rfl CellAt.out) ?_ | refine wl_value rfl (ex_lf hS rfl rfl rfl CellAt.out) ?_ | refine wl_value rfl (ex_l1 hS rfl rfl rfl CellAt.out) ?_ | refine wl_value rfl (ex_ldC hS rfl rfl CellAt.out) ?_ | refine wl_value rfl (ex_l0 hS rfl rfl rfl rfl) ?_ | refine wl_value rfl (ex_lf hS rfl rfl rfl rfl) ?_ | refine wl_value rfl (ex_l1 hS rfl rfl rfl rfl) ?_ | refine wl_value rfl (ex_ldC hS rfl rfl rfl) ?_ | refine wl_value rfl (ex_l00 hS rfl rfl CellAt.out) ?_ | refine wl_value rfl (ex_l00 hS rfl rfl rfl) ?_ | refine wl_value rfl (ex_l0f hS rfl rfl CellAt.out) ?_ | refine wl_value rfl (ex_l0f hS rfl rfl rfl) ?_ | refine wl_value rfl (ex_lr hS rfl rfl rfl rfl) ?_ | refine wl_value rfl (ex_lr0 hS rfl rfl rfl) ?_ | refine wl_value rfl (ex_lrz hS rfl rfl rfl) ?_ | refine wl_value rfl (ex_lrf hS rfl rfl rfl) ?_ | refine wl_value rfl (ex_ldrC hS rfl rfl) ?_ | refine wl_value rfl (ex_ldr0 hS rfl rfl rfl) ?_); (try simp only [Act.put, List.setIfInBounds_toArray, List.set_cons_zero, List.set_cons_succ]))) | ((first | refine wl_value rfl (ex_ix hS rfl rfl rfl ?_) ?_); (focus (first | rfl | omega | (simp; done))); (try simp only [Act.put, List.setIfInBounds_toArray, List.set_cons_zero, List.set_cons_succ])) | ((first | refine wl_value rfl (ex_eqA rfl rfl rfl) ?_ | refine wl_value rfl (ex_neA rfl rfl rfl) ?_); (try simp only [Act.put, List.setIfInBounds_toArray, List.set_cons_zero, List.set_cons_succ])) | (refine wl_alloc rfl rfl hS ?_; intro _ _ hS; (try simp only [Act.put, List.setIfInBounds_toArray, List.set_cons_zero, List.set_cons_succ])) | (refine wl_box rfl rfl rfl rfl hS ?_; intro _ _ hS; (try simp only [Act.put, List.setIfInBounds_toArray, List.set_cons_zero, List.set_cons_succ])) | (refine wl_st rfl rfl rfl rfl rfl hS (of_decide_eq_true rfl) ?_; intro _ hS; (try simp only [evT, evC, List.getD_cons_succ, List.getD_cons_zero, List.set_cons_zero, List.set_cons_succ] at hS); (try simp only [List.set_cons_zero, List.set_cons_succ] at hS); (try simp only [Act.put, List.setIfInBounds_toArray, List.set_cons_zero, List.set_cons_succ])) | (refine wl_strC rfl rfl rfl rfl hS rfl rfl ?_; intro _ hS; (try simp only [evT, evC, List.getD_cons_succ, List.getD_cons_zero, List.set_cons_zero, List.set_cons_succ] at hS); (try simp only [Act.put, List.setIfInBounds_toArray, List.set_cons_zero, List.set_cons_succ])))
    go_ret
    rw [Hx.out]
    exact ⟨rfl, hS⟩
  · rw [h1] at l2
    have d4 : decide ((i : Int) < 0) = false := decide_eq_false (by omega)
    by_cases hk : x.kind = 2
    · have d5 : (x.kind == 2) = true := by simp [hk]
      have d6 : (x.kind != 2) = false := by simp [hk]
      have Hx := Lib.hid (show whereI t dir = 0 by unfold whereI; rw [if_neg hok, if_neg hz, if_neg (by omega), h4, if_pos hk])
      clear hok hok1 hz h1 h4 hk
      go_enter Tryz.func39, Tryz.ntmps39
      go_wp2_with (first | (go_at_call 45; refine ((l1 _ hS)).mono ?_; rintro e w' (⟨rfl, hS⟩)) | (go_at_call 42; refine ((l2 _ hS inferInstance)).mono ?_; rintro e w' (⟨rfl, hS⟩)) | (refine wl_isld rfl ?_; ((first | refine wl_value rfl (ex_l0 hS rfl rfl rfl CellAt.out) ?_ | refine wl_value rfl (ex_lf hS rfl rfl rfl CellAt.out) ?_ | refine wl_value rfl (ex_l1 hS rfl rfl rfl CellAt.out) ?_ | refine wl_value rfl (ex_ldC hS rfl rfl CellAt.out) ?_ | refine wl_value rfl (ex_l0 hS rfl rfl rfl rfl) ?_ | refine wl_value rfl (ex_lf hS rfl rfl rfl rfl) ?_ | refine wl_value rfl (ex_l1 hS rfl rfl rfl rfl) ?_ | refine wl_value rfl (ex_ldC hS rfl rfl rfl) ?_ | refine wl_value rfl (ex_l00 hS rfl rfl CellAt.out) ?_ | refine wl_value rfl (ex_l00 hS rfl rfl rfl) ?_ | refine wl_value rfl (ex_l0f hS rfl rfl CellAt.out) ?_ | refine wl_value rfl (ex_l0f hS rfl rfl rfl) ?_ | refine wl_value rfl (ex_lr hS rfl rfl rfl rfl) ?_ | refine wl_value rfl (ex_lr0 hS rfl rfl rfl) ?_ | refine wl_value rfl (ex_lrz hS rfl rfl rfl) ?_ | refine wl_value rfl (ex_lrf hS rfl rfl rfl) ?_ | refine wl_value rfl (ex_ldrC hS rfl rfl) ?_ | refine wl_value rfl (ex_ldr0 hS rfl rfl rfl) ?_); (try simp only [Act.put, List.setIfInBounds_toArray, List.set_cons_zero, List.set_cons_succ]))) | ((first | refine wl_value rfl (ex_ix hS rfl rfl rfl ?_) ?_); (focus (first | rfl | omega | (simp; done))); (try simp only [Act.put, List.setIfInBounds_toArray, List.set_cons_zero, List.set_cons_succ])) | ((first | refine wl_value rfl (ex_eqA rfl rfl rfl) ?_ | refine wl_value rfl (ex_neA rfl rfl rfl) ?_); (try simp only [Act.put, List.setIfInBounds_toArray, List.set_cons_zero, List.set_cons_succ])) | (refine wl_alloc rfl rfl hS ?_; intro _ _ hS; (try simp only [Act.put, List.setIfInBounds_toArray, List.set_cons_zero, List.set_cons_succ])) | (refine wl_box rfl rfl rfl rfl hS ?_; intro _ _ hS; (try simp only [Act.put, List.setIfInBounds_toArray, List.set_cons_zero, List.set_cons_succ])) | (refine wl_st rfl rfl rfl rfl rfl hS (of_decide_eq_true rfl) ?_; intro _ hS; (try simp only [evT, evC, List.getD_cons_succ, List.getD_cons_zero, List.set_cons_zero, List.set_cons_succ] at hS); (try simp only [List.set_cons_zero, List.set_cons_succ] at hS); (try simp only [Act.put, List.setIfInBounds_toArray, List.set_cons_zero, List.set_cons_succ])) | (refine wl_strC rfl rfl rfl rfl hS rfl rfl ?_; intro _ hS; (try simp only [evT, evC, List.getD_cons_succ, List.getD_cons_zero, List.set_cons_zero, List.set_cons_succ] at hS); (try simp only [Act.put, List.setIfInBounds_toArray, List.set_cons_zero, List.set_cons_succ])))
      go_ret
      rw [Hx.out]
      exact ⟨rfl, hS⟩
    · have d5 : (x.kind == 2) = false := beq_no hk
      have d6 : (x.kind != 2) = true := bne_no hk
      have Hx := Lib.hid (show whereI t dir = 102 by unfold whereI; rw [if_neg hok, if_neg hz, if_neg (by omega), h4, if_neg hk])
      clear hok hok1 hz h1 h4 hk
      go_enter Tryz.func39, Tryz.ntmps39
      go_wp2_with (first | (go_at_call 45; refine ((l1 _ hS)).mono ?_; rintro e w' (⟨rfl, hS⟩)) | (go_at_call 42; refine ((l2 _ hS inferInstance)).mono ?_; rintro e w' (⟨rfl, hS⟩)) | (refine wl_isld rfl ?_; ((first | refine wl_value rfl (ex_l0 hS rfl rfl rfl CellAt.out) ?_ | refine wl_value rfl (ex_lf hS rfl rfl rfl CellAt.out) ?_ | refine wl_value rfl (ex_l1 hS rfl rfl rfl CellAt.out) ?_ | refine wl_value rfl (ex_ldC hS rfl rfl CellAt.out) ?_ | refine wl_value rfl (ex_l0 hS rfl rfl rfl rfl) ?_ | refine wl_value rfl (ex_lf hS rfl rfl rfl rfl) ?_ | refine wl_value rfl (ex_l1 hS rfl rfl rfl rfl) ?_ | refine wl_value rfl (ex_ldC hS rfl rfl rfl) ?_ | refine wl_value rfl (ex_l00 hS rfl rfl CellAt.out) ?_ | refine wl_value rfl (ex_l00 hS rfl rfl rfl) ?_ | refine wl_value rfl (ex_l0f hS rfl rfl CellAt.out) ?_ | refine wl_value rfl (ex_l0f hS rfl rfl rfl) ?_ | refine wl_value rfl (ex_lr hS rfl rfl rfl rfl) ?_ | refine wl_value rfl (ex_lr0 hS rfl rfl rfl) ?_ | refine wl_value rfl (ex_lrz hS rfl rfl rfl) ?_ | refine wl_value rfl (ex_lrf hS rfl rfl rfl) ?_ | refine wl_value rfl (ex_ldrC hS rfl rfl) ?_ | refine wl_value rfl (ex_ldr0 hS rfl rfl rfl) ?_); (try simp only [Act.put, List.setIfInBounds_toArray, List.set_cons_zero, List.set_cons_succ]))) | ((first | refine wl_value rfl (ex_ix hS rfl rfl rfl ?_) ?_); (focus (first | rfl | omega | (simp; done))); (try simp only [Act.put, List.setIfInBounds_toArray, List.set_cons_zero, List.set_cons_succ])) | ((first | refine wl_value rfl (ex_eqA rfl rfl rfl) ?_ | refine wl_value rfl (ex_neA rfl rfl rfl) ?_); (try simp only [Act.put, List.setIfInBounds_toArray, List.set_cons_zero, List.set_cons_succ])) | (refine wl_alloc rfl rfl hS ?_; intro _ _ hS; (try simp only [Act.put, List.setIfInBounds_toArray, List.set_cons_zero, List.set_cons_succ])) | (refine wl_box rfl rfl rfl rfl hS ?_; intro _ _ hS; (try simp only [Act.put, List.setIfInBounds_toArray, List.set_cons_zero, List.set_cons_succ])) | (refine wl_st rfl rfl rfl rfl rfl hS (of_decide_eq_true rfl) ?_; intro _ hS; (try simp only [evT, evC, List.getD_cons_succ, List.getD_cons_zero, List.set_cons_zero, List.set_cons_succ] at hS); (try simp only [List.set_cons_zero, List.set_cons_succ] at hS); (try simp only [Act.put, List.setIfInBounds_toArray, List.set_cons_zero, List.set_cons_succ])) | (refine wl_strC rfl rfl rfl rfl hS rfl rfl ?_; intro _ hS; (try simp only [evT, evC, List.getD_cons_succ, List.getD_cons_zero, List.set_cons_zero, List.set_cons_succ] at hS); (try simp only [Act.put, List.setIfInBounds_toArray, List.set_cons_zero, List.set_cons_succ])))
      go_ret
      rw [Hx.out]
      exact ⟨rfl, hS⟩
set_option maxRecDepth 100000 in
set_option maxHeartbeats 1600000 in
theorem TFind_any [HasML B] [NoDraw B] (hS : Sh B R w) {A : Option Addr} {cap : Nat} {t : List En} [r : RdAt enE B R A t] (hl : t.length ≤ 16777216) (hsm : SmallE t) (p : ByteArray) :
    Calls Tryz.prog 19 #[.slice A t.length cap, .string p] w fun e w' => e = .returned (.tuple #[.agg (findE t p).1.cells.toArray, .bool (findE t p).2]) ∧ Sh B R w' := by
  have l1 := fun (w : World) (H : HL) (hS : Sh B H w) (r : RdAt enE B H A t) => Right_any hS (A := A) (cap := cap) (t := t) (r := r) hl hsm
  have l2 := fun (w : World) (H : HL) (hS : Sh B H w) (r : RdAt enE B H A t) => Place_any hS (cap := cap) (r := r) hl p
  by_cases ha : (checkA t).2 = 0
  · rw [ha] at l1
    rcases find_idx (t := t) (p := p) with ⟨h1, _, _, h4, _⟩ | ⟨i, x, h1, _, gx, _, _, h4⟩
    · rw [h1] at l2
      have Hx := Lib.hid (show findE t p = (zE, false) by unfold findE; rw [if_pos ha, h4, h1]; rfl)
      clear ha h1 h4
      go_enter Tryz.func19, Tryz.ntmps19
      go_wp2_with (first | (refine wl_alloc rfl rfl hS ?_; intro rb _ hS; (try simp only [Act.put, List.setIfInBounds_toArray, List.set_cons_zero, List.set_cons_succ])) | (refine wl_build (zE.cells) _ rfl rfl (by simp only [List.map_toArray, List.map_cons, List.map_nil]; rfl) rfl ?_; (try simp only [Act.put, List.setIfInBounds_toArray, List.set_cons_zero, List.set_cons_succ])) | (go_at_call 37; refine ((l1 _ _ hS inferInstance)).mono ?_; rintro e w' (⟨rfl, hS⟩)) | (go_at_call 42; refine ((l2 _ _ hS inferInstance)).mono ?_; rintro e w' (⟨rfl, hS⟩)) | (refine wl_isld rfl ?_; ((first | refine wl_value rfl (ex_l0 hS rfl rfl rfl CellAt.out) ?_ | refine wl_value rfl (ex_lf hS rfl rfl rfl CellAt.out) ?_ | refine wl_value rfl (ex_l1 hS rfl rfl rfl CellAt.out) ?_ | refine wl_value rfl (ex_ldC hS rfl rfl CellAt.out) ?_ | refine wl_value rfl (ex_l0 hS rfl rfl rfl rfl) ?_ | refine wl_value rfl (ex_lf hS rfl rfl rfl rfl) ?_ | refine wl_value rfl (ex_l1 hS rfl rfl rfl rfl) ?_ | refine wl_value rfl (ex_ldC hS rfl rfl rfl) ?_ | refine wl_value rfl (ex_l00 hS rfl rfl CellAt.out) ?_ | refine wl_value rfl (ex_l00 hS rfl rfl rfl) ?_ | refine wl_value rfl (ex_l0f hS rfl rfl CellAt.out) ?_ | refine wl_value rfl (ex_l0f hS rfl rfl rfl) ?_ | refine wl_value rfl (ex_lr hS rfl rfl rfl rfl) ?_ | refine wl_value rfl (ex_lr0 hS rfl rfl rfl) ?_ | refine wl_value rfl (ex_lrz hS rfl rfl rfl) ?_ | refine wl_value rfl (ex_lrf hS rfl rfl rfl) ?_ | refine wl_value rfl (ex_ldrC hS rfl rfl) ?_ | refine wl_value rfl (ex_ldr0 hS rfl rfl rfl) ?_); (try simp only [Act.put, List.setIfInBounds_toArray, List.set_cons_zero, List.set_cons_succ]))) | ((first | refine wl_value rfl (ex_ix hS rfl rfl rfl ?_) ?_); (focus (first | rfl | omega | (simp; done))); (try simp only [Act.put, List.setIfInBounds_toArray, List.set_cons_zero, List.set_cons_succ])) | ((first | refine wl_value rfl (ex_eqA rfl rfl rfl) ?_ | refine wl_value rfl (ex_neA rfl rfl rfl) ?_); (try simp only [Act.put, List.setIfInBounds_toArray, List.set_cons_zero, List.set_cons_succ])) | (refine wl_alloc rfl rfl hS ?_; intro _ _ hS; (try simp only [Act.put, List.setIfInBounds_toArray, List.set_cons_zero, List.set_cons_succ])) | (refine wl_box rfl rfl rfl rfl hS ?_; intro _ _ hS; (try simp only [Act.put, List.setIfInBounds_toArray, List.set_cons_zero, List.set_cons_succ])) | (refine wl_st rfl rfl rfl rfl rfl hS (of_decide_eq_true rfl) ?_; intro _ hS; (try simp only [evT, evC, List.getD_cons_succ, List.getD_cons_zero, List.set_cons_zero, List.set_cons_succ] at hS); (try simp only [List.set_cons_zero, List.set_cons_succ] at hS); (try simp only [Act.put, List.setIfInBounds_toArray, List.set_cons_zero, List.set_cons_succ])) | (refine wl_strC rfl rfl rfl rfl hS rfl rfl ?_; intro _ hS; (try simp only [evT, evC, List.getD_cons_succ, List.getD_cons_zero, List.set_cons_zero, List.set_cons_succ] at hS); (try simp only [Act.put, List.setIfInBounds_toArray, List.set_cons_zero, List.set_cons_succ])))
      refine bodyPost_res (rs := ([.cell 4 24, .tmp 5])) rfl ((.cell rfl (ldv_all hS rfl) (.tmp .nil))) rfl ?_
      rw [Hx.out]
      exact ⟨rfl, hS.to⟩
    · rw [h1] at l2
      have d4 : decide ((0 : Int) ≤ (i : Int)) = true := decide_eq_true (by omega)
      have Hx := Lib.hid (show findE t p = (x, true) by unfold findE; rw [if_pos ha, h4, h1]; have : ¬ ((i : Int) = -1) := by omega
                                                        simp [this])
      clear ha h1 h4
      go_enter Tryz.func19, Tryz.ntmps19
      go_wp2_with (first | (refine wl_alloc rfl rfl hS ?_; intro rb _ hS; (try simp only [Act.put, List.setIfInBounds_toArray, List.set_cons_zero, List.set_cons_succ])) | (go_at_call 37; refine ((l1 _ _ hS inferInstance)).mono ?_; rintro e w' (⟨rfl, hS⟩)) | (go_at_call 42; refine ((l2 _ _ hS inferInstance)).mono ?_; rintro e w' (⟨rfl, hS⟩)) | (refine wl_isld rfl ?_; ((first | refine wl_value rfl (ex_l0 hS rfl rfl rfl CellAt.out) ?_ | refine wl_value rfl (ex_lf hS rfl rfl rfl CellAt.out) ?_ | refine wl_value rfl (ex_l1 hS rfl rfl rfl CellAt.out) ?_ | refine wl_value rfl (ex_ldC hS rfl rfl CellAt.out) ?_ | refine wl_value rfl (ex_l0 hS rfl rfl rfl rfl) ?_ | refine wl_value rfl (ex_lf hS rfl rfl rfl rfl) ?_ | refine wl_value rfl (ex_l1 hS rfl rfl rfl rfl) ?_ | refine wl_value rfl (ex_ldC hS rfl rfl rfl) ?_ | refine wl_value rfl (ex_l00 hS rfl rfl CellAt.out) ?_ | refine wl_value rfl (ex_l00 hS rfl rfl rfl) ?_ | refine wl_value rfl (ex_l0f hS rfl rfl CellAt.out) ?_ | refine wl_value rfl (ex_l0f hS rfl rfl rfl) ?_ | refine wl_value rfl (ex_lr hS rfl rfl rfl rfl) ?_ | refine wl_value rfl (ex_lr0 hS rfl rfl rfl) ?_ | refine wl_value rfl (ex_lrz hS rfl rfl rfl) ?_ | refine wl_value rfl (ex_lrf hS rfl rfl rfl) ?_ | refine wl_value rfl (ex_ldrC hS rfl rfl) ?_ | refine wl_value rfl (ex_ldr0 hS rfl rfl rfl) ?_); (try simp only [Act.put, List.setIfInBounds_toArray, List.set_cons_zero, List.set_cons_succ]))) | ((first | refine wl_value rfl (ex_ix hS rfl rfl rfl ?_) ?_); (focus (first | rfl | omega | (simp; done))); (try simp only [Act.put, List.setIfInBounds_toArray, List.set_cons_zero, List.set_cons_succ])) | ((first | refine wl_value rfl (ex_eqA rfl rfl rfl) ?_ | refine wl_value rfl (ex_neA rfl rfl rfl) ?_); (try simp only [Act.put, List.setIfInBounds_toArray, List.set_cons_zero, List.set_cons_succ])) | (refine wl_alloc rfl rfl hS ?_; intro _ _ hS; (try simp only [Act.put, List.setIfInBounds_toArray, List.set_cons_zero, List.set_cons_succ])) | (refine wl_box rfl rfl rfl rfl hS ?_; intro _ _ hS; (try simp only [Act.put, List.setIfInBounds_toArray, List.set_cons_zero, List.set_cons_succ])) | (refine wl_st rfl rfl rfl rfl rfl hS (of_decide_eq_true rfl) ?_; intro _ hS; (try simp only [evT, evC, List.getD_cons_succ, List.getD_cons_zero, List.set_cons_zero, List.set_cons_succ] at hS); (try simp only [List.set_cons_zero, List.set_cons_succ] at hS); (try simp only [Act.put, List.setIfInBounds_toArray, List.set_cons_zero, List.set_cons_succ])) | (refine wl_strC rfl rfl rfl rfl hS rfl rfl ?_; intro _ hS; (try simp only [evT, evC, List.getD_cons_succ, List.getD_cons_zero, List.set_cons_zero, List.set_cons_succ] at hS); (try simp only [Act.put, List.setIfInBounds_toArray, List.set_cons_zero, List.set_cons_succ])))
      refine bodyPost_res (rs := ([.cell 4 24, .tmp 5])) rfl ((.cell rfl (ldv_all hS rfl) (.tmp .nil))) rfl ?_
      rw [Hx.out]
      exact ⟨rfl, hS.to⟩
  · have Hx := Lib.hid (show findE t p = (zE, false) by unfold findE; rw [if_neg ha])
    have d2 : ((checkA t).2 == 0) = false := beq_no ha
    have d3 : ((checkA t).2 != 0) = true := bne_no ha
    clear ha
    go_enter Tryz.func19, Tryz.ntmps19
    go_wp2_with (first | (refine wl_alloc rfl rfl hS ?_; intro rb _ hS; (try simp only [Act.put, List.setIfInBounds_toArray, List.set_cons_zero, List.set_cons_succ])) | (refine wl_build (zE.cells) _ rfl rfl (by simp only [List.map_toArray, List.map_cons, List.map_nil]; rfl) rfl ?_; (try simp only [Act.put, List.setIfInBounds_toArray, List.set_cons_zero, List.set_cons_succ])) | (go_at_call 37; refine ((l1 _ _ hS inferInstance)).mono ?_; rintro e w' (⟨rfl, hS⟩)) | (refine wl_isld rfl ?_; ((first | refine wl_value rfl (ex_l0 hS rfl rfl rfl CellAt.out) ?_ | refine wl_value rfl (ex_lf hS rfl rfl rfl CellAt.out) ?_ | refine wl_value rfl (ex_l1 hS rfl rfl rfl CellAt.out) ?_ | refine wl_value rfl (ex_ldC hS rfl rfl CellAt.out) ?_ | refine wl_value rfl (ex_l0 hS rfl rfl rfl rfl) ?_ | refine wl_value rfl (ex_lf hS rfl rfl rfl rfl) ?_ | refine wl_value rfl (ex_l1 hS rfl rfl rfl rfl) ?_ | refine wl_value rfl (ex_ldC hS rfl rfl rfl) ?_ | refine wl_value rfl (ex_l00 hS rfl rfl CellAt.out) ?_ | refine wl_value rfl (ex_l00 hS rfl rfl rfl) ?_ | refine wl_value rfl (ex_l0f hS rfl rfl CellAt.out) ?_ | refine wl_value rfl (ex_l0f hS rfl rfl rfl) ?_ | refine wl_value rfl (ex_lr hS rfl rfl rfl rfl) ?_ | refine wl_value rfl (ex_lr0 hS rfl rfl rfl) ?_ | refine wl_value rfl (ex_lrz hS rfl rfl rfl) ?_ | refine wl_value rfl (ex_lrf hS rfl rfl rfl) ?_ | refine wl_value rfl (ex_ldrC hS rfl rfl) ?_ | refine wl_value rfl (ex_ldr0 hS rfl rfl rfl) ?_); (try simp only [Act.put, List.setIfInBounds_toArray, List.set_cons_zero, List.set_cons_succ]))) | ((first | refine wl_value rfl (ex_ix hS rfl rfl rfl ?_) ?_); (focus (first | rfl | omega | (simp; done))); (try simp only [Act.put, List.setIfInBounds_toArray, List.set_cons_zero, List.set_cons_succ])) | ((first | refine wl_value rfl (ex_eqA rfl rfl rfl) ?_ | refine wl_value rfl (ex_neA rfl rfl rfl) ?_); (try simp only [Act.put, List.setIfInBounds_toArray, List.set_cons_zero, List.set_cons_succ])) | (refine wl_alloc rfl rfl hS ?_; intro _ _ hS; (try simp only [Act.put, List.setIfInBounds_toArray, List.set_cons_zero, List.set_cons_succ])) | (refine wl_box rfl rfl rfl rfl hS ?_; intro _ _ hS; (try simp only [Act.put, List.setIfInBounds_toArray, List.set_cons_zero, List.set_cons_succ])) | (refine wl_st rfl rfl rfl rfl rfl hS (of_decide_eq_true rfl) ?_; intro _ hS; (try simp only [evT, evC, List.getD_cons_succ, List.getD_cons_zero, List.set_cons_zero, List.set_cons_succ] at hS); (try simp only [List.set_cons_zero, List.set_cons_succ] at hS); (try simp only [Act.put, List.setIfInBounds_toArray, List.set_cons_zero, List.set_cons_succ])) | (refine wl_strC rfl rfl rfl rfl hS rfl rfl ?_; intro _ hS; (try simp only [evT, evC, List.getD_cons_succ, List.getD_cons_zero, List.set_cons_zero, List.set_cons_succ] at hS); (try simp only [Act.put, List.setIfInBounds_toArray, List.set_cons_zero, List.set_cons_succ])))
    refine bodyPost_res (rs := ([.cell 4 24, .tmp 5])) rfl ((.cell rfl (ldv_all hS rfl) (.tmp .nil))) rfl ?_
    rw [Hx.out]
    exact ⟨rfl, hS.to⟩
end
end Go.Tk
