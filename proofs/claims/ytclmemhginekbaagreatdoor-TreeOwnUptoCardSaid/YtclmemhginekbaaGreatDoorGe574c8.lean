/- The document's Remove and Graft; The document's Graft; An edit: its cells; what it answers, plain; What is made of a tree: the law's made; The law TreeOwn. -/
import Derived.Test.YtclmemhginekbaaGreatDoorGe14a61
import Derived.Test.YtclmemhginekbaaGreatDoorG49f2ce
set_option linter.unusedSectionVars false
set_option linter.unusedSimpArgs false
set_option linter.unusedVariables false
namespace Go.Tk
open Go.RowKit Go.Proofs
section
variable {B : Base} {R H H1 : HL} {w w' : World}
def leftB (p : ByteArray) (x : En) : Bool := !(decide (x.path = p)) && !belowT p x.path
def RmI (B : Base) (R : HL) (p : ByteArray) (t : List En) (x : RsSt) (w : World) : Prop :=
  ∃ sp, x.i ≤ t.length ∧ x.out = ((t.take x.i).filter (leftB p)) ∧ x.out.length ≤ x.i ∧ OwnSl enE x.A x.out sp x.cap ∧ Sh B (rowA x.A (flat enE x.out ++ sp) 24 ++ R) w
set_option maxRecDepth 100000 in
set_option maxHeartbeats 6400000 in
theorem RRemove_any [HasML B] [NoDraw B] (hS : Sh B R w) {A : Option Addr} {cap : Nat} {t : List En} [r : RdAt enE B R A t] (hc : t.length ≤ cap) (hl : t.length ≤ 8000000) (hsm : SmallE t) (p : ByteArray) (hp : p.size ≤ 16777216) :
    Calls Tryz.prog 15 #[.slice A t.length cap, .string p] w (ApplyP B R (removeR t p)) := by
  have l1 := fun (w : World) (H : HL) (hS : Sh B H w) (r : RdAt enE B H A t) => CheckR_any hS (A := A) (cap := cap) (t := t) (r := r) hc (by omega) hsm
  rw [← checks_same] at l1
  have l2 := fun (w : World) (H : HL) (hS : Sh B H w) => PathR_any hS p hp
  have l3 := fun (w : World) (H : HL) (hS : Sh B H w) (r : RdAt enE B H A t) => FindR_any hS (cap := cap) (t := t) (r := r) (by omega) p
  by_cases ha : (checkA t).2 = 0
  · obtain ⟨hca, hT⟩ := right_of ha
    rw [hca] at l1
    cases hok : okP p with
    | false =>
      rw [hok] at l2
      have Hr := Lib.hid (show removeR t p = ([], 45) by unfold removeR; rw [if_pos ha, if_neg (by rw [hok]; decide)])
      clear ha hca hok hT
      go_enter Tryz.func15, Tryz.ntmps15
      go_wp2_with (first | (go_at_call 31; refine ((l1 _ _ hS inferInstance)).mono ?_; rintro e w' (⟨rfl, hS⟩)) | (go_at_call 36; refine ((l2 _ _ hS)).mono ?_; rintro e w' (⟨rfl, hS⟩)) | (refine wl_isld rfl ?_; ((first | refine wl_value rfl (ex_l0 hS rfl rfl rfl CellAt.out) ?_ | refine wl_value rfl (ex_lf hS rfl rfl rfl CellAt.out) ?_ | refine wl_value rfl (ex_l1 hS rfl rfl rfl CellAt.out) ?_ | refine wl_value rfl (ex_ldC hS rfl rfl CellAt.out) ?_ | refine wl_value rfl (ex_l0 hS rfl rfl rfl rfl) ?_ | refine wl_value rfl (ex_lf hS rfl rfl rfl rfl) ?_ | refine wl_value rfl (ex_l1 hS rfl rfl rfl rfl) ?_ | refine wl_value rfl (ex_ldC hS rfl rfl rfl) ?_ | refine wl_value rfl (ex_l00 hS rfl rfl CellAt.out) ?_ | refine wl_value rfl (ex_l00 hS rfl rfl rfl) ?_ | refine wl_value rfl (ex_l0f hS rfl rfl CellAt.out) ?_ | refine wl_value rfl (ex_l0f hS rfl rfl rfl) ?_ | refine wl_value rfl (ex_lr hS rfl rfl rfl rfl) ?_ | refine wl_value rfl (ex_lr0 hS rfl rfl rfl) ?_ | refine wl_value rfl (ex_lrz hS rfl rfl rfl) ?_ | refine wl_value rfl (ex_lrf hS rfl rfl rfl) ?_ | refine wl_value rfl (ex_ldrC hS rfl rfl) ?_ | refine wl_value rfl (ex_ldr0 hS rfl rfl rfl) ?_); (try simp only [Act.put, List.setIfInBounds_toArray, List.set_cons_zero, List.set_cons_succ]))) | ((first | refine wl_value rfl (ex_ix hS rfl rfl rfl ?_) ?_); (focus (first | rfl | omega | (simp; done))); (try simp only [Act.put, List.setIfInBounds_toArray, List.set_cons_zero, List.set_cons_succ])) | ((first | refine wl_value rfl (ex_eqA rfl rfl rfl) ?_ | refine wl_value rfl (ex_neA rfl rfl rfl) ?_); (try simp only [Act.put, List.setIfInBounds_toArray, List.set_cons_zero, List.set_cons_succ])) | (refine wl_alloc rfl rfl hS ?_; intro _ _ hS; (try simp only [Act.put, List.setIfInBounds_toArray, List.set_cons_zero, List.set_cons_succ])) | (refine wl_box rfl rfl rfl rfl hS ?_; intro _ _ hS; (try simp only [Act.put, List.setIfInBounds_toArray, List.set_cons_zero, List.set_cons_succ])) | (refine wl_st rfl rfl rfl rfl rfl hS (of_decide_eq_true rfl) ?_; intro _ hS; (try simp only [evT, evC, List.getD_cons_succ, List.getD_cons_zero, List.set_cons_zero, List.set_cons_succ] at hS); (try simp only [List.set_cons_zero, List.set_cons_succ] at hS); (try simp only [Act.put, List.setIfInBounds_toArray, List.set_cons_zero, List.set_cons_succ])) | (refine wl_strC rfl rfl rfl rfl hS rfl rfl ?_; intro _ hS; (try simp only [evT, evC, List.getD_cons_succ, List.getD_cons_zero, List.set_cons_zero, List.set_cons_succ] at hS); (try simp only [Act.put, List.setIfInBounds_toArray, List.set_cons_zero, List.set_cons_succ])))
      go_ret2
      rw [Hr.out]
      exact .bad hS.to
    | true =>
      rw [hok] at l2
      rcases find_idx (t := t) (p := p) with ⟨f1, _, _, _, _⟩ | ⟨k, x, f1, _, _, _, _, _⟩
      · rw [f1] at l3
        have Hr := Lib.hid (show removeR t p = ([], 8) by unfold removeR; rw [if_pos ha, if_pos hok, if_pos f1])
        clear ha hca hok hT f1
        go_enter Tryz.func15, Tryz.ntmps15
        go_wp2_with (first | (go_at_call 31; refine ((l1 _ _ hS inferInstance)).mono ?_; rintro e w' (⟨rfl, hS⟩)) | (go_at_call 36; refine ((l2 _ _ hS)).mono ?_; rintro e w' (⟨rfl, hS⟩)) | (go_at_call 20; refine ((l3 _ _ hS inferInstance)).mono ?_; rintro e w' (⟨rfl, hS⟩)) | (refine wl_isld rfl ?_; ((first | refine wl_value rfl (ex_l0 hS rfl rfl rfl CellAt.out) ?_ | refine wl_value rfl (ex_lf hS rfl rfl rfl CellAt.out) ?_ | refine wl_value rfl (ex_l1 hS rfl rfl rfl CellAt.out) ?_ | refine wl_value rfl (ex_ldC hS rfl rfl CellAt.out) ?_ | refine wl_value rfl (ex_l0 hS rfl rfl rfl rfl) ?_ | refine wl_value rfl (ex_lf hS rfl rfl rfl rfl) ?_ | refine wl_value rfl (ex_l1 hS rfl rfl rfl rfl) ?_ | refine wl_value rfl (ex_ldC hS rfl rfl rfl) ?_ | refine wl_value rfl (ex_l00 hS rfl rfl CellAt.out) ?_ | refine wl_value rfl (ex_l00 hS rfl rfl rfl) ?_ | refine wl_value rfl (ex_l0f hS rfl rfl CellAt.out) ?_ | refine wl_value rfl (ex_l0f hS rfl rfl rfl) ?_ | refine wl_value rfl (ex_lr hS rfl rfl rfl rfl) ?_ | refine wl_value rfl (ex_lr0 hS rfl rfl rfl) ?_ | refine wl_value rfl (ex_lrz hS rfl rfl rfl) ?_ | refine wl_value rfl (ex_lrf hS rfl rfl rfl) ?_ | refine wl_value rfl (ex_ldrC hS rfl rfl) ?_ | refine wl_value rfl (ex_ldr0 hS rfl rfl rfl) ?_); (try simp only [Act.put, List.setIfInBounds_toArray, List.set_cons_zero, List.set_cons_succ]))) | ((first | refine wl_value rfl (ex_ix hS rfl rfl rfl ?_) ?_); (focus (first | rfl | omega | (simp; done))); (try simp only [Act.put, List.setIfInBounds_toArray, List.set_cons_zero, List.set_cons_succ])) | ((first | refine wl_value rfl (ex_eqA rfl rfl rfl) ?_ | refine wl_value rfl (ex_neA rfl rfl rfl) ?_); (try simp only [Act.put, List.setIfInBounds_toArray, List.set_cons_zero, List.set_cons_succ])) | (refine wl_alloc rfl rfl hS ?_; intro _ _ hS; (try simp only [Act.put, List.setIfInBounds_toArray, List.set_cons_zero, List.set_cons_succ])) | (refine wl_box rfl rfl rfl rfl hS ?_; intro _ _ hS; (try simp only [Act.put, List.setIfInBounds_toArray, List.set_cons_zero, List.set_cons_succ])) | (refine wl_st rfl rfl rfl rfl rfl hS (of_decide_eq_true rfl) ?_; intro _ hS; (try simp only [evT, evC, List.getD_cons_succ, List.getD_cons_zero, List.set_cons_zero, List.set_cons_succ] at hS); (try simp only [List.set_cons_zero, List.set_cons_succ] at hS); (try simp only [Act.put, List.setIfInBounds_toArray, List.set_cons_zero, List.set_cons_succ])) | (refine wl_strC rfl rfl rfl rfl hS rfl rfl ?_; intro _ hS; (try simp only [evT, evC, List.getD_cons_succ, List.getD_cons_zero, List.set_cons_zero, List.set_cons_succ] at hS); (try simp only [Act.put, List.setIfInBounds_toArray, List.set_cons_zero, List.set_cons_succ])))
        go_ret2
        rw [Hr.out]
        exact .bad hS.to
      · rw [f1] at l3
        have dk : decide ((k : Int) < 0) = false := decide_eq_false (by omega)
        have Hr := Lib.hid (show removeR t p = (t.filter (leftB p), 0) by unfold removeR; rw [if_pos ha, if_pos hok, if_neg (by rw [f1]; omega), gone_ref hT hok]; rfl)
        have Hsm := Lib.hid hsm
        clear ha hca hok hT f1 hsm
        go_enter Tryz.func15, Tryz.ntmps15
        go_wp2_with (first | (go_at_call 31; refine ((l1 _ _ hS inferInstance)).mono ?_; rintro e w' (⟨rfl, hS⟩)) | (go_at_call 36; refine ((l2 _ _ hS)).mono ?_; rintro e w' (⟨rfl, hS⟩)) | (go_at_call 20; refine ((l3 _ _ hS inferInstance)).mono ?_; rintro e w' (⟨rfl, hS⟩)) | (refine wl_isld rfl ?_; ((first | refine wl_value rfl (ex_l0 hS rfl rfl rfl CellAt.out) ?_ | refine wl_value rfl (ex_lf hS rfl rfl rfl CellAt.out) ?_ | refine wl_value rfl (ex_l1 hS rfl rfl rfl CellAt.out) ?_ | refine wl_value rfl (ex_ldC hS rfl rfl CellAt.out) ?_ | refine wl_value rfl (ex_l0 hS rfl rfl rfl rfl) ?_ | refine wl_value rfl (ex_lf hS rfl rfl rfl rfl) ?_ | refine wl_value rfl (ex_l1 hS rfl rfl rfl rfl) ?_ | refine wl_value rfl (ex_ldC hS rfl rfl rfl) ?_ | refine wl_value rfl (ex_l00 hS rfl rfl CellAt.out) ?_ | refine wl_value rfl (ex_l00 hS rfl rfl rfl) ?_ | refine wl_value rfl (ex_l0f hS rfl rfl CellAt.out) ?_ | refine wl_value rfl (ex_l0f hS rfl rfl rfl) ?_ | refine wl_value rfl (ex_lr hS rfl rfl rfl rfl) ?_ | refine wl_value rfl (ex_lr0 hS rfl rfl rfl) ?_ | refine wl_value rfl (ex_lrz hS rfl rfl rfl) ?_ | refine wl_value rfl (ex_lrf hS rfl rfl rfl) ?_ | refine wl_value rfl (ex_ldrC hS rfl rfl) ?_ | refine wl_value rfl (ex_ldr0 hS rfl rfl rfl) ?_); (try simp only [Act.put, List.setIfInBounds_toArray, List.set_cons_zero, List.set_cons_succ]))) | ((first | refine wl_value rfl (ex_ix hS rfl rfl rfl ?_) ?_); (focus (first | rfl | omega | (simp; done))); (try simp only [Act.put, List.setIfInBounds_toArray, List.set_cons_zero, List.set_cons_succ])) | ((first | refine wl_value rfl (ex_eqA rfl rfl rfl) ?_ | refine wl_value rfl (ex_neA rfl rfl rfl) ?_); (try simp only [Act.put, List.setIfInBounds_toArray, List.set_cons_zero, List.set_cons_succ])) | (refine wl_alloc rfl rfl hS ?_; intro _ _ hS; (try simp only [Act.put, List.setIfInBounds_toArray, List.set_cons_zero, List.set_cons_succ])) | (refine wl_box rfl rfl rfl rfl hS ?_; intro _ _ hS; (try simp only [Act.put, List.setIfInBounds_toArray, List.set_cons_zero, List.set_cons_succ])) | (refine wl_st rfl rfl rfl rfl rfl hS (of_decide_eq_true rfl) ?_; intro _ hS; (try simp only [evT, evC, List.getD_cons_succ, List.getD_cons_zero, List.set_cons_zero, List.set_cons_succ] at hS); (try simp only [List.set_cons_zero, List.set_cons_succ] at hS); (try simp only [Act.put, List.setIfInBounds_toArray, List.set_cons_zero, List.set_cons_succ])) | (refine wl_strC rfl rfl rfl rfl hS rfl rfl ?_; intro _ hS; (try simp only [evT, evC, List.getD_cons_succ, List.getD_cons_zero, List.set_cons_zero, List.set_cons_succ] at hS); (try simp only [Act.put, List.setIfInBounds_toArray, List.set_cons_zero, List.set_cons_succ])))
        have h0 : RmI B R p t ⟨0, none, [], 0⟩ _ := ⟨[], Nat.zero_le _, rfl, Nat.le_refl _, OwnSl.nothing, hS⟩
        clear hS l1 l2 l3
        refine wp_loopS [8, 9] [25, 26, 27, 28, 29, 30, 31, 32, 33, 34, 35, 36, 37, 38, 39, 40, 41, 42, 43, 44, 45, 46, 47, 48, 49, 50, 51, 52, 53, 54] (fun x : RsSt => [.slice x.A x.out.length x.cap, .int .i64 x.i]) (RmI B R p t) (fun x => t.length - x.i) (⟨0, none, [], 0⟩) rfl (h0) ?_
        clear h0
        rintro ⟨i, A4, out, cap4⟩ J w ⟨sp4, hi, hou, hlo, hO, hS⟩
        dsimp only at hi hou hlo hO hS
        have Hou := Lib.hid hou
        clear hou
        (simp only [Frm, setsT, junkT, List.setIfInBounds_toArray, List.set_cons_zero, List.set_cons_succ])
        by_cases hlt : i < t.length
        · obtain ⟨x, gx⟩ := Nth.of hlt
          have hxz := (Hsm.out x gx.mem).1
          have Htk := Lib.hid gx.take
          have lb := fun (w : World) (H : HL) (hS : Sh B H w) => BelowR_any hS p x.path hp hxz
          by_cases he : x.path = p
          · have d1 : (x.path.toList == p.toList) = true := by rw [strEq]; simp [he]
            have H1 := Lib.hid (show out = (t.take (i + 1)).filter (leftB p) by rw [Hou.out, Htk.out, List.filter_append]; simp [leftB, he])
            clear he lb
            go_wp2_with (first | (refine wl_isld rfl ?_; ((first | refine wl_value rfl (ex_l0 hS rfl rfl rfl CellAt.out) ?_ | refine wl_value rfl (ex_lf hS rfl rfl rfl CellAt.out) ?_ | refine wl_value rfl (ex_l1 hS rfl rfl rfl CellAt.out) ?_ | refine wl_value rfl (ex_ldC hS rfl rfl CellAt.out) ?_ | refine wl_value rfl (ex_l0 hS rfl rfl rfl rfl) ?_ | refine wl_value rfl (ex_lf hS rfl rfl rfl rfl) ?_ | refine wl_value rfl (ex_l1 hS rfl rfl rfl rfl) ?_ | refine wl_value rfl (ex_ldC hS rfl rfl rfl) ?_ | refine wl_value rfl (ex_l00 hS rfl rfl CellAt.out) ?_ | refine wl_value rfl (ex_l00 hS rfl rfl rfl) ?_ | refine wl_value rfl (ex_l0f hS rfl rfl CellAt.out) ?_ | refine wl_value rfl (ex_l0f hS rfl rfl rfl) ?_ | refine wl_value rfl (ex_lr hS rfl rfl rfl rfl) ?_ | refine wl_value rfl (ex_lr0 hS rfl rfl rfl) ?_ | refine wl_value rfl (ex_lrz hS rfl rfl rfl) ?_ | refine wl_value rfl (ex_lrf hS rfl rfl rfl) ?_ | refine wl_value rfl (ex_ldrC hS rfl rfl) ?_ | refine wl_value rfl (ex_ldr0 hS rfl rfl rfl) ?_); (try simp only [Act.put, List.setIfInBounds_toArray, List.set_cons_zero, List.set_cons_succ]))) | ((first | refine wl_value rfl (ex_ix hS rfl rfl rfl ?_) ?_); (focus (first | rfl | omega | (simp; done))); (try simp only [Act.put, List.setIfInBounds_toArray, List.set_cons_zero, List.set_cons_succ])) | ((first | refine wl_value rfl (ex_eqA rfl rfl rfl) ?_ | refine wl_value rfl (ex_neA rfl rfl rfl) ?_); (try simp only [Act.put, List.setIfInBounds_toArray, List.set_cons_zero, List.set_cons_succ])) | (refine wl_alloc rfl rfl hS ?_; intro _ _ hS; (try simp only [Act.put, List.setIfInBounds_toArray, List.set_cons_zero, List.set_cons_succ])) | (refine wl_box rfl rfl rfl rfl hS ?_; intro _ _ hS; (try simp only [Act.put, List.setIfInBounds_toArray, List.set_cons_zero, List.set_cons_succ])) | (refine wl_st rfl rfl rfl rfl rfl hS (of_decide_eq_true rfl) ?_; intro _ hS; (try simp only [evT, evC, List.getD_cons_succ, List.getD_cons_zero, List.set_cons_zero, List.set_cons_succ] at hS); (try simp only [List.set_cons_zero, List.set_cons_succ] at hS); (try simp only [Act.put, List.setIfInBounds_toArray, List.set_cons_zero, List.set_cons_succ])) | (refine wl_strC rfl rfl rfl rfl hS rfl rfl ?_; intro _ hS; (try simp only [evT, evC, List.getD_cons_succ, List.getD_cons_zero, List.set_cons_zero, List.set_cons_succ] at hS); (try simp only [Act.put, List.setIfInBounds_toArray, List.set_cons_zero, List.set_cons_succ])))
            exact ⟨(⟨i + 1, A4, out, cap4⟩ : RsSt), ⟨_, hlt, H1.out, (by dsimp only; omega), hO, hS.to⟩, (by dsimp only; omega), rfl, (by (simp only [blankT, junkT, List.cons_append, List.nil_append, List.setIfInBounds_toArray, List.set_cons_zero, List.set_cons_succ])), rfl⟩
          · have d1 : (x.path.toList == p.toList) = false := by rw [strEq]; simp [he]
            cases hb : belowT p x.path with
            | true =>
              rw [hb] at lb
              have H1 := Lib.hid (show out = (t.take (i + 1)).filter (leftB p) by rw [Hou.out, Htk.out, List.filter_append]; simp [leftB, hb])
              clear hb he
              go_wp2_with (first | (go_at_call 35; refine ((lb _ _ hS)).mono ?_; rintro e w' (⟨rfl, hS⟩)) | (refine wl_isld rfl ?_; ((first | refine wl_value rfl (ex_l0 hS rfl rfl rfl CellAt.out) ?_ | refine wl_value rfl (ex_lf hS rfl rfl rfl CellAt.out) ?_ | refine wl_value rfl (ex_l1 hS rfl rfl rfl CellAt.out) ?_ | refine wl_value rfl (ex_ldC hS rfl rfl CellAt.out) ?_ | refine wl_value rfl (ex_l0 hS rfl rfl rfl rfl) ?_ | refine wl_value rfl (ex_lf hS rfl rfl rfl rfl) ?_ | refine wl_value rfl (ex_l1 hS rfl rfl rfl rfl) ?_ | refine wl_value rfl (ex_ldC hS rfl rfl rfl) ?_ | refine wl_value rfl (ex_l00 hS rfl rfl CellAt.out) ?_ | refine wl_value rfl (ex_l00 hS rfl rfl rfl) ?_ | refine wl_value rfl (ex_l0f hS rfl rfl CellAt.out) ?_ | refine wl_value rfl (ex_l0f hS rfl rfl rfl) ?_ | refine wl_value rfl (ex_lr hS rfl rfl rfl rfl) ?_ | refine wl_value rfl (ex_lr0 hS rfl rfl rfl) ?_ | refine wl_value rfl (ex_lrz hS rfl rfl rfl) ?_ | refine wl_value rfl (ex_lrf hS rfl rfl rfl) ?_ | refine wl_value rfl (ex_ldrC hS rfl rfl) ?_ | refine wl_value rfl (ex_ldr0 hS rfl rfl rfl) ?_); (try simp only [Act.put, List.setIfInBounds_toArray, List.set_cons_zero, List.set_cons_succ]))) | ((first | refine wl_value rfl (ex_ix hS rfl rfl rfl ?_) ?_); (focus (first | rfl | omega | (simp; done))); (try simp only [Act.put, List.setIfInBounds_toArray, List.set_cons_zero, List.set_cons_succ])) | ((first | refine wl_value rfl (ex_eqA rfl rfl rfl) ?_ | refine wl_value rfl (ex_neA rfl rfl rfl) ?_); (try simp only [Act.put, List.setIfInBounds_toArray, List.set_cons_zero, List.set_cons_succ])) | (refine wl_alloc rfl rfl hS ?_; intro _ _ hS; (try simp only [Act.put, List.setIfInBounds_toArray, List.set_cons_zero, List.set_cons_succ])) | (refine wl_box rfl rfl rfl rfl hS ?_; intro _ _ hS; (try simp only [Act.put, List.setIfInBounds_toArray, List.set_cons_zero, List.set_cons_succ])) | (refine wl_st rfl rfl rfl rfl rfl hS (of_decide_eq_true rfl) ?_; intro _ hS; (try simp only [evT, evC, List.getD_cons_succ, List.getD_cons_zero, List.set_cons_zero, List.set_cons_succ] at hS); (try simp only [List.set_cons_zero, List.set_cons_succ] at hS); (try simp only [Act.put, List.setIfInBounds_toArray, List.set_cons_zero, List.set_cons_succ])) | (refine wl_strC rfl rfl rfl rfl hS rfl rfl ?_; intro _ hS; (try simp only [evT, evC, List.getD_cons_succ, List.getD_cons_zero, List.set_cons_zero, List.set_cons_succ] at hS); (try simp only [Act.put, List.setIfInBounds_toArray, List.set_cons_zero, List.set_cons_succ])))
              exact ⟨(⟨i + 1, A4, out, cap4⟩ : RsSt), ⟨_, hlt, H1.out, (by dsimp only; omega), hO, hS.to⟩, (by dsimp only; omega), rfl, (by (simp only [blankT, junkT, List.cons_append, List.nil_append, List.setIfInBounds_toArray, List.set_cons_zero, List.set_cons_succ])), rfl⟩
            | false =>
              rw [hb] at lb
              have H1 := Lib.hid (show out ++ [x] = (t.take (i + 1)).filter (leftB p) by rw [Hou.out, Htk.out, List.filter_append]; simp [leftB, hb, he])
              clear hb he
              go_wp2_with (first | (go_at_call 35; refine ((lb _ _ hS)).mono ?_; rintro e w' (⟨rfl, hS⟩)) | (refine wl_buildSlice (E := enE) [x] rfl rfl (by simp only [List.map_toArray, List.map_cons, List.map_nil]; rfl) rfl (by decide) (by decide) hS ?_; intro _ _ hS hN; (try simp only [Act.put, List.setIfInBounds_toArray, List.set_cons_zero, List.set_cons_succ])) | (refine wl_ap (E := enE) rfl rfl rfl rfl hS ?_ ?_ ?_ ?_ ?_; (focus (first | rfl | omega)); (focus (first | rfl | omega)); (focus ((simp only [List.length_cons, List.length_nil]; omega))); (focus decide); intro _ _ _ _ hO6 hS; (try simp only [Act.put, List.setIfInBounds_toArray, List.set_cons_zero, List.set_cons_succ])) | (refine wl_isld rfl ?_; ((first | refine wl_value rfl (ex_l0 hS rfl rfl rfl CellAt.out) ?_ | refine wl_value rfl (ex_lf hS rfl rfl rfl CellAt.out) ?_ | refine wl_value rfl (ex_l1 hS rfl rfl rfl CellAt.out) ?_ | refine wl_value rfl (ex_ldC hS rfl rfl CellAt.out) ?_ | refine wl_value rfl (ex_l0 hS rfl rfl rfl rfl) ?_ | refine wl_value rfl (ex_lf hS rfl rfl rfl rfl) ?_ | refine wl_value rfl (ex_l1 hS rfl rfl rfl rfl) ?_ | refine wl_value rfl (ex_ldC hS rfl rfl rfl) ?_ | refine wl_value rfl (ex_l00 hS rfl rfl CellAt.out) ?_ | refine wl_value rfl (ex_l00 hS rfl rfl rfl) ?_ | refine wl_value rfl (ex_l0f hS rfl rfl CellAt.out) ?_ | refine wl_value rfl (ex_l0f hS rfl rfl rfl) ?_ | refine wl_value rfl (ex_lr hS rfl rfl rfl rfl) ?_ | refine wl_value rfl (ex_lr0 hS rfl rfl rfl) ?_ | refine wl_value rfl (ex_lrz hS rfl rfl rfl) ?_ | refine wl_value rfl (ex_lrf hS rfl rfl rfl) ?_ | refine wl_value rfl (ex_ldrC hS rfl rfl) ?_ | refine wl_value rfl (ex_ldr0 hS rfl rfl rfl) ?_); (try simp only [Act.put, List.setIfInBounds_toArray, List.set_cons_zero, List.set_cons_succ]))) | ((first | refine wl_value rfl (ex_ix hS rfl rfl rfl ?_) ?_); (focus (first | rfl | omega | (simp; done))); (try simp only [Act.put, List.setIfInBounds_toArray, List.set_cons_zero, List.set_cons_succ])) | ((first | refine wl_value rfl (ex_eqA rfl rfl rfl) ?_ | refine wl_value rfl (ex_neA rfl rfl rfl) ?_); (try simp only [Act.put, List.setIfInBounds_toArray, List.set_cons_zero, List.set_cons_succ])) | (refine wl_alloc rfl rfl hS ?_; intro _ _ hS; (try simp only [Act.put, List.setIfInBounds_toArray, List.set_cons_zero, List.set_cons_succ])) | (refine wl_box rfl rfl rfl rfl hS ?_; intro _ _ hS; (try simp only [Act.put, List.setIfInBounds_toArray, List.set_cons_zero, List.set_cons_succ])) | (refine wl_st rfl rfl rfl rfl rfl hS (of_decide_eq_true rfl) ?_; intro _ hS; (try simp only [evT, evC, List.getD_cons_succ, List.getD_cons_zero, List.set_cons_zero, List.set_cons_succ] at hS); (try simp only [List.set_cons_zero, List.set_cons_succ] at hS); (try simp only [Act.put, List.setIfInBounds_toArray, List.set_cons_zero, List.set_cons_succ])) | (refine wl_strC rfl rfl rfl rfl hS rfl rfl ?_; intro _ hS; (try simp only [evT, evC, List.getD_cons_succ, List.getD_cons_zero, List.set_cons_zero, List.set_cons_succ] at hS); (try simp only [Act.put, List.setIfInBounds_toArray, List.set_cons_zero, List.set_cons_succ])))
              exact ⟨(⟨i + 1, _, out ++ [x], _⟩ : RsSt), ⟨_, hlt, H1.out, (by dsimp only; rw [List.length_append]; simp; omega), hO6, hS.to⟩, (by dsimp only; omega), (by dsimp only; rw [List.length_append]; rfl), (by (simp only [blankT, junkT, List.cons_append, List.nil_append, List.setIfInBounds_toArray, List.set_cons_zero, List.set_cons_succ])), rfl⟩
        · have H1 := Lib.hid (show removeR t p = (out, 0) by rw [Hr.out, Hou.out, List.take_of_length_le (by omega)])
          go_wp2_with (first | (refine wl_isld rfl ?_; ((first | refine wl_value rfl (ex_l0 hS rfl rfl rfl CellAt.out) ?_ | refine wl_value rfl (ex_lf hS rfl rfl rfl CellAt.out) ?_ | refine wl_value rfl (ex_l1 hS rfl rfl rfl CellAt.out) ?_ | refine wl_value rfl (ex_ldC hS rfl rfl CellAt.out) ?_ | refine wl_value rfl (ex_l0 hS rfl rfl rfl rfl) ?_ | refine wl_value rfl (ex_lf hS rfl rfl rfl rfl) ?_ | refine wl_value rfl (ex_l1 hS rfl rfl rfl rfl) ?_ | refine wl_value rfl (ex_ldC hS rfl rfl rfl) ?_ | refine wl_value rfl (ex_l00 hS rfl rfl CellAt.out) ?_ | refine wl_value rfl (ex_l00 hS rfl rfl rfl) ?_ | refine wl_value rfl (ex_l0f hS rfl rfl CellAt.out) ?_ | refine wl_value rfl (ex_l0f hS rfl rfl rfl) ?_ | refine wl_value rfl (ex_lr hS rfl rfl rfl rfl) ?_ | refine wl_value rfl (ex_lr0 hS rfl rfl rfl) ?_ | refine wl_value rfl (ex_lrz hS rfl rfl rfl) ?_ | refine wl_value rfl (ex_lrf hS rfl rfl rfl) ?_ | refine wl_value rfl (ex_ldrC hS rfl rfl) ?_ | refine wl_value rfl (ex_ldr0 hS rfl rfl rfl) ?_); (try simp only [Act.put, List.setIfInBounds_toArray, List.set_cons_zero, List.set_cons_succ]))) | ((first | refine wl_value rfl (ex_ix hS rfl rfl rfl ?_) ?_); (focus (first | rfl | omega | (simp; done))); (try simp only [Act.put, List.setIfInBounds_toArray, List.set_cons_zero, List.set_cons_succ])) | ((first | refine wl_value rfl (ex_eqA rfl rfl rfl) ?_ | refine wl_value rfl (ex_neA rfl rfl rfl) ?_); (try simp only [Act.put, List.setIfInBounds_toArray, List.set_cons_zero, List.set_cons_succ])) | (refine wl_alloc rfl rfl hS ?_; intro _ _ hS; (try simp only [Act.put, List.setIfInBounds_toArray, List.set_cons_zero, List.set_cons_succ])) | (refine wl_box rfl rfl rfl rfl hS ?_; intro _ _ hS; (try simp only [Act.put, List.setIfInBounds_toArray, List.set_cons_zero, List.set_cons_succ])) | (refine wl_st rfl rfl rfl rfl rfl hS (of_decide_eq_true rfl) ?_; intro _ hS; (try simp only [evT, evC, List.getD_cons_succ, List.getD_cons_zero, List.set_cons_zero, List.set_cons_succ] at hS); (try simp only [List.set_cons_zero, List.set_cons_succ] at hS); (try simp only [Act.put, List.setIfInBounds_toArray, List.set_cons_zero, List.set_cons_succ])) | (refine wl_strC rfl rfl rfl rfl hS rfl rfl ?_; intro _ hS; (try simp only [evT, evC, List.getD_cons_succ, List.getD_cons_zero, List.set_cons_zero, List.set_cons_succ] at hS); (try simp only [Act.put, List.setIfInBounds_toArray, List.set_cons_zero, List.set_cons_succ])))
          go_ret2
          rw [H1.out]
          exact ⟨_, _, _, rfl, hO, hS.to⟩
  · have Hr := Lib.hid (show removeR t p = ([], (checkA t).2) by unfold removeR; rw [if_neg ha])
    obtain ⟨v, hv⟩ : ∃ v, checkA t = v := ⟨_, rfl⟩
    rw [hv] at l1 ha Hr
    have d2 : (v.2 == 0) = false := beq_no ha
    have d3 : (v.2 != 0) = true := bne_no ha
    clear ha hv
    go_enter Tryz.func15, Tryz.ntmps15
    go_wp2_with (first | (go_at_call 31; refine ((l1 _ _ hS inferInstance)).mono ?_; rintro e w' (⟨rfl, hS⟩)) | (refine wl_isld rfl ?_; ((first | refine wl_value rfl (ex_l0 hS rfl rfl rfl CellAt.out) ?_ | refine wl_value rfl (ex_lf hS rfl rfl rfl CellAt.out) ?_ | refine wl_value rfl (ex_l1 hS rfl rfl rfl CellAt.out) ?_ | refine wl_value rfl (ex_ldC hS rfl rfl CellAt.out) ?_ | refine wl_value rfl (ex_l0 hS rfl rfl rfl rfl) ?_ | refine wl_value rfl (ex_lf hS rfl rfl rfl rfl) ?_ | refine wl_value rfl (ex_l1 hS rfl rfl rfl rfl) ?_ | refine wl_value rfl (ex_ldC hS rfl rfl rfl) ?_ | refine wl_value rfl (ex_l00 hS rfl rfl CellAt.out) ?_ | refine wl_value rfl (ex_l00 hS rfl rfl rfl) ?_ | refine wl_value rfl (ex_l0f hS rfl rfl CellAt.out) ?_ | refine wl_value rfl (ex_l0f hS rfl rfl rfl) ?_ | refine wl_value rfl (ex_lr hS rfl rfl rfl rfl) ?_ | refine wl_value rfl (ex_lr0 hS rfl rfl rfl) ?_ | refine wl_value rfl (ex_lrz hS rfl rfl rfl) ?_ | refine wl_value rfl (ex_lrf hS rfl rfl rfl) ?_ | refine wl_value rfl (ex_ldrC hS rfl rfl) ?_ | refine wl_value rfl (ex_ldr0 hS rfl rfl rfl) ?_); (try simp only [Act.put, List.setIfInBounds_toArray, List.set_cons_zero, List.set_cons_succ]))) | ((first | refine wl_value rfl (ex_ix hS rfl rfl rfl ?_) ?_); (focus (first | rfl | omega | (simp; done))); (try simp only [Act.put, List.setIfInBounds_toArray, List.set_cons_zero, List.set_cons_succ])) | ((first | refine wl_value rfl (ex_eqA rfl rfl rfl) ?_ | refine wl_value rfl (ex_neA rfl rfl rfl) ?_); (try simp only [Act.put, List.setIfInBounds_toArray, List.set_cons_zero, List.set_cons_succ])) | (refine wl_alloc rfl rfl hS ?_; intro _ _ hS; (try simp only [Act.put, List.setIfInBounds_toArray, List.set_cons_zero, List.set_cons_succ])) | (refine wl_box rfl rfl rfl rfl hS ?_; intro _ _ hS; (try simp only [Act.put, List.setIfInBounds_toArray, List.set_cons_zero, List.set_cons_succ])) | (refine wl_st rfl rfl rfl rfl rfl hS (of_decide_eq_true rfl) ?_; intro _ hS; (try simp only [evT, evC, List.getD_cons_succ, List.getD_cons_zero, List.set_cons_zero, List.set_cons_succ] at hS); (try simp only [List.set_cons_zero, List.set_cons_succ] at hS); (try simp only [Act.put, List.setIfInBounds_toArray, List.set_cons_zero, List.set_cons_succ])) | (refine wl_strC rfl rfl rfl rfl hS rfl rfl ?_; intro _ hS; (try simp only [evT, evC, List.getD_cons_succ, List.getD_cons_zero, List.set_cons_zero, List.set_cons_succ] at hS); (try simp only [Act.put, List.setIfInBounds_toArray, List.set_cons_zero, List.set_cons_succ])))
    go_ret2
    rw [Hr.out]
    exact .bad hS.to
end
end Go.Tk

set_option linter.unusedSectionVars false
set_option linter.unusedSimpArgs false
set_option linter.unusedVariables false
namespace Go.Tk
open Go.RowKit Go.Proofs
section
variable {B : Base} {R H H1 : HL} {w w' : World}
def keepB (dir : ByteArray) (x : En) : Bool := !belowT dir x.path
def KpI (B : Base) (R : HL) (dir : ByteArray) (t : List En) (x : RsSt) (w : World) : Prop :=
  ∃ sp, x.i ≤ t.length ∧ x.out = ((t.take x.i).filter (keepB dir)) ∧ x.out.length ≤ x.i ∧ OwnSl enE x.A x.out sp x.cap ∧ Sh B (rowA x.A (flat enE x.out ++ sp) 24 ++ R) w
set_option maxRecDepth 100000 in
set_option maxHeartbeats 6400000 in
theorem RGraft_any [HasML B] [NoDraw B] (hS : Sh B R w) {A A' : Option Addr} {cap cap' : Nat} {t s : List En} [r : RdAt enE B R A t] [r' : RdAt enE B R A' s] (hc : t.length ≤ cap) (hc' : s.length ≤ cap') (hl : t.length ≤ 2000000) (hl' : s.length ≤ 2000000) (hsm : SmallE t) (hss : SmallE s) (dir : ByteArray) (hdir : dir.size ≤ 1048576) (hsp : ∀ e ∈ s, e.path.size ≤ 1048576) :
    Calls Tryz.prog 11 #[.slice A t.length cap, .string dir, .slice A' s.length cap'] w (ApplyP B R (graftR t dir s)) := by
  have l1 := fun (w : World) (H : HL) (hS : Sh B H w) (r : RdAt enE B H A t) => CheckR_any hS (A := A) (cap := cap) (t := t) (r := r) hc (by omega) hsm
  rw [← checks_same] at l1
  have l2 := fun (w : World) (H : HL) (hS : Sh B H w) (r : RdAt enE B H A' s) => CheckR_any hS (A := A') (cap := cap') (t := s) (r := r) hc' (by omega) hss
  rw [← checks_same] at l2
  have l3 := fun (w : World) (H : HL) (hS : Sh B H w) (r : RdAt enE B H A t) => WhereR_any hS (cap := cap) (r := r) (by omega) dir (by omega)
  by_cases ha : (checkA t).2 = 0
  · obtain ⟨hca, hT⟩ := right_of ha
    rw [hca] at l1
    by_cases hb : (checkA s).2 = 0
    · obtain ⟨hcb, hT2⟩ := right_of hb
      rw [hcb] at l2
      by_cases hw : whereI t dir = 0
      · rw [hw] at l3
        have hfew := hT.few
        have hfew2 := hT2.few
        have hd := whereI_ok hw
        obtain ⟨X, hX⟩ : ∃ X, graftR t dir s = X := ⟨_, rfl⟩
        rw [hX]
        unfold graftR at hX
        rw [if_pos ha, if_pos hb, if_pos hw] at hX
        obtain ⟨k, hk⟩ : ∃ k, keptL dir t = k := ⟨_, rfl⟩
        have hkl : k.length ≤ t.length := by rw [← hk]; exact List.length_filter_le ..
        have hkok : ∀ e ∈ k, okP e.path = true ∧ e.path.size ≤ 16777216 ∧ e.data.size ≤ 16777216 := fun e he => by
          rw [← hk] at he
          have h1 := (List.mem_filter.1 he).1
          exact ⟨(mayB_ok (hT.may e h1)).1, hsm e h1⟩
        have hu2 := fun out (h1 : out = keptL dir t ++ s.map (putE dir)) h2 ys h3 h4 => graft_hu hd out h1 h2 ys h3 h4 ha hb
        rw [hk] at hX hu2
        have hk' : t.filter (keepB dir) = k := by rw [← hk, kept_ref hT hd]; rfl
        have HX := Lib.hid hX
        have Hu := Lib.hid hu2
        have Hk := Lib.hid hk'
        have Hkok := Lib.hid hkok
        have Hsp := Lib.hid hsp
        have Hss := Lib.hid hss
        have Hsm := Lib.hid hsm
        clear ha hb hw hT hT2 hX hk hk' hu2 hkok hsp hss hsm hca hcb
        go_enter Tryz.func11, Tryz.ntmps11
        go_upto_region 3 with ((go_at_call 31; refine ((l1 _ _ hS inferInstance)).mono ?_; rintro e w' (⟨rfl, hS⟩)))
        clear l1
        go_upto_region 8 with (first | (go_at_call 31; refine ((l2 _ _ hS inferInstance)).mono ?_; rintro e w' (⟨rfl, hS⟩)) | (go_at_call 34; refine ((l3 _ _ hS inferInstance)).mono ?_; rintro e w' (⟨rfl, hS⟩)))
        clear l2 l3
        go_upto_region 10 with (fail)
        have h0 : KpI B R dir t ⟨0, none, [], 0⟩ _ := ⟨[], Nat.zero_le _, rfl, Nat.le_refl _, OwnSl.nothing, hS⟩
        clear hS
        refine wp_loopS [10, 11] [34, 35, 36, 37, 38, 39, 40, 41, 42, 43, 44, 45, 46, 47, 48, 49, 50, 51, 52, 53, 54] (fun x : RsSt => [.slice x.A x.out.length x.cap, .int .i64 x.i]) (KpI B R dir t) (fun x => t.length - x.i) (⟨0, none, [], 0⟩) rfl (h0) ?_
        clear h0
        rintro ⟨i, A4, out, cap4⟩ J w ⟨sp4, hi, hou, hlo, hO, hS⟩
        dsimp only at hi hou hlo hO hS
        have Hou := Lib.hid hou
        clear hou
        (simp only [Frm, setsT, junkT, List.setIfInBounds_toArray, List.set_cons_zero, List.set_cons_succ])
        by_cases hlt : i < t.length
        · obtain ⟨x, gx⟩ := Nth.of hlt
          have hxz := (Hsm.out x gx.mem).1
          have Htk := Lib.hid gx.take
          have lb := fun (w : World) (H : HL) (hS : Sh B H w) => BelowR_any hS dir x.path (by omega) hxz
          cases hb : belowT dir x.path with
          | true =>
            rw [hb] at lb
            have H1 := Lib.hid (show out = (t.take (i + 1)).filter (keepB dir) by rw [Hou.out, Htk.out, List.filter_append]; simp [keepB, hb])
            clear hb
            go_wp2_with (first | (go_at_call 35; refine ((lb _ _ hS)).mono ?_; rintro e w' (⟨rfl, hS⟩)) | (refine wl_isld rfl ?_; ((refine wl_value rfl (ex_l0 hS rfl rfl rfl CellAt.out) ?_); (try simp only [Act.put, List.setIfInBounds_toArray, List.set_cons_zero, List.set_cons_succ]))) | ((refine wl_value rfl (ex_ix hS rfl rfl rfl ?_) ?_); (focus (rfl)); (try simp only [Act.put, List.setIfInBounds_toArray, List.set_cons_zero, List.set_cons_succ])))
            exact ⟨(⟨i + 1, A4, out, cap4⟩ : RsSt), ⟨_, hlt, H1.out, (by dsimp only; omega), hO, hS.to⟩, (by dsimp only; omega), rfl, (by (simp only [blankT, junkT, List.cons_append, List.nil_append, List.setIfInBounds_toArray, List.set_cons_zero, List.set_cons_succ])), rfl⟩
          | false =>
            rw [hb] at lb
            have H1 := Lib.hid (show out ++ [x] = (t.take (i + 1)).filter (keepB dir) by rw [Hou.out, Htk.out, List.filter_append]; simp [keepB, hb])
            clear hb
            go_wp2_with (first | (go_at_call 35; refine ((lb _ _ hS)).mono ?_; rintro e w' (⟨rfl, hS⟩)) | (refine wl_buildSlice (E := enE) [x] rfl rfl (by simp only [List.map_toArray, List.map_cons, List.map_nil]; rfl) rfl (by decide) (by decide) hS ?_; intro _ _ hS hN; (try simp only [Act.put, List.setIfInBounds_toArray, List.set_cons_zero, List.set_cons_succ])) | (refine wl_ap (E := enE) rfl rfl rfl rfl hS ?_ ?_ ?_ ?_ ?_; (focus (rfl)); (focus (rfl)); (focus ((simp only [List.length_cons, List.length_nil]; omega))); (focus decide); intro _ _ _ _ hO6 hS; (try simp only [Act.put, List.setIfInBounds_toArray, List.set_cons_zero, List.set_cons_succ])) | (refine wl_isld rfl ?_; ((first | refine wl_value rfl (ex_l0 hS rfl rfl rfl CellAt.out) ?_ | refine wl_value rfl (ex_lr hS rfl rfl rfl rfl) ?_); (try simp only [Act.put, List.setIfInBounds_toArray, List.set_cons_zero, List.set_cons_succ]))) | ((refine wl_value rfl (ex_ix hS rfl rfl rfl ?_) ?_); (focus (rfl)); (try simp only [Act.put, List.setIfInBounds_toArray, List.set_cons_zero, List.set_cons_succ])))
            exact ⟨(⟨i + 1, _, out ++ [x], _⟩ : RsSt), ⟨_, hlt, H1.out, (by dsimp only; rw [List.length_append]; simp; omega), hO6, hS.to⟩, (by dsimp only; omega), (by dsimp only; rw [List.length_append]; rfl), (by (simp only [blankT, junkT, List.cons_append, List.nil_append, List.setIfInBounds_toArray, List.set_cons_zero, List.set_cons_succ])), rfl⟩
        · have H1 := Lib.hid (show out = k by rw [Hou.out, List.take_of_length_le (by omega), Hk.out])
          clear Hou
          have h1 := H1.out
          clear H1
          subst h1
          go_upto_region 15 with (fail)
          have h0 : GrI B R dir out s ⟨0, A4, out, cap4⟩ _ := ⟨sp4, Nat.zero_le _, by simp, by simp, hO, hS⟩
          clear hS hO
          refine wp_loopS [10, 12] [6, 7, 13, 55, 56, 57, 58, 59, 60, 61, 62, 63, 64, 65, 66, 67, 68, 69, 70, 71, 72, 73, 74, 75, 76, 77, 78, 79, 80] (fun x : GrSt => [.slice x.A x.out.length x.cap, .int .i64 x.i]) (GrI B R dir out s) (fun x => s.length - x.i) (⟨0, A4, out, cap4⟩) rfl (h0) ?_
          clear h0
          rintro ⟨j, A5, o2, cap5⟩ J5 w ⟨sp5, hj, hou, hall, hO, hS⟩
          dsimp only at hj hou hall hO hS
          have hol : o2.length ≤ 2048 := by rw [hou, List.length_append, List.length_map, List.length_take]; omega
          have Hou := Lib.hid hou
          have Hall := Lib.hid hall
          clear hou hall
          (simp only [Frm, setsT, junkT, List.setIfInBounds_toArray, List.set_cons_zero, List.set_cons_succ])
          by_cases hlt2 : j < s.length
          · obtain ⟨x, gx⟩ := Nth.of hlt2
            have Htk := Lib.hid gx.take
            have hxz := Hsp.out x gx.mem
            by_cases hz : dir.size = 0
            · have hde : dir.toList = [] := (empty_prop dir).2 hz
              have d1 : dir.toList.isEmpty = true := by rw [hde]; rfl
              have hpe : putE dir x = x := by unfold putE putP; rw [if_pos hz]
              have lc := fun (w : World) (H : HL) (hS : Sh B H w) => PathR_any hS x.path (by omega)
              by_cases hok : okP x.path = true
              · rw [hok] at lc
                have H1 := Lib.hid (show o2 ++ [x] = out ++ (s.take (j + 1)).map (putE dir) by rw [Hou.out, Htk.out, List.map_append, List.append_assoc]; simp [hpe])
                have H2 := Lib.hid (show ((s.take (j + 1)).map (putE dir)).all (fun e => okP e.path) = true by
                  rw [Htk.out, List.map_append, List.all_append, Hall.out]; simp [hpe, hok])
                clear hz hpe hok
                go_wp2_with (first | (refine wl_alloc rfl rfl hS ?_; intro eb _ hS; (try simp only [Act.put, List.setIfInBounds_toArray, List.set_cons_zero, List.set_cons_succ])) | (go_at_call 36; refine ((lc _ _ hS)).mono ?_; rintro e w' (⟨rfl, hS⟩)) | (refine wl_buildSlice (E := enE) [x] rfl rfl (by simp only [List.map_toArray, List.map_cons, List.map_nil]; rfl) rfl (by decide) (by decide) hS ?_; intro _ _ hS hN; (try simp only [Act.put, List.setIfInBounds_toArray, List.set_cons_zero, List.set_cons_succ])) | (refine wl_ap (E := enE) rfl rfl rfl rfl hS ?_ ?_ ?_ ?_ ?_; (focus (rfl)); (focus (rfl)); (focus ((simp only [List.length_cons, List.length_nil]; omega))); (focus decide); intro _ _ _ _ hO6 hS; (try simp only [Act.put, List.setIfInBounds_toArray, List.set_cons_zero, List.set_cons_succ])) | (refine wl_isld rfl ?_; ((first | refine wl_value rfl (ex_ldC hS rfl rfl CellAt.out) ?_ | refine wl_value rfl (ex_lr hS rfl rfl rfl rfl) ?_ | refine wl_value rfl (ex_ldr0 hS rfl rfl rfl) ?_); (try simp only [Act.put, List.setIfInBounds_toArray, List.set_cons_zero, List.set_cons_succ]))) | ((refine wl_value rfl (ex_ix hS rfl rfl rfl ?_) ?_); (focus (rfl)); (try simp only [Act.put, List.setIfInBounds_toArray, List.set_cons_zero, List.set_cons_succ])) | (refine wl_strC rfl rfl rfl rfl hS rfl rfl ?_; intro _ hS; (try simp only [evT, evC, List.getD_cons_succ, List.getD_cons_zero, List.set_cons_zero, List.set_cons_succ] at hS); (try simp only [Act.put, List.setIfInBounds_toArray, List.set_cons_zero, List.set_cons_succ])))
                exact ⟨(⟨j + 1, _, o2 ++ [x], _⟩ : GrSt), ⟨_, hlt2, H1.out, H2.out, hO6, hS.to⟩, (by dsimp only; omega), (by dsimp only; rw [List.length_append]; rfl), (by (simp only [blankT, junkT, List.cons_append, List.nil_append, List.setIfInBounds_toArray, List.set_cons_zero, List.set_cons_succ])), rfl⟩
              · have Hx := Lib.hid (show X = ([], 44) by
                  rw [← HX.out, if_neg]
                  intro h
                  rw [List.all_eq_true] at h
                  have h1 := h (putE dir x) (List.mem_map_of_mem gx.mem)
                  rw [hpe] at h1
                  exact hok h1)
                rw [Bool.not_eq_true] at hok
                rw [hok] at lc
                clear hz hpe hok
                go_wp2_with (first | (refine wl_alloc rfl rfl hS ?_; intro eb _ hS; (try simp only [Act.put, List.setIfInBounds_toArray, List.set_cons_zero, List.set_cons_succ])) | (go_at_call 36; refine ((lc _ _ hS)).mono ?_; rintro e w' (⟨rfl, hS⟩)) | (refine wl_isld rfl ?_; ((first | refine wl_value rfl (ex_ldC hS rfl rfl CellAt.out) ?_ | refine wl_value rfl (ex_lr hS rfl rfl rfl rfl) ?_); (try simp only [Act.put, List.setIfInBounds_toArray, List.set_cons_zero, List.set_cons_succ]))) | ((refine wl_value rfl (ex_ix hS rfl rfl rfl ?_) ?_); (focus (rfl)); (try simp only [Act.put, List.setIfInBounds_toArray, List.set_cons_zero, List.set_cons_succ])) | (refine wl_strC rfl rfl rfl rfl hS rfl rfl ?_; intro _ hS; (try simp only [evT, evC, List.getD_cons_succ, List.getD_cons_zero, List.set_cons_zero, List.set_cons_succ] at hS); (try simp only [Act.put, List.setIfInBounds_toArray, List.set_cons_zero, List.set_cons_succ])))
                go_ret2
                rw [Hx.out]
                exact .bad hS.to
            · have hde : ¬ dir.toList = [] := fun h => hz ((empty_prop dir).1 h)
              have d1 : dir.toList.isEmpty = false := by rw [empty_iff]; exact decide_eq_false hz
              have hpe : putE dir x = (⟨dir ++ slash ++ x.path, x.kind, x.data⟩ : En) := by unfold putE putP; rw [if_neg hz]
              have hps : (dir ++ slash ++ x.path).size ≤ 16777216 := by
                rw [ByteArray.size_append, ByteArray.size_append]
                have : slash.size = 1 := rfl
                omega
              have lc := fun (w : World) (H : HL) (hS : Sh B H w) => PathR_any hS (dir ++ slash ++ x.path) hps
              by_cases hok : okP (⟨dir ++ slash ++ x.path, x.kind, x.data⟩ : En).path = true
              · rw [hok] at lc
                have H1 := Lib.hid (show o2 ++ [(⟨dir ++ slash ++ x.path, x.kind, x.data⟩ : En)] = out ++ (s.take (j + 1)).map (putE dir) by rw [Hou.out, Htk.out, List.map_append, List.append_assoc]; simp [hpe])
                have H2 := Lib.hid (show ((s.take (j + 1)).map (putE dir)).all (fun e => okP e.path) = true by
                  rw [Htk.out, List.map_append, List.all_append, Hall.out]; simp [hpe, hok])
                clear hz hpe hok
                go_upto_region 18 with (first | (refine wl_alloc rfl rfl hS ?_; intro eb _ hS; (try simp only [Act.put, List.setIfInBounds_toArray, List.set_cons_zero, List.set_cons_succ])) | (refine wl_isld rfl ?_; ((refine wl_value rfl (ex_lr hS rfl rfl rfl rfl) ?_); (try simp only [Act.put, List.setIfInBounds_toArray, List.set_cons_zero, List.set_cons_succ]))) | ((refine wl_value rfl (ex_ix hS rfl rfl rfl ?_) ?_); (focus (rfl)); (try simp only [Act.put, List.setIfInBounds_toArray, List.set_cons_zero, List.set_cons_succ])) | (refine wl_strC rfl rfl rfl rfl hS rfl rfl ?_; intro _ hS; (try simp only [evT, evC, List.getD_cons_succ, List.getD_cons_zero, List.set_cons_zero, List.set_cons_succ] at hS); (try simp only [Act.put, List.setIfInBounds_toArray, List.set_cons_zero, List.set_cons_succ])))
                go_upto_region 20 with (first | (refine wl_isld rfl ?_; ((refine wl_value rfl (ex_ldC hS rfl rfl CellAt.out) ?_); (try simp only [Act.put, List.setIfInBounds_toArray, List.set_cons_zero, List.set_cons_succ]))) | (refine wl_st rfl rfl rfl rfl rfl hS (of_decide_eq_true rfl) ?_; intro _ hS; (try simp only [evT, evC, List.getD_cons_succ, List.getD_cons_zero, List.set_cons_zero, List.set_cons_succ] at hS); (try simp only [List.set_cons_zero, List.set_cons_succ] at hS); (try simp only [Act.put, List.setIfInBounds_toArray, List.set_cons_zero, List.set_cons_succ])))
                have hS : Sh B (cellB eb (⟨dir ++ slash ++ x.path, x.kind, x.data⟩ : En).cells 24 ++ (rowA A5 (flat enE o2 ++ sp5) 24 ++ R)) _ := hS
                go_wp2_with (first | (go_at_call 36; refine ((lc _ _ hS)).mono ?_; rintro e w' (⟨rfl, hS⟩)) | (refine wl_buildSlice (E := enE) ([(⟨dir ++ slash ++ x.path, x.kind, x.data⟩ : En)]) rfl rfl (by simp only [List.map_toArray, List.map_cons, List.map_nil]; rfl) rfl (by decide) (by decide) hS ?_; intro _ _ hS hN; (try simp only [Act.put, List.setIfInBounds_toArray, List.set_cons_zero, List.set_cons_succ])) | (refine wl_ap (E := enE) rfl rfl rfl rfl hS ?_ ?_ ?_ ?_ ?_; (focus (rfl)); (focus (rfl)); (focus ((simp only [List.length_cons, List.length_nil]; omega))); (focus decide); intro _ _ _ _ hO6 hS; (try simp only [Act.put, List.setIfInBounds_toArray, List.set_cons_zero, List.set_cons_succ])) | (refine wl_isld rfl ?_; ((first | refine wl_value rfl (ex_ldC hS rfl rfl CellAt.out) ?_ | refine wl_value rfl (ex_ldr0 hS rfl rfl rfl) ?_); (try simp only [Act.put, List.setIfInBounds_toArray, List.set_cons_zero, List.set_cons_succ]))))
                exact ⟨(⟨j + 1, _, o2 ++ [(⟨dir ++ slash ++ x.path, x.kind, x.data⟩ : En)], _⟩ : GrSt), ⟨_, hlt2, H1.out, H2.out, hO6, hS.to⟩, (by dsimp only; omega), (by dsimp only; rw [List.length_append]; rfl), (by (simp only [blankT, junkT, List.cons_append, List.nil_append, List.setIfInBounds_toArray, List.set_cons_zero, List.set_cons_succ])), rfl⟩
              · have Hx := Lib.hid (show X = ([], 44) by
                  rw [← HX.out, if_neg]
                  intro h
                  rw [List.all_eq_true] at h
                  have h1 := h (putE dir x) (List.mem_map_of_mem gx.mem)
                  rw [hpe] at h1
                  exact hok h1)
                rw [Bool.not_eq_true] at hok
                rw [hok] at lc
                clear hz hpe hok
                go_upto_region 18 with (first | (refine wl_alloc rfl rfl hS ?_; intro eb _ hS; (try simp only [Act.put, List.setIfInBounds_toArray, List.set_cons_zero, List.set_cons_succ])) | (refine wl_isld rfl ?_; ((refine wl_value rfl (ex_lr hS rfl rfl rfl rfl) ?_); (try simp only [Act.put, List.setIfInBounds_toArray, List.set_cons_zero, List.set_cons_succ]))) | ((refine wl_value rfl (ex_ix hS rfl rfl rfl ?_) ?_); (focus (rfl)); (try simp only [Act.put, List.setIfInBounds_toArray, List.set_cons_zero, List.set_cons_succ])) | (refine wl_strC rfl rfl rfl rfl hS rfl rfl ?_; intro _ hS; (try simp only [evT, evC, List.getD_cons_succ, List.getD_cons_zero, List.set_cons_zero, List.set_cons_succ] at hS); (try simp only [Act.put, List.setIfInBounds_toArray, List.set_cons_zero, List.set_cons_succ])))
                go_upto_region 20 with (first | (refine wl_isld rfl ?_; ((refine wl_value rfl (ex_ldC hS rfl rfl CellAt.out) ?_); (try simp only [Act.put, List.setIfInBounds_toArray, List.set_cons_zero, List.set_cons_succ]))) | (refine wl_st rfl rfl rfl rfl rfl hS (of_decide_eq_true rfl) ?_; intro _ hS; (try simp only [evT, evC, List.getD_cons_succ, List.getD_cons_zero, List.set_cons_zero, List.set_cons_succ] at hS); (try simp only [List.set_cons_zero, List.set_cons_succ] at hS); (try simp only [Act.put, List.setIfInBounds_toArray, List.set_cons_zero, List.set_cons_succ])))
                have hS : Sh B (cellB eb (⟨dir ++ slash ++ x.path, x.kind, x.data⟩ : En).cells 24 ++ (rowA A5 (flat enE o2 ++ sp5) 24 ++ R)) _ := hS
                go_wp2_with (first | (go_at_call 36; refine ((lc _ _ hS)).mono ?_; rintro e w' (⟨rfl, hS⟩)) | (refine wl_isld rfl ?_; ((refine wl_value rfl (ex_ldC hS rfl rfl CellAt.out) ?_); (try simp only [Act.put, List.setIfInBounds_toArray, List.set_cons_zero, List.set_cons_succ]))))
                go_ret2
                rw [Hx.out]
                exact .bad hS.to
          · have hs0 : s.take j = s := List.take_of_length_le (by omega)
            rw [hs0] at Hou Hall
            have Hxo := Lib.hid (show X = fitR o2 by rw [← HX.out, if_pos Hall.out, Hou.out])
            have hsm2 : ∀ e ∈ o2, okP e.path = true ∧ e.path.size ≤ 16777216 ∧ e.data.size ≤ 16777216 := fun e he => by
              rw [Hou.out] at he
              rcases List.mem_append.1 he with h | h
              · exact Hkok.out e h
              · refine ⟨List.all_eq_true.1 Hall.out e h, ?_⟩
                obtain ⟨y, hy, rfl⟩ := List.mem_map.1 h
                have h1 := Hsp.out y hy
                refine ⟨?_, (Hss.out y hy).2⟩
                unfold putE putP
                dsimp only
                split
                · omega
                · rw [ByteArray.size_append, ByteArray.size_append]
                  have : slash.size = 1 := rfl
                  omega
            have hun := Hu.out o2 Hou.out (fun e he => (hsm2 e he).1)
            have hfi : fitsI (srt o2) = fitsI o2 := fits_perm (srt_perm _)
            have hsz : SmallE (srt o2) := fun y hy => (hsm2 y ((srt_perm _).subset hy)).2
            have hlx : (srt o2).length = o2.length := (srt_perm _).length_eq
            have hcap := hO.len_le
            obtain ⟨Y, hY⟩ : ∃ Y, srt o2 = Y := ⟨_, rfl⟩
            have Hr := Lib.hid (show X = if fitsI Y = 0 then (Y, 0) else ([], fitsI Y) by rw [Hxo.out]; unfold fitR; rw [← hY, hfi])
            rw [hY] at hun hsz hlx
            have l6 := fun (w : World) (H : HL) (hS : Sh B H w) (r : RdAt enE B H A5 o2) => SortR_to hS (A := A5) (cap := cap5) (t := o2) r hcap (by omega) (fun e he => ⟨(hsm2 e he).1, (hsm2 e he).2.1⟩) hun
            clear hsm2 hs0 hun hfi hY Hxo
            by_cases hf : fitsI Y = 0
            · have l7 := fun (w : World) (H : HL) (hS : Sh B H w) (A3 : Option Addr) (cap3 : Nat) (r : RdAt enE B H A3 Y) => SizedR_ok hS (A := A3) (cap := cap3) r (by omega) hsz hf
              rw [if_pos hf] at Hr
              clear hf hsz hlx
              go_wp2_with (first | (go_at_call 29; refine ((l6 _ _ hS inferInstance)).mono ?_; rintro e w' (⟨A6, sp6, cap6, rfl, hO6, hS⟩)) | (go_at_call 33; refine ((l7 _ _ hS _ _ inferInstance)).mono ?_; rintro e w' (⟨rfl, hS⟩)))
              go_ret2
              rw [Hr.out]
              exact ⟨A6, sp6, cap6, rfl, hO6, hS.to⟩
            · rw [if_neg hf] at Hr
              obtain ⟨v, hv⟩ : ∃ v, fitsI Y = v := ⟨_, rfl⟩
              have l7 := fun (w : World) (H : HL) (hS : Sh B H w) (A3 : Option Addr) (cap3 : Nat) (r : RdAt enE B H A3 Y) => SizedR_bad hS (A := A3) (cap := cap3) r (by omega) hsz hv (by rw [← hv]; exact hf)
              rw [hv] at Hr
              clear hf hsz hlx hv
              go_wp2_with (first | (go_at_call 29; refine ((l6 _ _ hS inferInstance)).mono ?_; rintro e w' (⟨A6, sp6, cap6, rfl, hO6, hS⟩)) | (go_at_call 33; refine ((l7 _ _ hS _ _ inferInstance)).mono ?_; rintro e w' (⟨rfl, hS⟩)))
              go_ret2
              rw [Hr.out]
              exact .bad hS.to
      · have Hr := Lib.hid (show graftR t dir s = ([], whereI t dir) by unfold graftR; rw [if_pos ha, if_pos hb, if_neg hw])
        obtain ⟨v, hv⟩ : ∃ v, whereI t dir = v := ⟨_, rfl⟩
        rw [hv] at l3 hw Hr
        have d2 : (v == 0) = false := beq_no hw
        have d3 : (v != 0) = true := bne_no hw
        clear ha hb hw hv hT hT2 hca hcb
        go_enter Tryz.func11, Tryz.ntmps11
        go_upto_region 3 with ((go_at_call 31; refine ((l1 _ _ hS inferInstance)).mono ?_; rintro e w' (⟨rfl, hS⟩)))
        clear l1
        go_wp2_with (first | (go_at_call 31; refine ((l2 _ _ hS inferInstance)).mono ?_; rintro e w' (⟨rfl, hS⟩)) | (go_at_call 34; refine ((l3 _ _ hS inferInstance)).mono ?_; rintro e w' (⟨rfl, hS⟩)))
        go_ret2
        rw [Hr.out]
        exact .bad hS.to
    · have Hr := Lib.hid (show graftR t dir s = ([], (checkA s).2) by unfold graftR; rw [if_pos ha, if_neg hb])
      obtain ⟨v, hv⟩ : ∃ v, checkA s = v := ⟨_, rfl⟩
      rw [hv] at l2 hb Hr
      have d2 : (v.2 == 0) = false := beq_no hb
      have d3 : (v.2 != 0) = true := bne_no hb
      clear ha hb hv hT hca
      go_enter Tryz.func11, Tryz.ntmps11
      go_upto_region 3 with ((go_at_call 31; refine ((l1 _ _ hS inferInstance)).mono ?_; rintro e w' (⟨rfl, hS⟩)))
      clear l1
      go_wp2_with ((go_at_call 31; refine ((l2 _ _ hS inferInstance)).mono ?_; rintro e w' (⟨rfl, hS⟩)))
      go_ret2
      rw [Hr.out]
      exact .bad hS.to
  · have Hr := Lib.hid (show graftR t dir s = ([], (checkA t).2) by unfold graftR; rw [if_neg ha])
    obtain ⟨v, hv⟩ : ∃ v, checkA t = v := ⟨_, rfl⟩
    rw [hv] at l1 ha Hr
    have d2 : (v.2 == 0) = false := beq_no ha
    have d3 : (v.2 != 0) = true := bne_no ha
    clear ha hv
    go_enter Tryz.func11, Tryz.ntmps11
    go_wp2_with ((go_at_call 31; refine ((l1 _ _ hS inferInstance)).mono ?_; rintro e w' (⟨rfl, hS⟩)))
    go_ret2
    rw [Hr.out]
    exact .bad hS.to
end
end Go.Tk

set_option linter.unusedSectionVars false
set_option linter.unusedSimpArgs false
set_option linter.unusedVariables false
namespace Go.Tk
open Go.RowKit Go.Proofs
theorem join_le : ∀ (ls : List (List UInt8)), (∀ x ∈ ls, x.length ≤ 64) → (Lib.join ls [47]).length ≤ 65 * ls.length
  | [], _ => by simp [Lib.join]
  | [a], h => by
    have := h a (by simp)
    have h2 : Lib.join [a] [47] = a := by simp [Lib.join]
    rw [h2, List.length_singleton]; omega
  | a :: b :: r, h => by
    have h1 := h a (by simp)
    have h2 := join_le (b :: r) (fun x hx => h x (List.mem_cons_of_mem _ hx))
    have h4 := join_app [a] (b :: r) (by simp) (by simp)
    have h5 : Lib.join [a] [47] = a := by simp [Lib.join]
    rw [h5] at h4
    have h3 : Lib.join (a :: b :: r) [47] = a ++ 47 :: Lib.join (b :: r) [47] := h4
    rw [h3, List.length_append, List.length_cons, List.length_cons]
    rw [List.length_cons] at h2 ⊢
    omega
theorem okP_size {p : ByteArray} (h : okP p = true) : p.size ≤ 2080 := by
  obtain ⟨l, hl⟩ := okP_some h
  obtain ⟨h1, h2⟩ := names_all hl
  have h3 := (namesL_join hl).1
  rw [← h3]
  unfold joinB
  rw [ba_size, data_mkB]
  refine Nat.le_trans (join_le _ ?_) ?_
  · intro x hx
    obtain ⟨y, hy, rfl⟩ := List.mem_map.1 hx
    have := h1 y hy
    unfold nameB at this
    simp only [Bool.and_eq_true, decide_eq_true_eq] at this
    have h4 := this.1.1.1.2
    rw [ba_size] at h4
    exact h4
  · rw [List.length_map]; omega
theorem RightT.small {t : List En} (hT : RightT t) : SmallE t := by
  intro e he
  have h1 := hT.may e he
  refine ⟨by have := okP_size (mayB_ok h1).1; omega, ?_⟩
  unfold mayB at h1
  simp only [Bool.and_eq_true] at h1
  have h2 := h1.2
  split at h2
  · have := of_decide_eq_true h2; omega
  · split at h2
    · have := of_decide_eq_true h2; omega
    · split at h2
      · rw [Bool.and_eq_true] at h2
        have := of_decide_eq_true h2.2; omega
      · cases h2
theorem put_dir {dir p : ByteArray} (hz : dir.size ≠ 0) (h : okP (putP dir p) = true) : okP dir = true := by
  obtain ⟨l, hl⟩ := okP_some h
  have hsz : (putP dir p).size ≠ 0 := by
    rw [ba_size, putP_data hz]; simp
  obtain ⟨h1, h2⟩ := names_all hl
  have h3 : l = piecesB dir ++ piecesB p := by
    rw [names_pieces hl hsz]
    unfold piecesB
    rw [putP_data hz, splitL_append, List.map_append]
  have h4 : namesB dir = some (piecesB dir) := by
    unfold namesB
    rw [if_neg hz, if_neg, if_pos]
    · rw [List.all_eq_true]
      intro x hx
      exact h1 x (by rw [h3]; exact List.mem_append_left _ hx)
    · rw [h3, List.length_append] at h2; omega
  unfold okP
  rw [h4]
  rfl
theorem graft_hu0 {t s : List En} {dir : ByteArray} : ∀ out : List En, out = keptL dir t ++ s.map (putE dir) → (∀ e ∈ out, okP e.path = true) → ∀ ys : List En, ys.Perm out → (ys.Pairwise fun x y => 0 ≤ lessI y.path x.path) → (checkA t).2 = 0 → (checkA s).2 = 0 → ys = srt out := by
  intro out ho hok ys hp hs ht2 hs2
  cases hd : okP dir with
  | true => exact graft_hu hd out ho hok ys hp hs ht2 hs2
  | false =>
    have hT := (right_of ht2).2
    have hz : dir.size ≠ 0 := by
      intro h
      have : okP dir = true := by unfold okP namesB; rw [if_pos h]; rfl
      rw [hd] at this; cases this
    cases s with
    | nil =>
      have hdd : Dist out := by
        rw [ho, List.map_nil, List.append_nil]
        exact hT.sorted.dist.filter _
      exact sorted_uniq (hp.trans (srt_perm out).symm) hs (srt_sorted out hok) (fun e he => hok e ((srt_perm out).subset he)) (hdd.perm (srt_perm out))
    | cons e r =>
      have h1 := hok (putE dir e) (by rw [ho]; exact List.mem_append_right _ (by simp))
      have h2 := put_dir (p := e.path) hz h1
      rw [hd] at h2; cases h2
structure Ed where
  kind : Int
  ent : En
  path : ByteArray
  A : Option Addr
  cap : Nat
  tree : List En
def Ed.cells (x : Ed) : List Value := [.int .i64 x.kind, .string x.ent.path, .int .i64 x.ent.kind, .string x.ent.data, .string x.path, .slice x.A x.tree.length x.cap]
def edE : Enc Ed := {
  val x := .agg x.cells.toArray
  cells x := x.cells
  valc _ := rfl
  k := 6
  pos := by decide
  len _ := rfl
  one x := by intro v hv; simp only [Ed.cells, List.mem_cons, List.not_mem_nil, or_false] at hv; rcases hv with rfl | rfl | rfl | rfl | rfl | rfl <;> rfl }
instance (x : Ed) : CellAt x.cells 0 (.int .i64 x.kind) := ⟨rfl⟩
instance (x : Ed) : CellAt x.cells 4 (.string x.path) := ⟨rfl⟩
instance (x : Ed) : CellAt x.cells 5 (.slice x.A x.tree.length x.cap) := ⟨rfl⟩
instance (x : Ed) : RowOk x.cells 6 := ⟨rfl, edE.one x⟩
instance (x : Ed) : RowOk (edE.cells x) 6 := ⟨rfl, edE.one x⟩
instance (x : Ed) : RowAt x.cells 1 3 x.ent.cells := ⟨rfl, rfl⟩
instance (x : Ed) : CellAt (edE.cells x) 0 (.int .i64 x.kind) := ⟨rfl⟩
instance (x : Ed) : CellAt (edE.cells x) 4 (.string x.path) := ⟨rfl⟩
instance (x : Ed) : CellAt (edE.cells x) 5 (.slice x.A x.tree.length x.cap) := ⟨rfl⟩
instance (x : Ed) : RowAt (edE.cells x) 1 3 x.ent.cells := ⟨rfl, rfl⟩
/-- What an edit answers. -/
def edR (m : Int) (t : List En) (x : Ed) : List En × Int :=
  if m = 0 then putR t x.ent else if m = 1 then removeR t x.path else if m = 2 then subR t x.path else graftR t x.path x.tree
theorem edR_right {m : Int} {t : List En} {x : Ed} (h : (edR m t x).2 = 0) : RightT (edR m t x).1 := by
  unfold edR at h ⊢
  by_cases h0 : m = 0
  · rw [if_pos h0] at h ⊢
    obtain ⟨out, h1, h2, h3, h4, h5, h6⟩ := putR_ok h
    rw [h6]
    exact (put_right (right_of h1).2 h2 h3 h4 h5).1
  · rw [if_neg h0] at h ⊢
    by_cases h1 : m = 1
    · rw [if_pos h1] at h ⊢
      obtain ⟨h2, h3, _, h4⟩ := removeR_ok h
      rw [h4]
      exact remove_right (right_of h2).2 h3
    · rw [if_neg h1] at h ⊢
      by_cases h2 : m = 2
      · rw [if_pos h2] at h ⊢
        obtain ⟨h3, h4, h5⟩ := subR_ok h
        rw [h5]
        exact sub_right (right_of h3).2 (where_ok h4)
      · rw [if_neg h2] at h ⊢
        have ht : (checkA t).2 = 0 ∧ whereI t x.path = 0 := by
          unfold graftR at h
          by_cases h3 : (checkA t).2 = 0
          · rw [if_pos h3] at h
            refine ⟨h3, ?_⟩
            by_cases h4 : (checkA x.tree).2 = 0
            · rw [if_pos h4] at h
              by_cases h5 : whereI t x.path = 0
              · exact h5
              · rw [if_neg h5] at h; exact absurd h h5
            · rw [if_neg h4] at h; exact absurd h h4
          · rw [if_neg h3] at h; exact absurd h h3
        obtain ⟨g1, g2, g3, g4⟩ := graftR_ok h
        rw [g4]
        exact (graft_right (right_of ht.1).2 (right_of g1).2 ht.2 g2 g3).1
end Go.Tk

set_option linter.unusedSectionVars false
set_option linter.unusedSimpArgs false
set_option linter.unusedVariables false
namespace Go.Tk
open Go.RowKit Go.Proofs
def mkR (l : List En) : List En × Int := (srt (makeR l).2, (makeR l).1)
theorem mkR_of {l ys : List En} (h1 : ys.Perm (makeR l).2) (s1 : ys.Pairwise fun x y => 0 ≤ lessI y.path x.path) : ys = (mkR l).1 := by
  refine makeR_uniq h1 (srt_perm _) s1 (srt_sorted _ ?_)
  rcases makeR_or l with h | h
  · rw [h]; exact fun e he => nomatch he
  · obtain ⟨hd, hm⟩ := makeR_dist (l := l) (o := (makeR l).2) (by rw [← h])
    exact fun e he => (mayB_ok (hm e he)).1
def mdR (k : Int) (t : List En) (x : En) (dir : ByteArray) : List En × Int :=
  if k = 0 then putR t x else if k = 1 then subR t dir else if k = 2 then mkR t else graftR t dir []
theorem fits_few {t : List En} (h : fitsI t = 0) : t.length ≤ 1024 := by
  unfold fitsI at h
  by_cases h1 : 1024 < t.length
  · rw [if_pos h1] at h; exact absurd h (by decide)
  · omega
theorem fitR_len (out : List En) : (fitR out).1.length ≤ 1024 := by
  unfold fitR
  by_cases h : fitsI out = 0
  · rw [if_pos h]
    show (srt out).length ≤ 1024
    rw [(srt_perm out).length_eq]
    exact fits_few h
  · rw [if_neg h]; exact Nat.zero_le _
theorem makeR_len (l : List En) : (makeR l).2.length ≤ 1024 := by
  unfold makeR
  split
  · exact Nat.zero_le _
  · split
    · exact Nat.zero_le _
    · unfold makeT
      split
      · exact Nat.zero_le _
      · split
        · exact fits_few ‹_›
        · exact Nat.zero_le _
theorem mdR_len (k : Int) (t : List En) (x : En) (dir : ByteArray) : (mdR k t x dir).1.length ≤ t.length + 1024 := by
  unfold mdR
  split
  · unfold putR
    split
    · split
      · split
        · split
          · exact Nat.zero_le _
          · rename_i out _
            have := fitR_len out
            unfold fitR at this
            omega
        · exact Nat.zero_le _
      · exact Nat.zero_le _
    · exact Nat.zero_le _
  · split
    · unfold subR
      split
      · split
        · show (List.map _ _).length ≤ _
          rw [List.length_map]
          have := List.length_filter_le (fun e : En => aboveB dir e.path) t
          unfold belowL
          omega
        · exact Nat.zero_le _
      · exact Nat.zero_le _
    · split
      · show (srt (makeR t).2).length ≤ _
        rw [(srt_perm _).length_eq]
        have := makeR_len t
        omega
      · unfold graftR
        split
        · split
          · split
            · split
              · have := fitR_len (keptL dir t ++ ([] : List En).map (putE dir))
                omega
              · exact Nat.zero_le _
            · exact Nat.zero_le _
          · exact Nat.zero_le _
        · exact Nat.zero_le _
section
variable {B : Base} {R H H1 : HL} {w w' : World}
theorem TMake_to [HasML B] [NoDraw B] (hS : Sh B R w) {A : Option Addr} {cap : Nat} {l : List En} (r : RdAt enE B R A l) (hl : l.length + psum l ≤ 8388608) (hsm : SmallE l) :
    Calls Tryz.prog 26 #[.slice A l.length cap] w (ApplyP B R (mkR l)) := by
  refine (TMake_any hS (cap := cap) hl hsm).mono ?_
  rintro e w' ⟨A2, sp2, cap2, ys, rfl, h1, h2, hO, hS⟩
  obtain rfl := mkR_of h1 h2
  exact ⟨A2, sp2, cap2, rfl, hO, hS⟩
theorem RMake_to [HasML B] (hS : Sh B R w) {A : Option Addr} {cap : Nat} {l : List En} (r : RdAt enE B R A l) (hcap : l.length ≤ cap) (hl : l.length ≤ 8000000) (hsm : SmallE l) :
    Calls Tryz.prog 8 #[.slice A l.length cap] w (ApplyP B R (mkR l)) := by
  refine (RMake_any hS (cap := cap) hcap hl hsm).mono ?_
  rintro e w' ⟨A2, sp2, cap2, ys, rfl, h1, h2, hO, hS⟩
  obtain rfl := mkR_of h1 h2
  exact ⟨A2, sp2, cap2, rfl, hO, hS⟩
set_option maxRecDepth 100000 in
set_option maxHeartbeats 6400000 in
theorem made_any [HasML B] [NoDraw B] (hS : Sh B R w) {k : Int} (hk : k = 0 ∨ k = 1 ∨ k = 2 ∨ k = 3) {A : Option Addr} {cap : Nat} {t : List En} (r : RdAt enE B R A t) (hl : t.length + psum t ≤ 8388608) (hsm : SmallE t) (x : En) (hp : x.path.size ≤ 16777216) (hdz : x.data.size ≤ 16777216) (dir : ByteArray) (hdir : dir.size ≤ 1048576) :
    Calls Tryz.prog 7 #[.int .i64 k, .slice A t.length cap, .agg x.cells.toArray, .string dir] w (ApplyP B R (mdR k t x dir)) := by
  have rn : RdAt enE B R none ([] : List En) := RdAt.nil
  rcases hk with rfl | rfl | rfl | rfl
  · have l1 := fun (w : World) (H : HL) (hS : Sh B H w) (r : RdAt enE B H A t) => TPut_any hS (A := A) (cap := cap) (t := t) (r := r) (by omega) hsm x hp hdz
    have Hr := Lib.hid (show mdR 0 t x dir = putR t x by unfold mdR; rw [if_pos rfl])
    go_enter Tryz.func7, Tryz.ntmps7
    go_wp2_with (first | (refine wl_box rfl rfl rfl rfl hS ?_; intro xb _ hS; (try simp only [Act.put, List.setIfInBounds_toArray, List.set_cons_zero, List.set_cons_succ])) | (go_at_call 13; refine ((l1 _ _ hS inferInstance)).mono ?_; rintro e w' (⟨A3, sp3, cap3, rfl, hO3, hS⟩)) | (refine wl_isld rfl ?_; ((first | refine wl_value rfl (ex_l0 hS rfl rfl rfl CellAt.out) ?_ | refine wl_value rfl (ex_lf hS rfl rfl rfl CellAt.out) ?_ | refine wl_value rfl (ex_l1 hS rfl rfl rfl CellAt.out) ?_ | refine wl_value rfl (ex_ldC hS rfl rfl CellAt.out) ?_ | refine wl_value rfl (ex_l0 hS rfl rfl rfl rfl) ?_ | refine wl_value rfl (ex_lf hS rfl rfl rfl rfl) ?_ | refine wl_value rfl (ex_l1 hS rfl rfl rfl rfl) ?_ | refine wl_value rfl (ex_ldC hS rfl rfl rfl) ?_ | refine wl_value rfl (ex_l00 hS rfl rfl CellAt.out) ?_ | refine wl_value rfl (ex_l00 hS rfl rfl rfl) ?_ | refine wl_value rfl (ex_l0f hS rfl rfl CellAt.out) ?_ | refine wl_value rfl (ex_l0f hS rfl rfl rfl) ?_ | refine wl_value rfl (ex_lr hS rfl rfl rfl rfl) ?_ | refine wl_value rfl (ex_lr0 hS rfl rfl rfl) ?_ | refine wl_value rfl (ex_lrz hS rfl rfl rfl) ?_ | refine wl_value rfl (ex_lrf hS rfl rfl rfl) ?_ | refine wl_value rfl (ex_ldrC hS rfl rfl) ?_ | refine wl_value rfl (ex_ldr0 hS rfl rfl rfl) ?_); (try simp only [Act.put, List.setIfInBounds_toArray, List.set_cons_zero, List.set_cons_succ]))) | ((first | refine wl_value rfl (ex_ix hS rfl rfl rfl ?_) ?_); (focus (first | rfl | omega | (simp; done))); (try simp only [Act.put, List.setIfInBounds_toArray, List.set_cons_zero, List.set_cons_succ])) | ((first | refine wl_value rfl (ex_eqA rfl rfl rfl) ?_ | refine wl_value rfl (ex_neA rfl rfl rfl) ?_); (try simp only [Act.put, List.setIfInBounds_toArray, List.set_cons_zero, List.set_cons_succ])) | (refine wl_alloc rfl rfl hS ?_; intro _ _ hS; (try simp only [Act.put, List.setIfInBounds_toArray, List.set_cons_zero, List.set_cons_succ])) | (refine wl_box rfl rfl rfl rfl hS ?_; intro _ _ hS; (try simp only [Act.put, List.setIfInBounds_toArray, List.set_cons_zero, List.set_cons_succ])) | (refine wl_st rfl rfl rfl rfl rfl hS (of_decide_eq_true rfl) ?_; intro _ hS; (try simp only [evT, evC, List.getD_cons_succ, List.getD_cons_zero, List.set_cons_zero, List.set_cons_succ] at hS); (try simp only [List.set_cons_zero, List.set_cons_succ] at hS); (try simp only [Act.put, List.setIfInBounds_toArray, List.set_cons_zero, List.set_cons_succ])) | (refine wl_strC rfl rfl rfl rfl hS rfl rfl ?_; intro _ hS; (try simp only [evT, evC, List.getD_cons_succ, List.getD_cons_zero, List.set_cons_zero, List.set_cons_succ] at hS); (try simp only [Act.put, List.setIfInBounds_toArray, List.set_cons_zero, List.set_cons_succ])))
    go_ret2
    rw [Hr.out]
    exact ⟨A3, sp3, cap3, rfl, hO3, hS.to⟩
  · have l1 := fun (w : World) (H : HL) (hS : Sh B H w) (r : RdAt enE B H A t) => TSub_any hS (A := A) (cap := cap) (t := t) (r := r) (by omega) hsm dir (by omega)
    have Hr := Lib.hid (show mdR 1 t x dir = subR t dir by unfold mdR; rw [if_neg (by decide), if_pos rfl])
    go_enter Tryz.func7, Tryz.ntmps7
    go_wp2_with (first | (refine wl_box rfl rfl rfl rfl hS ?_; intro xb _ hS; (try simp only [Act.put, List.setIfInBounds_toArray, List.set_cons_zero, List.set_cons_succ])) | (go_at_call 16; refine ((l1 _ _ hS inferInstance)).mono ?_; rintro e w' (⟨A3, sp3, cap3, rfl, hO3, hS⟩)) | (refine wl_isld rfl ?_; ((first | refine wl_value rfl (ex_l0 hS rfl rfl rfl CellAt.out) ?_ | refine wl_value rfl (ex_lf hS rfl rfl rfl CellAt.out) ?_ | refine wl_value rfl (ex_l1 hS rfl rfl rfl CellAt.out) ?_ | refine wl_value rfl (ex_ldC hS rfl rfl CellAt.out) ?_ | refine wl_value rfl (ex_l0 hS rfl rfl rfl rfl) ?_ | refine wl_value rfl (ex_lf hS rfl rfl rfl rfl) ?_ | refine wl_value rfl (ex_l1 hS rfl rfl rfl rfl) ?_ | refine wl_value rfl (ex_ldC hS rfl rfl rfl) ?_ | refine wl_value rfl (ex_l00 hS rfl rfl CellAt.out) ?_ | refine wl_value rfl (ex_l00 hS rfl rfl rfl) ?_ | refine wl_value rfl (ex_l0f hS rfl rfl CellAt.out) ?_ | refine wl_value rfl (ex_l0f hS rfl rfl rfl) ?_ | refine wl_value rfl (ex_lr hS rfl rfl rfl rfl) ?_ | refine wl_value rfl (ex_lr0 hS rfl rfl rfl) ?_ | refine wl_value rfl (ex_lrz hS rfl rfl rfl) ?_ | refine wl_value rfl (ex_lrf hS rfl rfl rfl) ?_ | refine wl_value rfl (ex_ldrC hS rfl rfl) ?_ | refine wl_value rfl (ex_ldr0 hS rfl rfl rfl) ?_); (try simp only [Act.put, List.setIfInBounds_toArray, List.set_cons_zero, List.set_cons_succ]))) | ((first | refine wl_value rfl (ex_ix hS rfl rfl rfl ?_) ?_); (focus (first | rfl | omega | (simp; done))); (try simp only [Act.put, List.setIfInBounds_toArray, List.set_cons_zero, List.set_cons_succ])) | ((first | refine wl_value rfl (ex_eqA rfl rfl rfl) ?_ | refine wl_value rfl (ex_neA rfl rfl rfl) ?_); (try simp only [Act.put, List.setIfInBounds_toArray, List.set_cons_zero, List.set_cons_succ])) | (refine wl_alloc rfl rfl hS ?_; intro _ _ hS; (try simp only [Act.put, List.setIfInBounds_toArray, List.set_cons_zero, List.set_cons_succ])) | (refine wl_box rfl rfl rfl rfl hS ?_; intro _ _ hS; (try simp only [Act.put, List.setIfInBounds_toArray, List.set_cons_zero, List.set_cons_succ])) | (refine wl_st rfl rfl rfl rfl rfl hS (of_decide_eq_true rfl) ?_; intro _ hS; (try simp only [evT, evC, List.getD_cons_succ, List.getD_cons_zero, List.set_cons_zero, List.set_cons_succ] at hS); (try simp only [List.set_cons_zero, List.set_cons_succ] at hS); (try simp only [Act.put, List.setIfInBounds_toArray, List.set_cons_zero, List.set_cons_succ])) | (refine wl_strC rfl rfl rfl rfl hS rfl rfl ?_; intro _ hS; (try simp only [evT, evC, List.getD_cons_succ, List.getD_cons_zero, List.set_cons_zero, List.set_cons_succ] at hS); (try simp only [Act.put, List.setIfInBounds_toArray, List.set_cons_zero, List.set_cons_succ])))
    go_ret2
    rw [Hr.out]
    exact ⟨A3, sp3, cap3, rfl, hO3, hS.to⟩
  · have l1 := fun (w : World) (H : HL) (hS : Sh B H w) (r : RdAt enE B H A t) => TMake_to hS (A := A) (cap := cap) (l := t) r hl hsm
    have Hr := Lib.hid (show mdR 2 t x dir = mkR t by unfold mdR; rw [if_neg (by decide), if_neg (by decide), if_pos rfl])
    go_enter Tryz.func7, Tryz.ntmps7
    go_wp2_with (first | (refine wl_box rfl rfl rfl rfl hS ?_; intro xb _ hS; (try simp only [Act.put, List.setIfInBounds_toArray, List.set_cons_zero, List.set_cons_succ])) | (go_at_call 26; refine ((l1 _ _ hS inferInstance)).mono ?_; rintro e w' (⟨A3, sp3, cap3, rfl, hO3, hS⟩)) | (refine wl_isld rfl ?_; ((first | refine wl_value rfl (ex_l0 hS rfl rfl rfl CellAt.out) ?_ | refine wl_value rfl (ex_lf hS rfl rfl rfl CellAt.out) ?_ | refine wl_value rfl (ex_l1 hS rfl rfl rfl CellAt.out) ?_ | refine wl_value rfl (ex_ldC hS rfl rfl CellAt.out) ?_ | refine wl_value rfl (ex_l0 hS rfl rfl rfl rfl) ?_ | refine wl_value rfl (ex_lf hS rfl rfl rfl rfl) ?_ | refine wl_value rfl (ex_l1 hS rfl rfl rfl rfl) ?_ | refine wl_value rfl (ex_ldC hS rfl rfl rfl) ?_ | refine wl_value rfl (ex_l00 hS rfl rfl CellAt.out) ?_ | refine wl_value rfl (ex_l00 hS rfl rfl rfl) ?_ | refine wl_value rfl (ex_l0f hS rfl rfl CellAt.out) ?_ | refine wl_value rfl (ex_l0f hS rfl rfl rfl) ?_ | refine wl_value rfl (ex_lr hS rfl rfl rfl rfl) ?_ | refine wl_value rfl (ex_lr0 hS rfl rfl rfl) ?_ | refine wl_value rfl (ex_lrz hS rfl rfl rfl) ?_ | refine wl_value rfl (ex_lrf hS rfl rfl rfl) ?_ | refine wl_value rfl (ex_ldrC hS rfl rfl) ?_ | refine wl_value rfl (ex_ldr0 hS rfl rfl rfl) ?_); (try simp only [Act.put, List.setIfInBounds_toArray, List.set_cons_zero, List.set_cons_succ]))) | ((first | refine wl_value rfl (ex_ix hS rfl rfl rfl ?_) ?_); (focus (first | rfl | omega | (simp; done))); (try simp only [Act.put, List.setIfInBounds_toArray, List.set_cons_zero, List.set_cons_succ])) | ((first | refine wl_value rfl (ex_eqA rfl rfl rfl) ?_ | refine wl_value rfl (ex_neA rfl rfl rfl) ?_); (try simp only [Act.put, List.setIfInBounds_toArray, List.set_cons_zero, List.set_cons_succ])) | (refine wl_alloc rfl rfl hS ?_; intro _ _ hS; (try simp only [Act.put, List.setIfInBounds_toArray, List.set_cons_zero, List.set_cons_succ])) | (refine wl_box rfl rfl rfl rfl hS ?_; intro _ _ hS; (try simp only [Act.put, List.setIfInBounds_toArray, List.set_cons_zero, List.set_cons_succ])) | (refine wl_st rfl rfl rfl rfl rfl hS (of_decide_eq_true rfl) ?_; intro _ hS; (try simp only [evT, evC, List.getD_cons_succ, List.getD_cons_zero, List.set_cons_zero, List.set_cons_succ] at hS); (try simp only [List.set_cons_zero, List.set_cons_succ] at hS); (try simp only [Act.put, List.setIfInBounds_toArray, List.set_cons_zero, List.set_cons_succ])) | (refine wl_strC rfl rfl rfl rfl hS rfl rfl ?_; intro _ hS; (try simp only [evT, evC, List.getD_cons_succ, List.getD_cons_zero, List.set_cons_zero, List.set_cons_succ] at hS); (try simp only [Act.put, List.setIfInBounds_toArray, List.set_cons_zero, List.set_cons_succ])))
    go_ret2
    rw [Hr.out]
    exact ⟨A3, sp3, cap3, rfl, hO3, hS.to⟩
  · have l1 := fun (w : World) (H : HL) (hS : Sh B H w) (r : RdAt enE B H A t) => TGraft_any hS (A := A) (A' := none) (cap := cap) (cap' := 0) (t := t) (s := []) (r := r) (r' := RdAt.nil) (by omega) (Nat.zero_le _) hsm (fun e he => nomatch he) dir hdir (fun e he => nomatch he) graft_hu0
    have Hr := Lib.hid (show mdR 3 t x dir = graftR t dir [] by unfold mdR; rw [if_neg (by decide), if_neg (by decide), if_neg (by decide)])
    go_enter Tryz.func7, Tryz.ntmps7
    go_wp2_with (first | (refine wl_box rfl rfl rfl rfl hS ?_; intro xb _ hS; (try simp only [Act.put, List.setIfInBounds_toArray, List.set_cons_zero, List.set_cons_succ])) | (go_at_call 17; refine ((l1 _ _ hS inferInstance)).mono ?_; rintro e w' (⟨A3, sp3, cap3, rfl, hO3, hS⟩)) | (refine wl_isld rfl ?_; ((first | refine wl_value rfl (ex_l0 hS rfl rfl rfl CellAt.out) ?_ | refine wl_value rfl (ex_lf hS rfl rfl rfl CellAt.out) ?_ | refine wl_value rfl (ex_l1 hS rfl rfl rfl CellAt.out) ?_ | refine wl_value rfl (ex_ldC hS rfl rfl CellAt.out) ?_ | refine wl_value rfl (ex_l0 hS rfl rfl rfl rfl) ?_ | refine wl_value rfl (ex_lf hS rfl rfl rfl rfl) ?_ | refine wl_value rfl (ex_l1 hS rfl rfl rfl rfl) ?_ | refine wl_value rfl (ex_ldC hS rfl rfl rfl) ?_ | refine wl_value rfl (ex_l00 hS rfl rfl CellAt.out) ?_ | refine wl_value rfl (ex_l00 hS rfl rfl rfl) ?_ | refine wl_value rfl (ex_l0f hS rfl rfl CellAt.out) ?_ | refine wl_value rfl (ex_l0f hS rfl rfl rfl) ?_ | refine wl_value rfl (ex_lr hS rfl rfl rfl rfl) ?_ | refine wl_value rfl (ex_lr0 hS rfl rfl rfl) ?_ | refine wl_value rfl (ex_lrz hS rfl rfl rfl) ?_ | refine wl_value rfl (ex_lrf hS rfl rfl rfl) ?_ | refine wl_value rfl (ex_ldrC hS rfl rfl) ?_ | refine wl_value rfl (ex_ldr0 hS rfl rfl rfl) ?_); (try simp only [Act.put, List.setIfInBounds_toArray, List.set_cons_zero, List.set_cons_succ]))) | ((first | refine wl_value rfl (ex_ix hS rfl rfl rfl ?_) ?_); (focus (first | rfl | omega | (simp; done))); (try simp only [Act.put, List.setIfInBounds_toArray, List.set_cons_zero, List.set_cons_succ])) | ((first | refine wl_value rfl (ex_eqA rfl rfl rfl) ?_ | refine wl_value rfl (ex_neA rfl rfl rfl) ?_); (try simp only [Act.put, List.setIfInBounds_toArray, List.set_cons_zero, List.set_cons_succ])) | (refine wl_alloc rfl rfl hS ?_; intro _ _ hS; (try simp only [Act.put, List.setIfInBounds_toArray, List.set_cons_zero, List.set_cons_succ])) | (refine wl_box rfl rfl rfl rfl hS ?_; intro _ _ hS; (try simp only [Act.put, List.setIfInBounds_toArray, List.set_cons_zero, List.set_cons_succ])) | (refine wl_st rfl rfl rfl rfl rfl hS (of_decide_eq_true rfl) ?_; intro _ hS; (try simp only [evT, evC, List.getD_cons_succ, List.getD_cons_zero, List.set_cons_zero, List.set_cons_succ] at hS); (try simp only [List.set_cons_zero, List.set_cons_succ] at hS); (try simp only [Act.put, List.setIfInBounds_toArray, List.set_cons_zero, List.set_cons_succ])) | (refine wl_strC rfl rfl rfl rfl hS rfl rfl ?_; intro _ hS; (try simp only [evT, evC, List.getD_cons_succ, List.getD_cons_zero, List.set_cons_zero, List.set_cons_succ] at hS); (try simp only [Act.put, List.setIfInBounds_toArray, List.set_cons_zero, List.set_cons_succ])))
    go_ret2
    rw [Hr.out]
    exact ⟨A3, sp3, cap3, rfl, hO3, hS.to⟩
end
end Go.Tk

set_option linter.unusedSectionVars false
set_option linter.unusedSimpArgs false
set_option linter.unusedVariables false
namespace Go.Tk
open Go.RowKit Go.Proofs
def mkE : En := ⟨⟨#[109, 97, 114, 107]⟩, 9, ⟨#[]⟩⟩
def otE : En := ⟨⟨#[111, 116, 104, 101, 114]⟩, 8, ⟨#[]⟩⟩
def ownL (t : List En) : List En := t ++ [mkE, mkE, mkE]
theorem ownL_len (t : List En) : (ownL t).length = t.length + 3 := by unfold ownL; simp
theorem own_front {B : Base} {H : HL} {A : Option Addr} {t : List En} (r : RdAt enE B H A (ownL t)) : RdAt enE B H A t := by
  have := r.take t.length
  unfold ownL at this
  rwa [List.take_left] at this
structure OwSt where
  A : Option Addr
  cap : Nat
structure OtSt where
  i : Nat
  xs : List En
def OtI (B : Base) (R : HL) (A : Option Addr) (n cap : Nat) (x : OtSt) (w : World) : Prop :=
  ∃ sp, x.i ≤ n ∧ x.xs.length = n ∧ OwnSl enE A x.xs sp cap ∧ Sh B (rowA A (flat enE x.xs ++ sp) 24 ++ R) w
def OwI (B : Base) (R : HL) (k : Int) (w : World) : Prop := 0 ≤ k ∧ k ≤ 4 ∧ Sh B R w
section
variable {B : Base} {R H H1 : HL} {w w' : World}
set_option maxRecDepth 100000 in
set_option maxHeartbeats 6400000 in
theorem Own_any [HasML B] [NoDraw B] (hS : Sh B R w) {A : Option Addr} {cap : Nat} {t : List En} [r : RdAt enE B R A t] (hc : t.length ≤ cap) (hl : t.length + psum t ≤ 2000000) (hsm : SmallE t) (x : En) (hp : x.path.size ≤ 16777216) (hdz : x.data.size ≤ 16777216) (dir : ByteArray) (hdir : dir.size ≤ 1048576) :
    Calls Tryz.prog 3 #[.slice A t.length cap, .agg x.cells.toArray, .string dir] w fun e w' => e = .returned (.bool true) ∧ Sh B R w' := by
  have hN0 : OwnSl enE none [] [] 0 := OwnSl.nothing
  have hol := ownL_len t
  have hcut : t.length ≤ (ownL t).length := by omega
  have hi0 : t.length < (ownL t).length := by omega
  have hi2 : t.length + 2 < (ownL t).length := by omega
  clear hol
  go_enter Tryz.func3, Tryz.ntmps3
  go_upto_region 4 with (first | (refine wl_box rfl rfl rfl rfl hS ?_; intro xb _ hS; (try simp only [Act.put, List.setIfInBounds_toArray, List.set_cons_zero, List.set_cons_succ])) | (refine wl_build ((enE.cells mkE)) _ rfl rfl (by simp only [List.map_toArray, List.map_cons, List.map_nil]; rfl) rfl ?_; (try simp only [Act.put, List.setIfInBounds_toArray, List.set_cons_zero, List.set_cons_succ])) | (refine wl_alloc rfl rfl hS ?_; intro mb _ hS; (try simp only [Act.put, List.setIfInBounds_toArray, List.set_cons_zero, List.set_cons_succ])) | (go_at_call 6; refine ((alive_any hS)).mono ?_; rintro e w' (⟨rfl, hS⟩)) | (refine wl_strC rfl rfl rfl rfl hS rfl rfl ?_; intro _ hS; (try simp only [evT, evC, List.getD_cons_succ, List.getD_cons_zero, List.set_cons_zero, List.set_cons_succ] at hS); (try simp only [Act.put, List.setIfInBounds_toArray, List.set_cons_zero, List.set_cons_succ])))
  have hS : Sh B (rowA none (flat enE [] ++ []) 24 ++ (cellB mb mkE.cells 24 ++ (cellB xb x.cells 24 ++ R))) _ := hS
  refine wp_cutS [8] [21, 22, 23, 24, 25, 26, 27] (fun s : OwSt => [.slice s.A (ownL t).length s.cap]) (fun s w => ∃ sp2, OwnSl enE s.A (ownL t) sp2 s.cap ∧ Sh B (rowA s.A (flat enE (ownL t) ++ sp2) 24 ++ (cellB mb mkE.cells 24 ++ (cellB xb x.cells 24 ++ R))) w) ?_ ?_
  · (refine wp_drawnT (H := ((cellB mb mkE.cells 24 ++ []))) (Sh.to hS) ((.u 0 (.u 2 (.u 3 (.u 4 (.b 1 (.e 5 (.e 6 (.u 7 .done))) (.e 5 (.e 1 (.e 6 (.u 7 .done)))))))))) (by kernel_rfl) (by kernel_rfl) (by intro d _ _ _ _ h; cases d <;> exact h) ?_; have hS := hS.drew; simp only [pk_u, pk_e, pk_b, pk_done, opAt, List.toList_toArray])
    iterate 4 (first | ((refine wpT_U rfl (fun _ hT => ex_ldr0 hT rfl rfl rfl) (Sh.to hS) ?_); (try simp only [Act.put, List.setIfInBounds_toArray, List.set_cons_zero, List.set_cons_succ])) | (refine wpT_U (v := ?_) rfl ?_ (Sh.to hS) ?_; rotate_left; (focus (intro _ _; go_simp; (try (rw [wrap_i64]; (rotate_left; omega))); (try with_reducible rfl))); (try simp only [Act.put, List.setIfInBounds_toArray, List.set_cons_zero, List.set_cons_succ])))
    refine wpT_br ?_ ?_
    · (go_wp2_with ((refine wl_apz (E := enE) rfl rfl rfl rfl hS ?_ ?_ ?_ ?_ ?_; (focus (rfl)); (focus (rfl)); (focus ((simp only [List.length_nil]; omega))); (focus decide); intro z1 A1 sp1 cap1 _ hz0 hO1 hS; have Hz1 := Lib.hid hz0; clear hz0; (try simp only [Act.put, List.setIfInBounds_toArray, List.set_cons_zero, List.set_cons_succ]))); (refine ⟨?_, ?_⟩; (focus (exact Or.inr (Sh.to hS)))))
      have hz1 : z1 = t := by rw [Hz1.out]; rfl
      clear Hz1
      subst hz1
      ((refine wpT_ex ?_); go_wp2_with ((refine wl_buildSlice (E := enE) ([mkE, mkE, mkE]) rfl rfl (by simp only [List.map_toArray, List.map_cons, List.map_nil]; rfl) rfl (by decide) (by decide) hS ?_; intro _ _ hS hN; (try simp only [Act.put, List.setIfInBounds_toArray, List.set_cons_zero, List.set_cons_succ]))); (refine ⟨?_, ?_⟩; (focus (exact Or.inr (Sh.to hS)))))
      ((refine wpT_ex ?_); go_wp2_with ((refine wl_apz (E := enE) rfl rfl rfl rfl hS ?_ ?_ ?_ ?_ ?_; (focus (rfl)); (focus (rfl)); (focus ((simp only [List.length_cons, List.length_nil]; omega))); (focus decide); intro z2 A2 sp2 cap2 _ hz0 hO2 hS; have Hz2 := Lib.hid hz0; clear hz0; (try simp only [Act.put, List.setIfInBounds_toArray, List.set_cons_zero, List.set_cons_succ]))); (refine ⟨?_, ?_⟩; (focus (exact Or.inr (Sh.to hS)))))
      have hz2 : z2 = ownL z1 := Hz2.out
      clear Hz2
      subst hz2
      ((refine wpT_U (v := ?_) rfl ?_ (Sh.to hS) ?_; rotate_left; (focus (intro _ _; go_simp; (try (rw [wrap_i64]; (rotate_left; omega))); (try with_reducible rfl))); (try simp only [Act.put, List.setIfInBounds_toArray, List.set_cons_zero, List.set_cons_succ])))
      refine wpT_nil ?_
      exact ⟨(⟨A2, cap2⟩ : OwSt), ⟨sp2, hO2, hS.to⟩, trivial, rfl, (by (simp only [blankT, junkT, List.cons_append, List.nil_append, List.setIfInBounds_toArray, List.set_cons_zero, List.set_cons_succ])), rfl⟩
    · ((refine wpT_ex ?_); go_wp2_with ((refine wl_buildSlice (E := enE) ([mkE, mkE, mkE]) rfl rfl (by simp only [List.map_toArray, List.map_cons, List.map_nil]; rfl) rfl (by decide) (by decide) hS ?_; intro _ _ hS hN; (try simp only [Act.put, List.setIfInBounds_toArray, List.set_cons_zero, List.set_cons_succ]))); (refine ⟨?_, ?_⟩; (focus (exact Or.inr (Sh.to hS)))))
      ((refine wpT_ex ?_); go_wp2_with ((refine wl_apz (E := enE) rfl rfl rfl rfl hS ?_ ?_ ?_ ?_ ?_; (focus (rfl)); (focus (rfl)); (focus ((simp only [List.length_nil]; omega))); (focus decide); intro z1 A1 sp1 cap1 _ hz0 hO1 hS; have Hz1 := Lib.hid hz0; clear hz0; (try simp only [Act.put, List.setIfInBounds_toArray, List.set_cons_zero, List.set_cons_succ]))); (refine ⟨?_, ?_⟩; (focus (exact Or.inr (Sh.to hS)))))
      have hz1 : z1 = t := by rw [Hz1.out]; rfl
      clear Hz1
      subst hz1
      ((refine wpT_ex ?_); go_wp2_with ((refine wl_apz (E := enE) rfl rfl rfl rfl hS ?_ ?_ ?_ ?_ ?_; (focus (rfl)); (focus (rfl)); (focus ((simp only [List.length_cons, List.length_nil]; omega))); (focus decide); intro z2 A2 sp2 cap2 _ hz0 hO2 hS; have Hz2 := Lib.hid hz0; clear hz0; (try simp only [Act.put, List.setIfInBounds_toArray, List.set_cons_zero, List.set_cons_succ]))); (refine ⟨?_, ?_⟩; (focus (exact Or.inr (Sh.to hS)))))
      have hz2 : z2 = ownL z1 := Hz2.out
      clear Hz2
      subst hz2
      ((refine wpT_U (v := ?_) rfl ?_ (Sh.to hS) ?_; rotate_left; (focus (intro _ _; go_simp; (try (rw [wrap_i64]; (rotate_left; omega))); (try with_reducible rfl))); (try simp only [Act.put, List.setIfInBounds_toArray, List.set_cons_zero, List.set_cons_succ])))
      refine wpT_nil ?_
      exact ⟨(⟨A2, cap2⟩ : OwSt), ⟨sp2, hO2, hS.to⟩, trivial, rfl, (by (simp only [blankT, junkT, List.cons_append, List.nil_append, List.setIfInBounds_toArray, List.set_cons_zero, List.set_cons_succ])), rfl⟩
  · clear hS hN0
    rintro ⟨A2, cap2⟩ J w ⟨sp2, hO2, hS⟩
    dsimp only at hO2 hS
    (simp only [Frm, setsT, junkT, List.setIfInBounds_toArray, List.set_cons_zero, List.set_cons_succ])
    have hcp := hO2.len_le
    go_upto_region 7 with ((refine wl_value rfl ((ex_cutH rfl rfl rfl (Nat.le_trans hcut hcp))) ?_; (try simp only [Act.put, List.setIfInBounds_toArray, List.set_cons_zero, List.set_cons_succ])))
    have h0 : OwI B (rowA A2 (flat enE (ownL t) ++ sp2) 24 ++ (cellB mb mkE.cells 24 ++ (cellB xb x.cells 24 ++ R))) 0 _ := ⟨by decide, by decide, hS⟩
    clear hS
    refine wp_loopS [32] [6, 10, 11, 12, 13, 14, 15, 16, 17, 33, 34, 35, 36, 37, 38, 39, 40, 41, 42, 43, 44, 45, 46, 47, 48, 49, 50, 51, 52, 53, 54, 55, 56, 57, 58, 59, 60, 61, 62, 63, 64, 65, 66, 67, 68, 69, 70, 71, 72, 73, 74, 75, 76, 77, 78, 79, 80, 81, 82, 83, 84, 85, 86, 87, 88, 89, 90, 91, 92, 93, 94, 95, 96, 97, 98, 99, 100, 101, 102, 103, 104, 105, 106, 107] (fun k : Int => [.int .i64 k]) (OwI B (rowA A2 (flat enE (ownL t) ++ sp2) 24 ++ (cellB mb mkE.cells 24 ++ (cellB xb x.cells 24 ++ R)))) (fun k => (4 - k).toNat) (0) rfl (h0) ?_
    clear h0
    rintro k J w ⟨hk0, hk4, hS⟩
    (simp only [Frm, setsT, junkT, List.setIfInBounds_toArray, List.set_cons_zero, List.set_cons_succ])
    by_cases hlt : k < 4
    · have hk : k = 0 ∨ k = 1 ∨ k = 2 ∨ k = 3 := by omega
      obtain ⟨X, hX⟩ : ∃ X, mdR k t x dir = X := ⟨_, rfl⟩
      have lm := fun (w : World) (H : HL) (hS : Sh B H w) (r : RdAt enE B H A2 t) => made_any hS hk (A := A2) (cap := cap2) r (by omega) hsm x hp hdz dir hdir
      have hX1l := mdR_len k t x dir
      rw [hX] at lm hX1l
      obtain ⟨X1, v⟩ := X
      dsimp only at hX1l
      go_upto_region 10 with (first | (go_at_call 7; refine ((lm _ _ hS (own_front inferInstance))).mono ?_; rintro e w' (⟨A3, sp3, cap3, rfl, hO3, hS⟩)) | (refine wl_isld rfl ?_; ((refine wl_value rfl (ex_ldr0 hS rfl rfl rfl) ?_); (try simp only [Act.put, List.setIfInBounds_toArray, List.set_cons_zero, List.set_cons_succ]))))
      go_upto_region 11 with (first | (go_at_call 7; refine ((lm _ _ hS (own_front inferInstance))).mono ?_; rintro e w' (⟨A4, sp4, cap4, rfl, hO4, hS⟩)) | (refine wl_isld rfl ?_; ((refine wl_value rfl (ex_ldr0 hS rfl rfl rfl) ?_); (try simp only [Act.put, List.setIfInBounds_toArray, List.set_cons_zero, List.set_cons_succ]))))
      clear lm
      have hmx3 := (OwnD.of hO3).ok
      go_upto_region 12 with (fail)
      have h0 : OtI B (rowA A4 (flat enE X1 ++ sp4) 24 ++ (rowA A2 (flat enE (ownL t) ++ sp2) 24 ++ (cellB mb mkE.cells 24 ++ (cellB xb x.cells 24 ++ R)))) A3 X1.length cap3 ⟨0, X1⟩ _ := ⟨sp3, Nat.zero_le _, rfl, hO3, hS.to⟩
      clear hS hO3
      refine wp_loopS [53] [15, 54, 55, 56, 57, 58, 59, 60] (fun y : OtSt => [.int .i64 y.i]) (OtI B (rowA A4 (flat enE X1 ++ sp4) 24 ++ (rowA A2 (flat enE (ownL t) ++ sp2) 24 ++ (cellB mb mkE.cells 24 ++ (cellB xb x.cells 24 ++ R)))) A3 X1.length cap3) (fun y => X1.length - y.i) (⟨0, X1⟩) rfl (h0) ?_
      clear h0
      rintro ⟨i, ls⟩ J5 w ⟨sp3, hi, hlen, hO3, hS⟩
      dsimp only at hi hlen hO3 hS
      have Hlen := Lib.hid hlen
      clear hlen
      (simp only [Frm, setsT, junkT, List.setIfInBounds_toArray, List.set_cons_zero, List.set_cons_succ])
      by_cases hlt2 : i < X1.length
      · obtain ⟨y, gy⟩ := Nth.of (xs := ls) (j := i) (by rw [Hlen.out]; exact hlt2)
        have H2 := Lib.hid (show (ls.set i otE).length = X1.length by rw [List.length_set, Hlen.out])
        go_wp2_with (first | (refine wl_build ((enE.cells otE)) _ rfl rfl (by simp only [List.map_toArray, List.map_cons, List.map_nil]; rfl) rfl ?_; (try simp only [Act.put, List.setIfInBounds_toArray, List.set_cons_zero, List.set_cons_succ])) | (refine wl_value rfl ((ex_ixN rfl rfl rfl hlt2 hmx3)) ?_; (try simp only [Act.put, List.setIfInBounds_toArray, List.set_cons_zero, List.set_cons_succ])) | (refine wl_stEw (z := otE) rfl rfl rfl rfl hS hO3 rfl rfl ?_; clear hO3; intro _ hS hO3 _; (try simp only [evT, evC, List.getD_cons_succ, List.getD_cons_zero, List.set_cons_zero, List.set_cons_succ] at hS); (try simp only [Act.put, List.setIfInBounds_toArray, List.set_cons_zero, List.set_cons_succ])))
        exact ⟨(⟨i + 1, _⟩ : OtSt), ⟨_, hlt2, H2.out, hO3, hS.to⟩, (by dsimp only; omega), rfl, (by (simp only [blankT, junkT, List.cons_append, List.nil_append, List.setIfInBounds_toArray, List.set_cons_zero, List.set_cons_succ])), rfl⟩
      · go_upto_region 16 with (fail)
        rw [← Hlen.out]
        go_upto_region 17 with (first | (refine wl_buildSlice (E := enE) ([mkE, mkE, mkE]) rfl rfl (by simp only [List.map_toArray, List.map_cons, List.map_nil]; rfl) rfl (by decide) (by decide) hS ?_; intro _ _ hS hN; (try simp only [Act.put, List.setIfInBounds_toArray, List.set_cons_zero, List.set_cons_succ])) | (refine wl_ap (E := enE) rfl rfl rfl rfl hS ?_ ?_ ?_ ?_ ?_; (focus (rfl)); (focus (rfl)); (focus ((simp only [List.length_cons, List.length_nil]; rw [Hlen.out]; omega))); (focus decide); intro _ _ _ _ hO5 hS; (try simp only [Act.put, List.setIfInBounds_toArray, List.set_cons_zero, List.set_cons_succ])) | (refine wl_isld rfl ?_; ((refine wl_value rfl (ex_ldr0 hS rfl rfl rfl) ?_); (try simp only [Act.put, List.setIfInBounds_toArray, List.set_cons_zero, List.set_cons_succ]))))
        rw [Hlen.out]
        clear Hlen hO3
        have hS := hS.to (H' := rowA A4 (flat enE X1 ++ sp4) 24 ++ (rowA A2 (flat enE (ownL t) ++ sp2) 24 ++ (cellB mb mkE.cells 24 ++ (cellB xb x.cells 24 ++ R))))
        have l0 := fun (w : World) (H : HL) (hS : Sh B H w) => RMake_to hS (A := none) (cap := 0) (l := []) RdAt.nil (Nat.zero_le _) (Nat.zero_le _) (fun e he => nomatch he)
        obtain ⟨X0, hX0⟩ : ∃ X0, mkR [] = X0 := ⟨_, rfl⟩
        rw [hX0] at l0
        clear hX0
        obtain ⟨X01, v0⟩ := X0
        have l3 := fun (w : World) (H : HL) (hS : Sh B H w) (A3 A4 : Option Addr) (cap3 cap4 : Nat) (r3 : RdAt enE B H A3 X1) (r4 : RdAt enE B H A4 X1) => Same_any hS (A := A3) (A' := A4) (c := cap3) (c' := cap4) (xs := X1) (ys := X1) (rA := r3) (rB := r4)
        rw [decide_eq_true rfl] at l3
        go_upto_region 18 with ((go_at_call 8; refine ((l0 _ _ hS)).mono ?_; rintro e w' (⟨A6, sp6, cap6, rfl, hO6, hS⟩)))
        clear l0
        rcases hk with rfl | rfl | rfl | rfl
        · have l2 := fun (w : World) (H : HL) (hS : Sh B H w) (r : RdAt enE B H A t) => RPut_any hS (A := A) (cap := cap) (t := t) (r := r) hc (by omega) hsm x hp hdz
          rw [show putR t x = (X1, v) by rw [← hX]; unfold mdR; rw [if_pos rfl]] at l2
          go_wp2_with (first | (go_at_call 9; refine ((l2 _ _ hS inferInstance)).mono ?_; rintro e w' (⟨A7, sp7, cap7, rfl, hO7, hS⟩)) | (go_at_call 12; refine ((l3 _ _ hS _ _ _ _ inferInstance inferInstance)).mono ?_; rintro e w' (⟨rfl, hS⟩)) | (refine wl_isld rfl ?_; ((refine wl_value rfl (ex_ldr0 hS rfl rfl rfl) ?_); (try simp only [Act.put, List.setIfInBounds_toArray, List.set_cons_zero, List.set_cons_succ]))))
          exact ⟨(1 : Int), ⟨by decide, by decide, hS.to⟩, (by decide), rfl, (by (simp only [blankT, junkT, List.cons_append, List.nil_append, List.setIfInBounds_toArray, List.set_cons_zero, List.set_cons_succ])), rfl⟩
        · have l2 := fun (w : World) (H : HL) (hS : Sh B H w) (r : RdAt enE B H A t) => RSub_any hS (A := A) (cap := cap) (t := t) (r := r) hc (by omega) hsm dir (by omega)
          rw [show subR t dir = (X1, v) by rw [← hX]; unfold mdR; rw [if_neg (by decide), if_pos rfl]] at l2
          go_wp2_with (first | (go_at_call 10; refine ((l2 _ _ hS inferInstance)).mono ?_; rintro e w' (⟨A7, sp7, cap7, rfl, hO7, hS⟩)) | (go_at_call 12; refine ((l3 _ _ hS _ _ _ _ inferInstance inferInstance)).mono ?_; rintro e w' (⟨rfl, hS⟩)))
          exact ⟨(2 : Int), ⟨by decide, by decide, hS.to⟩, (by decide), rfl, (by (simp only [blankT, junkT, List.cons_append, List.nil_append, List.setIfInBounds_toArray, List.set_cons_zero, List.set_cons_succ])), rfl⟩
        · have l2 := fun (w : World) (H : HL) (hS : Sh B H w) (r : RdAt enE B H A t) => RMake_to hS (A := A) (cap := cap) (l := t) r hc (by omega) hsm
          rw [show mkR t = (X1, v) by rw [← hX]; unfold mdR; rw [if_neg (by decide), if_neg (by decide), if_pos rfl]] at l2
          go_wp2_with (first | (go_at_call 8; refine ((l2 _ _ hS inferInstance)).mono ?_; rintro e w' (⟨A7, sp7, cap7, rfl, hO7, hS⟩)) | (go_at_call 12; refine ((l3 _ _ hS _ _ _ _ inferInstance inferInstance)).mono ?_; rintro e w' (⟨rfl, hS⟩)))
          exact ⟨(3 : Int), ⟨by decide, by decide, hS.to⟩, (by decide), rfl, (by (simp only [blankT, junkT, List.cons_append, List.nil_append, List.setIfInBounds_toArray, List.set_cons_zero, List.set_cons_succ])), rfl⟩
        · have l2 := fun (w : World) (H : HL) (hS : Sh B H w) (r : RdAt enE B H A t) => RGraft_any hS (A := A) (A' := none) (cap := cap) (cap' := 0) (t := t) (s := []) (r := r) (r' := RdAt.nil) hc (Nat.zero_le _) (by omega) (Nat.zero_le _) hsm (fun e he => nomatch he) dir hdir (fun e he => nomatch he)
          rw [show graftR t dir [] = (X1, v) by rw [← hX]; unfold mdR; rw [if_neg (by decide), if_neg (by decide), if_neg (by decide)]] at l2
          go_wp2_with (first | (go_at_call 11; refine ((l2 _ _ hS inferInstance)).mono ?_; rintro e w' (⟨A7, sp7, cap7, rfl, hO7, hS⟩)) | (go_at_call 12; refine ((l3 _ _ hS _ _ _ _ inferInstance inferInstance)).mono ?_; rintro e w' (⟨rfl, hS⟩)))
          exact ⟨(4 : Int), ⟨by decide, by decide, hS.to⟩, (by decide), rfl, (by (simp only [blankT, junkT, List.cons_append, List.nil_append, List.setIfInBounds_toArray, List.set_cons_zero, List.set_cons_succ])), rfl⟩
    · have g0 : Nth (ownL t) t.length mkE := ⟨by unfold ownL; simp⟩
      have g2 : Nth (ownL t) (t.length + 2) mkE := ⟨by unfold ownL; rw [List.getElem?_append_right (by omega)]; simp⟩
      haveI qE : EqA Tryz.prog 24 (enE.cells mkE) (enE.cells mkE) true := eqE_yes mkE
      haveI qE2 : EqA Tryz.prog 24 (enE.cells mkE) mkE.cells true := eqE_yes mkE
      have l3 := fun (w : World) (H : HL) (hS : Sh B H w) (A3 A4 : Option Addr) (cap3 cap4 : Nat) (r3 : RdAt enE B H A3 t) (r4 : RdAt enE B H A4 t) => Same_any hS (A := A3) (A' := A4) (c := cap3) (c' := cap4) (xs := t) (ys := t) (rA := r3) (rB := r4)
      rw [decide_eq_true rfl] at l3
      have htl : t.length ≤ 2000000 := by omega
      go_upto_region 30 with (fail)
      (refine wp_drawnF hS [(0, true), (1, true), (2, false), (3, true), (4, true), (5, true), (6, true), (7, true), (8, true), (9, true), (10, true), (11, true), (12, true), (13, true), (14, true), (15, true), (16, true), (17, true), (18, true), (19, true), (20, true), (21, true), (22, true)] (by kernel_rfl) (by kernel_rfl) (by intro d _ _ _ _ h; cases d <;> exact h) ?_; have hS := hS.drew; simp only [picks_cons, picks_nil, opAt, List.toList_toArray]; (refine wpF_U (v := ?_) rfl ?_ (Sh.to hS) ?_; rotate_left; (focus (intro _ _; go_simp; (try (rw [wrap_i64]; (rotate_left; omega))); (try with_reducible rfl))); (try simp only [Act.put, List.setIfInBounds_toArray, List.set_cons_zero, List.set_cons_succ])); (refine wpF_U (v := ?_) rfl ?_ (Sh.to hS) ?_; rotate_left; (focus (intro _ _; go_simp; (try (rw [wrap_i64]; (rotate_left; omega))); (try with_reducible rfl))); (try simp only [Act.put, List.setIfInBounds_toArray, List.set_cons_zero, List.set_cons_succ])); (refine wpF_ex ?_); go_wp2_with ((go_at_call 12; refine ((l3 _ _ hS _ _ _ _ (own_front inferInstance) inferInstance)).mono ?_; rintro e w' (⟨rfl, hS⟩))); (refine ⟨?_, ?_⟩; (focus ((refine Or.inr ?_; exact Sh.to hS)))); (refine wpF_U (v := ?_) rfl ?_ (Sh.to hS) ?_; rotate_left; (focus (intro _ _; go_simp; (try (rw [wrap_i64]; (rotate_left; omega))); (try with_reducible rfl))); (try simp only [Act.put, List.setIfInBounds_toArray, List.set_cons_zero, List.set_cons_succ])); ((refine wpF_U (v := ?_) rfl ?_ (Sh.to hS) ?_; rotate_left; (focus (intro _ _; go_simp; (try (rw [wrap_i64]; (rotate_left; omega))); (try with_reducible rfl))); (try simp only [Act.put, List.setIfInBounds_toArray, List.set_cons_zero, List.set_cons_succ]))); ((refine wpF_U (v := ?_) rfl ?_ (Sh.to hS) ?_; rotate_left; (focus (intro _ _; go_simp; (try (rw [wrap_i64]; (rotate_left; omega))); (try with_reducible rfl))); (try simp only [Act.put, List.setIfInBounds_toArray, List.set_cons_zero, List.set_cons_succ]))); ((refine wpF_U (v := ?_) rfl ?_ (Sh.to hS) ?_; rotate_left; (focus (intro _ _; go_simp; (try (rw [wrap_i64]; (rotate_left; omega))); (try with_reducible rfl))); (try simp only [Act.put, List.setIfInBounds_toArray, List.set_cons_zero, List.set_cons_succ]))); (((refine wpF_U rfl (fun _ hT => ex_ix hT rfl rfl rfl ?_) (Sh.to hS) ?_); (focus (rfl)); (try simp only [Act.put, List.setIfInBounds_toArray, List.set_cons_zero, List.set_cons_succ]))); (((refine wpF_U rfl (fun _ hT => ex_lr hT rfl rfl rfl rfl) (Sh.to hS) ?_); (try simp only [Act.put, List.setIfInBounds_toArray, List.set_cons_zero, List.set_cons_succ]))); (((refine wpF_U rfl (fun _ hT => ex_ldr0 hT rfl rfl rfl) (Sh.to hS) ?_); (try simp only [Act.put, List.setIfInBounds_toArray, List.set_cons_zero, List.set_cons_succ]))); (((refine wpF_U rfl (fun _ hT => ex_eqA rfl rfl rfl) (Sh.to hS) ?_); (try simp only [Act.put, List.setIfInBounds_toArray, List.set_cons_zero, List.set_cons_succ]))); (refine wpF_U (v := ?_) rfl ?_ (Sh.to hS) ?_; rotate_left; (focus (intro _ _; go_simp; (try (rw [wrap_i64]; (rotate_left; omega))); (try with_reducible rfl))); (try simp only [Act.put, List.setIfInBounds_toArray, List.set_cons_zero, List.set_cons_succ])); (refine wpF_U (v := ?_) rfl ?_ (Sh.to hS) ?_; rotate_left; (focus (intro _ _; go_simp; (try (rw [wrap_i64]; (rotate_left; omega))); (try with_reducible rfl))); (try simp only [Act.put, List.setIfInBounds_toArray, List.set_cons_zero, List.set_cons_succ])); ((refine wpF_U (v := ?_) rfl ?_ (Sh.to hS) ?_; rotate_left; (focus (intro _ _; go_simp; (try (rw [wrap_i64]; (rotate_left; omega))); (try with_reducible rfl))); (try simp only [Act.put, List.setIfInBounds_toArray, List.set_cons_zero, List.set_cons_succ]))); ((refine wpF_U (v := ?_) rfl ?_ (Sh.to hS) ?_; rotate_left; (focus (intro _ _; go_simp; (try (rw [wrap_i64]; (rotate_left; omega))); (try with_reducible rfl))); (try simp only [Act.put, List.setIfInBounds_toArray, List.set_cons_zero, List.set_cons_succ]))); ((refine wpF_U (v := ?_) rfl ?_ (Sh.to hS) ?_; rotate_left; (focus (intro _ _; go_simp; (try (rw [wrap_i64]; (rotate_left; omega))); (try with_reducible rfl))); (try simp only [Act.put, List.setIfInBounds_toArray, List.set_cons_zero, List.set_cons_succ]))); ((refine wpF_U (v := ?_) rfl ?_ (Sh.to hS) ?_; rotate_left; (focus (intro _ _; go_simp; (try (rw [wrap_i64]; (rotate_left; omega))); (try with_reducible rfl))); (try simp only [Act.put, List.setIfInBounds_toArray, List.set_cons_zero, List.set_cons_succ]))); (((refine wpF_U rfl (fun _ hT => ex_ix hT rfl rfl rfl ?_) (Sh.to hS) ?_); (focus (rfl)); (try simp only [Act.put, List.setIfInBounds_toArray, List.set_cons_zero, List.set_cons_succ]))); (((refine wpF_U rfl (fun _ hT => ex_lr hT rfl rfl rfl rfl) (Sh.to hS) ?_); (try simp only [Act.put, List.setIfInBounds_toArray, List.set_cons_zero, List.set_cons_succ]))); (((refine wpF_U rfl (fun _ hT => ex_ldr0 hT rfl rfl rfl) (Sh.to hS) ?_); (try simp only [Act.put, List.setIfInBounds_toArray, List.set_cons_zero, List.set_cons_succ]))); (((refine wpF_U rfl (fun _ hT => ex_eqA rfl rfl rfl) (Sh.to hS) ?_); (try simp only [Act.put, List.setIfInBounds_toArray, List.set_cons_zero, List.set_cons_succ]))); (refine wpF_U (v := ?_) rfl ?_ (Sh.to hS) ?_; rotate_left; (focus (intro _ _; go_simp; (try (rw [wrap_i64]; (rotate_left; omega))); (try with_reducible rfl))); (try simp only [Act.put, List.setIfInBounds_toArray, List.set_cons_zero, List.set_cons_succ])); (refine wpF_U (v := ?_) rfl ?_ (Sh.to hS) ?_; rotate_left; (focus (intro _ _; go_simp; (try (rw [wrap_i64]; (rotate_left; omega))); (try with_reducible rfl))); (try simp only [Act.put, List.setIfInBounds_toArray, List.set_cons_zero, List.set_cons_succ])); ((refine wpF_done (by assumption) ?_)))
      go_wp2_with (fail)
      go_ret
      exact ⟨rfl, hS.to⟩
end
end Go.Tk
