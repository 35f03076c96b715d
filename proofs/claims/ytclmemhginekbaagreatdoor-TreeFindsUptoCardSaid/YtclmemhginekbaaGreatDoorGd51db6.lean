/- tree.Put and tree.Remove; Put and Remove, plain: right trees come of right trees, and what stands where; under: a walk over what lies below a directory; tree.Sub; tree.Graft; Sub and Graft, plain; tree.Walk: an iterator over what lies below a directory; The document's below, where and Sub; The names of a directory, plain: they stand in order; a path's last name. -/
import Derived.Test.YtclmemhginekbaaGreatDoorGf77356
import Derived.Test.YtclmemhginekbaaGreatDoorGb7f0c3
import Derived.Test.YtclmemhginekbaaGreatDoorG959ba2
import Derived.Test.YtclmemhginekbaaGreatDoorG983e5e
set_option linter.unusedSectionVars false
set_option linter.unusedSimpArgs false
set_option linter.unusedVariables false
namespace Go.Tk
open Go.RowKit Go.Proofs
section
variable {B : Base} {R H H1 : HL} {w w' : World}
set_option maxRecDepth 100000 in
set_option maxHeartbeats 1600000 in
theorem TRemove_any [HasML B] [NoDraw B] (hS : Sh B R w) {A : Option Addr} {cap : Nat} {t : List En} [r : RdAt enE B R A t] (hl : t.length ≤ 16777216) (hsm : SmallE t) (p : ByteArray) (hp : p.size ≤ 16777216) :
    Calls Tryz.prog 14 #[.slice A t.length cap, .string p] w (ApplyP B R (removeR t p)) := by
  have l1 := fun (w : World) (H : HL) (hS : Sh B H w) (r : RdAt enE B H A t) => Right_any hS (A := A) (cap := cap) (t := t) (r := r) hl hsm
  have l2 := fun (w : World) (H : HL) (hS : Sh B H w) => Check_any hS p hp
  have l3 := fun (w : World) (H : HL) (hS : Sh B H w) (r : RdAt enE B H A t) => Place_any hS (cap := cap) (r := r) hl p
  rw [errN_ok] at l2
  by_cases ha : (checkA t).2 = 0
  · rw [ha] at l1
    by_cases hok : okP p = true
    · rw [hok, if_pos rfl] at l2
      rcases find_idx (t := t) (p := p) with ⟨h1, _, _, _, _⟩ | ⟨i, x, h1, _, gx, _, _, _⟩
      · rw [h1] at l3
        have Hx := Lib.hid (show removeR t p = ([], 8) by unfold removeR; rw [if_pos ha, if_pos hok, if_pos h1])
        clear ha hok h1
        go_enter Tryz.func14, Tryz.ntmps14
        go_wp2_with (first | (refine wl_box rfl rfl rfl rfl hS ?_; intro pb _ hS; (try simp only [Act.put, List.setIfInBounds_toArray, List.set_cons_zero, List.set_cons_succ])) | (go_at_call 37; refine ((l1 _ _ hS inferInstance)).mono ?_; rintro e w' (⟨rfl, hS⟩)) | (go_at_call 45; refine ((l2 _ _ hS)).mono ?_; rintro e w' (⟨rfl, hS⟩)) | (go_at_call 42; refine ((l3 _ _ hS inferInstance)).mono ?_; rintro e w' (⟨rfl, hS⟩)) | (refine wl_isld rfl ?_; ((refine wl_value rfl (ex_ldC hS rfl rfl CellAt.out) ?_); (try simp only [Act.put, List.setIfInBounds_toArray, List.set_cons_zero, List.set_cons_succ]))))
        go_ret2
        rw [Hx.out]
        exact .bad hS.to
      · rw [h1] at l3
        have d4 : decide ((i : Int) < 0) = false := decide_eq_false (by omega)
        have Hx := Lib.hid (show removeR t p = (t.filter fun x => !goneB p x, 0) by unfold removeR; rw [if_pos ha, if_pos hok, if_neg (by omega)])
        have hcl := fun (w : World) (R : HL) (hS : Sh B R w) (r : RdAt enE B R A t) => CloneE_any hS (cap := cap) (t := t) (r := r) hl
        have hsz : ∀ e ∈ t, e.path.size ≤ 16777216 := fun e he => (hsm e he).1
        have hdl := fun (w : World) (pb : Nat) (A3 : Option Addr) (sp3 : List Value) (cap3 : Nat) (hO : OwnSl enE A3 t sp3 cap3) (hS : Sh B (rowA A3 (flat enE t ++ sp3) 24 ++ (cellB pb [.string p] 9 ++ R)) w) => DelF_any (rm1_any hp) hO hS hl hsz
        clear ha hok h1 hsz
        go_enter Tryz.func14, Tryz.ntmps14
        go_wp2_with (first | (refine wl_box rfl rfl rfl rfl hS ?_; intro pb _ hS; (try simp only [Act.put, List.setIfInBounds_toArray, List.set_cons_zero, List.set_cons_succ])) | (go_at_call 37; refine ((l1 _ _ hS inferInstance)).mono ?_; rintro e w' (⟨rfl, hS⟩)) | (go_at_call 45; refine ((l2 _ _ hS)).mono ?_; rintro e w' (⟨rfl, hS⟩)) | (go_at_call 42; refine ((l3 _ _ hS inferInstance)).mono ?_; rintro e w' (⟨rfl, hS⟩)) | (go_at_call 41; refine ((hcl _ _ hS inferInstance)).mono ?_; rintro e w' (⟨A2, sp2, cap2, rfl, hO, hS⟩)) | (go_at_call 46; refine ((hdl _ _ _ _ _ hO hS)).mono ?_; rintro e w' (⟨sp3, rfl, hO3, hS⟩)) | (refine wl_isld rfl ?_; ((refine wl_value rfl (ex_ldC hS rfl rfl CellAt.out) ?_); (try simp only [Act.put, List.setIfInBounds_toArray, List.set_cons_zero, List.set_cons_succ]))))
        go_ret2
        rw [Hx.out]
        exact ⟨_, _, _, rfl, hO3, hS.to⟩
    · rw [if_neg hok] at l2
      have Hx := Lib.hid (show removeR t p = ([], 45) by unfold removeR; rw [if_pos ha, if_neg hok])
      clear ha hok
      go_enter Tryz.func14, Tryz.ntmps14
      go_wp2_with (first | (refine wl_box rfl rfl rfl rfl hS ?_; intro pb _ hS; (try simp only [Act.put, List.setIfInBounds_toArray, List.set_cons_zero, List.set_cons_succ])) | (go_at_call 37; refine ((l1 _ _ hS inferInstance)).mono ?_; rintro e w' (⟨rfl, hS⟩)) | (go_at_call 45; refine ((l2 _ _ hS)).mono ?_; rintro e w' (⟨rfl, hS⟩)) | (refine wl_isld rfl ?_; ((refine wl_value rfl (ex_ldC hS rfl rfl CellAt.out) ?_); (try simp only [Act.put, List.setIfInBounds_toArray, List.set_cons_zero, List.set_cons_succ]))))
      go_ret2
      rw [Hx.out]
      exact .bad hS.to
  · have Hx := Lib.hid (show removeR t p = ([], (checkA t).2) by unfold removeR; rw [if_neg ha])
    have d2 : ((checkA t).2 == 0) = false := beq_no ha
    have d3 : ((checkA t).2 != 0) = true := bne_no ha
    clear ha
    go_enter Tryz.func14, Tryz.ntmps14
    go_wp2_with (first | (refine wl_box rfl rfl rfl rfl hS ?_; intro pb _ hS; (try simp only [Act.put, List.setIfInBounds_toArray, List.set_cons_zero, List.set_cons_succ])) | (go_at_call 37; refine ((l1 _ _ hS inferInstance)).mono ?_; rintro e w' (⟨rfl, hS⟩)))
    go_ret2
    rw [Hx.out]
    exact .bad hS.to
theorem kindB {a b : Int} : (decide (a = 2) = decide (b = 2)) → ((a == 2) != (b == 2)) = false := by
  intro h
  have h1 : (a == 2) = decide (a = 2) := by rw [Bool.eq_iff_iff]; simp
  have h2 : (b == 2) = decide (b = 2) := by rw [Bool.eq_iff_iff]; simp
  rw [h1, h2, h]
  cases decide (b = 2) <;> rfl
/-- What comes of putting: too much, or the tree. -/
def fitR (out : List En) : List En × Int := if fitsI out = 0 then (srt out, 0) else ([], fitsI out)
set_option maxRecDepth 100000 in
set_option maxHeartbeats 3200000 in
theorem TPut_any [HasML B] [NoDraw B] (hS : Sh B R w) {A : Option Addr} {cap : Nat} {t : List En} [r : RdAt enE B R A t] (hl : t.length ≤ 16777216) (hsm : SmallE t) (e : En) (hp : e.path.size ≤ 16777216) (hdz : e.data.size ≤ 16777216) :
    Calls Tryz.prog 13 #[.slice A t.length cap, .agg e.cells.toArray] w (ApplyP B R (putR t e)) := by
  have l1 := fun (w : World) (H : HL) (hS : Sh B H w) (r : RdAt enE B H A t) => Right_any hS (A := A) (cap := cap) (t := t) (r := r) hl hsm
  have l2 := fun (w : World) (H : HL) (hS : Sh B H w) => May_any hS e hp
  have l3 := fun (w : World) (H : HL) (hS : Sh B H w) => Up_any hS e.path hp
  have l4 := fun (w : World) (H : HL) (hS : Sh B H w) (r : RdAt enE B H A t) => Where_any hS (cap := cap) (r := r) hl (upP e.path) (Nat.le_trans (upP_le _) hp)
  have l5 := fun (w : World) (H : HL) (hS : Sh B H w) (r : RdAt enE B H A t) => Place_any hS (cap := cap) (r := r) hl e.path
  by_cases ha : (checkA t).2 = 0
  · obtain ⟨_, hT⟩ := right_of ha
    rw [ha] at l1
    by_cases hm : mayB e = true
    · rw [hm] at l2
      by_cases hw : whereI t (upP e.path) = 0
      · rw [hw] at l4
        obtain ⟨X, hX⟩ : ∃ X, putR t e = X := ⟨_, rfl⟩
        rw [hX]
        unfold putR at hX
        rw [if_pos ha, if_pos hm, if_pos hw] at hX
        have hfew := hT.few
        have hcl := fun (w : World) (R : HL) (hS : Sh B R w) (r : RdAt enE B R A t) => CloneE_any hS (cap := cap) (t := t) (r := r) hl
        have key : ∀ out, putO t e = some out → X = fitR out ∧ out.length ≤ t.length + 1 ∧ SmallE out ∧ (∀ x ∈ out, mayB x = true) ∧ ∀ ys : List En, ys.Perm out → (ys.Pairwise fun x y => 0 ≤ lessI y.path x.path) → ys = srt out := by
          intro out ho
          obtain ⟨h1, h2⟩ := putO_ok hT.may hT.sorted.dist hm ho
          rw [ho] at hX
          refine ⟨hX.symm, ?_, ?_, h1, fun ys hy hs => sorted_uniq (hy.trans (srt_perm _).symm) hs (srt_sorted _ fun x hx => (mayB_ok (h1 x hx)).1) (fun x hx => (mayB_ok (h1 x ((srt_perm _).subset hx))).1) (h2.perm (srt_perm _))⟩
          · unfold putO at ho
            split at ho
            · cases ho; simp
            · split at ho
              · cases ho; simp
              · cases ho
          · unfold putO at ho
            split at ho
            · cases ho
              intro x hx
              rcases List.mem_append.1 hx with h4 | h4
              · exact hsm x h4
              · rw [List.mem_singleton.1 h4]; exact ⟨hp, hdz⟩
            · split at ho
              · cases ho
                intro x hx
                rcases List.mem_or_eq_of_mem_set hx with h4 | h4
                · exact hsm x h4
                · rw [h4]; exact ⟨hp, hdz⟩
              · cases ho
        have hun : ∀ {i : Nat}, t.findIdx? (fun x => decide (x.path = e.path)) = some i → putO t e = if decide (kindI t e.path = 2) = decide (e.kind = 2) then some (t.set i e) else none := by
          intro i h
          unfold putO
          rw [h]
        rcases find_idx (t := t) (p := e.path) with ⟨h1, h2, _, _, _⟩ | ⟨i, x, h1, h2, gx, _, h5, _⟩
        · have ho : putO t e = some (t ++ [e]) := by unfold putO; rw [h2]
          obtain ⟨hXo, hol, hos, hom, hou⟩ := key _ ho
          obtain ⟨out, hout⟩ : ∃ out, t ++ [e] = out := ⟨_, rfl⟩
          rw [hout] at hXo hol hos hom hou
          have hft := fun (w : World) (R : HL) (hS : Sh B R w) (A : Option Addr) (cap : Nat) (r : RdAt enE B R A out) => Fits_any hS (cap := cap) (t := out) (r := r) (by omega) hos
          have hso := fun (w : World) (H : HL) (hS : Sh B H w) (A : Option Addr) (sp : List Value) (cap : Nat) (hO : OwnSl enE A out sp cap) (C : HL → HL) (hp : CtxRow H A (flat enE out ++ sp) 24 C) => Sorted_any hO hS (hp := hp) (by omega) (fun x hx => ⟨(mayB_ok (hom x hx)).1, (hos x hx).1⟩)
          rw [h1] at l5
          have Hout := Lib.hid hout
          have Hou := Lib.hid hou
          have HXo := Lib.hid hXo
          clear ha hT hm hw hX key hun h1 h2 ho hout hou hXo hos hom
          go_enter Tryz.func13, Tryz.ntmps13
          go_upto_region 15 with (first | (refine wl_box rfl rfl rfl rfl hS ?_; intro eb _ hS; (try simp only [Act.put, List.setIfInBounds_toArray, List.set_cons_zero, List.set_cons_succ])) | (go_at_call 37; refine ((l1 _ _ hS inferInstance)).mono ?_; rintro e w' (⟨rfl, hS⟩)) | (go_at_call 38; refine ((l2 _ _ hS)).mono ?_; rintro e w' (⟨rfl, hS⟩)) | (go_at_call 40; refine ((l3 _ _ hS)).mono ?_; rintro e w' (⟨rfl, hS⟩)) | (go_at_call 39; refine ((l4 _ _ hS inferInstance)).mono ?_; rintro e w' (⟨rfl, hS⟩)) | (go_at_call 42; refine ((l5 _ _ hS inferInstance)).mono ?_; rintro e w' (⟨rfl, hS⟩)) | (go_at_call 41; refine ((hcl _ _ hS inferInstance)).mono ?_; rintro e w' (⟨A2, sp2, cap2, rfl, hO, hS⟩)) | (refine wl_buildSlice (E := enE) [e] rfl rfl (by simp only [List.map_toArray, List.map_cons, List.map_nil]; rfl) rfl (by decide) (by decide) hS ?_; intro _ _ hS hN; (try simp only [Act.put, List.setIfInBounds_toArray, List.set_cons_zero, List.set_cons_succ])) | (refine wl_apz (E := enE) rfl rfl rfl rfl hS ?_ ?_ ?_ ?_ ?_; (focus (rfl)); (focus (rfl)); (focus ((simp only [List.length_cons, List.length_nil]; omega))); (focus decide); intro zs A3 sp3 cap3 _ hz0 hO3 hS; have Hz := Lib.hid hz0; clear hz0; (try simp only [Act.put, List.setIfInBounds_toArray, List.set_cons_zero, List.set_cons_succ])) | (refine wl_isld rfl ?_; ((first | refine wl_value rfl (ex_ldC hS rfl rfl CellAt.out) ?_ | refine wl_value rfl (ex_ldr0 hS rfl rfl rfl) ?_); (try simp only [Act.put, List.setIfInBounds_toArray, List.set_cons_zero, List.set_cons_succ]))))
          obtain rfl : zs = out := by rw [← Hout.out]; exact Hz
          clear Hz
          by_cases hf : fitsI zs = 0
          · have Hx := Lib.hid (show X = (srt zs, 0) by rw [HXo.out]; unfold fitR; rw [if_pos hf])
            rw [hf] at hft
            clear hf
            go_wp2_with (first | (go_at_call 43; refine ((hft _ _ hS _ _ inferInstance)).mono ?_; rintro e w' (⟨rfl, hS⟩)) | (go_at_call 44; refine ((hso _ _ hS _ _ _ hO3 _ inferInstance)).mono ?_; rintro e w' (⟨rfl, ys, hper, hpw, hO4, hS⟩)))
            go_ret2
            rw [Hx.out]
            have hys := Hou.out ys hper hpw
            rw [hys] at hO4 hS
            exact ⟨_, _, _, (by rw [← hys, hper.length_eq]; rfl), hO4, hS.to⟩
          · have Hx := Lib.hid (show X = ([], fitsI zs) by rw [HXo.out]; unfold fitR; rw [if_neg hf])
            have d2 : (fitsI zs == 0) = false := beq_no hf
            have d3 : (fitsI zs != 0) = true := bne_no hf
            clear hf
            go_wp2_with ((go_at_call 43; refine ((hft _ _ hS _ _ inferInstance)).mono ?_; rintro e w' (⟨rfl, hS⟩)))
            go_ret2
            rw [Hx.out]
            exact .bad hS.to
        · rw [h1] at l5
          have hu := hun h2
          have d4 : decide ((0 : Int) ≤ (i : Int)) = true := decide_eq_true (by omega)
          rw [h5] at hu
          by_cases hk : decide (x.kind = 2) = decide (e.kind = 2)
          · rw [if_pos hk] at hu
            have d5 := kindB hk
            have d6 : ((x.kind == 2) == (e.kind == 2)) = true := by
              revert d5
              cases (x.kind == 2) <;> cases (e.kind == 2) <;> simp
            clear d5
            obtain ⟨hXo, hol, hos, hom, hou⟩ := key _ hu
            have hft := fun (w : World) (R : HL) (hS : Sh B R w) (A : Option Addr) (cap : Nat) (r : RdAt enE B R A (t.set i e)) => Fits_any hS (cap := cap) (t := t.set i e) (r := r) (by omega) hos
            have hso := fun (w : World) (H : HL) (hS : Sh B H w) (A : Option Addr) (sp : List Value) (cap : Nat) (hO : OwnSl enE A (t.set i e) sp cap) (C : HL → HL) (hp : CtxRow H A (flat enE (t.set i e) ++ sp) 24 C) => Sorted_any hO hS (hp := hp) (by omega) (fun x hx => ⟨(mayB_ok (hom x hx)).1, (hos x hx).1⟩)
            rw [List.length_set] at hft hso
            have Hou := Lib.hid hou
            have HXo := Lib.hid hXo
            clear ha hT hm hw hX key hun h1 h2 hu hou hXo hos hom hk h5
            go_enter Tryz.func13, Tryz.ntmps13
            go_upto_region 11 with (first | (refine wl_box rfl rfl rfl rfl hS ?_; intro eb _ hS; (try simp only [Act.put, List.setIfInBounds_toArray, List.set_cons_zero, List.set_cons_succ])) | (go_at_call 37; refine ((l1 _ _ hS inferInstance)).mono ?_; rintro e w' (⟨rfl, hS⟩)) | (go_at_call 38; refine ((l2 _ _ hS)).mono ?_; rintro e w' (⟨rfl, hS⟩)) | (go_at_call 40; refine ((l3 _ _ hS)).mono ?_; rintro e w' (⟨rfl, hS⟩)) | (go_at_call 39; refine ((l4 _ _ hS inferInstance)).mono ?_; rintro e w' (⟨rfl, hS⟩)) | (go_at_call 42; refine ((l5 _ _ hS inferInstance)).mono ?_; rintro e w' (⟨rfl, hS⟩)) | (go_at_call 41; refine ((hcl _ _ hS inferInstance)).mono ?_; rintro e w' (⟨A2, sp2, cap2, rfl, hO, hS⟩)) | (refine wl_isld rfl ?_; ((first | refine wl_value rfl (ex_ldC hS rfl rfl CellAt.out) ?_ | refine wl_value rfl (ex_ldr0 hS rfl rfl rfl) ?_); (try simp only [Act.put, List.setIfInBounds_toArray, List.set_cons_zero, List.set_cons_succ]))))
            (refine wp_drawnF hS [(0, true), (1, true), (2, true), (3, true), (4, true), (5, true), (6, true), (7, true), (8, true), (9, true)] (by kernel_rfl) (by kernel_rfl) (by intro d _ _ _ _ h; cases d <;> exact h) ?_; have hS := hS.drew; simp only [picks_cons, picks_nil, opAt, List.toList_toArray]; (refine wpF_U (v := ?_) rfl ?_ (Sh.to hS) ?_; rotate_left; (focus (intro _ _; go_simp; (try (rw [wrap_i64]; (rotate_left; omega))); (try with_reducible rfl))); (try simp only [Act.put, List.setIfInBounds_toArray, List.set_cons_zero, List.set_cons_succ])); (refine wpF_U (v := ?_) rfl ?_ (Sh.to hS) ?_; rotate_left; (focus (intro _ _; go_simp; (try (rw [wrap_i64]; (rotate_left; omega))); (try with_reducible rfl))); (try simp only [Act.put, List.setIfInBounds_toArray, List.set_cons_zero, List.set_cons_succ])); ((refine wpF_U rfl (fun _ hT => ex_ix hT rfl rfl rfl ?_) (Sh.to hS) ?_); (focus (rfl)); (try simp only [Act.put, List.setIfInBounds_toArray, List.set_cons_zero, List.set_cons_succ])); (refine wpF_U (v := ?_) rfl ?_ (Sh.to hS) ?_; rotate_left; (focus (intro _ _; go_simp; (try (rw [wrap_i64]; (rotate_left; omega))); (try with_reducible rfl))); (try simp only [Act.put, List.setIfInBounds_toArray, List.set_cons_zero, List.set_cons_succ])); ((refine wpF_U rfl (fun _ hT => ex_lf hT rfl rfl rfl CellAt.out) (Sh.to hS) ?_); (try simp only [Act.put, List.setIfInBounds_toArray, List.set_cons_zero, List.set_cons_succ])); ((refine wpF_U (v := ?_) rfl ?_ (Sh.to hS) ?_; rotate_left; (focus (intro _ _; go_simp; (try (rw [wrap_i64]; (rotate_left; omega))); (try with_reducible rfl))); (try simp only [Act.put, List.setIfInBounds_toArray, List.set_cons_zero, List.set_cons_succ]))); (refine wpF_U (v := ?_) rfl ?_ (Sh.to hS) ?_; rotate_left; (focus (intro _ _; go_simp; (try (rw [wrap_i64]; (rotate_left; omega))); (try with_reducible rfl))); (try simp only [Act.put, List.setIfInBounds_toArray, List.set_cons_zero, List.set_cons_succ])); ((refine wpF_U rfl (fun _ hT => ex_ldC hT rfl rfl CellAt.out) (Sh.to hS) ?_); (try simp only [Act.put, List.setIfInBounds_toArray, List.set_cons_zero, List.set_cons_succ])); ((refine wpF_U (v := ?_) rfl ?_ (Sh.to hS) ?_; rotate_left; (focus (intro _ _; go_simp; (try (rw [wrap_i64]; (rotate_left; omega))); (try with_reducible rfl))); (try simp only [Act.put, List.setIfInBounds_toArray, List.set_cons_zero, List.set_cons_succ]))); ((refine wpF_U (v := ?_) rfl ?_ (Sh.to hS) ?_; rotate_left; (focus (intro _ _; go_simp; (try (rw [wrap_i64]; (rotate_left; omega))); (try with_reducible rfl))); (try simp only [Act.put, List.setIfInBounds_toArray, List.set_cons_zero, List.set_cons_succ]))); ((refine wpF_done (by assumption) ?_)))
            go_upto_region 15 with (first | (refine wl_stEw rfl rfl rfl rfl hS hO rfl rfl ?_; clear hO; intro _ hS hO g3; (try simp only [evT, evC, List.getD_cons_succ, List.getD_cons_zero, List.set_cons_zero, List.set_cons_succ] at hS); (try simp only [Act.put, List.setIfInBounds_toArray, List.set_cons_zero, List.set_cons_succ])) | (refine wl_isld rfl ?_; ((refine wl_value rfl (ex_ldr0 hS rfl rfl rfl) ?_); (try simp only [Act.put, List.setIfInBounds_toArray, List.set_cons_zero, List.set_cons_succ]))) | ((refine wl_value rfl (ex_ix hS rfl rfl rfl ?_) ?_); (focus (rfl)); (try simp only [Act.put, List.setIfInBounds_toArray, List.set_cons_zero, List.set_cons_succ])))
            by_cases hf : fitsI (t.set i e) = 0
            · have Hx := Lib.hid (show X = (srt (t.set i e), 0) by rw [HXo.out]; unfold fitR; rw [if_pos hf])
              rw [hf] at hft
              clear hf
              go_wp2_with (first | (go_at_call 43; refine ((hft _ _ hS _ _ inferInstance)).mono ?_; rintro e w' (⟨rfl, hS⟩)) | (go_at_call 44; refine ((hso _ _ hS _ _ _ hO _ inferInstance)).mono ?_; rintro e w' (⟨rfl, ys, hper, hpw, hO4, hS⟩)))
              go_ret2
              rw [Hx.out]
              have hys := Hou.out ys hper hpw
              have hlen := hper.length_eq
              rw [List.length_set] at hlen
              rw [hys] at hO4 hS hlen
              exact ⟨_, _, _, (by rw [hlen]; rfl), hO4, hS.to⟩
            · have Hx := Lib.hid (show X = ([], fitsI (t.set i e)) by rw [HXo.out]; unfold fitR; rw [if_neg hf])
              obtain ⟨v, hv⟩ : ∃ v, fitsI (t.set i e) = v := ⟨_, rfl⟩
              rw [hv] at hft hf Hx
              have d2 : (v == 0) = false := beq_no hf
              have d3 : (v != 0) = true := bne_no hf
              clear hf hv
              go_wp2_with ((go_at_call 43; refine ((hft _ _ hS _ _ inferInstance)).mono ?_; rintro e w' (⟨rfl, hS⟩)))
              go_ret2
              rw [Hx.out]
              exact .bad hS.to
          · rw [if_neg hk] at hu
            have Hx := Lib.hid (show X = ([], 9) by rw [← hX, hu])
            have d5 : ((x.kind == 2) != (e.kind == 2)) = true := by
              have h1 : (x.kind == 2) = decide (x.kind = 2) := by rw [Bool.eq_iff_iff]; simp
              have h2 : (e.kind == 2) = decide (e.kind = 2) := by rw [Bool.eq_iff_iff]; simp
              rw [h1, h2]
              revert hk
              cases decide (x.kind = 2) <;> cases decide (e.kind = 2) <;> simp
            have d6 : ((x.kind == 2) == (e.kind == 2)) = false := by
              revert d5
              cases (x.kind == 2) <;> cases (e.kind == 2) <;> simp
            clear d5
            clear ha hT hm hw hX key hun h1 h2 hu hk h5
            go_enter Tryz.func13, Tryz.ntmps13
            go_upto_region 11 with (first | (refine wl_box rfl rfl rfl rfl hS ?_; intro eb _ hS; (try simp only [Act.put, List.setIfInBounds_toArray, List.set_cons_zero, List.set_cons_succ])) | (go_at_call 37; refine ((l1 _ _ hS inferInstance)).mono ?_; rintro e w' (⟨rfl, hS⟩)) | (go_at_call 38; refine ((l2 _ _ hS)).mono ?_; rintro e w' (⟨rfl, hS⟩)) | (go_at_call 40; refine ((l3 _ _ hS)).mono ?_; rintro e w' (⟨rfl, hS⟩)) | (go_at_call 39; refine ((l4 _ _ hS inferInstance)).mono ?_; rintro e w' (⟨rfl, hS⟩)) | (go_at_call 42; refine ((l5 _ _ hS inferInstance)).mono ?_; rintro e w' (⟨rfl, hS⟩)) | (go_at_call 41; refine ((hcl _ _ hS inferInstance)).mono ?_; rintro e w' (⟨A2, sp2, cap2, rfl, hO, hS⟩)) | (refine wl_isld rfl ?_; ((first | refine wl_value rfl (ex_ldC hS rfl rfl CellAt.out) ?_ | refine wl_value rfl (ex_ldr0 hS rfl rfl rfl) ?_); (try simp only [Act.put, List.setIfInBounds_toArray, List.set_cons_zero, List.set_cons_succ]))))
            (refine wp_drawnF hS [(0, true), (1, true), (2, true), (3, true), (4, true), (5, true), (6, true), (7, true), (8, true), (9, true)] (by kernel_rfl) (by kernel_rfl) (by intro d _ _ _ _ h; cases d <;> exact h) ?_; have hS := hS.drew; simp only [picks_cons, picks_nil, opAt, List.toList_toArray]; (refine wpF_U (v := ?_) rfl ?_ (Sh.to hS) ?_; rotate_left; (focus (intro _ _; go_simp; (try (rw [wrap_i64]; (rotate_left; omega))); (try with_reducible rfl))); (try simp only [Act.put, List.setIfInBounds_toArray, List.set_cons_zero, List.set_cons_succ])); (refine wpF_U (v := ?_) rfl ?_ (Sh.to hS) ?_; rotate_left; (focus (intro _ _; go_simp; (try (rw [wrap_i64]; (rotate_left; omega))); (try with_reducible rfl))); (try simp only [Act.put, List.setIfInBounds_toArray, List.set_cons_zero, List.set_cons_succ])); ((refine wpF_U rfl (fun _ hT => ex_ix hT rfl rfl rfl ?_) (Sh.to hS) ?_); (focus (rfl)); (try simp only [Act.put, List.setIfInBounds_toArray, List.set_cons_zero, List.set_cons_succ])); (refine wpF_U (v := ?_) rfl ?_ (Sh.to hS) ?_; rotate_left; (focus (intro _ _; go_simp; (try (rw [wrap_i64]; (rotate_left; omega))); (try with_reducible rfl))); (try simp only [Act.put, List.setIfInBounds_toArray, List.set_cons_zero, List.set_cons_succ])); ((refine wpF_U rfl (fun _ hT => ex_lf hT rfl rfl rfl CellAt.out) (Sh.to hS) ?_); (try simp only [Act.put, List.setIfInBounds_toArray, List.set_cons_zero, List.set_cons_succ])); ((refine wpF_U (v := ?_) rfl ?_ (Sh.to hS) ?_; rotate_left; (focus (intro _ _; go_simp; (try (rw [wrap_i64]; (rotate_left; omega))); (try with_reducible rfl))); (try simp only [Act.put, List.setIfInBounds_toArray, List.set_cons_zero, List.set_cons_succ]))); (refine wpF_U (v := ?_) rfl ?_ (Sh.to hS) ?_; rotate_left; (focus (intro _ _; go_simp; (try (rw [wrap_i64]; (rotate_left; omega))); (try with_reducible rfl))); (try simp only [Act.put, List.setIfInBounds_toArray, List.set_cons_zero, List.set_cons_succ])); ((refine wpF_U rfl (fun _ hT => ex_ldC hT rfl rfl CellAt.out) (Sh.to hS) ?_); (try simp only [Act.put, List.setIfInBounds_toArray, List.set_cons_zero, List.set_cons_succ])); ((refine wpF_U (v := ?_) rfl ?_ (Sh.to hS) ?_; rotate_left; (focus (intro _ _; go_simp; (try (rw [wrap_i64]; (rotate_left; omega))); (try with_reducible rfl))); (try simp only [Act.put, List.setIfInBounds_toArray, List.set_cons_zero, List.set_cons_succ]))); ((refine wpF_U (v := ?_) rfl ?_ (Sh.to hS) ?_; rotate_left; (focus (intro _ _; go_simp; (try (rw [wrap_i64]; (rotate_left; omega))); (try with_reducible rfl))); (try simp only [Act.put, List.setIfInBounds_toArray, List.set_cons_zero, List.set_cons_succ]))); ((refine wpF_done (by assumption) ?_)))
            go_wp2_with (fail)
            go_ret2
            rw [Hx.out]
            exact .bad hS.to
      · have Hx := Lib.hid (show putR t e = ([], 52) by unfold putR; rw [if_pos ha, if_pos hm, if_neg hw])
        obtain ⟨v, hv⟩ : ∃ v, whereI t (upP e.path) = v := ⟨_, rfl⟩
        rw [hv] at l4 hw
        have d2 : (v == 0) = false := beq_no hw
        have d3 : (v != 0) = true := bne_no hw
        clear ha hT hm hw hv
        go_enter Tryz.func13, Tryz.ntmps13
        go_wp2_with (first | (refine wl_box rfl rfl rfl rfl hS ?_; intro eb _ hS; (try simp only [Act.put, List.setIfInBounds_toArray, List.set_cons_zero, List.set_cons_succ])) | (go_at_call 37; refine ((l1 _ _ hS inferInstance)).mono ?_; rintro e w' (⟨rfl, hS⟩)) | (go_at_call 38; refine ((l2 _ _ hS)).mono ?_; rintro e w' (⟨rfl, hS⟩)) | (go_at_call 40; refine ((l3 _ _ hS)).mono ?_; rintro e w' (⟨rfl, hS⟩)) | (go_at_call 39; refine ((l4 _ _ hS inferInstance)).mono ?_; rintro e w' (⟨rfl, hS⟩)) | (refine wl_isld rfl ?_; ((first | refine wl_value rfl (ex_ldC hS rfl rfl CellAt.out) ?_ | refine wl_value rfl (ex_ldr0 hS rfl rfl rfl) ?_); (try simp only [Act.put, List.setIfInBounds_toArray, List.set_cons_zero, List.set_cons_succ]))))
        go_ret2
        rw [Hx.out]
        exact .bad hS.to
    · have Hx := Lib.hid (show putR t e = ([], 50) by unfold putR; rw [if_pos ha, if_neg hm])
      have hm1 : mayB e = false := by cases h : mayB e; rfl; exact absurd h hm
      rw [hm1] at l2
      clear ha hT hm hm1
      go_enter Tryz.func13, Tryz.ntmps13
      go_wp2_with (first | (refine wl_box rfl rfl rfl rfl hS ?_; intro eb _ hS; (try simp only [Act.put, List.setIfInBounds_toArray, List.set_cons_zero, List.set_cons_succ])) | (go_at_call 37; refine ((l1 _ _ hS inferInstance)).mono ?_; rintro e w' (⟨rfl, hS⟩)) | (go_at_call 38; refine ((l2 _ _ hS)).mono ?_; rintro e w' (⟨rfl, hS⟩)) | (refine wl_isld rfl ?_; ((refine wl_value rfl (ex_ldr0 hS rfl rfl rfl) ?_); (try simp only [Act.put, List.setIfInBounds_toArray, List.set_cons_zero, List.set_cons_succ]))))
      go_ret2
      rw [Hx.out]
      exact .bad hS.to
  · have Hx := Lib.hid (show putR t e = ([], (checkA t).2) by unfold putR; rw [if_neg ha])
    have d2 : ((checkA t).2 == 0) = false := beq_no ha
    have d3 : ((checkA t).2 != 0) = true := bne_no ha
    clear ha
    go_enter Tryz.func13, Tryz.ntmps13
    go_wp2_with (first | (refine wl_box rfl rfl rfl rfl hS ?_; intro eb _ hS; (try simp only [Act.put, List.setIfInBounds_toArray, List.set_cons_zero, List.set_cons_succ])) | (go_at_call 37; refine ((l1 _ _ hS inferInstance)).mono ?_; rintro e w' (⟨rfl, hS⟩)))
    go_ret2
    rw [Hx.out]
    exact .bad hS.to
end
end Go.Tk

set_option linter.unusedSectionVars false
set_option linter.unusedSimpArgs false
set_option linter.unusedVariables false
namespace Go.Tk
open Go.RowKit Go.Proofs
theorem cmpL_dropLast : ∀ (l : List ByteArray), l ≠ [] → cmpL l.dropLast l < 0
  | [], h => absurd rfl h
  | [x], _ => by show (-1 : Int) < 0; decide
  | x :: y :: r, _ => by
    rw [List.dropLast_cons_of_ne_nil (by simp), cmpL_cons, if_pos (cmpS_0.2 rfl)]
    exact cmpL_dropLast (y :: r) (by simp)
theorem up_less {p : ByteArray} (h : okP p = true) (hz : p.size ≠ 0) : lessI (upP p) p < 0 := by
  obtain ⟨l, hl⟩ := okP_some h
  rw [lessI_of (upP_names hl) hl]
  exact cmpL_dropLast l fun h0 => hz ((namesL_join hl).2.1 h0)
theorem sumE_nonneg : ∀ t : List En, 0 ≤ sumE t
  | [] => by simp [sumE]
  | e :: r => by have := sumE_nonneg r; rw [sumE]; omega
theorem sumE_take_le (t : List En) (i : Nat) : sumE (t.take i) ≤ sumE t := by
  conv => rhs; rw [← List.take_append_drop i t, sumE_append]
  have := sumE_nonneg (t.drop i)
  omega
theorem isDir_take {t : List En} (hT : RightT t) {i : Nat} {e : En} (g : Nth t i e) : isDirA (t.take i) (upP e.path) = true := by
  have hd := hT.dirs e g.mem
  unfold isDirA at hd ⊢
  rw [Bool.or_eq_true] at hd ⊢
  rcases hd with h | h
  · exact .inl h
  · right
    obtain ⟨f, hf, h2⟩ := List.any_eq_true.1 h
    have h3 := h2
    simp only [Bool.and_eq_true, decide_eq_true_eq] at h3
    refine List.any_eq_true.2 ⟨f, ?_, h2⟩
    obtain ⟨j, hj⟩ := List.getElem?_of_mem hf
    obtain ⟨hjl, hjx⟩ := List.getElem?_eq_some_iff.1 hj
    obtain ⟨hil, hix⟩ := List.getElem?_eq_some_iff.1 g.get
    have oe := mayB_ok (hT.may e g.mem)
    have hlt := up_less oe.1 oe.2
    rw [← h3.2] at hlt
    have hji : j < i := by
      refine Classical.byContradiction fun hn => ?_
      rcases Nat.lt_or_ge i j with h4 | h4
      · have h5 := List.pairwise_iff_getElem.1 hT.sorted i j hil hjl h4
        rw [hix, hjx] at h5
        have := lessI_swap oe.1 (mayB_ok (hT.may f hf)).1
        omega
      · have : j = i := by omega
        subst this
        rw [hix] at hjx
        subst hjx
        rw [lessI_self] at hlt
        omega
    exact List.mem_of_getElem? (i := j) (by rw [List.getElem?_take, if_pos hji]; exact hj)
theorem checkG_of {t : List En} (hT : RightT t) : ∀ (r : List En) (i : Nat) (sum : Int), t.drop i = r → sum = sumE (t.take i) → checkG isDirA t i sum r = (0, 0)
  | [], _, _, _, _ => rfl
  | e :: r, i, sum, hd, hs => by
    have hi : t[i]? = some e := by have := congrArg (fun l => l[0]?) hd; simpa using this
    have hg : Nth t i e := ⟨hi⟩
    have hr : t.drop (i + 1) = r := by have := hg.drop; rw [hd] at this; exact (List.cons.inj this).2.symm
    rw [checkG_cons, if_neg (by rw [hT.may e hg.mem]; decide), if_neg, if_neg (by rw [isDir_take hT hg]; decide), if_neg]
    · exact checkG_of hT r (i + 1) _ hr (by rw [sumE_take hg, hs])
    · have h1 := sumE_take_le t (i + 1)
      rw [sumE_take hg] at h1
      have := hT.fit
      omega
    · rintro ⟨h0, h1⟩
      obtain ⟨f, gf⟩ := Nth.of (xs := t) (j := i - 1) (by have := hg.lt; omega)
      obtain ⟨h2, h3⟩ := List.getElem?_eq_some_iff.1 gf.get
      obtain ⟨h4, h5⟩ := List.getElem?_eq_some_iff.1 hi
      have := List.pairwise_iff_getElem.1 hT.sorted (i - 1) i h2 h4 (by omega)
      rw [h3, h5] at this
      rw [List.getD_eq_getElem?_getD, gf.get, Option.getD_some] at h1
      exact h1 this
theorem of_right {t : List En} (hT : RightT t) : checkA t = (0, 0) := by
  unfold checkA
  rw [if_neg (by have := hT.few; omega)]
  exact checkG_of hT t 0 0 rfl (by simp [sumE])
theorem sorted_strict {t : List En} (h : t.Pairwise fun x y => 0 ≤ lessI y.path x.path) (hd : Dist t) (hok : ∀ e ∈ t, okP e.path = true) : SortedE t := by
  refine List.Pairwise.imp_of_mem (fun {x y} hx hy hxy => ?_) (h.and hd)
  have h1 := lessI_swap (hok x hx) (hok y hy)
  have h2 : ¬ lessI x.path y.path = 0 := fun e => hxy.2 (lessI_eq (hok x hx) (hok y hy) e)
  have h3 := hxy.1
  show lessI x.path y.path < 0
  omega
theorem stand_same {a b : List En} (ha : Dist a) (hb : Dist b) (hza : ∀ e ∈ a, ¬ e = zE) (hzb : ∀ e ∈ b, ¬ e = zE) {q : ByteArray} (h : ∀ x : En, x.path = q → (x ∈ a ↔ x ∈ b)) : standE a q = standE b q := by
  by_cases h1 : standE a q = zE
  · by_cases h2 : standE b q = zE
    · rw [h1, h2]
    · obtain ⟨h3, h4⟩ := standE_get h2
      have h5 := (h _ h4).2 h3
      have h6 := standE_mem ha h5
      rw [h4] at h6
      exact h6
  · obtain ⟨h3, h4⟩ := standE_get h1
    have h5 := (h _ h4).1 h3
    have h6 := standE_mem hb h5
    rw [h4] at h6
    exact h6.symm
theorem find_stand {t : List En} (hm : ∀ e ∈ t, mayB e = true) (p : ByteArray) : (!decide (findI t p = -1)) = !decide (standE t p = zE) := by
  rcases find_idx (t := t) (p := p) with ⟨h1, _, _, h4, _⟩ | ⟨i, x, h1, _, gx, _, _, h4⟩
  · rw [h1, h4]; simp
  · have h5 := mayB_zE (hm x gx.mem)
    have h6 : ¬ ((i : Int) = -1) := by omega
    rw [h1, h4]; simp [h5, h6]
theorem findE_right {t : List En} (hT : RightT t) (p : ByteArray) : findE t p = (standE t p, !decide (standE t p = zE)) := by
  unfold findE
  rw [of_right hT, if_pos rfl, find_stand hT.may]
theorem srt_right {out : List En} (hm : ∀ e ∈ out, mayB e = true) (hd : Dist out) (hf : fitsI out = 0) (hdir : ∀ e ∈ out, isDirA out (upP e.path) = true) : RightT (srt out) := by
  have hp := srt_perm out
  unfold fitsI at hf
  by_cases h1 : 1024 < out.length
  · rw [if_pos h1] at hf; exact absurd hf (by decide)
  rw [if_neg h1] at hf
  by_cases h2 : 1048576 < sumE out
  · rw [if_pos h2] at hf; exact absurd hf (by decide)
  have hm2 : ∀ e ∈ srt out, mayB e = true := fun e he => hm e (hp.subset he)
  exact {
    few := by rw [hp.length_eq]; omega
    may := hm2
    sorted := sorted_strict (srt_sorted out fun e he => (mayB_ok (hm e he)).1) (hd.perm hp) fun e he => (mayB_ok (hm2 e he)).1
    dirs := fun e he => isDirA_mono (fun x hx => hp.symm.subset hx) (hdir e (hp.subset he))
    fit := by rw [sumE_perm hp]; omega }
theorem where_dir {t : List En} {d : ByteArray} (h : whereI t d = 0) : isDirA t d = true := by
  unfold whereI at h
  by_cases h1 : okP d = false
  · rw [if_pos h1] at h; exact absurd h (by decide)
  rw [if_neg h1] at h
  unfold isDirA
  by_cases h2 : d.size = 0
  · simp [h2]
  rw [if_neg h2] at h
  by_cases h3 : findI t d = -1
  · rw [if_pos h3] at h; exact absurd h (by decide)
  rw [if_neg h3] at h
  rcases find_idx (t := t) (p := d) with ⟨h4, _⟩ | ⟨i, x, _, _, gx, h5, h6, _⟩
  · exact absurd h4 h3
  · rw [h6] at h
    by_cases h7 : x.kind = 2
    · rw [Bool.or_eq_true]
      exact .inr (List.any_eq_true.2 ⟨x, gx.mem, by simp [h5, h7]⟩)
    · rw [if_neg h7] at h; exact absurd h (by decide)
/-- What was put is found; all else is as it was. -/
theorem put_right {t out : List En} {e : En} (hT : RightT t) (he : mayB e = true) (hw : whereI t (upP e.path) = 0) (ho : putO t e = some out) (hf : fitsI out = 0) :
    RightT (srt out) ∧ standE (srt out) e.path = e ∧ ∀ q, ¬ q = e.path → standE (srt out) q = standE t q := by
  obtain ⟨hm, hd⟩ := putO_ok hT.may hT.sorted.dist he ho
  have hp := srt_perm out
  have hmem : e ∈ out ∧ (∀ x : En, ¬ x.path = e.path → (x ∈ out ↔ x ∈ t)) ∧ ∀ d, isDirA t d = true → isDirA out d = true := by
    unfold putO at ho
    rcases find_idx (t := t) (p := e.path) with ⟨_, h1, _, _, h2⟩ | ⟨i, y, _, h1, gy, h3, h4, _⟩
    · rw [h1] at ho
      cases ho
      refine ⟨by simp, fun x hx => ?_, fun d hd => isDirA_mono (fun x hx => List.mem_append_left _ hx) hd⟩
      rw [List.mem_append, List.mem_singleton]
      exact ⟨fun h => h.elim id fun h => absurd (by rw [h]) hx, .inl⟩
    · rw [h1] at ho
      dsimp only at ho
      by_cases hk : ¬ decide (kindI t e.path = 2) = decide (e.kind = 2)
      · rw [if_neg hk] at ho; cases ho
      replace hk := Classical.not_not.1 hk
      rw [if_pos hk] at ho
      cases ho
      obtain ⟨hil, hix⟩ := List.getElem?_eq_some_iff.1 gy.get
      have hin : e ∈ t.set i e := List.mem_of_getElem? (i := i) (by rw [List.getElem?_set_self hil])
      have hkeep : ∀ x ∈ t, ¬ x.path = e.path → x ∈ t.set i e := fun x hx hne => by
        obtain ⟨j, hj⟩ := List.getElem?_of_mem hx
        refine List.mem_of_getElem? (i := j) ?_
        rw [List.getElem?_set_ne, hj]
        rintro rfl
        rw [gy.get] at hj
        cases hj
        exact hne h3
      refine ⟨hin, fun x hx => ⟨fun h => ?_, fun h => hkeep x h hx⟩, fun d hd => ?_⟩
      · rcases List.mem_or_eq_of_mem_set h with h5 | h5
        · exact h5
        · exact absurd (by rw [h5]) hx
      · unfold isDirA at hd ⊢
        rw [Bool.or_eq_true] at hd ⊢
        rcases hd with h | h
        · exact .inl h
        · right
          obtain ⟨f, hf2, h5⟩ := List.any_eq_true.1 h
          have h6 := h5
          simp only [Bool.and_eq_true, decide_eq_true_eq] at h6
          by_cases hfp : f.path = e.path
          · have : f = y := hT.sorted.dist.inj hf2 gy.mem (hfp.trans h3.symm)
            subst this
            rw [h4, h6.1] at hk
            have hk2 : e.kind = 2 := by simpa using hk.symm
            exact List.any_eq_true.2 ⟨e, hin, by simp [hk2, ← hfp, h6.2]⟩
          · exact List.any_eq_true.2 ⟨f, hkeep f hf2 hfp, h5⟩
  obtain ⟨h1, h2, h3⟩ := hmem
  have hR : RightT (srt out) := srt_right hm hd hf fun x hx => by
    by_cases hxp : x.path = e.path
    · rw [hxp]; exact h3 _ (where_dir hw)
    · exact h3 _ (hT.dirs x ((h2 x hxp).1 hx))
  have hds := hd.perm hp
  refine ⟨hR, standE_mem hds (hp.symm.subset h1), fun q hq => ?_⟩
  refine stand_same hds hT.sorted.dist (fun x hx => mayB_zE (hR.may x hx)) (fun x hx => mayB_zE (hT.may x hx)) fun x hx => ?_
  rw [← h2 x (by rw [hx]; exact hq)]
  exact ⟨fun h => hp.subset h, fun h => hp.symm.subset h⟩
theorem sumE_filter (p : En → Bool) : ∀ t : List En, sumE (t.filter p) ≤ sumE t
  | [] => Int.le_refl _
  | e :: r => by
    have := sumE_filter p r
    rw [List.filter_cons]
    split
    · rw [sumE, sumE]; omega
    · rw [sumE]; omega
theorem above_names {a b : ByteArray} {x y : List ByteArray} (ha : namesB a = some x) (hb : namesB b = some y) : aboveB a b = true ↔ ∃ z, z ≠ [] ∧ y = x ++ z := by
  unfold aboveB
  rw [ha, hb]
  dsimp only
  rw [Bool.and_eq_true, decide_eq_true_eq, decide_eq_true_eq]
  constructor
  · rintro ⟨h1, h2⟩
    refine ⟨y.drop x.length, fun h => ?_, ?_⟩
    · have := List.drop_eq_nil_iff.1 h; omega
    · conv => lhs; rw [← List.take_append_drop x.length y, ← h2]
  · rintro ⟨z, hz, rfl⟩
    have : 0 < z.length := List.length_pos_iff.2 hz
    refine ⟨by rw [List.length_append]; omega, by simp⟩
theorem gone_up {p : ByteArray} (hp : okP p = true) {x f : En} (hx : okP x.path = true) (hxz : x.path.size ≠ 0) (hf : f.path = upP x.path) (hg : goneB p f = true) : goneB p x = true := by
  obtain ⟨a, ha⟩ := okP_some hp
  obtain ⟨y, hy⟩ := okP_some hx
  have hne : y ≠ [] := fun h0 => hxz ((namesL_join hy).2.1 h0)
  have hu := upP_names hy
  obtain ⟨v, hv⟩ : ∃ v, y = y.dropLast ++ [v] := ⟨_, (List.dropLast_concat_getLast hne).symm⟩
  unfold goneB at hg ⊢
  rw [Bool.or_eq_true, decide_eq_true_eq] at hg ⊢
  right
  rw [above_names ha hy]
  rcases hg with h | h
  · rw [hf] at h
    rw [← h, hu] at ha
    cases ha
    exact ⟨[v], by simp, hv⟩
  · rw [hf, above_names ha hu] at h
    obtain ⟨z, hz, h2⟩ := h
    exact ⟨z ++ [v], by simp, hv.trans (by rw [h2, List.append_assoc])⟩
theorem remove_right {t : List En} (hT : RightT t) {p : ByteArray} (hp : okP p = true) : RightT (t.filter fun x => !goneB p x) := {
  few := Nat.le_trans (List.length_filter_le ..) hT.few
  may := fun e he => hT.may e (List.mem_filter.1 he).1
  sorted := hT.sorted.filter _
  dirs := fun e he => by
    obtain ⟨h1, h2⟩ := List.mem_filter.1 he
    have hd := hT.dirs e h1
    have oe := mayB_ok (hT.may e h1)
    unfold isDirA at hd ⊢
    rw [Bool.or_eq_true] at hd ⊢
    rcases hd with h | h
    · exact .inl h
    · right
      obtain ⟨f, hf, h5⟩ := List.any_eq_true.1 h
      have h6 := h5
      simp only [Bool.and_eq_true, decide_eq_true_eq] at h6
      refine List.any_eq_true.2 ⟨f, List.mem_filter.2 ⟨hf, ?_⟩, h5⟩
      cases hg : goneB p f with
      | false => rfl
      | true =>
        rw [gone_up hp oe.1 oe.2 h6.2 hg] at h2
        cases h2
  fit := Int.le_trans (sumE_filter _ t) hT.fit }
def gonePB (p q : ByteArray) : Bool := decide (q = p) || aboveB p q
theorem stand_remove {t : List En} (hT : RightT t) {p : ByteArray} (hp : okP p = true) (q : ByteArray) : standE (t.filter fun x => !goneB p x) q = if standE t q = zE then zE else if gonePB p q = true then zE else standE t q := by
  have hR := remove_right hT hp
  by_cases h1 : standE t q = zE
  · rw [if_pos h1]
    refine standE_none fun e he hq => ?_
    have := standE_mem hT.sorted.dist (List.mem_filter.1 he).1
    rw [hq, h1] at this
    exact mayB_zE (hR.may e he) this.symm
  · rw [if_neg h1]
    obtain ⟨h2, h3⟩ := standE_get h1
    by_cases hg : gonePB p q = true
    · rw [if_pos hg]
      refine standE_none fun e he hq => ?_
      obtain ⟨_, h4⟩ := List.mem_filter.1 he
      unfold goneB at h4
      rw [hq] at h4
      unfold gonePB at hg
      rw [hg] at h4
      cases h4
    · rw [if_neg hg]
      have : standE t q ∈ t.filter fun x => !goneB p x := by
        refine List.mem_filter.2 ⟨h2, ?_⟩
        unfold goneB
        rw [h3]
        unfold gonePB at hg
        simpa using hg
      have h4 := standE_mem hR.sorted.dist this
      rw [h3] at h4
      exact h4
/-- Below, as text. -/
theorem splitL_append : ∀ (a b : List UInt8), splitL (a ++ 47 :: b) = splitL a ++ splitL b
  | [], b => by
    rw [List.nil_append]
    conv => lhs; unfold splitL
    rw [if_pos rfl]
    rfl
  | c :: a, b => by
    have ih := splitL_append a b
    rw [List.cons_append]
    conv => lhs; unfold splitL
    conv => rhs; arg 1; unfold splitL
    by_cases hc : c = 47
    · rw [if_pos hc, if_pos hc, ih]; rfl
    · rw [if_neg hc, if_neg hc, ih]
      cases h : splitL a with
      | nil => exact absurd h (splitL_ne a)
      | cons x r => rfl
theorem join_app : ∀ (a b : List (List UInt8)), a ≠ [] → b ≠ [] → Lib.join (a ++ b) [47] = Lib.join a [47] ++ 47 :: Lib.join b [47]
  | [], _, h, _ => absurd rfl h
  | [x], b, _, hb => by
    cases b with
    | nil => exact absurd rfl hb
    | cons y b => rw [List.cons_append, List.nil_append, join2, Lib.join_one]
  | x :: y :: r, b, _, hb => by
    rw [List.cons_append, List.cons_append, join2, ← List.cons_append, join_app (y :: r) b (by simp) hb, join2]
    simp
theorem names_pieces {s : ByteArray} {l : List ByteArray} (h : namesB s = some l) (hz : s.size ≠ 0) : l = piecesB s := by
  unfold namesB at h
  rw [if_neg hz] at h
  split at h
  · cases h
  · split at h
    · cases h; rfl
    · cases h
def underB (p q : ByteArray) : Bool := decide (q = p) || (decide (p.size < q.size) && (decide (q.extract 0 p.size = p) && decide (q.data.toList[p.size]? = some 47)))
theorem extract_iff (p q : ByteArray) : q.extract 0 p.size = p ↔ q.data.toList.take p.size = p.data.toList := by
  rw [← ext_mk]
  constructor
  · intro h
    have := congrArg (fun s : ByteArray => s.data.toList) h
    simpa using this
  · intro h
    apply ba_ext
    rw [data_mkB]
    simpa using h
theorem under_gone {p q : ByteArray} (hp : okP p = true) (hpz : p.size ≠ 0) (hq : okP q = true) (hqz : q.size ≠ 0) : underB p q = gonePB p q := by
  obtain ⟨x, hx⟩ := okP_some hp
  obtain ⟨y, hy⟩ := okP_some hq
  unfold underB gonePB
  congr 1
  rw [Bool.eq_iff_iff, above_names hx hy]
  simp only [Bool.and_eq_true, decide_eq_true_eq]
  rw [extract_iff]
  have sp := ba_size p
  have sq := ba_size q
  constructor
  · rintro ⟨h1, h2, h3⟩
    have hs : q.data.toList = p.data.toList ++ 47 :: q.data.toList.drop (p.size + 1) := by
      conv => lhs; rw [← List.take_append_drop p.size q.data.toList, h2]
      congr 1
      obtain ⟨h4, h5⟩ := List.getElem?_eq_some_iff.1 h3
      rw [List.drop_eq_getElem_cons h4, h5]
    rw [names_pieces hx hpz, names_pieces hy hqz]
    unfold piecesB
    refine ⟨(splitL (q.data.toList.drop (p.size + 1))).map mkB, by simpa using splitL_ne _, ?_⟩
    rw [← List.map_append, ← splitL_append, ← hs]
  · rintro ⟨z, hz, hyz⟩
    have hxn : x ≠ [] := fun h0 => hpz ((namesL_join hx).2.1 h0)
    have hq' : q.data.toList = p.data.toList ++ 47 :: Lib.join (z.map (·.data.toList)) [47] := by
      rw [← (namesL_join hy).1, ← (namesL_join hx).1, hyz]
      unfold joinB
      rw [data_mkB, data_mkB, List.map_append]
      exact join_app _ _ (by simpa using hxn) (by simpa using hz)
    refine ⟨?_, ?_, ?_⟩
    · rw [sq, hq', List.length_append, List.length_cons, ← sp]; omega
    · rw [hq', sp]; simp
    · rw [hq', sp]; simp
/-- What the law asks of removing. -/
theorem removed {t : List En} (hT : RightT t) {p : ByteArray} (hp : okP p = true) (hpz : p.size ≠ 0) (q : ByteArray) : (underB p q = true → standE (t.filter fun x => !goneB p x) q = zE) ∧ (underB p q = false → standE (t.filter fun x => !goneB p x) q = standE t q) := by
  rw [stand_remove hT hp]
  by_cases h1 : standE t q = zE
  · rw [if_pos h1, h1]; exact ⟨fun _ => rfl, fun _ => rfl⟩
  · rw [if_neg h1]
    obtain ⟨h2, h3⟩ := standE_get h1
    have h4 := mayB_ok (hT.may _ h2)
    rw [h3] at h4
    rw [under_gone hp hpz h4.1 h4.2]
    constructor
    · intro h; rw [if_pos h]
    · intro h; rw [if_neg (by rw [h]; decide)]
theorem find_ok {t : List En} (hT : RightT t) {p : ByteArray} (h : ¬ findI t p = -1) : p.size ≠ 0 := by
  rcases find_idx (t := t) (p := p) with ⟨h1, _⟩ | ⟨i, x, _, _, gx, h5, _, _⟩
  · exact absurd h1 h
  · rw [← h5]; exact (mayB_ok (hT.may x gx.mem)).2
end Go.Tk

set_option linter.unusedSectionVars false
set_option linter.unusedSimpArgs false
set_option linter.unusedVariables false
namespace Go.Tk
open Go.RowKit Go.Proofs
def belowL (dir : ByteArray) (t : List En) : List En := t.filter fun e => aboveB dir e.path
section
variable {B : Base} {R H H1 : HL} {w w' : World}
/-- The boxes that the walk's closure keeps. -/
def underH (tb db : Nat) (A : Option Addr) (n cap : Nat) (dir : ByteArray) : HL := cellB db [.string dir] 9 ++ (cellB tb [.slice A n cap] 22 ++ [])
set_option maxRecDepth 100000 in
theorem Under_any (hS : Sh B R w) (A : Option Addr) (n cap : Nat) (dir : ByteArray) : Calls Tryz.prog 49 #[.slice A n cap, .string dir] w fun e w' => ∃ tb db, e = .returned (.func (.func 65) #[] #[.pointer (some ⟨tb, 0, none⟩), .pointer (some ⟨db, 0, none⟩)]) ∧
    Sh B (cellB db [.string dir] 9 ++ (cellB tb [.slice A n cap] 22 ++ R)) w' := by
  go_enter Tryz.func49, Tryz.ntmps49
  go_wp2_with (first | (refine wl_box rfl rfl rfl rfl hS ?_; intro bb _ hS; (try simp only [Act.put, List.setIfInBounds_toArray, List.set_cons_zero, List.set_cons_succ])) | (refine wl_isld rfl ?_; ((first | refine wl_value rfl (ex_l0 hS rfl rfl rfl CellAt.out) ?_ | refine wl_value rfl (ex_lf hS rfl rfl rfl CellAt.out) ?_ | refine wl_value rfl (ex_l1 hS rfl rfl rfl CellAt.out) ?_ | refine wl_value rfl (ex_ldC hS rfl rfl CellAt.out) ?_ | refine wl_value rfl (ex_l0 hS rfl rfl rfl rfl) ?_ | refine wl_value rfl (ex_lf hS rfl rfl rfl rfl) ?_ | refine wl_value rfl (ex_l1 hS rfl rfl rfl rfl) ?_ | refine wl_value rfl (ex_ldC hS rfl rfl rfl) ?_ | refine wl_value rfl (ex_l00 hS rfl rfl CellAt.out) ?_ | refine wl_value rfl (ex_l00 hS rfl rfl rfl) ?_ | refine wl_value rfl (ex_l0f hS rfl rfl CellAt.out) ?_ | refine wl_value rfl (ex_l0f hS rfl rfl rfl) ?_ | refine wl_value rfl (ex_lr hS rfl rfl rfl rfl) ?_ | refine wl_value rfl (ex_lr0 hS rfl rfl rfl) ?_ | refine wl_value rfl (ex_lrz hS rfl rfl rfl) ?_ | refine wl_value rfl (ex_lrf hS rfl rfl rfl) ?_ | refine wl_value rfl (ex_ldrC hS rfl rfl) ?_ | refine wl_value rfl (ex_ldr0 hS rfl rfl rfl) ?_); (try simp only [Act.put, List.setIfInBounds_toArray, List.set_cons_zero, List.set_cons_succ]))) | ((first | refine wl_value rfl (ex_ix hS rfl rfl rfl ?_) ?_); (focus (first | rfl | omega | (simp; done))); (try simp only [Act.put, List.setIfInBounds_toArray, List.set_cons_zero, List.set_cons_succ])) | ((first | refine wl_value rfl (ex_eqA rfl rfl rfl) ?_ | refine wl_value rfl (ex_neA rfl rfl rfl) ?_); (try simp only [Act.put, List.setIfInBounds_toArray, List.set_cons_zero, List.set_cons_succ])) | (refine wl_alloc rfl rfl hS ?_; intro _ _ hS; (try simp only [Act.put, List.setIfInBounds_toArray, List.set_cons_zero, List.set_cons_succ])) | (refine wl_box rfl rfl rfl rfl hS ?_; intro _ _ hS; (try simp only [Act.put, List.setIfInBounds_toArray, List.set_cons_zero, List.set_cons_succ])) | (refine wl_st rfl rfl rfl rfl rfl hS (of_decide_eq_true rfl) ?_; intro _ hS; (try simp only [evT, evC, List.getD_cons_succ, List.getD_cons_zero, List.set_cons_zero, List.set_cons_succ] at hS); (try simp only [List.set_cons_zero, List.set_cons_succ] at hS); (try simp only [Act.put, List.setIfInBounds_toArray, List.set_cons_zero, List.set_cons_succ])) | (refine wl_strC rfl rfl rfl rfl hS rfl rfl ?_; intro _ hS; (try simp only [evT, evC, List.getD_cons_succ, List.getD_cons_zero, List.set_cons_zero, List.set_cons_succ] at hS); (try simp only [Act.put, List.setIfInBounds_toArray, List.set_cons_zero, List.set_cons_succ])))
  go_ret
  exact ⟨_, _, rfl, hS⟩
structure UnSt where
  i : Nat
def UnI (B : Base) (R0 : HL) (t : List En) (dir : ByteArray) (J : List En → HL → Prop) (i : Nat) (w : World) : Prop := ∃ d, i ≤ t.length ∧ J (belowL dir (t.take i)) d ∧ Sh B (d ++ R0) w
set_option maxRecDepth 100000 in
set_option maxHeartbeats 3200000 in
theorem Under1_pre [HasML B] {tb db l : Nat} {A : Option Addr} {cap : Nat} {t : List En} {dir : ByteArray} [r : RdAt enE B R A t] (hl : t.length ≤ 16777216) (hdir : dir.size ≤ 16777216) (hsm : SmallE t) {J Jx : List En → HL → Prop}
    (hY : ∀ (pre : List En) (x : En) (d : HL) (w : World), x ∈ t → pre.length < t.length → aboveB dir x.path = true → pre ++ [x] <+: belowL dir t → J pre d → Sh B (d ++ (cellB db [.string dir] 9 ++ (cellB tb [.slice A t.length cap] 22 ++ R))) w →
      YieldAt Fence.wide 0 Tryz.prog l #[.agg x.cells.toArray] w fun e w' => (e = .returned (.bool true) ∧ ∃ d', J (pre ++ [x]) d' ∧ Sh B (d' ++ (cellB db [.string dir] 9 ++ (cellB tb [.slice A t.length cap] 22 ++ R))) w') ∨
        (e = .returned (.bool false) ∧ ∃ d', Jx (pre ++ [x]) d' ∧ Sh B (d' ++ (cellB db [.string dir] 9 ++ (cellB tb [.slice A t.length cap] 22 ++ R))) w'))
    {d : HL} (h0 : J [] d) (hS : Sh B (d ++ (cellB db [.string dir] 9 ++ (cellB tb [.slice A t.length cap] 22 ++ R))) w) :
    Calls Tryz.prog 65 #[.func (.yield l) #[] #[], .pointer (some ⟨tb, 0, none⟩), .pointer (some ⟨db, 0, none⟩)] w fun e w' => ∃ v, e = .returned v ∧
      ((∃ d', J (belowL dir t) d' ∧ Sh B (d' ++ (cellB db [.string dir] 9 ++ (cellB tb [.slice A t.length cap] 22 ++ R))) w') ∨
       (∃ pre d', pre <+: belowL dir t ∧ Jx pre d' ∧ Sh B (d' ++ (cellB db [.string dir] 9 ++ (cellB tb [.slice A t.length cap] 22 ++ R))) w')) := by
  obtain ⟨R0, hR0⟩ : ∃ R0, cellB db [.string dir] 9 ++ (cellB tb [.slice A t.length cap] 22 ++ R) = R0 := ⟨_, rfl⟩
  have HY := Lib.hid hY
  have Hsm := Lib.hid hsm
  clear hY hsm
  go_enter Tryz.func65, Tryz.ntmps65
  go_wp2_with (first | (refine wl_isld rfl ?_; ((first | refine wl_value rfl (ex_l0 hS rfl rfl rfl CellAt.out) ?_ | refine wl_value rfl (ex_lf hS rfl rfl rfl CellAt.out) ?_ | refine wl_value rfl (ex_l1 hS rfl rfl rfl CellAt.out) ?_ | refine wl_value rfl (ex_ldC hS rfl rfl CellAt.out) ?_ | refine wl_value rfl (ex_l0 hS rfl rfl rfl rfl) ?_ | refine wl_value rfl (ex_lf hS rfl rfl rfl rfl) ?_ | refine wl_value rfl (ex_l1 hS rfl rfl rfl rfl) ?_ | refine wl_value rfl (ex_ldC hS rfl rfl rfl) ?_ | refine wl_value rfl (ex_l00 hS rfl rfl CellAt.out) ?_ | refine wl_value rfl (ex_l00 hS rfl rfl rfl) ?_ | refine wl_value rfl (ex_l0f hS rfl rfl CellAt.out) ?_ | refine wl_value rfl (ex_l0f hS rfl rfl rfl) ?_ | refine wl_value rfl (ex_lr hS rfl rfl rfl rfl) ?_ | refine wl_value rfl (ex_lr0 hS rfl rfl rfl) ?_ | refine wl_value rfl (ex_lrz hS rfl rfl rfl) ?_ | refine wl_value rfl (ex_lrf hS rfl rfl rfl) ?_ | refine wl_value rfl (ex_ldrC hS rfl rfl) ?_ | refine wl_value rfl (ex_ldr0 hS rfl rfl rfl) ?_); (try simp only [Act.put, List.setIfInBounds_toArray, List.set_cons_zero, List.set_cons_succ]))) | ((first | refine wl_value rfl (ex_ix hS rfl rfl rfl ?_) ?_); (focus (first | rfl | omega | (simp; done))); (try simp only [Act.put, List.setIfInBounds_toArray, List.set_cons_zero, List.set_cons_succ])) | ((first | refine wl_value rfl (ex_eqA rfl rfl rfl) ?_ | refine wl_value rfl (ex_neA rfl rfl rfl) ?_); (try simp only [Act.put, List.setIfInBounds_toArray, List.set_cons_zero, List.set_cons_succ])) | (refine wl_alloc rfl rfl hS ?_; intro _ _ hS; (try simp only [Act.put, List.setIfInBounds_toArray, List.set_cons_zero, List.set_cons_succ])) | (refine wl_box rfl rfl rfl rfl hS ?_; intro _ _ hS; (try simp only [Act.put, List.setIfInBounds_toArray, List.set_cons_zero, List.set_cons_succ])) | (refine wl_st rfl rfl rfl rfl rfl hS (of_decide_eq_true rfl) ?_; intro _ hS; (try simp only [evT, evC, List.getD_cons_succ, List.getD_cons_zero, List.set_cons_zero, List.set_cons_succ] at hS); (try simp only [List.set_cons_zero, List.set_cons_succ] at hS); (try simp only [Act.put, List.setIfInBounds_toArray, List.set_cons_zero, List.set_cons_succ])) | (refine wl_strC rfl rfl rfl rfl hS rfl rfl ?_; intro _ hS; (try simp only [evT, evC, List.getD_cons_succ, List.getD_cons_zero, List.set_cons_zero, List.set_cons_succ] at hS); (try simp only [Act.put, List.setIfInBounds_toArray, List.set_cons_zero, List.set_cons_succ])))
  rw [hR0] at hS
  have h00 : UnI B R0 t dir J 0 _ := ⟨d, Nat.zero_le _, h0, hS⟩
  clear hS h0
  refine wp_loopS [8] [5, 9, 10, 11, 12, 13, 14, 15, 16, 17, 18, 19, 20, 21, 22] (fun i : Nat => [.int .i64 i]) (UnI B R0 t dir J) (fun i => t.length - i) (0) rfl (h00) ?_
  clear h00
  rintro i Jk w ⟨d, hi, hJ, hS⟩
  have HJ := Lib.hid hJ
  clear hJ
  (simp only [Frm, setsT, junkT, List.setIfInBounds_toArray, List.set_cons_zero, List.set_cons_succ])
  rw [← hR0] at hS
  by_cases hlt : i < t.length
  · obtain ⟨x, gx⟩ := Nth.of hlt
    have hxz := (Hsm.out x gx.mem).1
    have hb := fun (w : World) (H : HL) (hS : Sh B H w) => Below_any hS dir x.path hdir hxz
    have Hmem := Lib.hid gx.mem
    cases hab : aboveB dir x.path with
    | false =>
      rw [hab] at hb
      have Hn := Lib.hid (show belowL dir (t.take (i + 1)) = belowL dir (t.take i) by unfold belowL; rw [gx.take, List.filter_append]; simp [hab])
      clear hab
      go_upto_region 3 with (first | (refine wl_alloc rfl rfl hS ?_; intro eb _ hS; (try simp only [Act.put, List.setIfInBounds_toArray, List.set_cons_zero, List.set_cons_succ])) | (refine wl_isld rfl ?_; ((first | refine wl_value rfl (ex_l0 hS rfl rfl rfl CellAt.out) ?_ | refine wl_value rfl (ex_lf hS rfl rfl rfl CellAt.out) ?_ | refine wl_value rfl (ex_l1 hS rfl rfl rfl CellAt.out) ?_ | refine wl_value rfl (ex_ldC hS rfl rfl CellAt.out) ?_ | refine wl_value rfl (ex_l0 hS rfl rfl rfl rfl) ?_ | refine wl_value rfl (ex_lf hS rfl rfl rfl rfl) ?_ | refine wl_value rfl (ex_l1 hS rfl rfl rfl rfl) ?_ | refine wl_value rfl (ex_ldC hS rfl rfl rfl) ?_ | refine wl_value rfl (ex_l00 hS rfl rfl CellAt.out) ?_ | refine wl_value rfl (ex_l00 hS rfl rfl rfl) ?_ | refine wl_value rfl (ex_l0f hS rfl rfl CellAt.out) ?_ | refine wl_value rfl (ex_l0f hS rfl rfl rfl) ?_ | refine wl_value rfl (ex_lr hS rfl rfl rfl rfl) ?_ | refine wl_value rfl (ex_lr0 hS rfl rfl rfl) ?_ | refine wl_value rfl (ex_lrz hS rfl rfl rfl) ?_ | refine wl_value rfl (ex_lrf hS rfl rfl rfl) ?_ | refine wl_value rfl (ex_ldrC hS rfl rfl) ?_ | refine wl_value rfl (ex_ldr0 hS rfl rfl rfl) ?_); (try simp only [Act.put, List.setIfInBounds_toArray, List.set_cons_zero, List.set_cons_succ]))) | ((first | refine wl_value rfl (ex_ix hS rfl rfl rfl ?_) ?_); (focus (first | rfl | omega | (simp; done))); (try simp only [Act.put, List.setIfInBounds_toArray, List.set_cons_zero, List.set_cons_succ])) | ((first | refine wl_value rfl (ex_eqA rfl rfl rfl) ?_ | refine wl_value rfl (ex_neA rfl rfl rfl) ?_); (try simp only [Act.put, List.setIfInBounds_toArray, List.set_cons_zero, List.set_cons_succ])) | (refine wl_alloc rfl rfl hS ?_; intro _ _ hS; (try simp only [Act.put, List.setIfInBounds_toArray, List.set_cons_zero, List.set_cons_succ])) | (refine wl_box rfl rfl rfl rfl hS ?_; intro _ _ hS; (try simp only [Act.put, List.setIfInBounds_toArray, List.set_cons_zero, List.set_cons_succ])) | (refine wl_st rfl rfl rfl rfl rfl hS (of_decide_eq_true rfl) ?_; intro _ hS; (try simp only [evT, evC, List.getD_cons_succ, List.getD_cons_zero, List.set_cons_zero, List.set_cons_succ] at hS); (try simp only [List.set_cons_zero, List.set_cons_succ] at hS); (try simp only [Act.put, List.setIfInBounds_toArray, List.set_cons_zero, List.set_cons_succ])) | (refine wl_strC rfl rfl rfl rfl hS rfl rfl ?_; intro _ hS; (try simp only [evT, evC, List.getD_cons_succ, List.getD_cons_zero, List.set_cons_zero, List.set_cons_succ] at hS); (try simp only [Act.put, List.setIfInBounds_toArray, List.set_cons_zero, List.set_cons_succ])))
      have c0 := Sh.ldC (b := eb) (off := 0) (v := .string x.path) hS rfl
      have c1 := Sh.ldC (b := db) (off := 0) (v := .string dir) hS rfl
      go_wp2_with (first | (go_at_call 48; refine ((hb _ _ hS)).mono ?_; rintro e w' (⟨rfl, hS⟩)))
      rw [hR0] at hS
      (refine ⟨((i + 1 : Nat)), (⟨d, hlt, (by rw [Hn.out]; exact HJ.out), hS.to⟩), (by (try dsimp only); omega), rfl, (by (simp only [blankT, junkT, List.cons_append, List.nil_append, List.setIfInBounds_toArray, List.set_cons_zero, List.set_cons_succ])), rfl⟩)
    | true =>
      rw [hab] at hb
      have Hn := Lib.hid (show belowL dir (t.take (i + 1)) = belowL dir (t.take i) ++ [x] by unfold belowL; rw [gx.take, List.filter_append]; simp [hab])
      have Hab := Lib.hid hab
      have Hpx := Lib.hid (show belowL dir (t.take i) ++ [x] <+: belowL dir t by
        rw [← Hn.out]
        refine ⟨belowL dir (t.drop (i + 1)), ?_⟩
        unfold belowL
        rw [← List.filter_append, List.take_append_drop])
      clear hab
      go_upto_region 3 with (first | (refine wl_alloc rfl rfl hS ?_; intro eb _ hS; (try simp only [Act.put, List.setIfInBounds_toArray, List.set_cons_zero, List.set_cons_succ])) | (refine wl_isld rfl ?_; ((first | refine wl_value rfl (ex_l0 hS rfl rfl rfl CellAt.out) ?_ | refine wl_value rfl (ex_lf hS rfl rfl rfl CellAt.out) ?_ | refine wl_value rfl (ex_l1 hS rfl rfl rfl CellAt.out) ?_ | refine wl_value rfl (ex_ldC hS rfl rfl CellAt.out) ?_ | refine wl_value rfl (ex_l0 hS rfl rfl rfl rfl) ?_ | refine wl_value rfl (ex_lf hS rfl rfl rfl rfl) ?_ | refine wl_value rfl (ex_l1 hS rfl rfl rfl rfl) ?_ | refine wl_value rfl (ex_ldC hS rfl rfl rfl) ?_ | refine wl_value rfl (ex_l00 hS rfl rfl CellAt.out) ?_ | refine wl_value rfl (ex_l00 hS rfl rfl rfl) ?_ | refine wl_value rfl (ex_l0f hS rfl rfl CellAt.out) ?_ | refine wl_value rfl (ex_l0f hS rfl rfl rfl) ?_ | refine wl_value rfl (ex_lr hS rfl rfl rfl rfl) ?_ | refine wl_value rfl (ex_lr0 hS rfl rfl rfl) ?_ | refine wl_value rfl (ex_lrz hS rfl rfl rfl) ?_ | refine wl_value rfl (ex_lrf hS rfl rfl rfl) ?_ | refine wl_value rfl (ex_ldrC hS rfl rfl) ?_ | refine wl_value rfl (ex_ldr0 hS rfl rfl rfl) ?_); (try simp only [Act.put, List.setIfInBounds_toArray, List.set_cons_zero, List.set_cons_succ]))) | ((first | refine wl_value rfl (ex_ix hS rfl rfl rfl ?_) ?_); (focus (first | rfl | omega | (simp; done))); (try simp only [Act.put, List.setIfInBounds_toArray, List.set_cons_zero, List.set_cons_succ])) | ((first | refine wl_value rfl (ex_eqA rfl rfl rfl) ?_ | refine wl_value rfl (ex_neA rfl rfl rfl) ?_); (try simp only [Act.put, List.setIfInBounds_toArray, List.set_cons_zero, List.set_cons_succ])) | (refine wl_alloc rfl rfl hS ?_; intro _ _ hS; (try simp only [Act.put, List.setIfInBounds_toArray, List.set_cons_zero, List.set_cons_succ])) | (refine wl_box rfl rfl rfl rfl hS ?_; intro _ _ hS; (try simp only [Act.put, List.setIfInBounds_toArray, List.set_cons_zero, List.set_cons_succ])) | (refine wl_st rfl rfl rfl rfl rfl hS (of_decide_eq_true rfl) ?_; intro _ hS; (try simp only [evT, evC, List.getD_cons_succ, List.getD_cons_zero, List.set_cons_zero, List.set_cons_succ] at hS); (try simp only [List.set_cons_zero, List.set_cons_succ] at hS); (try simp only [Act.put, List.setIfInBounds_toArray, List.set_cons_zero, List.set_cons_succ])) | (refine wl_strC rfl rfl rfl rfl hS rfl rfl ?_; intro _ hS; (try simp only [evT, evC, List.getD_cons_succ, List.getD_cons_zero, List.set_cons_zero, List.set_cons_succ] at hS); (try simp only [Act.put, List.setIfInBounds_toArray, List.set_cons_zero, List.set_cons_succ])))
      refine (wpIn_wide (n := 1)).1 (wpIn_region_list ?_)
      rw [← List.take_append_drop 7 (Array.toList _)]
      refine wpListIn_pre (by rintro ⟨a, w, v, hv, _⟩; cases hv) _ _ _ _ ?_
      simp only [List.take_succ_cons, List.take_zero, List.drop_succ_cons, List.drop_zero]
      go_wp2_with (first | (go_at_call 48; refine ((hb _ _ hS)).mono ?_; rintro e w' (⟨rfl, hS⟩)) | (refine wl_isld rfl ?_; ((first | refine wl_value rfl (ex_l0 hS rfl rfl rfl CellAt.out) ?_ | refine wl_value rfl (ex_lf hS rfl rfl rfl CellAt.out) ?_ | refine wl_value rfl (ex_l1 hS rfl rfl rfl CellAt.out) ?_ | refine wl_value rfl (ex_ldC hS rfl rfl CellAt.out) ?_ | refine wl_value rfl (ex_l0 hS rfl rfl rfl rfl) ?_ | refine wl_value rfl (ex_lf hS rfl rfl rfl rfl) ?_ | refine wl_value rfl (ex_l1 hS rfl rfl rfl rfl) ?_ | refine wl_value rfl (ex_ldC hS rfl rfl rfl) ?_ | refine wl_value rfl (ex_l00 hS rfl rfl CellAt.out) ?_ | refine wl_value rfl (ex_l00 hS rfl rfl rfl) ?_ | refine wl_value rfl (ex_l0f hS rfl rfl CellAt.out) ?_ | refine wl_value rfl (ex_l0f hS rfl rfl rfl) ?_ | refine wl_value rfl (ex_lr hS rfl rfl rfl rfl) ?_ | refine wl_value rfl (ex_lr0 hS rfl rfl rfl) ?_ | refine wl_value rfl (ex_lrz hS rfl rfl rfl) ?_ | refine wl_value rfl (ex_lrf hS rfl rfl rfl) ?_ | refine wl_value rfl (ex_ldrC hS rfl rfl) ?_ | refine wl_value rfl (ex_ldr0 hS rfl rfl rfl) ?_); (try simp only [Act.put, List.setIfInBounds_toArray, List.set_cons_zero, List.set_cons_succ]))) | ((first | refine wl_value rfl (ex_ix hS rfl rfl rfl ?_) ?_); (focus (first | rfl | omega | (simp; done))); (try simp only [Act.put, List.setIfInBounds_toArray, List.set_cons_zero, List.set_cons_succ])) | ((first | refine wl_value rfl (ex_eqA rfl rfl rfl) ?_ | refine wl_value rfl (ex_neA rfl rfl rfl) ?_); (try simp only [Act.put, List.setIfInBounds_toArray, List.set_cons_zero, List.set_cons_succ])) | (refine wl_alloc rfl rfl hS ?_; intro _ _ hS; (try simp only [Act.put, List.setIfInBounds_toArray, List.set_cons_zero, List.set_cons_succ])) | (refine wl_box rfl rfl rfl rfl hS ?_; intro _ _ hS; (try simp only [Act.put, List.setIfInBounds_toArray, List.set_cons_zero, List.set_cons_succ])) | (refine wl_st rfl rfl rfl rfl rfl hS (of_decide_eq_true rfl) ?_; intro _ hS; (try simp only [evT, evC, List.getD_cons_succ, List.getD_cons_zero, List.set_cons_zero, List.set_cons_succ] at hS); (try simp only [List.set_cons_zero, List.set_cons_succ] at hS); (try simp only [Act.put, List.setIfInBounds_toArray, List.set_cons_zero, List.set_cons_succ])) | (refine wl_strC rfl rfl rfl rfl hS rfl rfl ?_; intro _ hS; (try simp only [evT, evC, List.getD_cons_succ, List.getD_cons_zero, List.set_cons_zero, List.set_cons_succ] at hS); (try simp only [Act.put, List.setIfInBounds_toArray, List.set_cons_zero, List.set_cons_succ])))
      refine wlI_yield rfl rfl rfl rfl (HY.out _ x d _ Hmem.out (Nat.lt_of_le_of_lt (Nat.le_trans (List.length_filter_le ..) (by rw [List.length_take]; exact Nat.min_le_left ..)) hlt) Hab.out Hpx.out HJ.out hS.to) ?_
      rintro e w2 (⟨rfl, d', hJ', hS⟩ | ⟨rfl, d', hJ', hS⟩)
      · refine ⟨_, rfl, ?_⟩
        rw [hR0] at hS
        refine wpListIn_all (by rintro ⟨a, w, v, hv, _⟩; cases hv) ?_
        go_wp2
        (refine ⟨((i + 1 : Nat)), (⟨d', hlt, (by rw [Hn.out]; exact hJ'), hS⟩), (by (try dsimp only); omega), rfl, (by (simp only [blankT, junkT, List.cons_append, List.nil_append, List.setIfInBounds_toArray, List.set_cons_zero, List.set_cons_succ])), rfl⟩)
      · refine ⟨_, rfl, ?_⟩
        refine wpListIn_all (by rintro ⟨a, w, v, hv, _⟩; cases hv) ?_
        go_wp2
        refine bodyPost_res (rs := []) rfl .nil rfl ?_
        refine ⟨_, rfl, .inr ⟨_, d', ?_, hJ', hS⟩⟩
        show belowL dir (t.take i) ++ [x] <+: belowL dir t
        rw [← Hn.out]
        refine ⟨belowL dir (t.drop (i + 1)), ?_⟩
        unfold belowL
        rw [← List.filter_append, List.take_append_drop]
  · have Hj := Lib.hid (show belowL dir (t.take i) = belowL dir t by rw [List.take_of_length_le (by omega)])
    go_wp2_with (first | (refine wl_isld rfl ?_; ((first | refine wl_value rfl (ex_l0 hS rfl rfl rfl CellAt.out) ?_ | refine wl_value rfl (ex_lf hS rfl rfl rfl CellAt.out) ?_ | refine wl_value rfl (ex_l1 hS rfl rfl rfl CellAt.out) ?_ | refine wl_value rfl (ex_ldC hS rfl rfl CellAt.out) ?_ | refine wl_value rfl (ex_l0 hS rfl rfl rfl rfl) ?_ | refine wl_value rfl (ex_lf hS rfl rfl rfl rfl) ?_ | refine wl_value rfl (ex_l1 hS rfl rfl rfl rfl) ?_ | refine wl_value rfl (ex_ldC hS rfl rfl rfl) ?_ | refine wl_value rfl (ex_l00 hS rfl rfl CellAt.out) ?_ | refine wl_value rfl (ex_l00 hS rfl rfl rfl) ?_ | refine wl_value rfl (ex_l0f hS rfl rfl CellAt.out) ?_ | refine wl_value rfl (ex_l0f hS rfl rfl rfl) ?_ | refine wl_value rfl (ex_lr hS rfl rfl rfl rfl) ?_ | refine wl_value rfl (ex_lr0 hS rfl rfl rfl) ?_ | refine wl_value rfl (ex_lrz hS rfl rfl rfl) ?_ | refine wl_value rfl (ex_lrf hS rfl rfl rfl) ?_ | refine wl_value rfl (ex_ldrC hS rfl rfl) ?_ | refine wl_value rfl (ex_ldr0 hS rfl rfl rfl) ?_); (try simp only [Act.put, List.setIfInBounds_toArray, List.set_cons_zero, List.set_cons_succ]))) | ((first | refine wl_value rfl (ex_ix hS rfl rfl rfl ?_) ?_); (focus (first | rfl | omega | (simp; done))); (try simp only [Act.put, List.setIfInBounds_toArray, List.set_cons_zero, List.set_cons_succ])) | ((first | refine wl_value rfl (ex_eqA rfl rfl rfl) ?_ | refine wl_value rfl (ex_neA rfl rfl rfl) ?_); (try simp only [Act.put, List.setIfInBounds_toArray, List.set_cons_zero, List.set_cons_succ])) | (refine wl_alloc rfl rfl hS ?_; intro _ _ hS; (try simp only [Act.put, List.setIfInBounds_toArray, List.set_cons_zero, List.set_cons_succ])) | (refine wl_box rfl rfl rfl rfl hS ?_; intro _ _ hS; (try simp only [Act.put, List.setIfInBounds_toArray, List.set_cons_zero, List.set_cons_succ])) | (refine wl_st rfl rfl rfl rfl rfl hS (of_decide_eq_true rfl) ?_; intro _ hS; (try simp only [evT, evC, List.getD_cons_succ, List.getD_cons_zero, List.set_cons_zero, List.set_cons_succ] at hS); (try simp only [List.set_cons_zero, List.set_cons_succ] at hS); (try simp only [Act.put, List.setIfInBounds_toArray, List.set_cons_zero, List.set_cons_succ])) | (refine wl_strC rfl rfl rfl rfl hS rfl rfl ?_; intro _ hS; (try simp only [evT, evC, List.getD_cons_succ, List.getD_cons_zero, List.set_cons_zero, List.set_cons_succ] at hS); (try simp only [Act.put, List.setIfInBounds_toArray, List.set_cons_zero, List.set_cons_succ])))
    refine bodyPost_normal ?_
    refine bodyPost_res (rs := []) rfl .nil rfl ?_
    exact ⟨_, rfl, .inl ⟨d, (by rw [← Hj.out]; exact HJ.out), hS⟩⟩
theorem Under1_any [HasML B] {tb db l : Nat} {A : Option Addr} {cap : Nat} {t : List En} {dir : ByteArray} [r : RdAt enE B R A t] (hl : t.length ≤ 16777216) (hdir : dir.size ≤ 16777216) (hsm : SmallE t) {J Jx : List En → HL → Prop}
    (hY : ∀ (pre : List En) (x : En) (d : HL) (w : World), x ∈ t → pre.length < t.length → aboveB dir x.path = true → J pre d → Sh B (d ++ (cellB db [.string dir] 9 ++ (cellB tb [.slice A t.length cap] 22 ++ R))) w →
      YieldAt Fence.wide 0 Tryz.prog l #[.agg x.cells.toArray] w fun e w' => (e = .returned (.bool true) ∧ ∃ d', J (pre ++ [x]) d' ∧ Sh B (d' ++ (cellB db [.string dir] 9 ++ (cellB tb [.slice A t.length cap] 22 ++ R))) w') ∨
        (e = .returned (.bool false) ∧ ∃ d', Jx (pre ++ [x]) d' ∧ Sh B (d' ++ (cellB db [.string dir] 9 ++ (cellB tb [.slice A t.length cap] 22 ++ R))) w'))
    {d : HL} (h0 : J [] d) (hS : Sh B (d ++ (cellB db [.string dir] 9 ++ (cellB tb [.slice A t.length cap] 22 ++ R))) w) :
    Calls Tryz.prog 65 #[.func (.yield l) #[] #[], .pointer (some ⟨tb, 0, none⟩), .pointer (some ⟨db, 0, none⟩)] w fun e w' => ∃ v, e = .returned v ∧
      ((∃ d', J (belowL dir t) d' ∧ Sh B (d' ++ (cellB db [.string dir] 9 ++ (cellB tb [.slice A t.length cap] 22 ++ R))) w') ∨
       (∃ pre d', pre <+: belowL dir t ∧ Jx pre d' ∧ Sh B (d' ++ (cellB db [.string dir] 9 ++ (cellB tb [.slice A t.length cap] 22 ++ R))) w')) :=
  Under1_pre hl hdir hsm (fun pre x d w h1 h2 h3 _ h4 h5 => hY pre x d w h1 h2 h3 h4 h5) h0 hS
end
end Go.Tk

set_option linter.unusedSectionVars false
set_option linter.unusedSimpArgs false
set_option linter.unusedVariables false
namespace Go.Tk
open Go.RowKit Go.Proofs
def cutE (dir : ByteArray) (x : En) : En := if dir.size = 0 then x else ⟨x.path.extract (dir.size + 1) x.path.size, x.kind, x.data⟩
def subR (t : List En) (dir : ByteArray) : List En × Int := if (checkA t).2 = 0 then (if whereI t dir = 0 then ((belowL dir t).map (cutE dir), 0) else ([], whereI t dir)) else ([], (checkA t).2)
theorem below_size {dir q : ByteArray} (h : aboveB dir q = true) (hz : dir.size ≠ 0) : dir.size + 1 ≤ q.size := by
  have h0 := h
  unfold aboveB at h0
  cases hx : namesB dir with
  | none => rw [hx] at h0; cases h0
  | some x =>
    cases hy : namesB q with
    | none => rw [hx, hy] at h0; cases h0
    | some y =>
      rw [hx, hy] at h0
      dsimp only at h0
      rw [Bool.and_eq_true, decide_eq_true_eq, decide_eq_true_eq] at h0
      have okd : okP dir = true := by unfold okP; rw [hx]; rfl
      have okq : okP q = true := by unfold okP; rw [hy]; rfl
      have hqz : q.size ≠ 0 := fun h1 => by
        have := (namesL_join hy).2.2 h1
        rw [this] at h0
        simp at h0
      have hu := under_gone okd hz okq hqz
      unfold gonePB at hu
      rw [h, Bool.or_true] at hu
      unfold underB at hu
      rw [Bool.or_eq_true] at hu
      rcases hu with hu | hu
      · rw [decide_eq_true_eq] at hu
        rw [hu, hx] at hy
        cases hy
        omega
      · simp only [Bool.and_eq_true, decide_eq_true_eq] at hu
        omega
section
variable {B : Base} {R H H1 : HL} {w w' : World}
/-- What the loop over below keeps. -/
def SubJ (dir : ByteArray) (l D ob pb : Nat) (O : LoopState → Option Code → Obj) (pre : List En) (d : HL) : Prop :=
  ∃ Ao sp capo, OwnSl enE Ao (pre.map (cutE dir)) sp capo ∧ d = objB l (O .ready none) ++ (rowA Ao (flat enE (pre.map (cutE dir)) ++ sp) 24 ++ (cellB ob [.slice Ao (pre.map (cutE dir)).length capo] 22 ++ (cellB pb [.string dir] 9 ++ (objB D (.deferred (some [])) ++ []))))
set_option maxRecDepth 100000 in
set_option maxHeartbeats 3200000 in
theorem TSub_any [HasML B] [NoDraw B] (hS : Sh B R w) {A : Option Addr} {cap : Nat} {t : List En} [r : RdAt enE B R A t] (hl : t.length ≤ 16777216) (hsm : SmallE t) (dir : ByteArray) (hdir : dir.size ≤ 16777216) :
    Calls Tryz.prog 16 #[.slice A t.length cap, .string dir] w (ApplyP B R (subR t dir)) := by
  have l1 := fun (w : World) (H : HL) (hS : Sh B H w) (r : RdAt enE B H A t) => Right_any hS (A := A) (cap := cap) (t := t) (r := r) hl hsm
  have l2 := fun (w : World) (H : HL) (hS : Sh B H w) (r : RdAt enE B H A t) => Where_any hS (cap := cap) (r := r) hl dir hdir
  by_cases ha : (checkA t).2 = 0
  · rw [ha] at l1
    by_cases hw : whereI t dir = 0
    · rw [hw] at l2
      have Hx := Lib.hid (show subR t dir = ((belowL dir t).map (cutE dir), 0) by unfold subR; rw [if_pos ha, if_pos hw])
      obtain ⟨_, hT⟩ := right_of ha
      have hfew := hT.few
      clear ha hw hT
      refine calls_of_marks Tryz.func16 rfl ?_
      simp only [Tryz.ntmps16, List.size_toArray, List.length_cons, List.length_nil, Nat.reduceAdd, Nat.reduceSub, Array.replicate_succ, Array.replicate_zero, List.push_toArray, List.append_toArray, List.nil_append, List.cons_append]
      go_wp2_with (first | (refine wl_box rfl rfl rfl rfl hS ?_; intro pb _ hS; (try simp only [Act.put, List.setIfInBounds_toArray, List.set_cons_zero, List.set_cons_succ])) | (refine wl_alloc rfl rfl hS ?_; intro ob _ hS; (try simp only [Act.put, List.setIfInBounds_toArray, List.set_cons_zero, List.set_cons_succ])) | (go_at_call 37; refine ((l1 _ _ hS inferInstance)).mono ?_; rintro e w' (⟨rfl, hS⟩)) | (go_at_call 39; refine ((l2 _ _ hS inferInstance)).mono ?_; rintro e w' (⟨rfl, hS⟩)) | (go_at_call 49; refine ((Under_any hS A t.length cap dir)).mono ?_; rintro e w' (⟨tb, db, rfl, hS⟩)) | (refine wl_isld rfl ?_; ((first | refine wl_value rfl (ex_l0 hS rfl rfl rfl CellAt.out) ?_ | refine wl_value rfl (ex_lf hS rfl rfl rfl CellAt.out) ?_ | refine wl_value rfl (ex_l1 hS rfl rfl rfl CellAt.out) ?_ | refine wl_value rfl (ex_ldC hS rfl rfl CellAt.out) ?_ | refine wl_value rfl (ex_l0 hS rfl rfl rfl rfl) ?_ | refine wl_value rfl (ex_lf hS rfl rfl rfl rfl) ?_ | refine wl_value rfl (ex_l1 hS rfl rfl rfl rfl) ?_ | refine wl_value rfl (ex_ldC hS rfl rfl rfl) ?_ | refine wl_value rfl (ex_l00 hS rfl rfl CellAt.out) ?_ | refine wl_value rfl (ex_l00 hS rfl rfl rfl) ?_ | refine wl_value rfl (ex_l0f hS rfl rfl CellAt.out) ?_ | refine wl_value rfl (ex_l0f hS rfl rfl rfl) ?_ | refine wl_value rfl (ex_lr hS rfl rfl rfl rfl) ?_ | refine wl_value rfl (ex_lr0 hS rfl rfl rfl) ?_ | refine wl_value rfl (ex_lrz hS rfl rfl rfl) ?_ | refine wl_value rfl (ex_lrf hS rfl rfl rfl) ?_ | refine wl_value rfl (ex_ldrC hS rfl rfl) ?_ | refine wl_value rfl (ex_ldr0 hS rfl rfl rfl) ?_); (try simp only [Act.put, List.setIfInBounds_toArray, List.set_cons_zero, List.set_cons_succ]))) | ((first | refine wl_value rfl (ex_ix hS rfl rfl rfl ?_) ?_); (focus (first | rfl | omega | (simp; done))); (try simp only [Act.put, List.setIfInBounds_toArray, List.set_cons_zero, List.set_cons_succ])) | ((first | refine wl_value rfl (ex_eqA rfl rfl rfl) ?_ | refine wl_value rfl (ex_neA rfl rfl rfl) ?_); (try simp only [Act.put, List.setIfInBounds_toArray, List.set_cons_zero, List.set_cons_succ])) | (refine wl_alloc rfl rfl hS ?_; intro _ _ hS; (try simp only [Act.put, List.setIfInBounds_toArray, List.set_cons_zero, List.set_cons_succ])) | (refine wl_box rfl rfl rfl rfl hS ?_; intro _ _ hS; (try simp only [Act.put, List.setIfInBounds_toArray, List.set_cons_zero, List.set_cons_succ])) | (refine wl_st rfl rfl rfl rfl rfl hS (of_decide_eq_true rfl) ?_; intro _ hS; (try simp only [evT, evC, List.getD_cons_succ, List.getD_cons_zero, List.set_cons_zero, List.set_cons_succ] at hS); (try simp only [List.set_cons_zero, List.set_cons_succ] at hS); (try simp only [Act.put, List.setIfInBounds_toArray, List.set_cons_zero, List.set_cons_succ])) | (refine wl_strC rfl rfl rfl rfl hS rfl rfl ?_; intro _ hS; (try simp only [evT, evC, List.getD_cons_succ, List.getD_cons_zero, List.set_cons_zero, List.set_cons_succ] at hS); (try simp only [Act.put, List.setIfInBounds_toArray, List.set_cons_zero, List.set_cons_succ])))
      have hS : Sh B (cellB db [.string dir] 9 ++ (cellB tb [.slice A t.length cap] 22 ++ (cellB ob [.slice none 0 0] 22 ++ (cellB pb [.string dir] 9 ++ R)))) _ := hS
      refine wp_rangeO hS rfl (EntersC.out (P := Tryz.prog) (f := 65)) ?_
      intro fn l D w2 O hL hS
      refine (Under1_any (B := B) (R := R) (A := A) (cap := cap) (r := r) (tb := tb) (db := db) (l := l) (J := SubJ dir l D ob pb O) (Jx := fun _ _ => False) hl hdir hsm ?_ (d := objB l (O .ready none) ++ (cellB ob [.slice none 0 0] 22 ++ (cellB pb [.string dir] 9 ++ (objB D (.deferred (some [])) ++ [])))) ⟨none, [], 0, OwnSl.nothing, rfl⟩ ?_).mono ?_
      · rintro pre x d w hx hpl hab ⟨Ao, sp, capo, hO, rfl⟩ hS
        have hxz := hsm x hx
        simp only [List.append_assoc, List.nil_append] at hS
        by_cases hz : dir.size = 0
        · have hde : dir.toList = [] := (empty_prop dir).2 hz
          have d1 : dir.toList.isEmpty = true := by rw [hde]; rfl
          have hcut : cutE dir x = x := by unfold cutE; rw [if_pos hz]
          refine hL.yield1 hS ?_
          intro K hK
          (try simp only [Act.put, List.setIfInBounds_toArray, List.set_cons_zero, List.set_cons_succ])
          refine wpIn_region_of (by rintro ⟨a, w, h⟩; exact h) rfl ?_
          go_wp2_with (first | (refine wl_alloc rfl rfl hS ?_; intro eb _ hS; (try simp only [Act.put, List.setIfInBounds_toArray, List.set_cons_zero, List.set_cons_succ])) | (refine wl_isld rfl ?_; ((first | refine wl_value rfl (ex_l0 hS rfl rfl rfl CellAt.out) ?_ | refine wl_value rfl (ex_lf hS rfl rfl rfl CellAt.out) ?_ | refine wl_value rfl (ex_l1 hS rfl rfl rfl CellAt.out) ?_ | refine wl_value rfl (ex_ldC hS rfl rfl CellAt.out) ?_ | refine wl_value rfl (ex_l0 hS rfl rfl rfl rfl) ?_ | refine wl_value rfl (ex_lf hS rfl rfl rfl rfl) ?_ | refine wl_value rfl (ex_l1 hS rfl rfl rfl rfl) ?_ | refine wl_value rfl (ex_ldC hS rfl rfl rfl) ?_ | refine wl_value rfl (ex_l00 hS rfl rfl CellAt.out) ?_ | refine wl_value rfl (ex_l00 hS rfl rfl rfl) ?_ | refine wl_value rfl (ex_l0f hS rfl rfl CellAt.out) ?_ | refine wl_value rfl (ex_l0f hS rfl rfl rfl) ?_ | refine wl_value rfl (ex_lr hS rfl rfl rfl rfl) ?_ | refine wl_value rfl (ex_lr0 hS rfl rfl rfl) ?_ | refine wl_value rfl (ex_lrz hS rfl rfl rfl) ?_ | refine wl_value rfl (ex_lrf hS rfl rfl rfl) ?_ | refine wl_value rfl (ex_ldrC hS rfl rfl) ?_ | refine wl_value rfl (ex_ldr0 hS rfl rfl rfl) ?_); (try simp only [Act.put, List.setIfInBounds_toArray, List.set_cons_zero, List.set_cons_succ]))) | ((first | refine wl_value rfl (ex_ix hS rfl rfl rfl ?_) ?_); (focus (first | rfl | omega | (simp; done))); (try simp only [Act.put, List.setIfInBounds_toArray, List.set_cons_zero, List.set_cons_succ])) | ((first | refine wl_value rfl (ex_eqA rfl rfl rfl) ?_ | refine wl_value rfl (ex_neA rfl rfl rfl) ?_); (try simp only [Act.put, List.setIfInBounds_toArray, List.set_cons_zero, List.set_cons_succ])) | (refine wl_alloc rfl rfl hS ?_; intro _ _ hS; (try simp only [Act.put, List.setIfInBounds_toArray, List.set_cons_zero, List.set_cons_succ])) | (refine wl_box rfl rfl rfl rfl hS ?_; intro _ _ hS; (try simp only [Act.put, List.setIfInBounds_toArray, List.set_cons_zero, List.set_cons_succ])) | (refine wl_st rfl rfl rfl rfl rfl hS (of_decide_eq_true rfl) ?_; intro _ hS; (try simp only [evT, evC, List.getD_cons_succ, List.getD_cons_zero, List.set_cons_zero, List.set_cons_succ] at hS); (try simp only [List.set_cons_zero, List.set_cons_succ] at hS); (try simp only [Act.put, List.setIfInBounds_toArray, List.set_cons_zero, List.set_cons_succ])) | (refine wl_strC rfl rfl rfl rfl hS rfl rfl ?_; intro _ hS; (try simp only [evT, evC, List.getD_cons_succ, List.getD_cons_zero, List.set_cons_zero, List.set_cons_succ] at hS); (try simp only [Act.put, List.setIfInBounds_toArray, List.set_cons_zero, List.set_cons_succ])))
          refine hK _ _ (cellB eb x.cells 24 ++ (rowA Ao (flat enE (pre.map (cutE dir)) ++ sp) 24 ++ (cellB ob [.slice Ao (pre.map (cutE dir)).length capo] 22 ++ (cellB pb [.string dir] 9 ++ (objB D (.deferred (some [])) ++ (cellB db [.string dir] 9 ++ (cellB tb [.slice A t.length cap] 22 ++ R))))))) hS.to ?_
          clear hK hS
          intro w3 hS
          refine wpIn_block ?_
          refine wpIn_seq_k fun K2 h2 => ?_
          refine wpIn_seq_k fun K3 h3 => ?_
          refine wpIn_region_of (by rintro ⟨a, w, h⟩; exact h) rfl ?_
          go_wp2_with (first | (refine wl_isld rfl ?_; ((first | refine wl_value rfl (ex_l0 hS rfl rfl rfl CellAt.out) ?_ | refine wl_value rfl (ex_lf hS rfl rfl rfl CellAt.out) ?_ | refine wl_value rfl (ex_l1 hS rfl rfl rfl CellAt.out) ?_ | refine wl_value rfl (ex_ldC hS rfl rfl CellAt.out) ?_ | refine wl_value rfl (ex_l0 hS rfl rfl rfl rfl) ?_ | refine wl_value rfl (ex_lf hS rfl rfl rfl rfl) ?_ | refine wl_value rfl (ex_l1 hS rfl rfl rfl rfl) ?_ | refine wl_value rfl (ex_ldC hS rfl rfl rfl) ?_ | refine wl_value rfl (ex_l00 hS rfl rfl CellAt.out) ?_ | refine wl_value rfl (ex_l00 hS rfl rfl rfl) ?_ | refine wl_value rfl (ex_l0f hS rfl rfl CellAt.out) ?_ | refine wl_value rfl (ex_l0f hS rfl rfl rfl) ?_ | refine wl_value rfl (ex_lr hS rfl rfl rfl rfl) ?_ | refine wl_value rfl (ex_lr0 hS rfl rfl rfl) ?_ | refine wl_value rfl (ex_lrz hS rfl rfl rfl) ?_ | refine wl_value rfl (ex_lrf hS rfl rfl rfl) ?_ | refine wl_value rfl (ex_ldrC hS rfl rfl) ?_ | refine wl_value rfl (ex_ldr0 hS rfl rfl rfl) ?_); (try simp only [Act.put, List.setIfInBounds_toArray, List.set_cons_zero, List.set_cons_succ]))) | ((first | refine wl_value rfl (ex_ix hS rfl rfl rfl ?_) ?_); (focus (first | rfl | omega | (simp; done))); (try simp only [Act.put, List.setIfInBounds_toArray, List.set_cons_zero, List.set_cons_succ])) | ((first | refine wl_value rfl (ex_eqA rfl rfl rfl) ?_ | refine wl_value rfl (ex_neA rfl rfl rfl) ?_); (try simp only [Act.put, List.setIfInBounds_toArray, List.set_cons_zero, List.set_cons_succ])) | (refine wl_alloc rfl rfl hS ?_; intro _ _ hS; (try simp only [Act.put, List.setIfInBounds_toArray, List.set_cons_zero, List.set_cons_succ])) | (refine wl_box rfl rfl rfl rfl hS ?_; intro _ _ hS; (try simp only [Act.put, List.setIfInBounds_toArray, List.set_cons_zero, List.set_cons_succ])) | (refine wl_st rfl rfl rfl rfl rfl hS (of_decide_eq_true rfl) ?_; intro _ hS; (try simp only [evT, evC, List.getD_cons_succ, List.getD_cons_zero, List.set_cons_zero, List.set_cons_succ] at hS); (try simp only [List.set_cons_zero, List.set_cons_succ] at hS); (try simp only [Act.put, List.setIfInBounds_toArray, List.set_cons_zero, List.set_cons_succ])) | (refine wl_strC rfl rfl rfl rfl hS rfl rfl ?_; intro _ hS; (try simp only [evT, evC, List.getD_cons_succ, List.getD_cons_zero, List.set_cons_zero, List.set_cons_succ] at hS); (try simp only [Act.put, List.setIfInBounds_toArray, List.set_cons_zero, List.set_cons_succ])))
          refine wpIn_cond_false rfl ?_
          refine wpIn_skip ?_
          refine h2 _ _ ?_
          clear h2
          refine wpIn_region_of (by rintro ⟨a, w, h⟩; exact h) rfl ?_
          go_wp2_with (first | (refine wl_buildSlice (E := enE) [x] rfl rfl (by simp only [List.map_toArray, List.map_cons, List.map_nil]; rfl) rfl (by decide) (by decide) hS ?_; intro _ _ hS hN; (try simp only [Act.put, List.setIfInBounds_toArray, List.set_cons_zero, List.set_cons_succ])) | (refine wl_apz (E := enE) rfl rfl rfl rfl hS ?_ ?_ ?_ ?_ ?_; (focus (first | rfl | omega)); (focus (first | rfl | omega)); (focus ((simp only [List.length_cons, List.length_nil, List.length_map]; omega))); (focus decide); intro zs A2 sp2 cap2 _ hz0 hO2 hS; have Hz := Lib.hid hz0; clear hz0; (try simp only [Act.put, List.setIfInBounds_toArray, List.set_cons_zero, List.set_cons_succ])) | (refine wl_isld rfl ?_; ((first | refine wl_value rfl (ex_l0 hS rfl rfl rfl CellAt.out) ?_ | refine wl_value rfl (ex_lf hS rfl rfl rfl CellAt.out) ?_ | refine wl_value rfl (ex_l1 hS rfl rfl rfl CellAt.out) ?_ | refine wl_value rfl (ex_ldC hS rfl rfl CellAt.out) ?_ | refine wl_value rfl (ex_l0 hS rfl rfl rfl rfl) ?_ | refine wl_value rfl (ex_lf hS rfl rfl rfl rfl) ?_ | refine wl_value rfl (ex_l1 hS rfl rfl rfl rfl) ?_ | refine wl_value rfl (ex_ldC hS rfl rfl rfl) ?_ | refine wl_value rfl (ex_l00 hS rfl rfl CellAt.out) ?_ | refine wl_value rfl (ex_l00 hS rfl rfl rfl) ?_ | refine wl_value rfl (ex_l0f hS rfl rfl CellAt.out) ?_ | refine wl_value rfl (ex_l0f hS rfl rfl rfl) ?_ | refine wl_value rfl (ex_lr hS rfl rfl rfl rfl) ?_ | refine wl_value rfl (ex_lr0 hS rfl rfl rfl) ?_ | refine wl_value rfl (ex_lrz hS rfl rfl rfl) ?_ | refine wl_value rfl (ex_lrf hS rfl rfl rfl) ?_ | refine wl_value rfl (ex_ldrC hS rfl rfl) ?_ | refine wl_value rfl (ex_ldr0 hS rfl rfl rfl) ?_); (try simp only [Act.put, List.setIfInBounds_toArray, List.set_cons_zero, List.set_cons_succ]))) | ((first | refine wl_value rfl (ex_ix hS rfl rfl rfl ?_) ?_); (focus (first | rfl | omega | (simp; done))); (try simp only [Act.put, List.setIfInBounds_toArray, List.set_cons_zero, List.set_cons_succ])) | ((first | refine wl_value rfl (ex_eqA rfl rfl rfl) ?_ | refine wl_value rfl (ex_neA rfl rfl rfl) ?_); (try simp only [Act.put, List.setIfInBounds_toArray, List.set_cons_zero, List.set_cons_succ])) | (refine wl_alloc rfl rfl hS ?_; intro _ _ hS; (try simp only [Act.put, List.setIfInBounds_toArray, List.set_cons_zero, List.set_cons_succ])) | (refine wl_box rfl rfl rfl rfl hS ?_; intro _ _ hS; (try simp only [Act.put, List.setIfInBounds_toArray, List.set_cons_zero, List.set_cons_succ])) | (refine wl_st rfl rfl rfl rfl rfl hS (of_decide_eq_true rfl) ?_; intro _ hS; (try simp only [evT, evC, List.getD_cons_succ, List.getD_cons_zero, List.set_cons_zero, List.set_cons_succ] at hS); (try simp only [List.set_cons_zero, List.set_cons_succ] at hS); (try simp only [Act.put, List.setIfInBounds_toArray, List.set_cons_zero, List.set_cons_succ])) | (refine wl_strC rfl rfl rfl rfl hS rfl rfl ?_; intro _ hS; (try simp only [evT, evC, List.getD_cons_succ, List.getD_cons_zero, List.set_cons_zero, List.set_cons_succ] at hS); (try simp only [Act.put, List.setIfInBounds_toArray, List.set_cons_zero, List.set_cons_succ])))
          have hz2 : zs = (pre ++ [x]).map (cutE dir) := by rw [Hz, List.map_append]; simp [hcut]
          subst hz2
          refine hL.end_ (H := rowA A2 (flat enE ((pre ++ [x]).map (cutE dir)) ++ sp2) 24 ++ (cellB ob [.slice A2 ((pre ++ [x]).map (cutE dir)).length cap2] 22 ++ (cellB pb [.string dir] 9 ++ (objB D (.deferred (some [])) ++ (cellB db [.string dir] 9 ++ (cellB tb [.slice A t.length cap] 22 ++ R)))))) hS.to ?_
          intro w4 hS
          refine .inl ⟨rfl, _, ⟨A2, sp2, cap2, hO2, rfl⟩, ?_⟩
          simp only [List.append_assoc, List.nil_append]
          exact hS
        · have hde : ¬ dir.toList = [] := fun h => hz ((empty_prop dir).1 h)
          have d1 : dir.toList.isEmpty = false := by rw [empty_iff]; exact decide_eq_false hz
          have hbs := below_size hab hz
          have hcut : cutE dir x = (⟨x.path.extract (dir.size + 1) x.path.size, x.kind, x.data⟩ : En) := by unfold cutE; rw [if_neg hz]
          refine hL.yield1 hS ?_
          intro K hK
          (try simp only [Act.put, List.setIfInBounds_toArray, List.set_cons_zero, List.set_cons_succ])
          refine wpIn_region_of (by rintro ⟨a, w, h⟩; exact h) rfl ?_
          go_wp2_with (first | (refine wl_alloc rfl rfl hS ?_; intro eb _ hS; (try simp only [Act.put, List.setIfInBounds_toArray, List.set_cons_zero, List.set_cons_succ])) | (refine wl_isld rfl ?_; ((first | refine wl_value rfl (ex_l0 hS rfl rfl rfl CellAt.out) ?_ | refine wl_value rfl (ex_lf hS rfl rfl rfl CellAt.out) ?_ | refine wl_value rfl (ex_l1 hS rfl rfl rfl CellAt.out) ?_ | refine wl_value rfl (ex_ldC hS rfl rfl CellAt.out) ?_ | refine wl_value rfl (ex_l0 hS rfl rfl rfl rfl) ?_ | refine wl_value rfl (ex_lf hS rfl rfl rfl rfl) ?_ | refine wl_value rfl (ex_l1 hS rfl rfl rfl rfl) ?_ | refine wl_value rfl (ex_ldC hS rfl rfl rfl) ?_ | refine wl_value rfl (ex_l00 hS rfl rfl CellAt.out) ?_ | refine wl_value rfl (ex_l00 hS rfl rfl rfl) ?_ | refine wl_value rfl (ex_l0f hS rfl rfl CellAt.out) ?_ | refine wl_value rfl (ex_l0f hS rfl rfl rfl) ?_ | refine wl_value rfl (ex_lr hS rfl rfl rfl rfl) ?_ | refine wl_value rfl (ex_lr0 hS rfl rfl rfl) ?_ | refine wl_value rfl (ex_lrz hS rfl rfl rfl) ?_ | refine wl_value rfl (ex_lrf hS rfl rfl rfl) ?_ | refine wl_value rfl (ex_ldrC hS rfl rfl) ?_ | refine wl_value rfl (ex_ldr0 hS rfl rfl rfl) ?_); (try simp only [Act.put, List.setIfInBounds_toArray, List.set_cons_zero, List.set_cons_succ]))) | ((first | refine wl_value rfl (ex_ix hS rfl rfl rfl ?_) ?_); (focus (first | rfl | omega | (simp; done))); (try simp only [Act.put, List.setIfInBounds_toArray, List.set_cons_zero, List.set_cons_succ])) | ((first | refine wl_value rfl (ex_eqA rfl rfl rfl) ?_ | refine wl_value rfl (ex_neA rfl rfl rfl) ?_); (try simp only [Act.put, List.setIfInBounds_toArray, List.set_cons_zero, List.set_cons_succ])) | (refine wl_alloc rfl rfl hS ?_; intro _ _ hS; (try simp only [Act.put, List.setIfInBounds_toArray, List.set_cons_zero, List.set_cons_succ])) | (refine wl_box rfl rfl rfl rfl hS ?_; intro _ _ hS; (try simp only [Act.put, List.setIfInBounds_toArray, List.set_cons_zero, List.set_cons_succ])) | (refine wl_st rfl rfl rfl rfl rfl hS (of_decide_eq_true rfl) ?_; intro _ hS; (try simp only [evT, evC, List.getD_cons_succ, List.getD_cons_zero, List.set_cons_zero, List.set_cons_succ] at hS); (try simp only [List.set_cons_zero, List.set_cons_succ] at hS); (try simp only [Act.put, List.setIfInBounds_toArray, List.set_cons_zero, List.set_cons_succ])) | (refine wl_strC rfl rfl rfl rfl hS rfl rfl ?_; intro _ hS; (try simp only [evT, evC, List.getD_cons_succ, List.getD_cons_zero, List.set_cons_zero, List.set_cons_succ] at hS); (try simp only [Act.put, List.setIfInBounds_toArray, List.set_cons_zero, List.set_cons_succ])))
          refine hK _ _ (cellB eb x.cells 24 ++ (rowA Ao (flat enE (pre.map (cutE dir)) ++ sp) 24 ++ (cellB ob [.slice Ao (pre.map (cutE dir)).length capo] 22 ++ (cellB pb [.string dir] 9 ++ (objB D (.deferred (some [])) ++ (cellB db [.string dir] 9 ++ (cellB tb [.slice A t.length cap] 22 ++ R))))))) hS.to ?_
          clear hK hS
          intro w3 hS
          refine wpIn_block ?_
          refine wpIn_seq_k fun K2 h2 => ?_
          refine wpIn_seq_k fun K3 h3 => ?_
          refine wpIn_region_of (by rintro ⟨a, w, h⟩; exact h) rfl ?_
          go_wp2_with (first | (refine wl_isld rfl ?_; ((first | refine wl_value rfl (ex_l0 hS rfl rfl rfl CellAt.out) ?_ | refine wl_value rfl (ex_lf hS rfl rfl rfl CellAt.out) ?_ | refine wl_value rfl (ex_l1 hS rfl rfl rfl CellAt.out) ?_ | refine wl_value rfl (ex_ldC hS rfl rfl CellAt.out) ?_ | refine wl_value rfl (ex_l0 hS rfl rfl rfl rfl) ?_ | refine wl_value rfl (ex_lf hS rfl rfl rfl rfl) ?_ | refine wl_value rfl (ex_l1 hS rfl rfl rfl rfl) ?_ | refine wl_value rfl (ex_ldC hS rfl rfl rfl) ?_ | refine wl_value rfl (ex_l00 hS rfl rfl CellAt.out) ?_ | refine wl_value rfl (ex_l00 hS rfl rfl rfl) ?_ | refine wl_value rfl (ex_l0f hS rfl rfl CellAt.out) ?_ | refine wl_value rfl (ex_l0f hS rfl rfl rfl) ?_ | refine wl_value rfl (ex_lr hS rfl rfl rfl rfl) ?_ | refine wl_value rfl (ex_lr0 hS rfl rfl rfl) ?_ | refine wl_value rfl (ex_lrz hS rfl rfl rfl) ?_ | refine wl_value rfl (ex_lrf hS rfl rfl rfl) ?_ | refine wl_value rfl (ex_ldrC hS rfl rfl) ?_ | refine wl_value rfl (ex_ldr0 hS rfl rfl rfl) ?_); (try simp only [Act.put, List.setIfInBounds_toArray, List.set_cons_zero, List.set_cons_succ]))) | ((first | refine wl_value rfl (ex_ix hS rfl rfl rfl ?_) ?_); (focus (first | rfl | omega | (simp; done))); (try simp only [Act.put, List.setIfInBounds_toArray, List.set_cons_zero, List.set_cons_succ])) | ((first | refine wl_value rfl (ex_eqA rfl rfl rfl) ?_ | refine wl_value rfl (ex_neA rfl rfl rfl) ?_); (try simp only [Act.put, List.setIfInBounds_toArray, List.set_cons_zero, List.set_cons_succ])) | (refine wl_alloc rfl rfl hS ?_; intro _ _ hS; (try simp only [Act.put, List.setIfInBounds_toArray, List.set_cons_zero, List.set_cons_succ])) | (refine wl_box rfl rfl rfl rfl hS ?_; intro _ _ hS; (try simp only [Act.put, List.setIfInBounds_toArray, List.set_cons_zero, List.set_cons_succ])) | (refine wl_st rfl rfl rfl rfl rfl hS (of_decide_eq_true rfl) ?_; intro _ hS; (try simp only [evT, evC, List.getD_cons_succ, List.getD_cons_zero, List.set_cons_zero, List.set_cons_succ] at hS); (try simp only [List.set_cons_zero, List.set_cons_succ] at hS); (try simp only [Act.put, List.setIfInBounds_toArray, List.set_cons_zero, List.set_cons_succ])) | (refine wl_strC rfl rfl rfl rfl hS rfl rfl ?_; intro _ hS; (try simp only [evT, evC, List.getD_cons_succ, List.getD_cons_zero, List.set_cons_zero, List.set_cons_succ] at hS); (try simp only [Act.put, List.setIfInBounds_toArray, List.set_cons_zero, List.set_cons_succ])))
          refine wpIn_cond_true rfl ?_
          refine wpIn_region_of (by rintro ⟨a, w, h⟩; exact h) rfl ?_
          go_wp2_with (first | (refine wl_isld rfl ?_; ((first | refine wl_value rfl (ex_l0 hS rfl rfl rfl CellAt.out) ?_ | refine wl_value rfl (ex_lf hS rfl rfl rfl CellAt.out) ?_ | refine wl_value rfl (ex_l1 hS rfl rfl rfl CellAt.out) ?_ | refine wl_value rfl (ex_ldC hS rfl rfl CellAt.out) ?_ | refine wl_value rfl (ex_l0 hS rfl rfl rfl rfl) ?_ | refine wl_value rfl (ex_lf hS rfl rfl rfl rfl) ?_ | refine wl_value rfl (ex_l1 hS rfl rfl rfl rfl) ?_ | refine wl_value rfl (ex_ldC hS rfl rfl rfl) ?_ | refine wl_value rfl (ex_l00 hS rfl rfl CellAt.out) ?_ | refine wl_value rfl (ex_l00 hS rfl rfl rfl) ?_ | refine wl_value rfl (ex_l0f hS rfl rfl CellAt.out) ?_ | refine wl_value rfl (ex_l0f hS rfl rfl rfl) ?_ | refine wl_value rfl (ex_lr hS rfl rfl rfl rfl) ?_ | refine wl_value rfl (ex_lr0 hS rfl rfl rfl) ?_ | refine wl_value rfl (ex_lrz hS rfl rfl rfl) ?_ | refine wl_value rfl (ex_lrf hS rfl rfl rfl) ?_ | refine wl_value rfl (ex_ldrC hS rfl rfl) ?_ | refine wl_value rfl (ex_ldr0 hS rfl rfl rfl) ?_); (try simp only [Act.put, List.setIfInBounds_toArray, List.set_cons_zero, List.set_cons_succ]))) | ((first | refine wl_value rfl (ex_ix hS rfl rfl rfl ?_) ?_); (focus (first | rfl | omega | (simp; done))); (try simp only [Act.put, List.setIfInBounds_toArray, List.set_cons_zero, List.set_cons_succ])) | ((first | refine wl_value rfl (ex_eqA rfl rfl rfl) ?_ | refine wl_value rfl (ex_neA rfl rfl rfl) ?_); (try simp only [Act.put, List.setIfInBounds_toArray, List.set_cons_zero, List.set_cons_succ])) | (refine wl_alloc rfl rfl hS ?_; intro _ _ hS; (try simp only [Act.put, List.setIfInBounds_toArray, List.set_cons_zero, List.set_cons_succ])) | (refine wl_box rfl rfl rfl rfl hS ?_; intro _ _ hS; (try simp only [Act.put, List.setIfInBounds_toArray, List.set_cons_zero, List.set_cons_succ])) | (refine wl_st rfl rfl rfl rfl rfl hS (of_decide_eq_true rfl) ?_; intro _ hS; (try simp only [evT, evC, List.getD_cons_succ, List.getD_cons_zero, List.set_cons_zero, List.set_cons_succ] at hS); (try simp only [List.set_cons_zero, List.set_cons_succ] at hS); (try simp only [Act.put, List.setIfInBounds_toArray, List.set_cons_zero, List.set_cons_succ])) | (refine wl_strC rfl rfl rfl rfl hS rfl rfl ?_; intro _ hS; (try simp only [evT, evC, List.getD_cons_succ, List.getD_cons_zero, List.set_cons_zero, List.set_cons_succ] at hS); (try simp only [Act.put, List.setIfInBounds_toArray, List.set_cons_zero, List.set_cons_succ])))
          have hS : Sh B (objB l (O .busy none) ++ (cellB eb (⟨x.path.extract (dir.size + 1) x.path.size, x.kind, x.data⟩ : En).cells 24 ++ (rowA Ao (flat enE (pre.map (cutE dir)) ++ sp) 24 ++ (cellB ob [.slice Ao (pre.map (cutE dir)).length capo] 22 ++ (cellB pb [.string dir] 9 ++ (objB D (.deferred (some [])) ++ (cellB db [.string dir] 9 ++ (cellB tb [.slice A t.length cap] 22 ++ R)))))))) _ := hS
          refine wpIn_region_of (by rintro ⟨a, w, h⟩; exact h) rfl ?_
          go_wp2_with (first | (refine wl_buildSlice (E := enE) ([(⟨x.path.extract (dir.size + 1) x.path.size, x.kind, x.data⟩ : En)]) rfl rfl (by simp only [List.map_toArray, List.map_cons, List.map_nil]; rfl) rfl (by decide) (by decide) hS ?_; intro _ _ hS hN; (try simp only [Act.put, List.setIfInBounds_toArray, List.set_cons_zero, List.set_cons_succ])) | (refine wl_apz (E := enE) rfl rfl rfl rfl hS ?_ ?_ ?_ ?_ ?_; (focus (first | rfl | omega)); (focus (first | rfl | omega)); (focus ((simp only [List.length_cons, List.length_nil, List.length_map]; omega))); (focus decide); intro zs A2 sp2 cap2 _ hz0 hO2 hS; have Hz := Lib.hid hz0; clear hz0; (try simp only [Act.put, List.setIfInBounds_toArray, List.set_cons_zero, List.set_cons_succ])) | (refine wl_isld rfl ?_; ((first | refine wl_value rfl (ex_l0 hS rfl rfl rfl CellAt.out) ?_ | refine wl_value rfl (ex_lf hS rfl rfl rfl CellAt.out) ?_ | refine wl_value rfl (ex_l1 hS rfl rfl rfl CellAt.out) ?_ | refine wl_value rfl (ex_ldC hS rfl rfl CellAt.out) ?_ | refine wl_value rfl (ex_l0 hS rfl rfl rfl rfl) ?_ | refine wl_value rfl (ex_lf hS rfl rfl rfl rfl) ?_ | refine wl_value rfl (ex_l1 hS rfl rfl rfl rfl) ?_ | refine wl_value rfl (ex_ldC hS rfl rfl rfl) ?_ | refine wl_value rfl (ex_l00 hS rfl rfl CellAt.out) ?_ | refine wl_value rfl (ex_l00 hS rfl rfl rfl) ?_ | refine wl_value rfl (ex_l0f hS rfl rfl CellAt.out) ?_ | refine wl_value rfl (ex_l0f hS rfl rfl rfl) ?_ | refine wl_value rfl (ex_lr hS rfl rfl rfl rfl) ?_ | refine wl_value rfl (ex_lr0 hS rfl rfl rfl) ?_ | refine wl_value rfl (ex_lrz hS rfl rfl rfl) ?_ | refine wl_value rfl (ex_lrf hS rfl rfl rfl) ?_ | refine wl_value rfl (ex_ldrC hS rfl rfl) ?_ | refine wl_value rfl (ex_ldr0 hS rfl rfl rfl) ?_); (try simp only [Act.put, List.setIfInBounds_toArray, List.set_cons_zero, List.set_cons_succ]))) | ((first | refine wl_value rfl (ex_ix hS rfl rfl rfl ?_) ?_); (focus (first | rfl | omega | (simp; done))); (try simp only [Act.put, List.setIfInBounds_toArray, List.set_cons_zero, List.set_cons_succ])) | ((first | refine wl_value rfl (ex_eqA rfl rfl rfl) ?_ | refine wl_value rfl (ex_neA rfl rfl rfl) ?_); (try simp only [Act.put, List.setIfInBounds_toArray, List.set_cons_zero, List.set_cons_succ])) | (refine wl_alloc rfl rfl hS ?_; intro _ _ hS; (try simp only [Act.put, List.setIfInBounds_toArray, List.set_cons_zero, List.set_cons_succ])) | (refine wl_box rfl rfl rfl rfl hS ?_; intro _ _ hS; (try simp only [Act.put, List.setIfInBounds_toArray, List.set_cons_zero, List.set_cons_succ])) | (refine wl_st rfl rfl rfl rfl rfl hS (of_decide_eq_true rfl) ?_; intro _ hS; (try simp only [evT, evC, List.getD_cons_succ, List.getD_cons_zero, List.set_cons_zero, List.set_cons_succ] at hS); (try simp only [List.set_cons_zero, List.set_cons_succ] at hS); (try simp only [Act.put, List.setIfInBounds_toArray, List.set_cons_zero, List.set_cons_succ])) | (refine wl_strC rfl rfl rfl rfl hS rfl rfl ?_; intro _ hS; (try simp only [evT, evC, List.getD_cons_succ, List.getD_cons_zero, List.set_cons_zero, List.set_cons_succ] at hS); (try simp only [Act.put, List.setIfInBounds_toArray, List.set_cons_zero, List.set_cons_succ])))
          have hz2 : zs = (pre ++ [x]).map (cutE dir) := by rw [Hz, List.map_append]; simp [hcut]
          subst hz2
          refine hL.end_ (H := rowA A2 (flat enE ((pre ++ [x]).map (cutE dir)) ++ sp2) 24 ++ (cellB ob [.slice A2 ((pre ++ [x]).map (cutE dir)).length cap2] 22 ++ (cellB pb [.string dir] 9 ++ (objB D (.deferred (some [])) ++ (cellB db [.string dir] 9 ++ (cellB tb [.slice A t.length cap] 22 ++ R)))))) hS.to ?_
          intro w4 hS
          refine .inl ⟨rfl, _, ⟨A2, sp2, cap2, hO2, rfl⟩, ?_⟩
          simp only [List.append_assoc, List.nil_append]
          exact hS
      · simp only [List.append_assoc, List.nil_append]
        exact hS.to
      · rintro e w' ⟨v, rfl, ⟨d, ⟨Ao, sp, capo, hO, rfl⟩, hS⟩ | ⟨_, _, _, h, _⟩⟩
        · simp only [List.append_assoc, List.nil_append] at hS
          refine ⟨_, .ready, none, _, rfl, by decide, hS, ?_⟩
          intro w4 hS
          simp only [Exit.inBlock, Exit.then]
          go_wp2_with (first | (refine wl_isld rfl ?_; ((first | refine wl_value rfl (ex_l0 hS rfl rfl rfl CellAt.out) ?_ | refine wl_value rfl (ex_lf hS rfl rfl rfl CellAt.out) ?_ | refine wl_value rfl (ex_l1 hS rfl rfl rfl CellAt.out) ?_ | refine wl_value rfl (ex_ldC hS rfl rfl CellAt.out) ?_ | refine wl_value rfl (ex_l0 hS rfl rfl rfl rfl) ?_ | refine wl_value rfl (ex_lf hS rfl rfl rfl rfl) ?_ | refine wl_value rfl (ex_l1 hS rfl rfl rfl rfl) ?_ | refine wl_value rfl (ex_ldC hS rfl rfl rfl) ?_ | refine wl_value rfl (ex_l00 hS rfl rfl CellAt.out) ?_ | refine wl_value rfl (ex_l00 hS rfl rfl rfl) ?_ | refine wl_value rfl (ex_l0f hS rfl rfl CellAt.out) ?_ | refine wl_value rfl (ex_l0f hS rfl rfl rfl) ?_ | refine wl_value rfl (ex_lr hS rfl rfl rfl rfl) ?_ | refine wl_value rfl (ex_lr0 hS rfl rfl rfl) ?_ | refine wl_value rfl (ex_lrz hS rfl rfl rfl) ?_ | refine wl_value rfl (ex_lrf hS rfl rfl rfl) ?_ | refine wl_value rfl (ex_ldrC hS rfl rfl) ?_ | refine wl_value rfl (ex_ldr0 hS rfl rfl rfl) ?_); (try simp only [Act.put, List.setIfInBounds_toArray, List.set_cons_zero, List.set_cons_succ]))) | ((first | refine wl_value rfl (ex_ix hS rfl rfl rfl ?_) ?_); (focus (first | rfl | omega | (simp; done))); (try simp only [Act.put, List.setIfInBounds_toArray, List.set_cons_zero, List.set_cons_succ])) | ((first | refine wl_value rfl (ex_eqA rfl rfl rfl) ?_ | refine wl_value rfl (ex_neA rfl rfl rfl) ?_); (try simp only [Act.put, List.setIfInBounds_toArray, List.set_cons_zero, List.set_cons_succ])) | (refine wl_alloc rfl rfl hS ?_; intro _ _ hS; (try simp only [Act.put, List.setIfInBounds_toArray, List.set_cons_zero, List.set_cons_succ])) | (refine wl_box rfl rfl rfl rfl hS ?_; intro _ _ hS; (try simp only [Act.put, List.setIfInBounds_toArray, List.set_cons_zero, List.set_cons_succ])) | (refine wl_st rfl rfl rfl rfl rfl hS (of_decide_eq_true rfl) ?_; intro _ hS; (try simp only [evT, evC, List.getD_cons_succ, List.getD_cons_zero, List.set_cons_zero, List.set_cons_succ] at hS); (try simp only [List.set_cons_zero, List.set_cons_succ] at hS); (try simp only [Act.put, List.setIfInBounds_toArray, List.set_cons_zero, List.set_cons_succ])) | (refine wl_strC rfl rfl rfl rfl hS rfl rfl ?_; intro _ hS; (try simp only [evT, evC, List.getD_cons_succ, List.getD_cons_zero, List.set_cons_zero, List.set_cons_succ] at hS); (try simp only [Act.put, List.setIfInBounds_toArray, List.set_cons_zero, List.set_cons_succ])))
          refine post_marks (D := D) (v := .tuple #[.slice Ao (belowL dir t).length capo, .int .i64 0]) (H := rowA Ao (flat enE ((belowL dir t).map (cutE dir)) ++ sp) 24 ++ R) hS.to rfl ?_
          intro w' hS
          refine ⟨results_tmp2 (t := 4) (u := 5) rfl _ _ _, ?_⟩
          rw [Hx.out]
          exact ⟨_, _, _, (by rw [List.length_map]), hO, hS⟩
        · exact h.elim
    · have Hx := Lib.hid (show subR t dir = ([], whereI t dir) by unfold subR; rw [if_pos ha, if_neg hw])
      obtain ⟨v, hv⟩ : ∃ v, whereI t dir = v := ⟨_, rfl⟩
      rw [hv] at l2 hw Hx
      have d2 : (v == 0) = false := beq_no hw
      have d3 : (v != 0) = true := bne_no hw
      clear ha hw hv
      refine calls_of_marks Tryz.func16 rfl ?_
      simp only [Tryz.ntmps16, List.size_toArray, List.length_cons, List.length_nil, Nat.reduceAdd, Nat.reduceSub, Array.replicate_succ, Array.replicate_zero, List.push_toArray, List.append_toArray, List.nil_append, List.cons_append]
      go_wp2_with (first | (refine wl_box rfl rfl rfl rfl hS ?_; intro pb _ hS; (try simp only [Act.put, List.setIfInBounds_toArray, List.set_cons_zero, List.set_cons_succ])) | (go_at_call 37; refine ((l1 _ _ hS inferInstance)).mono ?_; rintro e w' (⟨rfl, hS⟩)) | (go_at_call 39; refine ((l2 _ _ hS inferInstance)).mono ?_; rintro e w' (⟨rfl, hS⟩)) | (refine wl_isld rfl ?_; ((first | refine wl_value rfl (ex_l0 hS rfl rfl rfl CellAt.out) ?_ | refine wl_value rfl (ex_lf hS rfl rfl rfl CellAt.out) ?_ | refine wl_value rfl (ex_l1 hS rfl rfl rfl CellAt.out) ?_ | refine wl_value rfl (ex_ldC hS rfl rfl CellAt.out) ?_ | refine wl_value rfl (ex_l0 hS rfl rfl rfl rfl) ?_ | refine wl_value rfl (ex_lf hS rfl rfl rfl rfl) ?_ | refine wl_value rfl (ex_l1 hS rfl rfl rfl rfl) ?_ | refine wl_value rfl (ex_ldC hS rfl rfl rfl) ?_ | refine wl_value rfl (ex_l00 hS rfl rfl CellAt.out) ?_ | refine wl_value rfl (ex_l00 hS rfl rfl rfl) ?_ | refine wl_value rfl (ex_l0f hS rfl rfl CellAt.out) ?_ | refine wl_value rfl (ex_l0f hS rfl rfl rfl) ?_ | refine wl_value rfl (ex_lr hS rfl rfl rfl rfl) ?_ | refine wl_value rfl (ex_lr0 hS rfl rfl rfl) ?_ | refine wl_value rfl (ex_lrz hS rfl rfl rfl) ?_ | refine wl_value rfl (ex_lrf hS rfl rfl rfl) ?_ | refine wl_value rfl (ex_ldrC hS rfl rfl) ?_ | refine wl_value rfl (ex_ldr0 hS rfl rfl rfl) ?_); (try simp only [Act.put, List.setIfInBounds_toArray, List.set_cons_zero, List.set_cons_succ]))) | ((first | refine wl_value rfl (ex_ix hS rfl rfl rfl ?_) ?_); (focus (first | rfl | omega | (simp; done))); (try simp only [Act.put, List.setIfInBounds_toArray, List.set_cons_zero, List.set_cons_succ])) | ((first | refine wl_value rfl (ex_eqA rfl rfl rfl) ?_ | refine wl_value rfl (ex_neA rfl rfl rfl) ?_); (try simp only [Act.put, List.setIfInBounds_toArray, List.set_cons_zero, List.set_cons_succ])) | (refine wl_alloc rfl rfl hS ?_; intro _ _ hS; (try simp only [Act.put, List.setIfInBounds_toArray, List.set_cons_zero, List.set_cons_succ])) | (refine wl_box rfl rfl rfl rfl hS ?_; intro _ _ hS; (try simp only [Act.put, List.setIfInBounds_toArray, List.set_cons_zero, List.set_cons_succ])) | (refine wl_st rfl rfl rfl rfl rfl hS (of_decide_eq_true rfl) ?_; intro _ hS; (try simp only [evT, evC, List.getD_cons_succ, List.getD_cons_zero, List.set_cons_zero, List.set_cons_succ] at hS); (try simp only [List.set_cons_zero, List.set_cons_succ] at hS); (try simp only [Act.put, List.setIfInBounds_toArray, List.set_cons_zero, List.set_cons_succ])) | (refine wl_strC rfl rfl rfl rfl hS rfl rfl ?_; intro _ hS; (try simp only [evT, evC, List.getD_cons_succ, List.getD_cons_zero, List.set_cons_zero, List.set_cons_succ] at hS); (try simp only [Act.put, List.setIfInBounds_toArray, List.set_cons_zero, List.set_cons_succ])))
      refine post_marks0 (v := .tuple #[.slice none 0 0, .int .i64 v]) rfl ⟨results_tmp2 (t := 4) (u := 5) rfl _ _ _, ?_⟩
      rw [Hx.out]
      exact .bad hS.to
  · have Hx := Lib.hid (show subR t dir = ([], (checkA t).2) by unfold subR; rw [if_neg ha])
    obtain ⟨v, hv⟩ : ∃ v, (checkA t).2 = v := ⟨_, rfl⟩
    rw [hv] at l1 ha Hx
    have d2 : (v == 0) = false := beq_no ha
    have d3 : (v != 0) = true := bne_no ha
    clear ha hv
    refine calls_of_marks Tryz.func16 rfl ?_
    simp only [Tryz.ntmps16, List.size_toArray, List.length_cons, List.length_nil, Nat.reduceAdd, Nat.reduceSub, Array.replicate_succ, Array.replicate_zero, List.push_toArray, List.append_toArray, List.nil_append, List.cons_append]
    go_wp2_with (first | (refine wl_box rfl rfl rfl rfl hS ?_; intro pb _ hS; (try simp only [Act.put, List.setIfInBounds_toArray, List.set_cons_zero, List.set_cons_succ])) | (go_at_call 37; refine ((l1 _ _ hS inferInstance)).mono ?_; rintro e w' (⟨rfl, hS⟩)) | (refine wl_isld rfl ?_; ((first | refine wl_value rfl (ex_l0 hS rfl rfl rfl CellAt.out) ?_ | refine wl_value rfl (ex_lf hS rfl rfl rfl CellAt.out) ?_ | refine wl_value rfl (ex_l1 hS rfl rfl rfl CellAt.out) ?_ | refine wl_value rfl (ex_ldC hS rfl rfl CellAt.out) ?_ | refine wl_value rfl (ex_l0 hS rfl rfl rfl rfl) ?_ | refine wl_value rfl (ex_lf hS rfl rfl rfl rfl) ?_ | refine wl_value rfl (ex_l1 hS rfl rfl rfl rfl) ?_ | refine wl_value rfl (ex_ldC hS rfl rfl rfl) ?_ | refine wl_value rfl (ex_l00 hS rfl rfl CellAt.out) ?_ | refine wl_value rfl (ex_l00 hS rfl rfl rfl) ?_ | refine wl_value rfl (ex_l0f hS rfl rfl CellAt.out) ?_ | refine wl_value rfl (ex_l0f hS rfl rfl rfl) ?_ | refine wl_value rfl (ex_lr hS rfl rfl rfl rfl) ?_ | refine wl_value rfl (ex_lr0 hS rfl rfl rfl) ?_ | refine wl_value rfl (ex_lrz hS rfl rfl rfl) ?_ | refine wl_value rfl (ex_lrf hS rfl rfl rfl) ?_ | refine wl_value rfl (ex_ldrC hS rfl rfl) ?_ | refine wl_value rfl (ex_ldr0 hS rfl rfl rfl) ?_); (try simp only [Act.put, List.setIfInBounds_toArray, List.set_cons_zero, List.set_cons_succ]))) | ((first | refine wl_value rfl (ex_ix hS rfl rfl rfl ?_) ?_); (focus (first | rfl | omega | (simp; done))); (try simp only [Act.put, List.setIfInBounds_toArray, List.set_cons_zero, List.set_cons_succ])) | ((first | refine wl_value rfl (ex_eqA rfl rfl rfl) ?_ | refine wl_value rfl (ex_neA rfl rfl rfl) ?_); (try simp only [Act.put, List.setIfInBounds_toArray, List.set_cons_zero, List.set_cons_succ])) | (refine wl_alloc rfl rfl hS ?_; intro _ _ hS; (try simp only [Act.put, List.setIfInBounds_toArray, List.set_cons_zero, List.set_cons_succ])) | (refine wl_box rfl rfl rfl rfl hS ?_; intro _ _ hS; (try simp only [Act.put, List.setIfInBounds_toArray, List.set_cons_zero, List.set_cons_succ])) | (refine wl_st rfl rfl rfl rfl rfl hS (of_decide_eq_true rfl) ?_; intro _ hS; (try simp only [evT, evC, List.getD_cons_succ, List.getD_cons_zero, List.set_cons_zero, List.set_cons_succ] at hS); (try simp only [List.set_cons_zero, List.set_cons_succ] at hS); (try simp only [Act.put, List.setIfInBounds_toArray, List.set_cons_zero, List.set_cons_succ])) | (refine wl_strC rfl rfl rfl rfl hS rfl rfl ?_; intro _ hS; (try simp only [evT, evC, List.getD_cons_succ, List.getD_cons_zero, List.set_cons_zero, List.set_cons_succ] at hS); (try simp only [Act.put, List.setIfInBounds_toArray, List.set_cons_zero, List.set_cons_succ])))
    refine post_marks0 (v := .tuple #[.slice none 0 0, .int .i64 v]) rfl ⟨results_tmp2 (t := 4) (u := 5) rfl _ _ _, ?_⟩
    rw [Hx.out]
    exact .bad hS.to
end
end Go.Tk

set_option linter.unusedSectionVars false
set_option linter.unusedSimpArgs false
set_option linter.unusedVariables false
namespace Go.Tk
open Go.RowKit Go.Proofs
def putP (dir p : ByteArray) : ByteArray := if dir.size = 0 then p else dir ++ slash ++ p
def putE (dir : ByteArray) (e : En) : En := ⟨putP dir e.path, e.kind, e.data⟩
def keptL (dir : ByteArray) (t : List En) : List En := t.filter fun e => !aboveB dir e.path
def graftR (t : List En) (dir : ByteArray) (s : List En) : List En × Int :=
  if (checkA t).2 = 0 then (if (checkA s).2 = 0 then (if whereI t dir = 0 then (if (s.map (putE dir)).all (fun e => okP e.path) = true then fitR (keptL dir t ++ s.map (putE dir)) else ([], 44)) else ([], whereI t dir)) else ([], (checkA s).2)) else ([], (checkA t).2)
structure GrSt where
  i : Nat
  A : Option Addr
  out : List En
  cap : Nat
section
variable {B : Base} {R H H1 : HL} {w w' : World}
def GrI (B : Base) (R : HL) (dir : ByteArray) (k s : List En) (x : GrSt) (w : World) : Prop :=
  ∃ sp, x.i ≤ s.length ∧ x.out = k ++ (s.take x.i).map (putE dir) ∧ ((s.take x.i).map (putE dir)).all (fun e => okP e.path) = true ∧ OwnSl enE x.A x.out sp x.cap ∧ Sh B (rowA x.A (flat enE x.out ++ sp) 24 ++ R) w
set_option maxRecDepth 100000 in
theorem gr1_any [HasML B] {pb : Nat} {p : ByteArray} (hp : p.size ≤ 16777216) : PredC B (cellB pb [.string p] 9 ++ R) 50 #[.pointer (some ⟨pb, 0, none⟩)] (fun e => aboveB p e.path) (fun e => e.path.size ≤ 16777216) := by
  refine ⟨EntersC.out (P := Tryz.prog) (f := 50), ?_⟩
  rintro x H w hx ⟨d, rfl⟩ hS
  show Calls Tryz.prog 50 #[.agg x.cells.toArray, .pointer (some ⟨pb, 0, none⟩)] w _
  have hb := fun (w : World) (R : HL) (hS : Sh B R w) => Below_any hS p x.path hp hx
  go_enter Tryz.func50, Tryz.ntmps50
  go_wp2_with (first | (refine wl_box rfl rfl rfl rfl hS ?_; intro xb _ hS; (try simp only [Act.put, List.setIfInBounds_toArray, List.set_cons_zero, List.set_cons_succ])) | (go_at_call 48; refine ((hb _ _ hS)).mono ?_; rintro e w' (⟨rfl, hS⟩)) | (refine wl_isld rfl ?_; ((refine wl_value rfl (ex_ldC hS rfl rfl CellAt.out) ?_); (try simp only [Act.put, List.setIfInBounds_toArray, List.set_cons_zero, List.set_cons_succ]))))
  go_ret
  exact ⟨rfl, hS.to⟩
set_option maxRecDepth 100000 in
set_option maxHeartbeats 6400000 in
theorem TGraft_any [HasML B] [NoDraw B] (hS : Sh B R w) {A A' : Option Addr} {cap cap' : Nat} {t s : List En} [r : RdAt enE B R A t] [r' : RdAt enE B R A' s] (hl : t.length ≤ 16777216) (hl' : s.length ≤ 16777216) (hsm : SmallE t) (hss : SmallE s) (dir : ByteArray) (hdir : dir.size ≤ 1048576) (hsp : ∀ e ∈ s, e.path.size ≤ 1048576)
    (hu : ∀ out : List En, out = keptL dir t ++ s.map (putE dir) → (∀ e ∈ out, okP e.path = true) → ∀ ys : List En, ys.Perm out → (ys.Pairwise fun x y => 0 ≤ lessI y.path x.path) → (checkA t).2 = 0 → (checkA s).2 = 0 → ys = srt out) :
    Calls Tryz.prog 17 #[.slice A t.length cap, .string dir, .slice A' s.length cap'] w (ApplyP B R (graftR t dir s)) := by
  have l1 := fun (w : World) (H : HL) (hS : Sh B H w) (r : RdAt enE B H A t) => Right_any hS (A := A) (cap := cap) (t := t) (r := r) hl hsm
  have l2 := fun (w : World) (H : HL) (hS : Sh B H w) (r : RdAt enE B H A' s) => Right_any hS (A := A') (cap := cap') (t := s) (r := r) hl' hss
  have l3 := fun (w : World) (H : HL) (hS : Sh B H w) (r : RdAt enE B H A t) => Where_any hS (cap := cap) (r := r) hl dir (by omega)
  by_cases ha : (checkA t).2 = 0
  · rw [ha] at l1
    by_cases hb : (checkA s).2 = 0
    · rw [hb] at l2
      by_cases hw : whereI t dir = 0
      · rw [hw] at l3
        obtain ⟨_, hT⟩ := right_of ha
        obtain ⟨_, hT2⟩ := right_of hb
        have hfew := hT.few
        have hfew2 := hT2.few
        obtain ⟨X, hX⟩ : ∃ X, graftR t dir s = X := ⟨_, rfl⟩
        rw [hX]
        unfold graftR at hX
        rw [if_pos ha, if_pos hb, if_pos hw] at hX
        obtain ⟨k, hk⟩ : ∃ k, keptL dir t = k := ⟨_, rfl⟩
        have hkl : k.length ≤ t.length := by rw [← hk]; exact List.length_filter_le ..
        have hkok : ∀ e ∈ k, okP e.path = true ∧ e.path.size ≤ 16777216 ∧ e.data.size ≤ 16777216 := fun e he => by
          rw [← hk] at he
          have h1 := (List.mem_filter.1 he).1
          exact ⟨(mayB_ok (hT.may e h1)).1, hsm e h1⟩
        rw [hk] at hX
        have hu2 := fun out h1 h2 ys h3 h4 => hu out h1 h2 ys h3 h4 ha hb
        rw [hk] at hu2
        have hcl := fun (w : World) (R : HL) (hS : Sh B R w) (r : RdAt enE B R A t) => CloneE_any hS (cap := cap) (t := t) (r := r) hl
        have hsz : ∀ e ∈ t, e.path.size ≤ 16777216 := fun e he => (hsm e he).1
        have hdl := fun (w : World) (pb : Nat) (A3 : Option Addr) (sp3 : List Value) (cap3 : Nat) (hO : OwnSl enE A3 t sp3 cap3) (hS : Sh B (rowA A3 (flat enE t ++ sp3) 24 ++ (cellB pb [.string dir] 9 ++ R)) w) => DelF_any (gr1_any (p := dir) (by omega)) hO hS hl hsz
        have hk' : (t.filter fun e => !aboveB dir e.path) = k := hk
        rw [hk'] at hdl
        have HX := Lib.hid hX
        have Hu := Lib.hid hu2
        have Hkok := Lib.hid hkok
        have Hsp := Lib.hid hsp
        have Hss := Lib.hid hss
        clear ha hb hw hT hT2 hX hk hk' hu hu2 hkok hsp hss hsz hsm
        go_enter Tryz.func17, Tryz.ntmps17
        go_upto_region 4 with (first | (refine wl_box rfl rfl rfl rfl hS ?_; intro pb _ hS; (try simp only [Act.put, List.setIfInBounds_toArray, List.set_cons_zero, List.set_cons_succ])) | (go_at_call 37; refine ((l1 _ _ hS inferInstance)).mono ?_; rintro e w' (⟨rfl, hS⟩)))
        have hS : Sh B (cellB pb [.string dir] 9 ++ R) _ := hS
        clear l1
        go_wp2_with (first | (go_at_call 37; refine ((l2 _ _ hS inferInstance)).mono ?_; rintro e w' (⟨rfl, hS⟩)) | (go_at_call 39; refine ((l3 _ _ hS inferInstance)).mono ?_; rintro e w' (⟨rfl, hS⟩)) | (go_at_call 41; refine ((hcl _ _ hS inferInstance)).mono ?_; rintro e w' (⟨A2, sp2, cap2, rfl, hO, hS⟩)) | (go_at_call 46; refine ((hdl _ _ _ _ _ hO hS)).mono ?_; rintro e w' (⟨sp3, rfl, hO3, hS⟩)) | (refine wl_isld rfl ?_; ((refine wl_value rfl (ex_ldC hS rfl rfl CellAt.out) ?_); (try simp only [Act.put, List.setIfInBounds_toArray, List.set_cons_zero, List.set_cons_succ]))))
        have h0 : GrI B (cellB pb [.string dir] 9 ++ R) dir k s ⟨0, A2, k, cap2⟩ _ := ⟨sp3, Nat.zero_le _, by simp, by simp, hO3, hS⟩
        clear hS hO hO3 l2 l3 hcl hdl
        refine wp_loopS [11, 37] [6, 7, 13, 38, 39, 40, 41, 42, 43, 44, 45, 46, 47, 48, 49, 50, 51, 52, 53, 54, 55, 56, 57] (fun x : GrSt => [.slice x.A x.out.length x.cap, .int .i64 x.i]) (GrI B (cellB pb [.string dir] 9 ++ R) dir k s) (fun x => s.length - x.i) (⟨0, A2, k, cap2⟩) rfl (h0) ?_
        clear h0
        rintro ⟨i, A4, out, cap4⟩ J w ⟨sp4, hi, hou, hall, hO, hS⟩
        dsimp only at hi hou hall hO hS
        have hol : out.length ≤ 2048 := by rw [hou, List.length_append, List.length_map, List.length_take]; omega
        have Hou := Lib.hid hou
        have Hall := Lib.hid hall
        clear hou hall
        (simp only [Frm, setsT, junkT, List.setIfInBounds_toArray, List.set_cons_zero, List.set_cons_succ])
        by_cases hlt : i < s.length
        · obtain ⟨x, gx⟩ := Nth.of hlt
          have Htk := Lib.hid gx.take
          have Hmem := Lib.hid gx.mem
          have hxz := Hsp.out x gx.mem
          by_cases hz : dir.size = 0
          · have hde : dir.toList = [] := (empty_prop dir).2 hz
            have d1 : dir.toList.isEmpty = true := by rw [hde]; rfl
            have hpe : putE dir x = x := by unfold putE putP; rw [if_pos hz]
            have lc := fun (w : World) (H : HL) (hS : Sh B H w) => Check_any hS x.path (by omega)
            rw [errN_ok] at lc
            by_cases hok : okP x.path = true
            · rw [hok, if_pos rfl] at lc
              have H1 := Lib.hid (show out ++ [x] = k ++ (s.take (i + 1)).map (putE dir) by rw [Hou.out, Htk.out, List.map_append, List.append_assoc]; simp [hpe])
              have H2 := Lib.hid (show ((s.take (i + 1)).map (putE dir)).all (fun e => okP e.path) = true by
                rw [Htk.out, List.map_append, List.all_append, Hall.out]; simp [hpe, hok])
              clear hz hpe hok
              go_upto_region 15 with (first | (refine wl_alloc rfl rfl hS ?_; intro eb _ hS; (try simp only [Act.put, List.setIfInBounds_toArray, List.set_cons_zero, List.set_cons_succ])) | (refine wl_isld rfl ?_; ((first | refine wl_value rfl (ex_ldC hS rfl rfl CellAt.out) ?_ | refine wl_value rfl (ex_lr hS rfl rfl rfl rfl) ?_); (try simp only [Act.put, List.setIfInBounds_toArray, List.set_cons_zero, List.set_cons_succ]))) | ((refine wl_value rfl (ex_ix hS rfl rfl rfl ?_) ?_); (focus (rfl)); (try simp only [Act.put, List.setIfInBounds_toArray, List.set_cons_zero, List.set_cons_succ])) | (refine wl_strC rfl rfl rfl rfl hS rfl rfl ?_; intro _ hS; (try simp only [evT, evC, List.getD_cons_succ, List.getD_cons_zero, List.set_cons_zero, List.set_cons_succ] at hS); (try simp only [Act.put, List.setIfInBounds_toArray, List.set_cons_zero, List.set_cons_succ])))
              go_wp2_with (first | (go_at_call 45; refine ((lc _ _ hS)).mono ?_; rintro e w' (⟨rfl, hS⟩)) | (refine wl_buildSlice (E := enE) [x] rfl rfl (by simp only [List.map_toArray, List.map_cons, List.map_nil]; rfl) rfl (by decide) (by decide) hS ?_; intro _ _ hS hN; (try simp only [Act.put, List.setIfInBounds_toArray, List.set_cons_zero, List.set_cons_succ])) | (refine wl_ap (E := enE) rfl rfl rfl rfl hS ?_ ?_ ?_ ?_ ?_; (focus (rfl)); (focus (rfl)); (focus ((simp only [List.length_cons, List.length_nil]; omega))); (focus decide); intro _ _ _ _ hO6 hS; (try simp only [Act.put, List.setIfInBounds_toArray, List.set_cons_zero, List.set_cons_succ])) | (refine wl_isld rfl ?_; ((refine wl_value rfl (ex_ldr0 hS rfl rfl rfl) ?_); (try simp only [Act.put, List.setIfInBounds_toArray, List.set_cons_zero, List.set_cons_succ]))))
              exact ⟨(⟨i + 1, _, out ++ [x], _⟩ : GrSt), ⟨_, hlt, H1.out, H2.out, hO6, hS.to⟩, (by dsimp only; omega), (by dsimp only; rw [List.length_append]; rfl), (by (simp only [blankT, junkT, List.cons_append, List.nil_append, List.setIfInBounds_toArray, List.set_cons_zero, List.set_cons_succ])), rfl⟩
            · rw [if_neg hok] at lc
              have Hx := Lib.hid (show X = ([], 44) by
                rw [← HX.out, if_neg]
                intro h
                rw [List.all_eq_true] at h
                have h1 := h (putE dir x) (List.mem_map_of_mem gx.mem)
                rw [hpe] at h1
                exact hok h1)
              clear hz hpe hok
              go_upto_region 15 with (first | (refine wl_alloc rfl rfl hS ?_; intro eb _ hS; (try simp only [Act.put, List.setIfInBounds_toArray, List.set_cons_zero, List.set_cons_succ])) | (refine wl_isld rfl ?_; ((first | refine wl_value rfl (ex_ldC hS rfl rfl CellAt.out) ?_ | refine wl_value rfl (ex_lr hS rfl rfl rfl rfl) ?_); (try simp only [Act.put, List.setIfInBounds_toArray, List.set_cons_zero, List.set_cons_succ]))) | ((refine wl_value rfl (ex_ix hS rfl rfl rfl ?_) ?_); (focus (rfl)); (try simp only [Act.put, List.setIfInBounds_toArray, List.set_cons_zero, List.set_cons_succ])) | (refine wl_strC rfl rfl rfl rfl hS rfl rfl ?_; intro _ hS; (try simp only [evT, evC, List.getD_cons_succ, List.getD_cons_zero, List.set_cons_zero, List.set_cons_succ] at hS); (try simp only [Act.put, List.setIfInBounds_toArray, List.set_cons_zero, List.set_cons_succ])))
              go_wp2_with ((go_at_call 45; refine ((lc _ _ hS)).mono ?_; rintro e w' (⟨rfl, hS⟩)))
              go_ret2
              rw [Hx.out]
              exact .bad hS.to
          · have hde : ¬ dir.toList = [] := fun h => hz ((empty_prop dir).1 h)
            have d1 : dir.toList.isEmpty = false := by rw [empty_iff]; exact decide_eq_false hz
            have hpe : putE dir x = (⟨dir ++ slash ++ x.path, x.kind, x.data⟩ : En) := by unfold putE putP; rw [if_neg hz]
            have hps : (dir ++ slash ++ x.path).size ≤ 16777216 := by
              rw [ByteArray.size_append, ByteArray.size_append]
              have : slash.size = 1 := rfl
              omega
            have lc := fun (w : World) (H : HL) (hS : Sh B H w) => Check_any hS (dir ++ slash ++ x.path) hps
            rw [errN_ok] at lc
            by_cases hok : okP (⟨dir ++ slash ++ x.path, x.kind, x.data⟩ : En).path = true
            · rw [hok, if_pos rfl] at lc
              have H1 := Lib.hid (show out ++ [(⟨dir ++ slash ++ x.path, x.kind, x.data⟩ : En)] = k ++ (s.take (i + 1)).map (putE dir) by rw [Hou.out, Htk.out, List.map_append, List.append_assoc]; simp [hpe])
              have H2 := Lib.hid (show ((s.take (i + 1)).map (putE dir)).all (fun e => okP e.path) = true by
                rw [Htk.out, List.map_append, List.all_append, Hall.out]; simp [hpe, hok])
              clear hz hpe hok
              go_upto_region 15 with (first | (refine wl_alloc rfl rfl hS ?_; intro eb _ hS; (try simp only [Act.put, List.setIfInBounds_toArray, List.set_cons_zero, List.set_cons_succ])) | (refine wl_isld rfl ?_; ((first | refine wl_value rfl (ex_ldC hS rfl rfl CellAt.out) ?_ | refine wl_value rfl (ex_lr hS rfl rfl rfl rfl) ?_); (try simp only [Act.put, List.setIfInBounds_toArray, List.set_cons_zero, List.set_cons_succ]))) | ((refine wl_value rfl (ex_ix hS rfl rfl rfl ?_) ?_); (focus (rfl)); (try simp only [Act.put, List.setIfInBounds_toArray, List.set_cons_zero, List.set_cons_succ])) | (refine wl_strC rfl rfl rfl rfl hS rfl rfl ?_; intro _ hS; (try simp only [evT, evC, List.getD_cons_succ, List.getD_cons_zero, List.set_cons_zero, List.set_cons_succ] at hS); (try simp only [Act.put, List.setIfInBounds_toArray, List.set_cons_zero, List.set_cons_succ])))
              go_upto_region 16 with (first | (refine wl_isld rfl ?_; ((refine wl_value rfl (ex_ldC hS rfl rfl CellAt.out) ?_); (try simp only [Act.put, List.setIfInBounds_toArray, List.set_cons_zero, List.set_cons_succ]))) | (refine wl_st rfl rfl rfl rfl rfl hS (of_decide_eq_true rfl) ?_; intro _ hS; (try simp only [evT, evC, List.getD_cons_succ, List.getD_cons_zero, List.set_cons_zero, List.set_cons_succ] at hS); (try simp only [List.set_cons_zero, List.set_cons_succ] at hS); (try simp only [Act.put, List.setIfInBounds_toArray, List.set_cons_zero, List.set_cons_succ])))
              have hS : Sh B (cellB eb (⟨dir ++ slash ++ x.path, x.kind, x.data⟩ : En).cells 24 ++ (rowA A4 (flat enE out ++ sp4) 24 ++ (cellB pb [.string dir] 9 ++ R))) _ := hS
              go_wp2_with (first | (go_at_call 45; refine ((lc _ _ hS)).mono ?_; rintro e w' (⟨rfl, hS⟩)) | (refine wl_buildSlice (E := enE) ([(⟨dir ++ slash ++ x.path, x.kind, x.data⟩ : En)]) rfl rfl (by simp only [List.map_toArray, List.map_cons, List.map_nil]; rfl) rfl (by decide) (by decide) hS ?_; intro _ _ hS hN; (try simp only [Act.put, List.setIfInBounds_toArray, List.set_cons_zero, List.set_cons_succ])) | (refine wl_ap (E := enE) rfl rfl rfl rfl hS ?_ ?_ ?_ ?_ ?_; (focus (rfl)); (focus (rfl)); (focus ((simp only [List.length_cons, List.length_nil]; omega))); (focus decide); intro _ _ _ _ hO6 hS; (try simp only [Act.put, List.setIfInBounds_toArray, List.set_cons_zero, List.set_cons_succ])) | (refine wl_isld rfl ?_; ((first | refine wl_value rfl (ex_ldC hS rfl rfl CellAt.out) ?_ | refine wl_value rfl (ex_ldr0 hS rfl rfl rfl) ?_); (try simp only [Act.put, List.setIfInBounds_toArray, List.set_cons_zero, List.set_cons_succ]))))
              exact ⟨(⟨i + 1, _, out ++ [(⟨dir ++ slash ++ x.path, x.kind, x.data⟩ : En)], _⟩ : GrSt), ⟨_, hlt, H1.out, H2.out, hO6, hS.to⟩, (by dsimp only; omega), (by dsimp only; rw [List.length_append]; rfl), (by (simp only [blankT, junkT, List.cons_append, List.nil_append, List.setIfInBounds_toArray, List.set_cons_zero, List.set_cons_succ])), rfl⟩
            · rw [if_neg hok] at lc
              have Hx := Lib.hid (show X = ([], 44) by
                rw [← HX.out, if_neg]
                intro h
                rw [List.all_eq_true] at h
                have h1 := h (putE dir x) (List.mem_map_of_mem gx.mem)
                rw [hpe] at h1
                exact hok h1)
              clear hz hpe hok
              go_upto_region 15 with (first | (refine wl_alloc rfl rfl hS ?_; intro eb _ hS; (try simp only [Act.put, List.setIfInBounds_toArray, List.set_cons_zero, List.set_cons_succ])) | (refine wl_isld rfl ?_; ((first | refine wl_value rfl (ex_ldC hS rfl rfl CellAt.out) ?_ | refine wl_value rfl (ex_lr hS rfl rfl rfl rfl) ?_); (try simp only [Act.put, List.setIfInBounds_toArray, List.set_cons_zero, List.set_cons_succ]))) | ((refine wl_value rfl (ex_ix hS rfl rfl rfl ?_) ?_); (focus (rfl)); (try simp only [Act.put, List.setIfInBounds_toArray, List.set_cons_zero, List.set_cons_succ])) | (refine wl_strC rfl rfl rfl rfl hS rfl rfl ?_; intro _ hS; (try simp only [evT, evC, List.getD_cons_succ, List.getD_cons_zero, List.set_cons_zero, List.set_cons_succ] at hS); (try simp only [Act.put, List.setIfInBounds_toArray, List.set_cons_zero, List.set_cons_succ])))
              go_upto_region 16 with (first | (refine wl_isld rfl ?_; ((refine wl_value rfl (ex_ldC hS rfl rfl CellAt.out) ?_); (try simp only [Act.put, List.setIfInBounds_toArray, List.set_cons_zero, List.set_cons_succ]))) | (refine wl_st rfl rfl rfl rfl rfl hS (of_decide_eq_true rfl) ?_; intro _ hS; (try simp only [evT, evC, List.getD_cons_succ, List.getD_cons_zero, List.set_cons_zero, List.set_cons_succ] at hS); (try simp only [List.set_cons_zero, List.set_cons_succ] at hS); (try simp only [Act.put, List.setIfInBounds_toArray, List.set_cons_zero, List.set_cons_succ])))
              have hS : Sh B (cellB eb (⟨dir ++ slash ++ x.path, x.kind, x.data⟩ : En).cells 24 ++ (rowA A4 (flat enE out ++ sp4) 24 ++ (cellB pb [.string dir] 9 ++ R))) _ := hS
              go_wp2_with (first | (go_at_call 45; refine ((lc _ _ hS)).mono ?_; rintro e w' (⟨rfl, hS⟩)) | (refine wl_isld rfl ?_; ((refine wl_value rfl (ex_ldC hS rfl rfl CellAt.out) ?_); (try simp only [Act.put, List.setIfInBounds_toArray, List.set_cons_zero, List.set_cons_succ]))))
              go_ret2
              rw [Hx.out]
              exact .bad hS.to
        · have hs0 : s.take i = s := List.take_of_length_le (by omega)
          rw [hs0] at Hou Hall
          have Hxo := Lib.hid (show X = fitR out by rw [← HX.out, if_pos Hall.out, Hou.out])
          have hsm : ∀ e ∈ out, okP e.path = true ∧ e.path.size ≤ 16777216 ∧ e.data.size ≤ 16777216 := fun e he => by
            rw [Hou.out] at he
            rcases List.mem_append.1 he with h | h
            · exact Hkok.out e h
            · refine ⟨List.all_eq_true.1 Hall.out e h, ?_⟩
              obtain ⟨y, hy, rfl⟩ := List.mem_map.1 h
              have h1 := Hsp.out y hy
              refine ⟨?_, (Hss.out y hy).2⟩
              unfold putE putP
              dsimp only
              split
              · omega
              · rw [ByteArray.size_append, ByteArray.size_append]
                have : slash.size = 1 := rfl
                omega
          have Hou2 := Lib.hid (Hu.out out Hou.out (fun e he => (hsm e he).1))
          have hft := fun (w : World) (R : HL) (hS : Sh B R w) (r : RdAt enE B R A4 out) => Fits_any hS (cap := cap4) (t := out) (r := r) (by omega) (fun e he => (hsm e he).2)
          have hso := fun (w : World) (H : HL) (hS : Sh B H w) (C : HL → HL) (hp : CtxRow H A4 (flat enE out ++ sp4) 24 C) => Sorted_any hO hS (hp := hp) (by omega) (fun e he => ⟨(hsm e he).1, (hsm e he).2.1⟩)
          clear hsm hs0
          by_cases hf : fitsI out = 0
          · have Hx := Lib.hid (show X = (srt out, 0) by rw [Hxo.out]; unfold fitR; rw [if_pos hf])
            rw [hf] at hft
            clear hf
            go_wp2_with (first | (go_at_call 43; refine ((hft _ _ hS inferInstance)).mono ?_; rintro e w' (⟨rfl, hS⟩)) | (go_at_call 44; refine ((hso _ _ hS _ inferInstance)).mono ?_; rintro e w' (⟨rfl, ys, hper, hpw, hO4, hS⟩)))
            go_ret2
            rw [Hx.out]
            have hys := Hou2.out ys hper hpw
            rw [hys] at hO4 hS
            exact ⟨_, _, _, (by rw [← hys, hper.length_eq]; rfl), hO4, hS.to⟩
          · have Hx := Lib.hid (show X = ([], fitsI out) by rw [Hxo.out]; unfold fitR; rw [if_neg hf])
            obtain ⟨v, hv⟩ : ∃ v, fitsI out = v := ⟨_, rfl⟩
            rw [hv] at hft hf Hx
            have d2 : (v == 0) = false := beq_no hf
            have d3 : (v != 0) = true := bne_no hf
            clear hf hv
            go_wp2_with ((go_at_call 43; refine ((hft _ _ hS inferInstance)).mono ?_; rintro e w' (⟨rfl, hS⟩)))
            go_ret2
            rw [Hx.out]
            exact .bad hS.to
      · have Hx := Lib.hid (show graftR t dir s = ([], whereI t dir) by unfold graftR; rw [if_pos ha, if_pos hb, if_neg hw])
        obtain ⟨v, hv⟩ : ∃ v, whereI t dir = v := ⟨_, rfl⟩
        rw [hv] at l3 hw Hx
        have d2 : (v == 0) = false := beq_no hw
        have d3 : (v != 0) = true := bne_no hw
        clear ha hb hw hv hu
        go_enter Tryz.func17, Tryz.ntmps17
        go_upto_region 4 with (first | (refine wl_box rfl rfl rfl rfl hS ?_; intro pb _ hS; (try simp only [Act.put, List.setIfInBounds_toArray, List.set_cons_zero, List.set_cons_succ])) | (go_at_call 37; refine ((l1 _ _ hS inferInstance)).mono ?_; rintro e w' (⟨rfl, hS⟩)))
        go_wp2_with (first | (go_at_call 37; refine ((l2 _ _ hS inferInstance)).mono ?_; rintro e w' (⟨rfl, hS⟩)) | (go_at_call 39; refine ((l3 _ _ hS inferInstance)).mono ?_; rintro e w' (⟨rfl, hS⟩)) | (refine wl_isld rfl ?_; ((refine wl_value rfl (ex_ldC hS rfl rfl CellAt.out) ?_); (try simp only [Act.put, List.setIfInBounds_toArray, List.set_cons_zero, List.set_cons_succ]))))
        go_ret2
        rw [Hx.out]
        exact .bad hS.to
    · have Hx := Lib.hid (show graftR t dir s = ([], (checkA s).2) by unfold graftR; rw [if_pos ha, if_neg hb])
      obtain ⟨v, hv⟩ : ∃ v, (checkA s).2 = v := ⟨_, rfl⟩
      rw [hv] at l2 hb Hx
      have d2 : (v == 0) = false := beq_no hb
      have d3 : (v != 0) = true := bne_no hb
      clear ha hb hv hu
      go_enter Tryz.func17, Tryz.ntmps17
      go_upto_region 4 with (first | (refine wl_box rfl rfl rfl rfl hS ?_; intro pb _ hS; (try simp only [Act.put, List.setIfInBounds_toArray, List.set_cons_zero, List.set_cons_succ])) | (go_at_call 37; refine ((l1 _ _ hS inferInstance)).mono ?_; rintro e w' (⟨rfl, hS⟩)))
      go_wp2_with ((go_at_call 37; refine ((l2 _ _ hS inferInstance)).mono ?_; rintro e w' (⟨rfl, hS⟩)))
      go_ret2
      rw [Hx.out]
      exact .bad hS.to
  · have Hx := Lib.hid (show graftR t dir s = ([], (checkA t).2) by unfold graftR; rw [if_neg ha])
    obtain ⟨v, hv⟩ : ∃ v, (checkA t).2 = v := ⟨_, rfl⟩
    rw [hv] at l1 ha Hx
    have d2 : (v == 0) = false := beq_no ha
    have d3 : (v != 0) = true := bne_no ha
    clear ha hv hu
    go_enter Tryz.func17, Tryz.ntmps17
    go_wp2_with (first | (refine wl_box rfl rfl rfl rfl hS ?_; intro pb _ hS; (try simp only [Act.put, List.setIfInBounds_toArray, List.set_cons_zero, List.set_cons_succ])) | (go_at_call 37; refine ((l1 _ _ hS inferInstance)).mono ?_; rintro e w' (⟨rfl, hS⟩)))
    go_ret2
    rw [Hx.out]
    exact .bad hS.to
end
end Go.Tk

set_option linter.unusedSectionVars false
set_option linter.unusedSimpArgs false
set_option linter.unusedVariables false
namespace Go.Tk
open Go.RowKit Go.Proofs
theorem slash_data : slash.data.toList = [47] := rfl
theorem append_data (a b : ByteArray) : (a ++ b).data.toList = a.data.toList ++ b.data.toList := by simp
theorem putP_data {dir p : ByteArray} (hz : dir.size ≠ 0) : (putP dir p).data.toList = dir.data.toList ++ 47 :: p.data.toList := by
  unfold putP
  rw [if_neg hz, append_data, append_data, slash_data]
  simp
/-- What names a path below a directory has. -/
theorem put_names {dir p : ByteArray} {D l : List ByteArray} (hd : namesB dir = some D) (hp : okP p = true) (hpz : p.size ≠ 0) (h : namesB (putP dir p) = some l) : ∃ y, namesB p = some y ∧ y ≠ [] ∧ l = D ++ y := by
  obtain ⟨y, hy⟩ := okP_some hp
  refine ⟨y, hy, fun h0 => hpz ((namesL_join hy).2.1 h0), ?_⟩
  by_cases hz : dir.size = 0
  · have : D = [] := (namesL_join hd).2.2 hz
    subst this
    unfold putP at h
    rw [if_pos hz, hy] at h
    cases h
    rfl
  · have hsz : (putP dir p).size ≠ 0 := by
      rw [ba_size, putP_data hz]; simp
    rw [names_pieces h hsz, names_pieces hd hz, names_pieces hy hpz]
    unfold piecesB
    rw [putP_data hz, splitL_append, List.map_append]
theorem put_of {dir p : ByteArray} {D y : List ByteArray} (hd : namesB dir = some D) (hp : namesB p = some y) (hy : y ≠ []) (hl : (D ++ y).length ≤ 32) : namesB (putP dir p) = some (D ++ y) := by
  have h1 := names_all hd
  have h2 := names_all hp
  have h3 := names_join (l := D ++ y) (fun x hx => (List.mem_append.1 hx).elim (h1.1 x) (h2.1 x)) hl
  have : joinB (D ++ y) = putP dir p := by
    apply ba_ext
    by_cases hz : dir.size = 0
    · have : D = [] := (namesL_join hd).2.2 hz
      subst this
      unfold putP
      rw [if_pos hz, List.nil_append, (namesL_join hp).1]
    · have hD : D ≠ [] := fun h0 => hz ((namesL_join hd).2.1 h0)
      rw [putP_data hz, ← (namesL_join hd).1, ← (namesL_join hp).1]
      unfold joinB
      rw [data_mkB, data_mkB, data_mkB, List.map_append]
      exact join_app _ _ (by simpa using hD) (by simpa using hy)
  rw [← this]
  exact h3
theorem cut_put {dir : ByteArray} (e : En) : cutE dir (putE dir e) = e := by
  unfold cutE putE
  by_cases hz : dir.size = 0
  · rw [if_pos hz]; unfold putP; rw [if_pos hz]
  · rw [if_neg hz]
    have : (putP dir e.path).extract (dir.size + 1) (putP dir e.path).size = e.path := by
      rw [← ext_mk]
      apply ba_ext
      rw [data_mkB, putP_data hz, ba_size (putP dir e.path), putP_data hz, ba_size dir]
      rw [show dir.data.toList ++ 47 :: e.path.data.toList = (dir.data.toList ++ [47]) ++ e.path.data.toList by simp]
      rw [List.drop_left' (by simp)]
      exact List.take_of_length_le (by simp; omega)
    rw [this]
/-- What lies below is what was put, cut. -/
theorem below_cut {dir : ByteArray} {D : List ByteArray} (hd : namesB dir = some D) {x : En} (hx : aboveB dir x.path = true) (hok : okP x.path = true) : ∃ z, z ≠ [] ∧ namesB x.path = some (D ++ z) ∧ namesB (cutE dir x).path = some z ∧ putE dir (cutE dir x) = x := by
  obtain ⟨y, hy⟩ := okP_some hok
  obtain ⟨z, hz, rfl⟩ := (above_names hd hy).1 hx
  have h1 := names_all hy
  have h2 := names_join (l := z) (fun v hv => h1.1 v (List.mem_append_right _ hv)) (by have := h1.2; rw [List.length_append] at this; omega)
  have h3 := put_of hd h2 hz h1.2
  have hpx : putP dir (joinB z) = x.path := by rw [← (namesL_join h3).1, ← (namesL_join hy).1]
  have he : x = putE dir ⟨joinB z, x.kind, x.data⟩ := by
    unfold putE
    dsimp only
    rw [hpx]
  have hc : cutE dir x = ⟨joinB z, x.kind, x.data⟩ := by
    conv => lhs; rw [he]
    exact cut_put _
  refine ⟨z, hz, hy, ?_, ?_⟩
  · rw [hc]; exact h2
  · rw [hc]; exact he.symm
theorem cmpL_pre : ∀ (D a b : List ByteArray), cmpL (D ++ a) (D ++ b) = cmpL a b
  | [], _, _ => rfl
  | d :: D, a, b => by
    rw [List.cons_append, List.cons_append, cmpL_cons, if_pos (cmpS_0.2 rfl)]
    exact cmpL_pre D a b
theorem cut_less {dir : ByteArray} {D : List ByteArray} (hd : namesB dir = some D) {x y : En} (hx : aboveB dir x.path = true) (hy : aboveB dir y.path = true) (ox : okP x.path = true) (oy : okP y.path = true) : lessI (cutE dir x).path (cutE dir y).path = lessI x.path y.path := by
  obtain ⟨a, _, h1, h2, _⟩ := below_cut hd hx ox
  obtain ⟨b, _, h3, h4, _⟩ := below_cut hd hy oy
  rw [lessI_of h2 h4, lessI_of h1 h3, cmpL_pre]
theorem cut_kind (dir : ByteArray) (x : En) : (cutE dir x).kind = x.kind ∧ (cutE dir x).data = x.data := by
  unfold cutE
  split
  · exact ⟨rfl, rfl⟩
  · exact ⟨rfl, rfl⟩
theorem mayB_of {x y : En} (h : mayB x = true) (hk : y.kind = x.kind) (hd : y.data = x.data) (hok : okP y.path = true) (hz : y.path.size ≠ 0) : mayB y = true := by
  unfold mayB at h ⊢
  rw [hk, hd]
  simp only [Bool.and_eq_true, Bool.not_eq_true', decide_eq_false_iff_not] at h ⊢
  exact ⟨⟨hok, hz⟩, h.2⟩
theorem sumE_map {f : En → En} (hf : ∀ x, (f x).data = x.data) : ∀ t : List En, sumE (t.map f) = sumE t
  | [] => rfl
  | e :: r => by rw [List.map_cons, sumE, sumE, sumE_map hf r, hf]
theorem where_ok {t : List En} {d : ByteArray} (h : whereI t d = 0) : okP d = true := by
  unfold whereI at h
  by_cases h1 : okP d = false
  · rw [if_pos h1] at h; exact absurd h (by decide)
  · cases h2 : okP d with
    | true => rfl
    | false => exact absurd h2 h1
theorem where_of {t : List En} {d : ByteArray} (hd : Dist t) (hok : okP d = true) (h : isDirA t d = true) : whereI t d = 0 := by
  unfold whereI
  rw [if_neg (by rw [hok]; decide)]
  by_cases h0 : d.size = 0
  · rw [if_pos h0]
  · rw [if_neg h0]
    obtain ⟨h1, e, he, h2⟩ := kindI_dir hd h0 h
    rw [if_neg, if_pos h1]
    rcases find_idx (t := t) (p := d) with ⟨_, _, _, _, h5⟩ | ⟨i, x, h4, _⟩
    · exact absurd h2 (h5 e he)
    · rw [h4]; omega
theorem dir_name {x : En} {p : ByteArray} (h : x.path = p) (hk : x.kind = 2) {t : List En} (hx : x ∈ t) : isDirA t p = true := by
  unfold isDirA
  rw [Bool.or_eq_true]
  exact .inr (List.any_eq_true.2 ⟨x, hx, by simp [hk, h]⟩)
theorem dir_get {t : List En} {p : ByteArray} (h : isDirA t p = true) (hz : p.size ≠ 0) : ∃ x ∈ t, x.path = p ∧ x.kind = 2 := by
  unfold isDirA at h
  rw [Bool.or_eq_true, decide_eq_true_eq] at h
  rcases h with h | h
  · exact absurd h hz
  · obtain ⟨x, hx, h2⟩ := List.any_eq_true.1 h
    simp only [Bool.and_eq_true, decide_eq_true_eq] at h2
    exact ⟨x, hx, h2.2, h2.1⟩
theorem dir_nil (t : List En) {p : ByteArray} (h : p.size = 0) : isDirA t p = true := by
  unfold isDirA; simp [h]
/-- What was cut out is a right tree. -/
theorem sub_right {t : List En} (hT : RightT t) {dir : ByteArray} (hd : okP dir = true) : RightT ((belowL dir t).map (cutE dir)) := by
  obtain ⟨D, hD⟩ := okP_some hd
  have hb : ∀ x ∈ belowL dir t, x ∈ t ∧ aboveB dir x.path = true := fun x hx => List.mem_filter.1 hx
  have hok : ∀ x ∈ belowL dir t, okP x.path = true := fun x hx => (mayB_ok (hT.may x (hb x hx).1)).1
  exact {
    few := by rw [List.length_map]; exact Nat.le_trans (List.length_filter_le ..) hT.few
    may := fun e he => by
      obtain ⟨x, hx, rfl⟩ := List.mem_map.1 he
      obtain ⟨z, hz, _, h2, _⟩ := below_cut hD (hb x hx).2 (hok x hx)
      refine mayB_of (hT.may x (hb x hx).1) (cut_kind dir x).1 (cut_kind dir x).2 ?_ fun h0 => hz ((namesL_join h2).2.2 h0)
      unfold okP; rw [h2]; rfl
    sorted := by
      show List.Pairwise _ _
      rw [List.pairwise_map]
      refine List.Pairwise.imp_of_mem (fun {x y} hx hy hxy => ?_) (hT.sorted.filter fun e => aboveB dir e.path)
      rw [cut_less hD (hb x hx).2 (hb y hy).2 (hok x hx) (hok y hy)]
      exact hxy
    dirs := fun e he => by
      obtain ⟨x, hx, rfl⟩ := List.mem_map.1 he
      obtain ⟨z, hz, h1, h2, _⟩ := below_cut hD (hb x hx).2 (hok x hx)
      have hu := upP_names h2
      by_cases hz0 : (upP (cutE dir x).path).size = 0
      · exact dir_nil _ hz0
      · have hzd : z.dropLast ≠ [] := fun h0 => hz0 ((namesL_join hu).2.1 h0)
        have hux := upP_names h1
        rw [List.dropLast_append_of_ne_nil hz] at hux
        have hxz : (upP x.path).size ≠ 0 := fun h0 => by
          have := (namesL_join hux).2.2 h0
          rw [List.append_eq_nil_iff] at this
          exact hzd this.2
        obtain ⟨f, hf, h5, h6⟩ := dir_get (hT.dirs x (hb x hx).1) hxz
        have hfa : aboveB dir f.path = true := by
          rw [h5]
          exact (above_names hD hux).2 ⟨_, hzd, rfl⟩
        have hfb : f ∈ belowL dir t := List.mem_filter.2 ⟨hf, hfa⟩
        obtain ⟨z2, _, h7, h8, _⟩ := below_cut hD hfa (hok f hfb)
        rw [h5, hux] at h7
        have h9 := List.append_cancel_left (Option.some.inj h7)
        refine dir_name (x := cutE dir f) ?_ (by rw [(cut_kind dir f).1, h6]) (List.mem_map_of_mem hfb)
        rw [← (namesL_join h8).1, ← h9, ← (namesL_join hu).1]
    fit := by
      rw [sumE_map fun x => (cut_kind dir x).2]
      exact Int.le_trans (sumE_filter _ t) hT.fit }
theorem filter_perm (p : En → Bool) : ∀ t : List En, ((t.filter fun e => !p e) ++ t.filter p).Perm t
  | [] => .refl _
  | e :: r => by
    have ih := filter_perm p r
    rw [List.filter_cons, List.filter_cons]
    cases h : p e with
    | false =>
      simp only [Bool.not_false, if_true, Bool.false_eq_true, if_false, List.cons_append]
      exact ih.cons e
    | true =>
      simp only [Bool.not_true, Bool.false_eq_true, if_false, if_true]
      exact List.perm_middle.trans (ih.cons e)
theorem fits_right {t : List En} (hT : RightT t) : fitsI t = 0 := by
  unfold fitsI
  rw [if_neg (by have := hT.few; omega), if_neg (by have := hT.fit; omega)]
theorem fits_perm {a b : List En} (h : a.Perm b) : fitsI a = fitsI b := by
  unfold fitsI
  rw [h.length_eq, sumE_perm h]
theorem srt_of {t out : List En} (hT : RightT t) (hp : out.Perm t) : srt out = t :=
  right_sorted hT ((srt_perm out).trans hp) (srt_sorted out fun e he => (mayB_ok (hT.may e (hp.subset he))).1)
/-- Cut out and put back. -/
theorem back_out {t : List En} (hT : RightT t) {dir : ByteArray} (hd : okP dir = true) : ((belowL dir t).map (cutE dir)).map (putE dir) = belowL dir t := by
  obtain ⟨D, hD⟩ := okP_some hd
  rw [List.map_map]
  conv => rhs; rw [← List.map_id (belowL dir t)]
  refine List.map_congr_left fun x hx => ?_
  obtain ⟨h1, h2⟩ := List.mem_filter.1 hx
  obtain ⟨z, _, _, _, h3⟩ := below_cut hD h2 (mayB_ok (hT.may x h1)).1
  exact h3
theorem back_right {t : List En} (hT : RightT t) {dir : ByteArray} (hw : whereI t dir = 0) : graftR t dir ((belowL dir t).map (cutE dir)) = (t, 0) := by
  have hd := where_ok hw
  have hp : (keptL dir t ++ belowL dir t).Perm t := filter_perm (fun e => aboveB dir e.path) t
  unfold graftR
  rw [of_right hT, if_pos rfl, of_right (sub_right hT hd), if_pos rfl, if_pos hw, back_out hT hd, if_pos]
  · unfold fitR
    rw [fits_perm hp, fits_right hT, if_pos rfl, srt_of hT hp]
  · rw [List.all_eq_true]
    intro x hx
    exact (mayB_ok (hT.may x (List.mem_filter.1 hx).1)).1
/-- What is put in is what is cut out. -/
theorem put_above {dir : ByteArray} {D : List ByteArray} (hD : namesB dir = some D) {e : En} (he : mayB e = true) (hok : okP (putP dir e.path) = true) : aboveB dir (putE dir e).path = true := by
  obtain ⟨l, hl⟩ := okP_some hok
  obtain ⟨y, _, hy, rfl⟩ := put_names hD (mayB_ok he).1 (mayB_ok he).2 hl
  exact (above_names hD hl).2 ⟨y, hy, rfl⟩
theorem graft_dist {t s : List En} (hT : RightT t) (hS : RightT s) {dir : ByteArray} (hd : okP dir = true) (hall : ∀ e ∈ s.map (putE dir), okP e.path = true) : Dist (keptL dir t ++ s.map (putE dir)) := by
  obtain ⟨D, hD⟩ := okP_some hd
  unfold Dist
  rw [List.pairwise_append]
  refine ⟨hT.sorted.dist.filter _, ?_, ?_⟩
  · rw [List.pairwise_map]
    refine hS.sorted.dist.imp fun {x y} hxy he => hxy ?_
    have h1 := cut_put (dir := dir) x
    have h2 := cut_put (dir := dir) y
    have h3 : cutE dir ⟨putP dir x.path, x.kind, x.data⟩ = x := h1
    have h4 : cutE dir ⟨putP dir y.path, y.kind, y.data⟩ = y := h2
    have h5 : (cutE dir ⟨putP dir x.path, x.kind, x.data⟩).path = (cutE dir ⟨putP dir y.path, y.kind, y.data⟩).path := by
      unfold cutE
      have he2 : putP dir x.path = putP dir y.path := he
      split
      · exact he2
      · show ByteArray.extract _ _ _ = ByteArray.extract _ _ _
        rw [he2]
    rw [h3, h4] at h5
    exact h5
  · intro x hx y hy he
    obtain ⟨e, hes, rfl⟩ := List.mem_map.1 hy
    have h1 := (List.mem_filter.1 hx).2
    have h2 := put_above hD (hS.may e hes) (hall _ hy)
    rw [he, h2] at h1
    cases h1
theorem graft_right {t s : List En} (hT : RightT t) (hS : RightT s) {dir : ByteArray} (hw : whereI t dir = 0) (hall : ∀ e ∈ s.map (putE dir), okP e.path = true) (hf : fitsI (keptL dir t ++ s.map (putE dir)) = 0) :
    RightT (srt (keptL dir t ++ s.map (putE dir))) ∧ subR (srt (keptL dir t ++ s.map (putE dir))) dir = (s, 0) := by
  have hd := where_ok hw
  obtain ⟨D, hD⟩ := okP_some hd
  obtain ⟨out, hout⟩ : ∃ out, keptL dir t ++ s.map (putE dir) = out := ⟨_, rfl⟩
  have hdist := graft_dist hT hS hd hall
  have hm : ∀ e ∈ out, mayB e = true := by
    intro e he
    rw [← hout] at he
    rcases List.mem_append.1 he with h | h
    · exact hT.may e (List.mem_filter.1 h).1
    · obtain ⟨x, hx, rfl⟩ := List.mem_map.1 h
      refine mayB_of (hS.may x hx) rfl rfl (hall _ h) fun h0 => ?_
      have h1 := put_above hD (hS.may x hx) (hall _ h)
      obtain ⟨l, hl⟩ := okP_some (hall _ h)
      obtain ⟨z, hz, h2⟩ := (above_names hD hl).1 h1
      have := (namesL_join hl).2.2 h0
      rw [this] at h2
      exact hz (List.append_eq_nil_iff.1 h2.symm).2
  have hdirk : isDirA out dir = true := by
    by_cases hz : dir.size = 0
    · exact dir_nil _ hz
    · obtain ⟨f, hf1, h1, h2⟩ := dir_get (where_dir hw) hz
      refine dir_name h1 h2 ?_
      rw [← hout]
      refine List.mem_append_left _ (List.mem_filter.2 ⟨hf1, ?_⟩)
      rw [h1]
      cases ha : aboveB dir dir with
      | false => rfl
      | true =>
        obtain ⟨z, hz, h3⟩ := (above_names hD hD).1 ha
        have := congrArg List.length h3
        rw [List.length_append] at this
        exact absurd (List.length_eq_zero_iff.1 (by omega)) hz
  have hdirs : ∀ e ∈ out, isDirA out (upP e.path) = true := by
    intro e he
    rw [← hout] at he
    rcases List.mem_append.1 he with h | h
    · obtain ⟨h1, h2⟩ := List.mem_filter.1 h
      by_cases hz : (upP e.path).size = 0
      · exact dir_nil _ hz
      · obtain ⟨f, hf1, h3, h4⟩ := dir_get (hT.dirs e h1) hz
        refine dir_name h3 h4 ?_
        rw [← hout]
        refine List.mem_append_left _ (List.mem_filter.2 ⟨hf1, ?_⟩)
        cases ha : aboveB dir f.path with
        | false => rfl
        | true =>
          exfalso
          have oe := mayB_ok (hT.may e h1)
          obtain ⟨y, hy⟩ := okP_some oe.1
          have hne : y ≠ [] := fun h0 => oe.2 ((namesL_join hy).2.1 h0)
          have hu := upP_names hy
          rw [h3] at ha
          obtain ⟨z, hz2, h5⟩ := (above_names hD hu).1 ha
          have h6 : aboveB dir e.path = true := by
            rw [above_names hD hy]
            refine ⟨z ++ [y.getLast hne], by simp, ?_⟩
            rw [← List.append_assoc, ← h5]
            exact (List.dropLast_concat_getLast hne).symm
          rw [h6] at h2
          cases h2
    · obtain ⟨x, hx, rfl⟩ := List.mem_map.1 h
      obtain ⟨l, hl⟩ := okP_some (hall _ h)
      obtain ⟨y, hy, hne, rfl⟩ := put_names hD (mayB_ok (hS.may x hx)).1 (mayB_ok (hS.may x hx)).2 hl
      have hu : namesB (upP (putE dir x).path) = some (D ++ y.dropLast) := by
        rw [upP_names hl, List.dropLast_append_of_ne_nil hne]
      by_cases hy1 : y.dropLast = []
      · rw [hy1, List.append_nil] at hu
        have : upP (putE dir x).path = dir := by rw [← (namesL_join hu).1, ← (namesL_join hD).1]
        rw [this]
        exact hdirk
      · have hux := upP_names hy
        have hxz : (upP x.path).size ≠ 0 := fun h0 => hy1 ((namesL_join hux).2.2 h0)
        obtain ⟨f, hf1, h3, h4⟩ := dir_get (hS.dirs x hx) hxz
        refine dir_name (x := putE dir f) ?_ h4 ?_
        · have hll := (names_all hu).2
          have h5 := put_of hD hux hy1 hll
          show putP dir f.path = _
          rw [h3, ← (namesL_join h5).1, ← (namesL_join hu).1]
        · rw [← hout]
          exact List.mem_append_right _ (List.mem_map_of_mem hf1)
  rw [hout] at hdist hf ⊢
  have hR := srt_right hm hdist hf hdirs
  refine ⟨hR, ?_⟩
  have hp := srt_perm out
  have hwr : whereI (srt out) dir = 0 := where_of hR.sorted.dist hd (isDirA_mono (fun x hx => hp.symm.subset hx) hdirk)
  unfold subR
  rw [of_right hR, if_pos rfl, if_pos hwr]
  have hbe : (belowL dir out) = s.map (putE dir) := by
    rw [← hout]
    unfold belowL keptL
    rw [List.filter_append, List.filter_filter]
    have h1 : (t.filter fun a => aboveB dir a.path && !aboveB dir a.path) = [] := by
      rw [List.filter_eq_nil_iff]; intro a _; cases aboveB dir a.path <;> simp
    rw [h1, List.nil_append, List.filter_eq_self]
    intro y hy
    obtain ⟨x, hx, rfl⟩ := List.mem_map.1 hy
    exact put_above hD (hS.may x hx) (hall _ hy)
  have hper : ((belowL dir (srt out)).map (cutE dir)).Perm s := by
    have h1 : (belowL dir (srt out)).Perm (belowL dir out) := hp.filter _
    have h2 := h1.map (cutE dir)
    rw [hbe, List.map_map] at h2
    have h3 : s.map (cutE dir ∘ putE dir) = s := by
      conv => rhs; rw [← List.map_id s]
      exact List.map_congr_left fun x _ => cut_put x
    rw [h3] at h2
    exact h2
  have hsr := sub_right hR hd
  rw [right_sorted hS hper (hsr.sorted.le fun e he => (mayB_ok (hsr.may e he)).1)]
theorem graft_hu {t s : List En} {dir : ByteArray} (hd : okP dir = true) : ∀ out : List En, out = keptL dir t ++ s.map (putE dir) → (∀ e ∈ out, okP e.path = true) → ∀ ys : List En, ys.Perm out → (ys.Pairwise fun x y => 0 ≤ lessI y.path x.path) → (checkA t).2 = 0 → (checkA s).2 = 0 → ys = srt out := by
  intro out ho hok ys hp hs ht2 hs2
  have hT := (right_of ht2).2
  have hS := (right_of hs2).2
  have hdd := graft_dist hT hS hd (fun e he => hok e (by rw [ho]; exact List.mem_append_right _ he))
  rw [← ho] at hdd
  exact sorted_uniq (hp.trans (srt_perm out).symm) hs (srt_sorted out hok) (fun e he => hok e ((srt_perm out).subset he)) (hdd.perm (srt_perm out))
end Go.Tk

set_option linter.unusedSectionVars false
set_option linter.unusedSimpArgs false
set_option linter.unusedVariables false
namespace Go.Tk
open Go.RowKit Go.Proofs
/-- What a walk goes over. -/
def walkT (t : List En) (dir : ByteArray) : List En := if (checkA t).2 = 0 then (if whereI t dir = 0 then t else []) else []
def walkV (sb db : Nat) : Value := .func (.func 70) #[] #[.pointer (some ⟨sb, 0, none⟩), .pointer (some ⟨db, 0, none⟩)]
def walkH (sb db : Nat) (A : Option Addr) (n cap : Nat) (dir : ByteArray) : HL := cellB sb [.slice A n cap] 22 ++ (cellB db [.string dir] 9 ++ [])
def WalkP (B : Base) (R : HL) (t : List En) (dir : ByteArray) (e : Ending) (w : World) : Prop :=
  ∃ sb db A sp cap, e = .returned (walkV sb db) ∧ OwnSl enE A t sp cap ∧ Sh B (walkH sb db A t.length cap dir ++ (rowA A (flat enE t ++ sp) 24 ++ R)) w
section
variable {B : Base} {R H H1 : HL} {w w' : World}
set_option maxRecDepth 100000 in
set_option maxHeartbeats 3200000 in
theorem Walk_any [HasML B] [NoDraw B] (hS : Sh B R w) {A : Option Addr} {cap : Nat} {t : List En} [r : RdAt enE B R A t] (hl : t.length ≤ 16777216) (hsm : SmallE t) (dir : ByteArray) (hdir : dir.size ≤ 16777216) :
    Calls Tryz.prog 54 #[.slice A t.length cap, .string dir] w (WalkP B R (walkT t dir) dir) := by
  have hcl := fun (w : World) (R : HL) (hS : Sh B R w) (r : RdAt enE B R A t) => CloneE_any hS (cap := cap) (t := t) (r := r) hl
  have l1 := fun (w : World) (H : HL) (hS : Sh B H w) (A : Option Addr) (cap : Nat) (r : RdAt enE B H A t) => Right_any hS (A := A) (cap := cap) (t := t) (r := r) hl hsm
  have l2 := fun (w : World) (H : HL) (hS : Sh B H w) (A : Option Addr) (cap : Nat) (r : RdAt enE B H A t) => Where_any hS (A := A) (cap := cap) (r := r) hl dir hdir
  by_cases ha : (checkA t).2 = 0
  · rw [ha] at l1
    by_cases hw : whereI t dir = 0
    · rw [hw] at l2
      have Hx := Lib.hid (show walkT t dir = t by unfold walkT; rw [if_pos ha, if_pos hw])
      clear ha hw
      go_enter Tryz.func54, Tryz.ntmps54
      go_wp2_with (first | (refine wl_box rfl rfl rfl rfl hS ?_; intro db _ hS; (try simp only [Act.put, List.setIfInBounds_toArray, List.set_cons_zero, List.set_cons_succ])) | (refine wl_alloc rfl rfl hS ?_; intro sb _ hS; (try simp only [Act.put, List.setIfInBounds_toArray, List.set_cons_zero, List.set_cons_succ])) | (go_at_call 41; refine ((hcl _ _ hS inferInstance)).mono ?_; rintro e w' (⟨A2, sp2, cap2, rfl, hO, hS⟩)) | (go_at_call 37; refine ((l1 _ _ hS _ _ inferInstance)).mono ?_; rintro e w' (⟨rfl, hS⟩)) | (go_at_call 39; refine ((l2 _ _ hS _ _ inferInstance)).mono ?_; rintro e w' (⟨rfl, hS⟩)) | (refine wl_isld rfl ?_; ((first | refine wl_value rfl (ex_l0 hS rfl rfl rfl CellAt.out) ?_ | refine wl_value rfl (ex_lf hS rfl rfl rfl CellAt.out) ?_ | refine wl_value rfl (ex_l1 hS rfl rfl rfl CellAt.out) ?_ | refine wl_value rfl (ex_ldC hS rfl rfl CellAt.out) ?_ | refine wl_value rfl (ex_l0 hS rfl rfl rfl rfl) ?_ | refine wl_value rfl (ex_lf hS rfl rfl rfl rfl) ?_ | refine wl_value rfl (ex_l1 hS rfl rfl rfl rfl) ?_ | refine wl_value rfl (ex_ldC hS rfl rfl rfl) ?_ | refine wl_value rfl (ex_l00 hS rfl rfl CellAt.out) ?_ | refine wl_value rfl (ex_l00 hS rfl rfl rfl) ?_ | refine wl_value rfl (ex_l0f hS rfl rfl CellAt.out) ?_ | refine wl_value rfl (ex_l0f hS rfl rfl rfl) ?_ | refine wl_value rfl (ex_lr hS rfl rfl rfl rfl) ?_ | refine wl_value rfl (ex_lr0 hS rfl rfl rfl) ?_ | refine wl_value rfl (ex_lrz hS rfl rfl rfl) ?_ | refine wl_value rfl (ex_lrf hS rfl rfl rfl) ?_ | refine wl_value rfl (ex_ldrC hS rfl rfl) ?_ | refine wl_value rfl (ex_ldr0 hS rfl rfl rfl) ?_); (try simp only [Act.put, List.setIfInBounds_toArray, List.set_cons_zero, List.set_cons_succ]))) | ((first | refine wl_value rfl (ex_ix hS rfl rfl rfl ?_) ?_); (focus (first | rfl | omega | (simp; done))); (try simp only [Act.put, List.setIfInBounds_toArray, List.set_cons_zero, List.set_cons_succ])) | ((first | refine wl_value rfl (ex_eqA rfl rfl rfl) ?_ | refine wl_value rfl (ex_neA rfl rfl rfl) ?_); (try simp only [Act.put, List.setIfInBounds_toArray, List.set_cons_zero, List.set_cons_succ])) | (refine wl_alloc rfl rfl hS ?_; intro _ _ hS; (try simp only [Act.put, List.setIfInBounds_toArray, List.set_cons_zero, List.set_cons_succ])) | (refine wl_box rfl rfl rfl rfl hS ?_; intro _ _ hS; (try simp only [Act.put, List.setIfInBounds_toArray, List.set_cons_zero, List.set_cons_succ])) | (refine wl_st rfl rfl rfl rfl rfl hS (of_decide_eq_true rfl) ?_; intro _ hS; (try simp only [evT, evC, List.getD_cons_succ, List.getD_cons_zero, List.set_cons_zero, List.set_cons_succ] at hS); (try simp only [List.set_cons_zero, List.set_cons_succ] at hS); (try simp only [Act.put, List.setIfInBounds_toArray, List.set_cons_zero, List.set_cons_succ])) | (refine wl_strC rfl rfl rfl rfl hS rfl rfl ?_; intro _ hS; (try simp only [evT, evC, List.getD_cons_succ, List.getD_cons_zero, List.set_cons_zero, List.set_cons_succ] at hS); (try simp only [Act.put, List.setIfInBounds_toArray, List.set_cons_zero, List.set_cons_succ])))
      go_ret
      rw [Hx.out]
      exact ⟨sb, db, A2, sp2, cap2, rfl, hO, hS.to (H' := cellB sb [.slice A2 t.length cap2] 22 ++ (cellB db [.string dir] 9 ++ (rowA A2 (flat enE t ++ sp2) 24 ++ R)))⟩
    · have Hx := Lib.hid (show walkT t dir = [] by unfold walkT; rw [if_pos ha, if_neg hw])
      obtain ⟨v, hv⟩ : ∃ v, whereI t dir = v := ⟨_, rfl⟩
      rw [hv] at l2 hw
      have d2 : (v == 0) = false := beq_no hw
      have d3 : (v != 0) = true := bne_no hw
      clear ha hw hv
      go_enter Tryz.func54, Tryz.ntmps54
      go_wp2_with (first | (refine wl_box rfl rfl rfl rfl hS ?_; intro db _ hS; (try simp only [Act.put, List.setIfInBounds_toArray, List.set_cons_zero, List.set_cons_succ])) | (refine wl_alloc rfl rfl hS ?_; intro sb _ hS; (try simp only [Act.put, List.setIfInBounds_toArray, List.set_cons_zero, List.set_cons_succ])) | (go_at_call 41; refine ((hcl _ _ hS inferInstance)).mono ?_; rintro e w' (⟨A2, sp2, cap2, rfl, hO, hS⟩)) | (go_at_call 37; refine ((l1 _ _ hS _ _ inferInstance)).mono ?_; rintro e w' (⟨rfl, hS⟩)) | (go_at_call 39; refine ((l2 _ _ hS _ _ inferInstance)).mono ?_; rintro e w' (⟨rfl, hS⟩)) | (refine wl_isld rfl ?_; ((first | refine wl_value rfl (ex_l0 hS rfl rfl rfl CellAt.out) ?_ | refine wl_value rfl (ex_lf hS rfl rfl rfl CellAt.out) ?_ | refine wl_value rfl (ex_l1 hS rfl rfl rfl CellAt.out) ?_ | refine wl_value rfl (ex_ldC hS rfl rfl CellAt.out) ?_ | refine wl_value rfl (ex_l0 hS rfl rfl rfl rfl) ?_ | refine wl_value rfl (ex_lf hS rfl rfl rfl rfl) ?_ | refine wl_value rfl (ex_l1 hS rfl rfl rfl rfl) ?_ | refine wl_value rfl (ex_ldC hS rfl rfl rfl) ?_ | refine wl_value rfl (ex_l00 hS rfl rfl CellAt.out) ?_ | refine wl_value rfl (ex_l00 hS rfl rfl rfl) ?_ | refine wl_value rfl (ex_l0f hS rfl rfl CellAt.out) ?_ | refine wl_value rfl (ex_l0f hS rfl rfl rfl) ?_ | refine wl_value rfl (ex_lr hS rfl rfl rfl rfl) ?_ | refine wl_value rfl (ex_lr0 hS rfl rfl rfl) ?_ | refine wl_value rfl (ex_lrz hS rfl rfl rfl) ?_ | refine wl_value rfl (ex_lrf hS rfl rfl rfl) ?_ | refine wl_value rfl (ex_ldrC hS rfl rfl) ?_ | refine wl_value rfl (ex_ldr0 hS rfl rfl rfl) ?_); (try simp only [Act.put, List.setIfInBounds_toArray, List.set_cons_zero, List.set_cons_succ]))) | ((first | refine wl_value rfl (ex_ix hS rfl rfl rfl ?_) ?_); (focus (first | rfl | omega | (simp; done))); (try simp only [Act.put, List.setIfInBounds_toArray, List.set_cons_zero, List.set_cons_succ])) | ((first | refine wl_value rfl (ex_eqA rfl rfl rfl) ?_ | refine wl_value rfl (ex_neA rfl rfl rfl) ?_); (try simp only [Act.put, List.setIfInBounds_toArray, List.set_cons_zero, List.set_cons_succ])) | (refine wl_alloc rfl rfl hS ?_; intro _ _ hS; (try simp only [Act.put, List.setIfInBounds_toArray, List.set_cons_zero, List.set_cons_succ])) | (refine wl_box rfl rfl rfl rfl hS ?_; intro _ _ hS; (try simp only [Act.put, List.setIfInBounds_toArray, List.set_cons_zero, List.set_cons_succ])) | (refine wl_st rfl rfl rfl rfl rfl hS (of_decide_eq_true rfl) ?_; intro _ hS; (try simp only [evT, evC, List.getD_cons_succ, List.getD_cons_zero, List.set_cons_zero, List.set_cons_succ] at hS); (try simp only [List.set_cons_zero, List.set_cons_succ] at hS); (try simp only [Act.put, List.setIfInBounds_toArray, List.set_cons_zero, List.set_cons_succ])) | (refine wl_strC rfl rfl rfl rfl hS rfl rfl ?_; intro _ hS; (try simp only [evT, evC, List.getD_cons_succ, List.getD_cons_zero, List.set_cons_zero, List.set_cons_succ] at hS); (try simp only [Act.put, List.setIfInBounds_toArray, List.set_cons_zero, List.set_cons_succ])))
      go_ret
      rw [Hx.out]
      exact ⟨sb, db, none, [], 0, rfl, OwnSl.nothing, hS.to (H' := cellB sb [.slice none 0 0] 22 ++ (cellB db [.string dir] 9 ++ R))⟩
  · have Hx := Lib.hid (show walkT t dir = [] by unfold walkT; rw [if_neg ha])
    obtain ⟨v, hv⟩ : ∃ v, (checkA t).2 = v := ⟨_, rfl⟩
    rw [hv] at l1 ha
    have d2 : (v == 0) = false := beq_no ha
    have d3 : (v != 0) = true := bne_no ha
    clear ha hv l2
    go_enter Tryz.func54, Tryz.ntmps54
    go_wp2_with (first | (refine wl_box rfl rfl rfl rfl hS ?_; intro db _ hS; (try simp only [Act.put, List.setIfInBounds_toArray, List.set_cons_zero, List.set_cons_succ])) | (refine wl_alloc rfl rfl hS ?_; intro sb _ hS; (try simp only [Act.put, List.setIfInBounds_toArray, List.set_cons_zero, List.set_cons_succ])) | (go_at_call 41; refine ((hcl _ _ hS inferInstance)).mono ?_; rintro e w' (⟨A2, sp2, cap2, rfl, hO, hS⟩)) | (go_at_call 37; refine ((l1 _ _ hS _ _ inferInstance)).mono ?_; rintro e w' (⟨rfl, hS⟩)) | (refine wl_isld rfl ?_; ((first | refine wl_value rfl (ex_l0 hS rfl rfl rfl CellAt.out) ?_ | refine wl_value rfl (ex_lf hS rfl rfl rfl CellAt.out) ?_ | refine wl_value rfl (ex_l1 hS rfl rfl rfl CellAt.out) ?_ | refine wl_value rfl (ex_ldC hS rfl rfl CellAt.out) ?_ | refine wl_value rfl (ex_l0 hS rfl rfl rfl rfl) ?_ | refine wl_value rfl (ex_lf hS rfl rfl rfl rfl) ?_ | refine wl_value rfl (ex_l1 hS rfl rfl rfl rfl) ?_ | refine wl_value rfl (ex_ldC hS rfl rfl rfl) ?_ | refine wl_value rfl (ex_l00 hS rfl rfl CellAt.out) ?_ | refine wl_value rfl (ex_l00 hS rfl rfl rfl) ?_ | refine wl_value rfl (ex_l0f hS rfl rfl CellAt.out) ?_ | refine wl_value rfl (ex_l0f hS rfl rfl rfl) ?_ | refine wl_value rfl (ex_lr hS rfl rfl rfl rfl) ?_ | refine wl_value rfl (ex_lr0 hS rfl rfl rfl) ?_ | refine wl_value rfl (ex_lrz hS rfl rfl rfl) ?_ | refine wl_value rfl (ex_lrf hS rfl rfl rfl) ?_ | refine wl_value rfl (ex_ldrC hS rfl rfl) ?_ | refine wl_value rfl (ex_ldr0 hS rfl rfl rfl) ?_); (try simp only [Act.put, List.setIfInBounds_toArray, List.set_cons_zero, List.set_cons_succ]))) | ((first | refine wl_value rfl (ex_ix hS rfl rfl rfl ?_) ?_); (focus (first | rfl | omega | (simp; done))); (try simp only [Act.put, List.setIfInBounds_toArray, List.set_cons_zero, List.set_cons_succ])) | ((first | refine wl_value rfl (ex_eqA rfl rfl rfl) ?_ | refine wl_value rfl (ex_neA rfl rfl rfl) ?_); (try simp only [Act.put, List.setIfInBounds_toArray, List.set_cons_zero, List.set_cons_succ])) | (refine wl_alloc rfl rfl hS ?_; intro _ _ hS; (try simp only [Act.put, List.setIfInBounds_toArray, List.set_cons_zero, List.set_cons_succ])) | (refine wl_box rfl rfl rfl rfl hS ?_; intro _ _ hS; (try simp only [Act.put, List.setIfInBounds_toArray, List.set_cons_zero, List.set_cons_succ])) | (refine wl_st rfl rfl rfl rfl rfl hS (of_decide_eq_true rfl) ?_; intro _ hS; (try simp only [evT, evC, List.getD_cons_succ, List.getD_cons_zero, List.set_cons_zero, List.set_cons_succ] at hS); (try simp only [List.set_cons_zero, List.set_cons_succ] at hS); (try simp only [Act.put, List.setIfInBounds_toArray, List.set_cons_zero, List.set_cons_succ])) | (refine wl_strC rfl rfl rfl rfl hS rfl rfl ?_; intro _ hS; (try simp only [evT, evC, List.getD_cons_succ, List.getD_cons_zero, List.set_cons_zero, List.set_cons_succ] at hS); (try simp only [Act.put, List.setIfInBounds_toArray, List.set_cons_zero, List.set_cons_succ])))
    go_ret
    rw [Hx.out]
    exact ⟨sb, db, none, [], 0, rfl, OwnSl.nothing, hS.to (H' := cellB sb [.slice none 0 0] 22 ++ (cellB db [.string dir] 9 ++ R))⟩
/-- The loop over what lies below, within a walk. -/
def WlJ (sb db l D yb : Nat) (A : Option Addr) (n cap : Nat) (dir : ByteArray) (l0 : Nat) (o : Obj) (J : List En → HL → Prop) (pre : List En) (d : HL) : Prop :=
  ∃ d0, J pre d0 ∧ d = objB l o ++ (d0 ++ (cellB yb [.func (.yield l0) #[] #[]] 94 ++ (cellB sb [.slice A n cap] 22 ++ (cellB db [.string dir] 9 ++ (objB D (.deferred (some [])) ++ [])))))
/-- What a round of a walk's loop does, whatever lies beside it. -/
def WalkRound (P : Program) (B : Base) (R : HL) (sb db l0 : Nat) (A : Option Addr) (cap : Nat) (t : List En) (dir : ByteArray) (J Jx : List En → HL → Prop) : Prop :=
  ∀ (F : HL) (pre : List En) (x : En) (d : HL) (w : World), x ∈ t → pre.length < t.length → aboveB dir x.path = true → J pre d → Sh B (d ++ (F ++ (cellB sb [.slice A t.length cap] 22 ++ (cellB db [.string dir] 9 ++ R)))) w →
      YieldAt Fence.wide 0 P l0 #[.string (splitP x.path).2.1, .agg x.cells.toArray] w fun e w' => (e = .returned (.bool true) ∧ ∃ d', J (pre ++ [x]) d' ∧ Sh B (d' ++ (F ++ (cellB sb [.slice A t.length cap] 22 ++ (cellB db [.string dir] 9 ++ R)))) w') ∨
        (e = .returned (.bool false) ∧ ∃ d', Jx (pre ++ [x]) d' ∧ Sh B (d' ++ (F ++ (cellB sb [.slice A t.length cap] 22 ++ (cellB db [.string dir] 9 ++ R)))) w')
/-- What a round of a walk's loop does, whatever lies beside it; what was told before stands ahead. -/
def WalkRound2 (P : Program) (B : Base) (R : HL) (sb db l0 : Nat) (A : Option Addr) (cap : Nat) (t : List En) (dir : ByteArray) (J Jx : List En → HL → Prop) : Prop :=
  ∀ (F : HL) (pre : List En) (x : En) (d : HL) (w : World), x ∈ t → pre.length < t.length → aboveB dir x.path = true → pre ++ [x] <+: belowL dir t → J pre d → Sh B (d ++ (F ++ (cellB sb [.slice A t.length cap] 22 ++ (cellB db [.string dir] 9 ++ R)))) w →
      YieldAt Fence.wide 0 P l0 #[.string (splitP x.path).2.1, .agg x.cells.toArray] w fun e w' => (e = .returned (.bool true) ∧ ∃ d', J (pre ++ [x]) d' ∧ Sh B (d' ++ (F ++ (cellB sb [.slice A t.length cap] 22 ++ (cellB db [.string dir] 9 ++ R)))) w') ∨
        (e = .returned (.bool false) ∧ ∃ d', Jx (pre ++ [x]) d' ∧ Sh B (d' ++ (F ++ (cellB sb [.slice A t.length cap] 22 ++ (cellB db [.string dir] 9 ++ R)))) w')
set_option maxRecDepth 100000 in
set_option maxHeartbeats 3200000 in
theorem Walk1_pre [HasML B] [NoDraw B] {sb db l0 : Nat} {A : Option Addr} {cap : Nat} {t : List En} {dir : ByteArray} [r : RdAt enE B R A t] (hl : t.length ≤ 16777216) (hdir : dir.size ≤ 16777216) (hsm : SmallE t) {J Jx : List En → HL → Prop}
    (hY : WalkRound2 Tryz.prog B R sb db l0 A cap t dir J Jx) {d : HL} (h0 : J [] d) (hS : Sh B (d ++ (cellB sb [.slice A t.length cap] 22 ++ (cellB db [.string dir] 9 ++ R))) w) :
    Calls Tryz.prog 70 #[.func (.yield l0) #[] #[], .pointer (some ⟨sb, 0, none⟩), .pointer (some ⟨db, 0, none⟩)] w fun e w' => ∃ v, e = .returned v ∧
      ((∃ d', J (belowL dir t) d' ∧ Sh B (d' ++ (cellB sb [.slice A t.length cap] 22 ++ (cellB db [.string dir] 9 ++ R))) w') ∨
       (∃ pre d', pre <+: belowL dir t ∧ Jx pre d' ∧ Sh B (d' ++ (cellB sb [.slice A t.length cap] 22 ++ (cellB db [.string dir] 9 ++ R))) w')) := by
  have HY := Lib.hid hY
  have Hsm := Lib.hid hsm
  clear hY
  refine calls_of_marks Tryz.func70 rfl ?_
  simp only [Tryz.ntmps70, List.size_toArray, List.length_cons, List.length_nil, Nat.reduceAdd, Nat.reduceSub, Array.replicate_succ, Array.replicate_zero, List.push_toArray, List.append_toArray, List.nil_append, List.cons_append]
  go_wp2_with (first | (refine wl_box rfl rfl rfl rfl hS ?_; intro yb _ hS; (try simp only [Act.put, List.setIfInBounds_toArray, List.set_cons_zero, List.set_cons_succ])) | (go_at_call 49; refine ((Under_any hS A t.length cap dir)).mono ?_; rintro e w' (⟨tb, ub, rfl, hS⟩)) | (refine wl_isld rfl ?_; ((first | refine wl_value rfl (ex_l0 hS rfl rfl rfl CellAt.out) ?_ | refine wl_value rfl (ex_lf hS rfl rfl rfl CellAt.out) ?_ | refine wl_value rfl (ex_l1 hS rfl rfl rfl CellAt.out) ?_ | refine wl_value rfl (ex_ldC hS rfl rfl CellAt.out) ?_ | refine wl_value rfl (ex_l0 hS rfl rfl rfl rfl) ?_ | refine wl_value rfl (ex_lf hS rfl rfl rfl rfl) ?_ | refine wl_value rfl (ex_l1 hS rfl rfl rfl rfl) ?_ | refine wl_value rfl (ex_ldC hS rfl rfl rfl) ?_ | refine wl_value rfl (ex_l00 hS rfl rfl CellAt.out) ?_ | refine wl_value rfl (ex_l00 hS rfl rfl rfl) ?_ | refine wl_value rfl (ex_l0f hS rfl rfl CellAt.out) ?_ | refine wl_value rfl (ex_l0f hS rfl rfl rfl) ?_ | refine wl_value rfl (ex_lr hS rfl rfl rfl rfl) ?_ | refine wl_value rfl (ex_lr0 hS rfl rfl rfl) ?_ | refine wl_value rfl (ex_lrz hS rfl rfl rfl) ?_ | refine wl_value rfl (ex_lrf hS rfl rfl rfl) ?_ | refine wl_value rfl (ex_ldrC hS rfl rfl) ?_ | refine wl_value rfl (ex_ldr0 hS rfl rfl rfl) ?_); (try simp only [Act.put, List.setIfInBounds_toArray, List.set_cons_zero, List.set_cons_succ]))) | ((first | refine wl_value rfl (ex_ix hS rfl rfl rfl ?_) ?_); (focus (first | rfl | omega | (simp; done))); (try simp only [Act.put, List.setIfInBounds_toArray, List.set_cons_zero, List.set_cons_succ])) | ((first | refine wl_value rfl (ex_eqA rfl rfl rfl) ?_ | refine wl_value rfl (ex_neA rfl rfl rfl) ?_); (try simp only [Act.put, List.setIfInBounds_toArray, List.set_cons_zero, List.set_cons_succ])) | (refine wl_alloc rfl rfl hS ?_; intro _ _ hS; (try simp only [Act.put, List.setIfInBounds_toArray, List.set_cons_zero, List.set_cons_succ])) | (refine wl_box rfl rfl rfl rfl hS ?_; intro _ _ hS; (try simp only [Act.put, List.setIfInBounds_toArray, List.set_cons_zero, List.set_cons_succ])) | (refine wl_st rfl rfl rfl rfl rfl hS (of_decide_eq_true rfl) ?_; intro _ hS; (try simp only [evT, evC, List.getD_cons_succ, List.getD_cons_zero, List.set_cons_zero, List.set_cons_succ] at hS); (try simp only [List.set_cons_zero, List.set_cons_succ] at hS); (try simp only [Act.put, List.setIfInBounds_toArray, List.set_cons_zero, List.set_cons_succ])) | (refine wl_strC rfl rfl rfl rfl hS rfl rfl ?_; intro _ hS; (try simp only [evT, evC, List.getD_cons_succ, List.getD_cons_zero, List.set_cons_zero, List.set_cons_succ] at hS); (try simp only [Act.put, List.setIfInBounds_toArray, List.set_cons_zero, List.set_cons_succ])))
  have hS : Sh B (cellB ub [.string dir] 9 ++ (cellB tb [.slice A t.length cap] 22 ++ (cellB yb [.func (.yield l0) #[] #[]] 94 ++ (d ++ (cellB sb [.slice A t.length cap] 22 ++ (cellB db [.string dir] 9 ++ R)))))) _ := hS
  refine wp_rangeO hS rfl (EntersC.out (P := Tryz.prog) (f := 65)) ?_
  intro fn l D w2 O hL hS
  refine (Under1_pre (B := B) (R := R) (A := A) (cap := cap) (r := r) (tb := tb) (db := ub) (l := l) (J := WlJ sb db l D yb A t.length cap dir l0 (O .ready none) J) (Jx := WlJ sb db l D yb A t.length cap dir l0 (O .done (some .ret)) Jx) hl hdir hsm ?_ (d := objB l (O .ready none) ++ (d ++ (cellB yb [.func (.yield l0) #[] #[]] 94 ++ (cellB sb [.slice A t.length cap] 22 ++ (cellB db [.string dir] 9 ++ (objB D (.deferred (some [])) ++ [])))))) ⟨d, h0, rfl⟩ ?_).mono ?_
  · rintro pre x d1 w hx hpl hab hpx ⟨d0, hJ, rfl⟩ hS
    have hxz := Hsm.out x hx
    have hxy := HY.out
    unfold WalkRound2 at hxy
    have hyx := fun F d w => hxy F pre x d w hx hpl hab hpx
    clear hxy
    obtain ⟨s3, hs3⟩ : ∃ s, splitP x.path = s := ⟨_, rfl⟩
    rw [hs3] at hyx
    have hsp0 := fun (w : World) (H : HL) (hS : Sh B H w) => SplitP_any hS x.path hxz.1
    rw [hs3] at hsp0
    obtain ⟨u, nm, er⟩ := s3
    dsimp only at hyx
    have hsp : ∀ (w : World) (H : HL) (hS : Sh B H w), Calls Tryz.prog 51 #[.string x.path] w fun e w' => e = .returned (.tuple #[.string u, .string nm, .int .i64 er]) ∧ Sh B H w' := hsp0
    have Hyx := Lib.hid hyx
    clear hsp0 hs3 hyx
    have HJ := Lib.hid hJ
    have Hab := Lib.hid hab
    clear hJ h0 hab
    simp only [List.append_assoc, List.nil_append] at hS
    refine hL.yield1 hS ?_
    intro K hK
    (try simp only [Act.put, List.setIfInBounds_toArray, List.set_cons_zero, List.set_cons_succ])
    refine wpIn_region_of (by rintro ⟨a, w, h⟩; exact h) rfl ?_
    go_wp2_with (first | (refine wl_alloc rfl rfl hS ?_; intro eb _ hS; (try simp only [Act.put, List.setIfInBounds_toArray, List.set_cons_zero, List.set_cons_succ])) | (refine wl_isld rfl ?_; ((first | refine wl_value rfl (ex_l0 hS rfl rfl rfl CellAt.out) ?_ | refine wl_value rfl (ex_lf hS rfl rfl rfl CellAt.out) ?_ | refine wl_value rfl (ex_l1 hS rfl rfl rfl CellAt.out) ?_ | refine wl_value rfl (ex_ldC hS rfl rfl CellAt.out) ?_ | refine wl_value rfl (ex_l0 hS rfl rfl rfl rfl) ?_ | refine wl_value rfl (ex_lf hS rfl rfl rfl rfl) ?_ | refine wl_value rfl (ex_l1 hS rfl rfl rfl rfl) ?_ | refine wl_value rfl (ex_ldC hS rfl rfl rfl) ?_ | refine wl_value rfl (ex_l00 hS rfl rfl CellAt.out) ?_ | refine wl_value rfl (ex_l00 hS rfl rfl rfl) ?_ | refine wl_value rfl (ex_l0f hS rfl rfl CellAt.out) ?_ | refine wl_value rfl (ex_l0f hS rfl rfl rfl) ?_ | refine wl_value rfl (ex_lr hS rfl rfl rfl rfl) ?_ | refine wl_value rfl (ex_lr0 hS rfl rfl rfl) ?_ | refine wl_value rfl (ex_lrz hS rfl rfl rfl) ?_ | refine wl_value rfl (ex_lrf hS rfl rfl rfl) ?_ | refine wl_value rfl (ex_ldrC hS rfl rfl) ?_ | refine wl_value rfl (ex_ldr0 hS rfl rfl rfl) ?_); (try simp only [Act.put, List.setIfInBounds_toArray, List.set_cons_zero, List.set_cons_succ]))) | ((first | refine wl_value rfl (ex_ix hS rfl rfl rfl ?_) ?_); (focus (first | rfl | omega | (simp; done))); (try simp only [Act.put, List.setIfInBounds_toArray, List.set_cons_zero, List.set_cons_succ])) | ((first | refine wl_value rfl (ex_eqA rfl rfl rfl) ?_ | refine wl_value rfl (ex_neA rfl rfl rfl) ?_); (try simp only [Act.put, List.setIfInBounds_toArray, List.set_cons_zero, List.set_cons_succ])) | (refine wl_alloc rfl rfl hS ?_; intro _ _ hS; (try simp only [Act.put, List.setIfInBounds_toArray, List.set_cons_zero, List.set_cons_succ])) | (refine wl_box rfl rfl rfl rfl hS ?_; intro _ _ hS; (try simp only [Act.put, List.setIfInBounds_toArray, List.set_cons_zero, List.set_cons_succ])) | (refine wl_st rfl rfl rfl rfl rfl hS (of_decide_eq_true rfl) ?_; intro _ hS; (try simp only [evT, evC, List.getD_cons_succ, List.getD_cons_zero, List.set_cons_zero, List.set_cons_succ] at hS); (try simp only [List.set_cons_zero, List.set_cons_succ] at hS); (try simp only [Act.put, List.setIfInBounds_toArray, List.set_cons_zero, List.set_cons_succ])) | (refine wl_strC rfl rfl rfl rfl hS rfl rfl ?_; intro _ hS; (try simp only [evT, evC, List.getD_cons_succ, List.getD_cons_zero, List.set_cons_zero, List.set_cons_succ] at hS); (try simp only [Act.put, List.setIfInBounds_toArray, List.set_cons_zero, List.set_cons_succ])))
    refine hK _ _ (cellB eb x.cells 24 ++ (d0 ++ (cellB yb [.func (.yield l0) #[] #[]] 94 ++ (cellB sb [.slice A t.length cap] 22 ++ (cellB db [.string dir] 9 ++ (objB D (.deferred (some [])) ++ (cellB ub [.string dir] 9 ++ (cellB tb [.slice A t.length cap] 22 ++ R)))))))) hS.to ?_
    clear hK hS
    intro w3 hS
    refine wpIn_block ?_
    refine wpIn_seq_k fun K2 h2 => ?_
    refine wpIn_region_of (by rintro ⟨a, w, h⟩; exact h) rfl ?_
    go_wp2_with (first | (go_at_call 51; refine ((hsp _ _ hS)).mono ?_; rintro e w' (⟨rfl, hS⟩)) | (refine wl_isld rfl ?_; ((first | refine wl_value rfl (ex_l0 hS rfl rfl rfl CellAt.out) ?_ | refine wl_value rfl (ex_lf hS rfl rfl rfl CellAt.out) ?_ | refine wl_value rfl (ex_l1 hS rfl rfl rfl CellAt.out) ?_ | refine wl_value rfl (ex_ldC hS rfl rfl CellAt.out) ?_ | refine wl_value rfl (ex_l0 hS rfl rfl rfl rfl) ?_ | refine wl_value rfl (ex_lf hS rfl rfl rfl rfl) ?_ | refine wl_value rfl (ex_l1 hS rfl rfl rfl rfl) ?_ | refine wl_value rfl (ex_ldC hS rfl rfl rfl) ?_ | refine wl_value rfl (ex_l00 hS rfl rfl CellAt.out) ?_ | refine wl_value rfl (ex_l00 hS rfl rfl rfl) ?_ | refine wl_value rfl (ex_l0f hS rfl rfl CellAt.out) ?_ | refine wl_value rfl (ex_l0f hS rfl rfl rfl) ?_ | refine wl_value rfl (ex_lr hS rfl rfl rfl rfl) ?_ | refine wl_value rfl (ex_lr0 hS rfl rfl rfl) ?_ | refine wl_value rfl (ex_lrz hS rfl rfl rfl) ?_ | refine wl_value rfl (ex_lrf hS rfl rfl rfl) ?_ | refine wl_value rfl (ex_ldrC hS rfl rfl) ?_ | refine wl_value rfl (ex_ldr0 hS rfl rfl rfl) ?_); (try simp only [Act.put, List.setIfInBounds_toArray, List.set_cons_zero, List.set_cons_succ]))) | ((first | refine wl_value rfl (ex_ix hS rfl rfl rfl ?_) ?_); (focus (first | rfl | omega | (simp; done))); (try simp only [Act.put, List.setIfInBounds_toArray, List.set_cons_zero, List.set_cons_succ])) | ((first | refine wl_value rfl (ex_eqA rfl rfl rfl) ?_ | refine wl_value rfl (ex_neA rfl rfl rfl) ?_); (try simp only [Act.put, List.setIfInBounds_toArray, List.set_cons_zero, List.set_cons_succ])) | (refine wl_alloc rfl rfl hS ?_; intro _ _ hS; (try simp only [Act.put, List.setIfInBounds_toArray, List.set_cons_zero, List.set_cons_succ])) | (refine wl_box rfl rfl rfl rfl hS ?_; intro _ _ hS; (try simp only [Act.put, List.setIfInBounds_toArray, List.set_cons_zero, List.set_cons_succ])) | (refine wl_st rfl rfl rfl rfl rfl hS (of_decide_eq_true rfl) ?_; intro _ hS; (try simp only [evT, evC, List.getD_cons_succ, List.getD_cons_zero, List.set_cons_zero, List.set_cons_succ] at hS); (try simp only [List.set_cons_zero, List.set_cons_succ] at hS); (try simp only [Act.put, List.setIfInBounds_toArray, List.set_cons_zero, List.set_cons_succ])) | (refine wl_strC rfl rfl rfl rfl hS rfl rfl ?_; intro _ hS; (try simp only [evT, evC, List.getD_cons_succ, List.getD_cons_zero, List.set_cons_zero, List.set_cons_succ] at hS); (try simp only [Act.put, List.setIfInBounds_toArray, List.set_cons_zero, List.set_cons_succ])))
    refine wpIn_seq_k fun K3 h3 => ?_
    refine wpIn_region_cutR 3 (by rintro ⟨a, w, h⟩; exact h) rfl ?_
    simp only [List.take_succ_cons, List.take_zero, List.drop_succ_cons, List.drop_zero]
    go_wp2_with (first | (refine wl_isld rfl ?_; ((first | refine wl_value rfl (ex_l0 hS rfl rfl rfl CellAt.out) ?_ | refine wl_value rfl (ex_lf hS rfl rfl rfl CellAt.out) ?_ | refine wl_value rfl (ex_l1 hS rfl rfl rfl CellAt.out) ?_ | refine wl_value rfl (ex_ldC hS rfl rfl CellAt.out) ?_ | refine wl_value rfl (ex_l0 hS rfl rfl rfl rfl) ?_ | refine wl_value rfl (ex_lf hS rfl rfl rfl rfl) ?_ | refine wl_value rfl (ex_l1 hS rfl rfl rfl rfl) ?_ | refine wl_value rfl (ex_ldC hS rfl rfl rfl) ?_ | refine wl_value rfl (ex_l00 hS rfl rfl CellAt.out) ?_ | refine wl_value rfl (ex_l00 hS rfl rfl rfl) ?_ | refine wl_value rfl (ex_l0f hS rfl rfl CellAt.out) ?_ | refine wl_value rfl (ex_l0f hS rfl rfl rfl) ?_ | refine wl_value rfl (ex_lr hS rfl rfl rfl rfl) ?_ | refine wl_value rfl (ex_lr0 hS rfl rfl rfl) ?_ | refine wl_value rfl (ex_lrz hS rfl rfl rfl) ?_ | refine wl_value rfl (ex_lrf hS rfl rfl rfl) ?_ | refine wl_value rfl (ex_ldrC hS rfl rfl) ?_ | refine wl_value rfl (ex_ldr0 hS rfl rfl rfl) ?_); (try simp only [Act.put, List.setIfInBounds_toArray, List.set_cons_zero, List.set_cons_succ]))) | ((first | refine wl_value rfl (ex_ix hS rfl rfl rfl ?_) ?_); (focus (first | rfl | omega | (simp; done))); (try simp only [Act.put, List.setIfInBounds_toArray, List.set_cons_zero, List.set_cons_succ])) | ((first | refine wl_value rfl (ex_eqA rfl rfl rfl) ?_ | refine wl_value rfl (ex_neA rfl rfl rfl) ?_); (try simp only [Act.put, List.setIfInBounds_toArray, List.set_cons_zero, List.set_cons_succ])) | (refine wl_alloc rfl rfl hS ?_; intro _ _ hS; (try simp only [Act.put, List.setIfInBounds_toArray, List.set_cons_zero, List.set_cons_succ])) | (refine wl_box rfl rfl rfl rfl hS ?_; intro _ _ hS; (try simp only [Act.put, List.setIfInBounds_toArray, List.set_cons_zero, List.set_cons_succ])) | (refine wl_st rfl rfl rfl rfl rfl hS (of_decide_eq_true rfl) ?_; intro _ hS; (try simp only [evT, evC, List.getD_cons_succ, List.getD_cons_zero, List.set_cons_zero, List.set_cons_succ] at hS); (try simp only [List.set_cons_zero, List.set_cons_succ] at hS); (try simp only [Act.put, List.setIfInBounds_toArray, List.set_cons_zero, List.set_cons_succ])) | (refine wl_strC rfl rfl rfl rfl hS rfl rfl ?_; intro _ hS; (try simp only [evT, evC, List.getD_cons_succ, List.getD_cons_zero, List.set_cons_zero, List.set_cons_succ] at hS); (try simp only [Act.put, List.setIfInBounds_toArray, List.set_cons_zero, List.set_cons_succ])))
    refine wlI_yieldR rfl rfl rfl rfl (Hyx.out (objB l (O .busy none) ++ (cellB eb x.cells 24 ++ (cellB yb [.func (.yield l0) #[] #[]] 94 ++ (objB D (.deferred (some [])) ++ (cellB ub [.string dir] 9 ++ (cellB tb [.slice A t.length cap] 22 ++ [])))))) d0 _ HJ.out (by simp only [List.append_assoc, List.nil_append]; exact hS.to)) ?_
    rintro e w4 (⟨rfl, d', hJ', hS⟩ | ⟨rfl, d', hJ', hS⟩)
    · refine ⟨_, rfl, ?_⟩
      refine wpListIn_rest (by rintro ⟨a, w, h⟩; exact h) rfl ?_
      simp only [List.append_assoc, List.cons_append, List.nil_append] at hS
      go_wp2
      refine wpIn_cond_false rfl ?_
      refine wpIn_skip ?_
      simp only [Exit.inBlock]
      refine hL.end_ (H := d' ++ (cellB eb x.cells 24 ++ (cellB yb [.func (.yield l0) #[] #[]] 94 ++ (cellB sb [.slice A t.length cap] 22 ++ (cellB db [.string dir] 9 ++ (objB D (.deferred (some [])) ++ (cellB ub [.string dir] 9 ++ (cellB tb [.slice A t.length cap] 22 ++ R)))))))) hS.to ?_
      intro w5 hS
      refine .inl ⟨rfl, _, ⟨d', hJ', rfl⟩, ?_⟩
      simp only [List.append_assoc, List.nil_append]
      exact hS.to
    · refine ⟨_, rfl, ?_⟩
      refine wpListIn_rest (by rintro ⟨a, w, h⟩; exact h) rfl ?_
      simp only [List.append_assoc, List.cons_append, List.nil_append] at hS
      go_wp2
      refine wpIn_cond_true rfl ?_
      refine wpIn_ret ?_
      simp only [Exit.inBlock]
      refine hL.ret_ (H := d' ++ (cellB eb x.cells 24 ++ (cellB yb [.func (.yield l0) #[] #[]] 94 ++ (cellB sb [.slice A t.length cap] 22 ++ (cellB db [.string dir] 9 ++ (objB D (.deferred (some [])) ++ (cellB ub [.string dir] 9 ++ (cellB tb [.slice A t.length cap] 22 ++ R)))))))) hS.to ?_
      intro w5 hS
      refine .inr ⟨rfl, _, ⟨d', hJ', rfl⟩, ?_⟩
      simp only [List.append_assoc, List.nil_append]
      exact hS.to
  · simp only [List.append_assoc, List.nil_append]
    exact hS.to
  · rintro e w' ⟨v, rfl, ⟨d1, ⟨d0, hJ, rfl⟩, hS⟩ | ⟨pre, d1, hpre, ⟨d0, hJ, rfl⟩, hS⟩⟩
    · simp only [List.append_assoc, List.nil_append] at hS
      refine ⟨_, .ready, none, _, rfl, by decide, hS, ?_⟩
      intro w4 hS
      simp only [Exit.inBlock, Exit.then]
      refine post_marks (D := D) (v := .tuple #[]) (H := d0 ++ (cellB sb [.slice A t.length cap] 22 ++ (cellB db [.string dir] 9 ++ R))) hS.to rfl ?_
      intro w' hS
      exact ⟨results_none rfl _ _ _, _, rfl, .inl ⟨d0, hJ, hS⟩⟩
    · simp only [List.append_assoc, List.nil_append] at hS
      refine ⟨_, .done, some .ret, _, rfl, by decide, hS, ?_⟩
      intro w4 hS
      dsimp only
      go_wp2_with (first | (refine wl_isld rfl ?_; ((first | refine wl_value rfl (ex_l0 hS rfl rfl rfl CellAt.out) ?_ | refine wl_value rfl (ex_lf hS rfl rfl rfl CellAt.out) ?_ | refine wl_value rfl (ex_l1 hS rfl rfl rfl CellAt.out) ?_ | refine wl_value rfl (ex_ldC hS rfl rfl CellAt.out) ?_ | refine wl_value rfl (ex_l0 hS rfl rfl rfl rfl) ?_ | refine wl_value rfl (ex_lf hS rfl rfl rfl rfl) ?_ | refine wl_value rfl (ex_l1 hS rfl rfl rfl rfl) ?_ | refine wl_value rfl (ex_ldC hS rfl rfl rfl) ?_ | refine wl_value rfl (ex_l00 hS rfl rfl CellAt.out) ?_ | refine wl_value rfl (ex_l00 hS rfl rfl rfl) ?_ | refine wl_value rfl (ex_l0f hS rfl rfl CellAt.out) ?_ | refine wl_value rfl (ex_l0f hS rfl rfl rfl) ?_ | refine wl_value rfl (ex_lr hS rfl rfl rfl rfl) ?_ | refine wl_value rfl (ex_lr0 hS rfl rfl rfl) ?_ | refine wl_value rfl (ex_lrz hS rfl rfl rfl) ?_ | refine wl_value rfl (ex_lrf hS rfl rfl rfl) ?_ | refine wl_value rfl (ex_ldrC hS rfl rfl) ?_ | refine wl_value rfl (ex_ldr0 hS rfl rfl rfl) ?_); (try simp only [Act.put, List.setIfInBounds_toArray, List.set_cons_zero, List.set_cons_succ]))) | ((first | refine wl_value rfl (ex_ix hS rfl rfl rfl ?_) ?_); (focus (first | rfl | omega | (simp; done))); (try simp only [Act.put, List.setIfInBounds_toArray, List.set_cons_zero, List.set_cons_succ])) | ((first | refine wl_value rfl (ex_eqA rfl rfl rfl) ?_ | refine wl_value rfl (ex_neA rfl rfl rfl) ?_); (try simp only [Act.put, List.setIfInBounds_toArray, List.set_cons_zero, List.set_cons_succ])) | (refine wl_alloc rfl rfl hS ?_; intro _ _ hS; (try simp only [Act.put, List.setIfInBounds_toArray, List.set_cons_zero, List.set_cons_succ])) | (refine wl_box rfl rfl rfl rfl hS ?_; intro _ _ hS; (try simp only [Act.put, List.setIfInBounds_toArray, List.set_cons_zero, List.set_cons_succ])) | (refine wl_st rfl rfl rfl rfl rfl hS (of_decide_eq_true rfl) ?_; intro _ hS; (try simp only [evT, evC, List.getD_cons_succ, List.getD_cons_zero, List.set_cons_zero, List.set_cons_succ] at hS); (try simp only [List.set_cons_zero, List.set_cons_succ] at hS); (try simp only [Act.put, List.setIfInBounds_toArray, List.set_cons_zero, List.set_cons_succ])) | (refine wl_strC rfl rfl rfl rfl hS rfl rfl ?_; intro _ hS; (try simp only [evT, evC, List.getD_cons_succ, List.getD_cons_zero, List.set_cons_zero, List.set_cons_succ] at hS); (try simp only [Act.put, List.setIfInBounds_toArray, List.set_cons_zero, List.set_cons_succ])))
      refine post_marks (D := D) (v := .tuple #[]) (H := d0 ++ (cellB sb [.slice A t.length cap] 22 ++ (cellB db [.string dir] 9 ++ R))) hS.to rfl ?_
      intro w' hS
      exact ⟨results_none rfl _ _ _, ⟨_, rfl⟩, .inr ⟨pre, hpre, d0, hJ, hS⟩⟩
theorem Walk1_any [HasML B] [NoDraw B] {sb db l0 : Nat} {A : Option Addr} {cap : Nat} {t : List En} {dir : ByteArray} [r : RdAt enE B R A t] (hl : t.length ≤ 16777216) (hdir : dir.size ≤ 16777216) (hsm : SmallE t) {J Jx : List En → HL → Prop}
    (hY : WalkRound Tryz.prog B R sb db l0 A cap t dir J Jx) {d : HL} (h0 : J [] d) (hS : Sh B (d ++ (cellB sb [.slice A t.length cap] 22 ++ (cellB db [.string dir] 9 ++ R))) w) :
    Calls Tryz.prog 70 #[.func (.yield l0) #[] #[], .pointer (some ⟨sb, 0, none⟩), .pointer (some ⟨db, 0, none⟩)] w fun e w' => ∃ v, e = .returned v ∧
      ((∃ d', J (belowL dir t) d' ∧ Sh B (d' ++ (cellB sb [.slice A t.length cap] 22 ++ (cellB db [.string dir] 9 ++ R))) w') ∨
       (∃ pre d', pre <+: belowL dir t ∧ Jx pre d' ∧ Sh B (d' ++ (cellB sb [.slice A t.length cap] 22 ++ (cellB db [.string dir] 9 ++ R))) w')) :=
  Walk1_pre hl hdir hsm (fun F pre x d w h1 h2 h3 _ h4 h5 => hY F pre x d w h1 h2 h3 h4 h5) h0 hS
end
end Go.Tk

set_option linter.unusedSectionVars false
set_option linter.unusedSimpArgs false
set_option linter.unusedVariables false
namespace Go.Tk
open Go.RowKit Go.Proofs
theorem whereI_ok {t : List En} {d : ByteArray} (h : whereI t d = 0) : okP d = true := by
  unfold whereI at h
  by_cases h1 : okP d = false
  · rw [if_pos h1] at h; exact absurd h (by decide)
  · cases h2 : okP d with
    | true => rfl
    | false => exact absurd h2 h1
theorem u8_slash (c : UInt8) : ((c.toNat : Int) == 47) = decide (c = 47) := by
  rw [Bool.eq_iff_iff, beq_iff_eq, decide_eq_true_eq]
  constructor
  · intro h
    exact UInt8.toNat_inj.1 (by show c.toNat = 47; omega)
  · rintro rfl; rfl
def belowT (dir q : ByteArray) : Bool := !decide (q.size = 0) && (decide (dir.size = 0) || (decide (dir.size < q.size) && (decide (q.extract 0 dir.size = dir) && decide (q.data.toList[dir.size]? = some 47))))
theorem belowT_above {dir q : ByteArray} (hd : okP dir = true) (hq : okP q = true) : belowT dir q = aboveB dir q := by
  obtain ⟨x, hx⟩ := okP_some hd
  obtain ⟨y, hy⟩ := okP_some hq
  by_cases hqz : q.size = 0
  · have h1 : belowT dir q = false := by unfold belowT; simp [hqz]
    rw [h1]
    have hyn := (namesL_join hy).2.2 hqz
    cases ha : aboveB dir q with
    | false => rfl
    | true =>
      obtain ⟨z, hz, h2⟩ := (above_names hx hy).1 ha
      rw [hyn] at h2
      exact absurd (List.append_eq_nil_iff.1 h2.symm).2 hz
  by_cases hdz : dir.size = 0
  · have h1 : belowT dir q = true := by unfold belowT; simp [hqz, hdz]
    rw [h1]
    have hxn := (namesL_join hx).2.2 hdz
    refine ((above_names hx hy).2 ⟨y, fun h0 => hqz ((namesL_join hy).2.1 h0), ?_⟩).symm
    rw [hxn]; rfl
  · have hu := under_gone hd hdz hq hqz
    unfold underB gonePB at hu
    by_cases he : q = dir
    · subst he
      have h1 : belowT q q = false := by unfold belowT; simp [hqz]
      rw [h1]
      cases ha : aboveB q q with
      | false => rfl
      | true =>
        obtain ⟨z, hz, h2⟩ := (above_names hx hy).1 ha
        rw [hx] at hy
        cases hy
        have := congrArg List.length h2
        rw [List.length_append] at this
        exact absurd (List.length_eq_zero_iff.1 (by omega)) hz
    · rw [decide_eq_false he, Bool.false_or, Bool.false_or] at hu
      rw [← hu]
      unfold belowT
      simp [hqz, hdz]
theorem below_ref {t : List En} (hT : RightT t) {dir : ByteArray} (hd : okP dir = true) : belowL dir t = t.filter fun e => belowT dir e.path := by
  unfold belowL
  refine List.filter_congr fun x hx => ?_
  rw [belowT_above hd (mayB_ok (hT.may x hx)).1]
section
variable {B : Base} {R H H1 : HL} {w w' : World}
set_option maxRecDepth 100000 in
set_option maxHeartbeats 3200000 in
theorem BelowR_any (hS : Sh B R w) (p q : ByteArray) (hp : p.size ≤ 16777216) (hq : q.size ≤ 16777216) : Calls Tryz.prog 35 #[.string p, .string q] w fun e w' => e = .returned (.bool (belowT p q)) ∧ Sh B R w' := by
  by_cases hqz : q.size = 0
  · have d0 : q.toList = [] := (empty_prop _).2 hqz
    have d1 : q.toList.isEmpty = true := by rw [empty_iff]; simp [hqz]
    have Hu := Lib.hid (show false = belowT p q by unfold belowT; simp [hqz])
    clear hqz
    go_enter Tryz.func35, Tryz.ntmps35
    go_wp2
    go_ret
    exact ⟨by rw [← Hu.out]; rfl, hS⟩
  have d0 : ¬ q.toList = [] := fun h => hqz ((empty_prop _).1 h)
  have d1 : q.toList.isEmpty = false := by rw [empty_iff]; simp [hqz]
  by_cases hpz : p.size = 0
  · have e0 : p.toList = [] := (empty_prop _).2 hpz
    have e1 : p.toList.isEmpty = true := by rw [empty_iff]; simp [hpz]
    have Hu := Lib.hid (show true = belowT p q by unfold belowT; simp [hqz, hpz])
    clear hqz hpz
    go_enter Tryz.func35, Tryz.ntmps35
    go_wp2
    go_ret
    exact ⟨by rw [← Hu.out]; rfl, hS⟩
  have e0 : ¬ p.toList = [] := fun h => hpz ((empty_prop _).1 h)
  have e1 : p.toList.isEmpty = false := by rw [empty_iff]; simp [hpz]
  by_cases hlt : p.size < q.size
  · have d2 : decide ((p.size : Int) < (q.size : Int)) = true := decide_eq_true (by omega)
    have e2 : decide (p.size < q.size) = true := decide_eq_true hlt
    by_cases hex : q.extract 0 p.size = p
    · have d3 : ((q.extract 0 p.size).toList == p.toList) = true := by rw [strEq]; simp [hex]
      have Hu := Lib.hid (show (((q[p.size]'hlt).toNat : Int) == 47) = belowT p q by
        unfold belowT
        rw [ba_get q hlt, u8_slash]
        simp [hqz, hpz, hlt, hex])
      clear hqz hpz hex
      go_enter Tryz.func35, Tryz.ntmps35
      go_wp2
      go_ret
      exact ⟨by rw [← Hu.out]; rfl, hS⟩
    · have d3 : ((q.extract 0 p.size).toList == p.toList) = false := by rw [strEq]; simp [hex]
      have Hu := Lib.hid (show false = belowT p q by unfold belowT; simp [hqz, hpz, hlt, hex])
      clear hqz hpz hex
      go_enter Tryz.func35, Tryz.ntmps35
      go_wp2
      go_ret
      exact ⟨by rw [← Hu.out]; rfl, hS⟩
  · have d2 : decide ((p.size : Int) < (q.size : Int)) = false := decide_eq_false (by omega)
    have e2 : decide (p.size < q.size) = false := decide_eq_false hlt
    have Hu := Lib.hid (show false = belowT p q by unfold belowT; simp [hqz, hpz, hlt])
    clear hqz hpz hlt
    go_enter Tryz.func35, Tryz.ntmps35
    go_wp2
    go_ret
    exact ⟨by rw [← Hu.out]; rfl, hS⟩
set_option maxRecDepth 100000 in
set_option maxHeartbeats 1600000 in
theorem WhereR_any [HasML B] (hS : Sh B R w) {A : Option Addr} {cap : Nat} {t : List En} [r : RdAt enE B R A t] (hl : t.length ≤ 16777216) (dir : ByteArray) (hd : dir.size ≤ 16777216) :
    Calls Tryz.prog 34 #[.slice A t.length cap, .string dir] w fun e w' => e = .returned (.int .i64 (whereI t dir)) ∧ Sh B R w' := by
  have l1 := fun (w : World) (H : HL) (hS : Sh B H w) => PathR_any hS dir hd
  have l2 := fun (w : World) (H : HL) (hS : Sh B H w) (r : RdAt enE B H A t) => IsDirR_any hS (cap := cap) (t := t) (r := r) hl dir
  have l3 := fun (w : World) (H : HL) (hS : Sh B H w) (r : RdAt enE B H A t) => FindR_any hS (cap := cap) (t := t) (r := r) hl dir
  cases hok : okP dir with
  | false =>
    rw [hok] at l1
    have Hx := Lib.hid (show whereI t dir = 45 by unfold whereI; rw [if_pos hok])
    clear hok l2 l3
    go_enter Tryz.func34, Tryz.ntmps34
    go_wp2_with ((go_at_call 36; refine ((l1 _ _ hS)).mono ?_; rintro e w' (⟨rfl, hS⟩)))
    go_ret
    exact ⟨by rw [Hx.out]; rfl, hS.to⟩
  | true =>
    rw [hok] at l1
    cases hi : isDirF t dir with
    | true =>
      rw [hi] at l2
      have Hx := Lib.hid (show whereI t dir = 0 by
        unfold whereI
        rw [if_neg (by rw [hok]; decide)]
        by_cases hz : dir.size = 0
        · rw [if_pos hz]
        · rw [if_neg hz]
          unfold isDirF at hi
          rcases find_idx (t := t) (p := dir) with ⟨_, _, _, _, h5⟩ | ⟨i, x, h1, _, gx, h2, h3, h4⟩
          · have : t.find? (fun e => decide (e.path = dir)) = none := by
              rw [List.find?_eq_none]; intro e he; simpa using h5 e he
            rw [this] at hi
            simp [hz] at hi
          · rw [if_neg (by rw [h1]; omega), if_pos]
            unfold kindI
            cases hf : t.find? (fun e => decide (e.path = dir)) with
            | none => rw [hf] at hi; simp [hz] at hi
            | some y => rw [hf] at hi; simpa [hz] using hi)
      clear hok hi l3
      go_enter Tryz.func34, Tryz.ntmps34
      go_wp2_with (first | (go_at_call 36; refine ((l1 _ _ hS)).mono ?_; rintro e w' (⟨rfl, hS⟩)) | (go_at_call 32; refine ((l2 _ _ hS inferInstance)).mono ?_; rintro e w' (⟨rfl, hS⟩)))
      go_ret
      exact ⟨by rw [Hx.out]; rfl, hS.to⟩
    | false =>
      rw [hi] at l2
      have hz : ¬ dir.size = 0 := fun h => by unfold isDirF at hi; simp [h] at hi
      rcases find_idx (t := t) (p := dir) with ⟨h1, _, _, _, h5⟩ | ⟨i, x, h1, _, gx, h2, h3, h4⟩
      · rw [h1] at l3
        have Hx := Lib.hid (show whereI t dir = 8 by
          unfold whereI
          rw [if_neg (by rw [hok]; decide), if_neg hz, if_pos h1])
        clear hok hi hz h1 h5
        go_enter Tryz.func34, Tryz.ntmps34
        go_wp2_with (first | (go_at_call 36; refine ((l1 _ _ hS)).mono ?_; rintro e w' (⟨rfl, hS⟩)) | (go_at_call 32; refine ((l2 _ _ hS inferInstance)).mono ?_; rintro e w' (⟨rfl, hS⟩)) | (go_at_call 20; refine ((l3 _ _ hS inferInstance)).mono ?_; rintro e w' (⟨rfl, hS⟩)))
        go_ret
        exact ⟨by rw [Hx.out]; rfl, hS.to⟩
      · rw [h1] at l3
        have d2 : decide ((i : Int) < 0) = false := decide_eq_false (by omega)
        have Hx := Lib.hid (show whereI t dir = 102 by
          unfold whereI
          rw [if_neg (by rw [hok]; decide), if_neg hz, if_neg (by rw [h1]; omega), if_neg]
          intro hk
          unfold isDirF at hi
          unfold kindI at hk
          cases hf : t.find? (fun e => decide (e.path = dir)) with
          | none => rw [hf] at hk; simp at hk
          | some y => rw [hf] at hk hi; simp [hk] at hi)
        clear hok hi hz h1 h2 h3 h4
        go_enter Tryz.func34, Tryz.ntmps34
        go_wp2_with (first | (go_at_call 36; refine ((l1 _ _ hS)).mono ?_; rintro e w' (⟨rfl, hS⟩)) | (go_at_call 32; refine ((l2 _ _ hS inferInstance)).mono ?_; rintro e w' (⟨rfl, hS⟩)) | (go_at_call 20; refine ((l3 _ _ hS inferInstance)).mono ?_; rintro e w' (⟨rfl, hS⟩)))
        go_ret
        exact ⟨by rw [Hx.out]; rfl, hS.to⟩
structure RsSt where
  i : Nat
  A : Option Addr
  out : List En
  cap : Nat
def RsI (B : Base) (R : HL) (dir : ByteArray) (t : List En) (x : RsSt) (w : World) : Prop :=
  ∃ sp, x.i ≤ t.length ∧ x.out = ((t.take x.i).filter fun e => belowT dir e.path).map (cutE dir) ∧ x.out.length ≤ x.i ∧ OwnSl enE x.A x.out sp x.cap ∧ Sh B (rowA x.A (flat enE x.out ++ sp) 24 ++ R) w
set_option maxRecDepth 100000 in
set_option maxHeartbeats 3200000 in
theorem RSub_any [HasML B] [NoDraw B] (hS : Sh B R w) {A : Option Addr} {cap : Nat} {t : List En} [r : RdAt enE B R A t] (hc : t.length ≤ cap) (hl : t.length ≤ 16777216) (hsm : SmallE t) (dir : ByteArray) (hdir : dir.size ≤ 16777216) :
    Calls Tryz.prog 10 #[.slice A t.length cap, .string dir] w (ApplyP B R (subR t dir)) := by
  have l1 := fun (w : World) (H : HL) (hS : Sh B H w) (r : RdAt enE B H A t) => CheckR_any hS (A := A) (cap := cap) (t := t) (r := r) hc hl hsm
  rw [← checks_same] at l1
  have l2 := fun (w : World) (H : HL) (hS : Sh B H w) (r : RdAt enE B H A t) => WhereR_any hS (cap := cap) (r := r) hl dir hdir
  by_cases ha : (checkA t).2 = 0
  · obtain ⟨hca, hT⟩ := right_of ha
    rw [hca] at l1
    by_cases hw : whereI t dir = 0
    · rw [hw] at l2
      have hd := whereI_ok hw
      have hbr := below_ref hT hd
      have Hx := Lib.hid (show subR t dir = ((t.filter fun e => belowT dir e.path).map (cutE dir), 0) by unfold subR; rw [if_pos ha, if_pos hw, hbr])
      have Hab := Lib.hid (show ∀ e ∈ t, belowT dir e.path = true → dir.size ≠ 0 → dir.size + 1 ≤ e.path.size from fun e he h1 h2 => below_size (by rw [← belowT_above hd (mayB_ok (hT.may e he)).1]; exact h1) h2)
      have Hsm := Lib.hid hsm
      have hfew := hT.few
      clear ha hca hT hw hd hbr hsm
      go_enter Tryz.func10, Tryz.ntmps10
      go_wp2_with (first | (go_at_call 31; refine ((l1 _ _ hS inferInstance)).mono ?_; rintro e w' (⟨rfl, hS⟩)) | (go_at_call 34; refine ((l2 _ _ hS inferInstance)).mono ?_; rintro e w' (⟨rfl, hS⟩)))
      have h0 : RsI B R dir t ⟨0, none, [], 0⟩ _ := ⟨[], Nat.zero_le _, rfl, Nat.le_refl _, OwnSl.nothing, hS⟩
      clear hS l1 l2
      refine wp_loopS [8, 9] [10, 24, 25, 26, 27, 28, 29, 30, 31, 32, 33, 34, 35, 36, 37, 38, 39, 40, 41, 42, 43, 44, 45, 46, 47, 48, 49, 50, 51, 52, 53] (fun x : RsSt => [.slice x.A x.out.length x.cap, .int .i64 x.i]) (RsI B R dir t) (fun x => t.length - x.i) (⟨0, none, [], 0⟩) rfl (h0) ?_
      clear h0
      rintro ⟨i, A4, out, cap4⟩ J w ⟨sp4, hi, hou, hlo, hO, hS⟩
      dsimp only at hi hou hlo hO hS
      have Hou := Lib.hid hou
      clear hou
      (simp only [Frm, setsT, junkT, List.setIfInBounds_toArray, List.set_cons_zero, List.set_cons_succ])
      by_cases hlt : i < t.length
      · obtain ⟨x, gx⟩ := Nth.of hlt
        have hxz := (Hsm.out x gx.mem).1
        have Htk := Lib.hid gx.take
        have Hxs := Lib.hid (Hab.out x gx.mem)
        have lb := fun (w : World) (H : HL) (hS : Sh B H w) => BelowR_any hS dir x.path hdir hxz
        cases hb : belowT dir x.path with
        | false =>
          rw [hb] at lb
          have H1 := Lib.hid (show out = ((t.take (i + 1)).filter fun e => belowT dir e.path).map (cutE dir) by rw [Hou.out, Htk.out, List.filter_append]; simp [hb])
          clear hb
          go_wp2_with (first | (go_at_call 35; refine ((lb _ _ hS)).mono ?_; rintro e w' (⟨rfl, hS⟩)) | (refine wl_isld rfl ?_; ((refine wl_value rfl (ex_l0 hS rfl rfl rfl CellAt.out) ?_); (try simp only [Act.put, List.setIfInBounds_toArray, List.set_cons_zero, List.set_cons_succ]))) | ((refine wl_value rfl (ex_ix hS rfl rfl rfl ?_) ?_); (focus (rfl)); (try simp only [Act.put, List.setIfInBounds_toArray, List.set_cons_zero, List.set_cons_succ])))
          exact ⟨(⟨i + 1, A4, out, cap4⟩ : RsSt), ⟨_, hlt, H1.out, (by dsimp only; omega), hO, hS.to⟩, (by dsimp only; omega), rfl, (by (simp only [blankT, junkT, List.cons_append, List.nil_append, List.setIfInBounds_toArray, List.set_cons_zero, List.set_cons_succ])), rfl⟩
        | true =>
          rw [hb] at lb
          by_cases hz : dir.size = 0
          · have hde : dir.toList = [] := (empty_prop dir).2 hz
            have d1 : dir.toList.isEmpty = true := by rw [hde]; rfl
            have hcut : cutE dir x = x := by unfold cutE; rw [if_pos hz]
            have H1 := Lib.hid (show out ++ [x] = ((t.take (i + 1)).filter fun e => belowT dir e.path).map (cutE dir) by rw [Hou.out, Htk.out, List.filter_append]; simp [hb, hcut])
            clear hb hz hcut
            go_wp2_with (first | (go_at_call 35; refine ((lb _ _ hS)).mono ?_; rintro e w' (⟨rfl, hS⟩)) | (refine wl_alloc rfl rfl hS ?_; intro eb _ hS; (try simp only [Act.put, List.setIfInBounds_toArray, List.set_cons_zero, List.set_cons_succ])) | (refine wl_buildSlice (E := enE) [x] rfl rfl (by simp only [List.map_toArray, List.map_cons, List.map_nil]; rfl) rfl (by decide) (by decide) hS ?_; intro _ _ hS hN; (try simp only [Act.put, List.setIfInBounds_toArray, List.set_cons_zero, List.set_cons_succ])) | (refine wl_ap (E := enE) rfl rfl rfl rfl hS ?_ ?_ ?_ ?_ ?_; (focus (rfl)); (focus (rfl)); (focus ((simp only [List.length_cons, List.length_nil]; omega))); (focus decide); intro _ _ _ _ hO6 hS; (try simp only [Act.put, List.setIfInBounds_toArray, List.set_cons_zero, List.set_cons_succ])) | (refine wl_isld rfl ?_; ((first | refine wl_value rfl (ex_l0 hS rfl rfl rfl CellAt.out) ?_ | refine wl_value rfl (ex_lr hS rfl rfl rfl rfl) ?_ | refine wl_value rfl (ex_ldr0 hS rfl rfl rfl) ?_); (try simp only [Act.put, List.setIfInBounds_toArray, List.set_cons_zero, List.set_cons_succ]))) | ((refine wl_value rfl (ex_ix hS rfl rfl rfl ?_) ?_); (focus (rfl)); (try simp only [Act.put, List.setIfInBounds_toArray, List.set_cons_zero, List.set_cons_succ])) | (refine wl_strC rfl rfl rfl rfl hS rfl rfl ?_; intro _ hS; (try simp only [evT, evC, List.getD_cons_succ, List.getD_cons_zero, List.set_cons_zero, List.set_cons_succ] at hS); (try simp only [Act.put, List.setIfInBounds_toArray, List.set_cons_zero, List.set_cons_succ])))
            exact ⟨(⟨i + 1, _, out ++ [x], _⟩ : RsSt), ⟨_, hlt, H1.out, (by dsimp only; rw [List.length_append]; simp; omega), hO6, hS.to⟩, (by dsimp only; omega), (by dsimp only; rw [List.length_append]; rfl), (by (simp only [blankT, junkT, List.cons_append, List.nil_append, List.setIfInBounds_toArray, List.set_cons_zero, List.set_cons_succ])), rfl⟩
          · have hde : ¬ dir.toList = [] := fun h => hz ((empty_prop dir).1 h)
            have d1 : dir.toList.isEmpty = false := by rw [empty_iff]; exact decide_eq_false hz
            have hbs := Hxs.out hb hz
            have hcut : cutE dir x = (⟨x.path.extract (dir.size + 1) x.path.size, x.kind, x.data⟩ : En) := by unfold cutE; rw [if_neg hz]
            have H1 := Lib.hid (show out ++ [(⟨x.path.extract (dir.size + 1) x.path.size, x.kind, x.data⟩ : En)] = ((t.take (i + 1)).filter fun e => belowT dir e.path).map (cutE dir) by rw [Hou.out, Htk.out, List.filter_append]; simp [hb, hcut])
            clear hb hz hcut
            go_upto_region 14 with (first | (go_at_call 35; refine ((lb _ _ hS)).mono ?_; rintro e w' (⟨rfl, hS⟩)) | (refine wl_alloc rfl rfl hS ?_; intro eb _ hS; (try simp only [Act.put, List.setIfInBounds_toArray, List.set_cons_zero, List.set_cons_succ])) | (refine wl_isld rfl ?_; ((first | refine wl_value rfl (ex_l0 hS rfl rfl rfl CellAt.out) ?_ | refine wl_value rfl (ex_ldC hS rfl rfl CellAt.out) ?_ | refine wl_value rfl (ex_lr hS rfl rfl rfl rfl) ?_); (try simp only [Act.put, List.setIfInBounds_toArray, List.set_cons_zero, List.set_cons_succ]))) | ((refine wl_value rfl (ex_ix hS rfl rfl rfl ?_) ?_); (focus (rfl)); (try simp only [Act.put, List.setIfInBounds_toArray, List.set_cons_zero, List.set_cons_succ])) | (refine wl_st rfl rfl rfl rfl rfl hS (of_decide_eq_true rfl) ?_; intro _ hS; (try simp only [evT, evC, List.getD_cons_succ, List.getD_cons_zero, List.set_cons_zero, List.set_cons_succ] at hS); (try simp only [List.set_cons_zero, List.set_cons_succ] at hS); (try simp only [Act.put, List.setIfInBounds_toArray, List.set_cons_zero, List.set_cons_succ])) | (refine wl_strC rfl rfl rfl rfl hS rfl rfl ?_; intro _ hS; (try simp only [evT, evC, List.getD_cons_succ, List.getD_cons_zero, List.set_cons_zero, List.set_cons_succ] at hS); (try simp only [Act.put, List.setIfInBounds_toArray, List.set_cons_zero, List.set_cons_succ])))
            have hS : Sh B (cellB eb (⟨x.path.extract (dir.size + 1) x.path.size, x.kind, x.data⟩ : En).cells 24 ++ (rowA A4 (flat enE out ++ sp4) 24 ++ R)) _ := hS
            go_wp2_with (first | (refine wl_buildSlice (E := enE) ([(⟨x.path.extract (dir.size + 1) x.path.size, x.kind, x.data⟩ : En)]) rfl rfl (by simp only [List.map_toArray, List.map_cons, List.map_nil]; rfl) rfl (by decide) (by decide) hS ?_; intro _ _ hS hN; (try simp only [Act.put, List.setIfInBounds_toArray, List.set_cons_zero, List.set_cons_succ])) | (refine wl_ap (E := enE) rfl rfl rfl rfl hS ?_ ?_ ?_ ?_ ?_; (focus (rfl)); (focus (rfl)); (focus ((simp only [List.length_cons, List.length_nil]; omega))); (focus decide); intro _ _ _ _ hO6 hS; (try simp only [Act.put, List.setIfInBounds_toArray, List.set_cons_zero, List.set_cons_succ])) | (refine wl_isld rfl ?_; ((refine wl_value rfl (ex_ldr0 hS rfl rfl rfl) ?_); (try simp only [Act.put, List.setIfInBounds_toArray, List.set_cons_zero, List.set_cons_succ]))))
            exact ⟨(⟨i + 1, _, out ++ [(⟨x.path.extract (dir.size + 1) x.path.size, x.kind, x.data⟩ : En)], _⟩ : RsSt), ⟨_, hlt, H1.out, (by dsimp only; rw [List.length_append]; simp; omega), hO6, hS.to⟩, (by dsimp only; omega), (by dsimp only; rw [List.length_append]; rfl), (by (simp only [blankT, junkT, List.cons_append, List.nil_append, List.setIfInBounds_toArray, List.set_cons_zero, List.set_cons_succ])), rfl⟩
      · have H1 := Lib.hid (show subR t dir = (out, 0) by rw [Hx.out, Hou.out, List.take_of_length_le (by omega)])
        go_wp2_with (fail)
        go_ret2
        rw [H1.out]
        exact ⟨_, _, _, rfl, hO, hS.to⟩
    · have Hx := Lib.hid (show subR t dir = ([], whereI t dir) by unfold subR; rw [if_pos ha, if_neg hw])
      obtain ⟨v, hv⟩ : ∃ v, whereI t dir = v := ⟨_, rfl⟩
      rw [hv] at l2 hw Hx
      have d2 : (v == 0) = false := beq_no hw
      have d3 : (v != 0) = true := bne_no hw
      clear ha hca hT hw hv
      go_enter Tryz.func10, Tryz.ntmps10
      go_wp2_with (first | (go_at_call 31; refine ((l1 _ _ hS inferInstance)).mono ?_; rintro e w' (⟨rfl, hS⟩)) | (go_at_call 34; refine ((l2 _ _ hS inferInstance)).mono ?_; rintro e w' (⟨rfl, hS⟩)))
      go_ret2
      rw [Hx.out]
      exact .bad hS.to
  · have Hx := Lib.hid (show subR t dir = ([], (checkA t).2) by unfold subR; rw [if_neg ha])
    obtain ⟨v, hv⟩ : ∃ v, checkA t = v := ⟨_, rfl⟩
    rw [hv] at l1 ha Hx
    have d2 : (v.2 == 0) = false := beq_no ha
    have d3 : (v.2 != 0) = true := bne_no ha
    clear ha hv
    go_enter Tryz.func10, Tryz.ntmps10
    go_wp2_with ((go_at_call 31; refine ((l1 _ _ hS inferInstance)).mono ?_; rintro e w' (⟨rfl, hS⟩)))
    go_ret2
    rw [Hx.out]
    exact .bad hS.to
end
end Go.Tk

set_option linter.unusedSectionVars false
set_option linter.unusedSimpArgs false
set_option linter.unusedVariables false
namespace Go.Tk
open Go.RowKit Go.Proofs
def nmP (p : ByteArray) : ByteArray := (splitP p).2.1
def kidL (dir : ByteArray) (t : List En) : List ByteArray := (t.filter fun e => decide (upP e.path = dir)).map fun e => nmP e.path
def kidsR (t : List En) (dir : ByteArray) : List ByteArray × Int := if (checkA t).2 = 0 then (if whereI t dir = 0 then (kidL dir t, 0) else ([], whereI t dir)) else ([], (checkA t).2)
theorem nmP_of {p : ByteArray} {l : List ByteArray} (h : namesB p = some l) (hl : l ≠ []) : nmP p = l.getLast hl := by
  unfold nmP splitP
  rw [h]
  dsimp only
  rw [dif_neg hl]
theorem kids_sorted {t : List En} (hT : RightT t) (dir : ByteArray) : ((kidL dir t).map fun x => x.data.toList).Pairwise fun x y => x ≤ y := by
  unfold kidL
  rw [List.map_map, List.pairwise_map]
  refine List.Pairwise.imp_of_mem (fun {x y} hx hy hxy => ?_) (hT.sorted.filter fun e => decide (upP e.path = dir))
  obtain ⟨hx1, hx2⟩ := List.mem_filter.1 hx
  obtain ⟨hy1, hy2⟩ := List.mem_filter.1 hy
  have ex := of_decide_eq_true hx2
  have ey := of_decide_eq_true hy2
  have ox := mayB_ok (hT.may x hx1)
  have oy := mayB_ok (hT.may y hy1)
  obtain ⟨lx, hlx⟩ := okP_some ox.1
  obtain ⟨ly, hly⟩ := okP_some oy.1
  have nx : lx ≠ [] := fun h0 => ox.2 ((namesL_join hlx).2.1 h0)
  have ny : ly ≠ [] := fun h0 => oy.2 ((namesL_join hly).2.1 h0)
  have ux := upP_names hlx
  have uy := upP_names hly
  rw [ex] at ux
  rw [ey, ux] at uy
  have hd : lx.dropLast = ly.dropLast := Option.some.inj uy
  have e1 : lx = lx.dropLast ++ [lx.getLast nx] := (List.dropLast_concat_getLast nx).symm
  have e2 : ly = lx.dropLast ++ [ly.getLast ny] := by rw [hd]; exact (List.dropLast_concat_getLast ny).symm
  have hc : lessI x.path y.path < 0 := hxy
  rw [lessI_of hlx hly, e1, e2, cmpL_pre, cmpL_cons] at hc
  show (nmP x.path).data.toList ≤ (nmP y.path).data.toList
  rw [nmP_of hlx nx, nmP_of hly ny]
  have hlt : ltS (lx.getLast nx) (ly.getLast ny) = true := by
    rcases cmpS_cases (lx.getLast nx) (ly.getLast ny) with ⟨_, h, _⟩ | ⟨_, h, _, _⟩ | ⟨_, _, h, _⟩
    · rw [if_pos h] at hc; exact absurd hc (by decide)
    · exact h
    · rw [if_neg (by rw [h]; decide), h] at hc; exact absurd hc (by decide)
  rw [ltS_lt, decide_eq_true_eq] at hlt
  exact List.le_of_lt hlt
/-- A path ends in its last name. -/
theorem last_split {p : ByteArray} {l : List ByteArray} (h : namesB p = some l) (hl : l ≠ []) :
    (¬ (47 : UInt8) ∈ (l.getLast hl).data.toList) ∧ ((p = l.getLast hl) ∨ ∃ a, p.data.toList = a ++ 47 :: (l.getLast hl).data.toList) := by
  have hn := names_all h
  refine ⟨?_, ?_⟩
  · intro hm
    have h1 := hn.1 _ (List.getLast_mem hl)
    unfold nameB at h1
    simp only [Bool.and_eq_true] at h1
    have h2 := List.all_eq_true.1 h1.2 47 hm
    exact absurd h2 (by decide)
  · have hj := (namesL_join h).1
    by_cases hd : l.dropLast = []
    · left
      have e1 : l = [l.getLast hl] := by
        have := (List.dropLast_concat_getLast hl).symm
        rwa [hd, List.nil_append] at this
      rw [← hj]
      apply ba_ext
      conv => lhs; rw [e1]
      unfold joinB
      rw [data_mkB]
      simp [Lib.join]
    · right
      refine ⟨Lib.join (l.dropLast.map (·.data.toList)) [47], ?_⟩
      rw [← hj]
      conv => lhs; rw [← List.dropLast_concat_getLast hl]
      unfold joinB
      rw [data_mkB, List.map_append, List.map_cons, List.map_nil, join_app _ _ (fun h0 => hd (List.map_eq_nil_iff.1 h0)) (by simp)]
      simp [Lib.join]
section
variable {B : Base} {R H H1 : HL} {w w' : World}
def LaI (B : Base) (R : HL) (lo n : Int) (i : Int) (w : World) : Prop := lo ≤ i ∧ i < n ∧ Sh B R w
set_option maxRecDepth 100000 in
set_option maxHeartbeats 1600000 in
theorem Last_any (hS : Sh B R w) (p : ByteArray) (hp : p.size ≤ 16777216) {l : List ByteArray} (h : namesB p = some l) (hl : l ≠ []) :
    Calls Tryz.prog 55 #[.string p] w fun e w' => e = .returned (.string (nmP p)) ∧ Sh B R w' := by
  rw [nmP_of h hl]
  obtain ⟨hz, hcase⟩ := last_split h hl
  generalize l.getLast hl = z at hz hcase
  clear h hl
  rcases hcase with rfl | ⟨a, ha⟩
  · have Hno := Lib.hid (show ∀ j (hj : j < p.size), p[j] ≠ 47 from fun j hj he => hz (by
      rw [← he]
      have : p.data.toList[j]? = some p[j] := ba_get p hj
      exact List.mem_of_getElem? this))
    clear hz
    go_enter Tryz.func55, Tryz.ntmps55
    go_upto_region 2 with (first | fail | (refine wl_isld rfl ?_; ((first | refine wl_value rfl (ex_l0 hS rfl rfl rfl CellAt.out) ?_ | refine wl_value rfl (ex_lf hS rfl rfl rfl CellAt.out) ?_ | refine wl_value rfl (ex_l1 hS rfl rfl rfl CellAt.out) ?_ | refine wl_value rfl (ex_ldC hS rfl rfl CellAt.out) ?_ | refine wl_value rfl (ex_l0 hS rfl rfl rfl rfl) ?_ | refine wl_value rfl (ex_lf hS rfl rfl rfl rfl) ?_ | refine wl_value rfl (ex_l1 hS rfl rfl rfl rfl) ?_ | refine wl_value rfl (ex_ldC hS rfl rfl rfl) ?_ | refine wl_value rfl (ex_l00 hS rfl rfl CellAt.out) ?_ | refine wl_value rfl (ex_l00 hS rfl rfl rfl) ?_ | refine wl_value rfl (ex_l0f hS rfl rfl CellAt.out) ?_ | refine wl_value rfl (ex_l0f hS rfl rfl rfl) ?_ | refine wl_value rfl (ex_lr hS rfl rfl rfl rfl) ?_ | refine wl_value rfl (ex_lr0 hS rfl rfl rfl) ?_ | refine wl_value rfl (ex_lrz hS rfl rfl rfl) ?_ | refine wl_value rfl (ex_lrf hS rfl rfl rfl) ?_ | refine wl_value rfl (ex_ldrC hS rfl rfl) ?_ | refine wl_value rfl (ex_ldr0 hS rfl rfl rfl) ?_); (try simp only [Act.put, List.setIfInBounds_toArray, List.set_cons_zero, List.set_cons_succ]))) | ((first | refine wl_value rfl (ex_ix hS rfl rfl rfl ?_) ?_); (focus (first | rfl | omega | (simp; done))); (try simp only [Act.put, List.setIfInBounds_toArray, List.set_cons_zero, List.set_cons_succ])) | ((first | refine wl_value rfl (ex_eqA rfl rfl rfl) ?_ | refine wl_value rfl (ex_neA rfl rfl rfl) ?_); (try simp only [Act.put, List.setIfInBounds_toArray, List.set_cons_zero, List.set_cons_succ])) | (refine wl_alloc rfl rfl hS ?_; intro _ _ hS; (try simp only [Act.put, List.setIfInBounds_toArray, List.set_cons_zero, List.set_cons_succ])) | (refine wl_box rfl rfl rfl rfl hS ?_; intro _ _ hS; (try simp only [Act.put, List.setIfInBounds_toArray, List.set_cons_zero, List.set_cons_succ])) | (refine wl_st rfl rfl rfl rfl rfl hS (of_decide_eq_true rfl) ?_; intro _ hS; (try simp only [evT, evC, List.getD_cons_succ, List.getD_cons_zero, List.set_cons_zero, List.set_cons_succ] at hS); (try simp only [List.set_cons_zero, List.set_cons_succ] at hS); (try simp only [Act.put, List.setIfInBounds_toArray, List.set_cons_zero, List.set_cons_succ])) | (refine wl_strC rfl rfl rfl rfl hS rfl rfl ?_; intro _ hS; (try simp only [evT, evC, List.getD_cons_succ, List.getD_cons_zero, List.set_cons_zero, List.set_cons_succ] at hS); (try simp only [Act.put, List.setIfInBounds_toArray, List.set_cons_zero, List.set_cons_succ])))
    have h0 : LaI B R (-1) p.size ((p.size : Int) - 1) _ := ⟨by omega, by omega, hS⟩
    clear hS
    refine wp_loopS [3] [2, 7, 8, 9, 10, 11, 12, 13, 14, 15, 16, 17, 18] (fun i : Int => [.int .i64 i]) (LaI B R (-1) p.size) (fun i => (i + 1).toNat) (((p.size : Int) - 1)) rfl (h0) ?_
    clear h0
    rintro i J w ⟨hi1, hi2, hS⟩
    (simp only [Frm, setsT, junkT, List.setIfInBounds_toArray, List.set_cons_zero, List.set_cons_succ])
    by_cases hge : 0 ≤ i
    · obtain ⟨j, rfl⟩ : ∃ j : Nat, i = (j : Int) := ⟨i.toNat, by omega⟩
      have hj : j < p.size := by omega
      have d1 : ((p[j].toNat : Int) == 47) = false := by rw [u8_slash]; exact decide_eq_false (Hno.out j hj)
      go_wp2_with (first | (refine wl_isld rfl ?_; ((first | refine wl_value rfl (ex_l0 hS rfl rfl rfl CellAt.out) ?_ | refine wl_value rfl (ex_lf hS rfl rfl rfl CellAt.out) ?_ | refine wl_value rfl (ex_l1 hS rfl rfl rfl CellAt.out) ?_ | refine wl_value rfl (ex_ldC hS rfl rfl CellAt.out) ?_ | refine wl_value rfl (ex_l0 hS rfl rfl rfl rfl) ?_ | refine wl_value rfl (ex_lf hS rfl rfl rfl rfl) ?_ | refine wl_value rfl (ex_l1 hS rfl rfl rfl rfl) ?_ | refine wl_value rfl (ex_ldC hS rfl rfl rfl) ?_ | refine wl_value rfl (ex_l00 hS rfl rfl CellAt.out) ?_ | refine wl_value rfl (ex_l00 hS rfl rfl rfl) ?_ | refine wl_value rfl (ex_l0f hS rfl rfl CellAt.out) ?_ | refine wl_value rfl (ex_l0f hS rfl rfl rfl) ?_ | refine wl_value rfl (ex_lr hS rfl rfl rfl rfl) ?_ | refine wl_value rfl (ex_lr0 hS rfl rfl rfl) ?_ | refine wl_value rfl (ex_lrz hS rfl rfl rfl) ?_ | refine wl_value rfl (ex_lrf hS rfl rfl rfl) ?_ | refine wl_value rfl (ex_ldrC hS rfl rfl) ?_ | refine wl_value rfl (ex_ldr0 hS rfl rfl rfl) ?_); (try simp only [Act.put, List.setIfInBounds_toArray, List.set_cons_zero, List.set_cons_succ]))) | ((first | refine wl_value rfl (ex_ix hS rfl rfl rfl ?_) ?_); (focus (first | rfl | omega | (simp; done))); (try simp only [Act.put, List.setIfInBounds_toArray, List.set_cons_zero, List.set_cons_succ])) | ((first | refine wl_value rfl (ex_eqA rfl rfl rfl) ?_ | refine wl_value rfl (ex_neA rfl rfl rfl) ?_); (try simp only [Act.put, List.setIfInBounds_toArray, List.set_cons_zero, List.set_cons_succ])) | (refine wl_alloc rfl rfl hS ?_; intro _ _ hS; (try simp only [Act.put, List.setIfInBounds_toArray, List.set_cons_zero, List.set_cons_succ])) | (refine wl_box rfl rfl rfl rfl hS ?_; intro _ _ hS; (try simp only [Act.put, List.setIfInBounds_toArray, List.set_cons_zero, List.set_cons_succ])) | (refine wl_st rfl rfl rfl rfl rfl hS (of_decide_eq_true rfl) ?_; intro _ hS; (try simp only [evT, evC, List.getD_cons_succ, List.getD_cons_zero, List.set_cons_zero, List.set_cons_succ] at hS); (try simp only [List.set_cons_zero, List.set_cons_succ] at hS); (try simp only [Act.put, List.setIfInBounds_toArray, List.set_cons_zero, List.set_cons_succ])) | (refine wl_strC rfl rfl rfl rfl hS rfl rfl ?_; intro _ hS; (try simp only [evT, evC, List.getD_cons_succ, List.getD_cons_zero, List.set_cons_zero, List.set_cons_succ] at hS); (try simp only [Act.put, List.setIfInBounds_toArray, List.set_cons_zero, List.set_cons_succ])))
      exact ⟨((j : Int) - 1), ⟨by omega, by omega, hS⟩, by omega, rfl, (by (simp only [blankT, junkT, List.cons_append, List.nil_append, List.setIfInBounds_toArray, List.set_cons_zero, List.set_cons_succ])), rfl⟩
    · go_wp2_with (first | (refine wl_isld rfl ?_; ((first | refine wl_value rfl (ex_l0 hS rfl rfl rfl CellAt.out) ?_ | refine wl_value rfl (ex_lf hS rfl rfl rfl CellAt.out) ?_ | refine wl_value rfl (ex_l1 hS rfl rfl rfl CellAt.out) ?_ | refine wl_value rfl (ex_ldC hS rfl rfl CellAt.out) ?_ | refine wl_value rfl (ex_l0 hS rfl rfl rfl rfl) ?_ | refine wl_value rfl (ex_lf hS rfl rfl rfl rfl) ?_ | refine wl_value rfl (ex_l1 hS rfl rfl rfl rfl) ?_ | refine wl_value rfl (ex_ldC hS rfl rfl rfl) ?_ | refine wl_value rfl (ex_l00 hS rfl rfl CellAt.out) ?_ | refine wl_value rfl (ex_l00 hS rfl rfl rfl) ?_ | refine wl_value rfl (ex_l0f hS rfl rfl CellAt.out) ?_ | refine wl_value rfl (ex_l0f hS rfl rfl rfl) ?_ | refine wl_value rfl (ex_lr hS rfl rfl rfl rfl) ?_ | refine wl_value rfl (ex_lr0 hS rfl rfl rfl) ?_ | refine wl_value rfl (ex_lrz hS rfl rfl rfl) ?_ | refine wl_value rfl (ex_lrf hS rfl rfl rfl) ?_ | refine wl_value rfl (ex_ldrC hS rfl rfl) ?_ | refine wl_value rfl (ex_ldr0 hS rfl rfl rfl) ?_); (try simp only [Act.put, List.setIfInBounds_toArray, List.set_cons_zero, List.set_cons_succ]))) | ((first | refine wl_value rfl (ex_ix hS rfl rfl rfl ?_) ?_); (focus (first | rfl | omega | (simp; done))); (try simp only [Act.put, List.setIfInBounds_toArray, List.set_cons_zero, List.set_cons_succ])) | ((first | refine wl_value rfl (ex_eqA rfl rfl rfl) ?_ | refine wl_value rfl (ex_neA rfl rfl rfl) ?_); (try simp only [Act.put, List.setIfInBounds_toArray, List.set_cons_zero, List.set_cons_succ])) | (refine wl_alloc rfl rfl hS ?_; intro _ _ hS; (try simp only [Act.put, List.setIfInBounds_toArray, List.set_cons_zero, List.set_cons_succ])) | (refine wl_box rfl rfl rfl rfl hS ?_; intro _ _ hS; (try simp only [Act.put, List.setIfInBounds_toArray, List.set_cons_zero, List.set_cons_succ])) | (refine wl_st rfl rfl rfl rfl rfl hS (of_decide_eq_true rfl) ?_; intro _ hS; (try simp only [evT, evC, List.getD_cons_succ, List.getD_cons_zero, List.set_cons_zero, List.set_cons_succ] at hS); (try simp only [List.set_cons_zero, List.set_cons_succ] at hS); (try simp only [Act.put, List.setIfInBounds_toArray, List.set_cons_zero, List.set_cons_succ])) | (refine wl_strC rfl rfl rfl rfl hS rfl rfl ?_; intro _ hS; (try simp only [evT, evC, List.getD_cons_succ, List.getD_cons_zero, List.set_cons_zero, List.set_cons_succ] at hS); (try simp only [Act.put, List.setIfInBounds_toArray, List.set_cons_zero, List.set_cons_succ])))
      go_ret
      exact ⟨rfl, hS⟩
  · have hsz : p.size = a.length + 1 + z.size := by rw [ba_size, ha, ba_size z, List.length_append, List.length_cons]; omega
    have Hno := Lib.hid (show ∀ j (hj : j < p.size), a.length < j → p[j] ≠ 47 from fun j hj haj he => hz (by
      have h1 : p.data.toList[j]? = some p[j] := ba_get p hj
      rw [ha, List.getElem?_append_right (by omega)] at h1
      obtain ⟨m, hm⟩ : ∃ m, j - a.length = m + 1 := ⟨j - a.length - 1, by omega⟩
      rw [hm, List.getElem?_cons_succ, he] at h1
      exact List.mem_of_getElem? h1))
    have Hyes := Lib.hid (show ∀ (hj : a.length < p.size), p[a.length] = 47 from fun hj => by
      have h1 : p.data.toList[a.length]? = some p[a.length] := ba_get p hj
      rw [ha, List.getElem?_append_right (by omega)] at h1
      simpa using h1.symm)
    have Hex := Lib.hid (show p.extract (a.length + 1) p.size = z by
      rw [← ext_mk]
      apply ba_ext
      rw [data_mkB, ha, List.drop_append, List.drop_eq_nil_of_le (by omega), show a.length + 1 - a.length = 1 by omega, hsz]
      rw [show a.length + 1 + z.size - (a.length + 1) = z.size by omega, List.nil_append, List.drop_succ_cons, List.drop_zero]
      exact List.take_of_length_le (by rw [ba_size z]; exact Nat.le_refl _))
    obtain ⟨n, hn⟩ : ∃ n, a.length = n := ⟨_, rfl⟩
    rw [hn] at hsz Hno Hyes Hex
    have hnlt : n < p.size := by omega
    clear hz ha hn hsz
    go_enter Tryz.func55, Tryz.ntmps55
    go_upto_region 2 with (first | fail | (refine wl_isld rfl ?_; ((first | refine wl_value rfl (ex_l0 hS rfl rfl rfl CellAt.out) ?_ | refine wl_value rfl (ex_lf hS rfl rfl rfl CellAt.out) ?_ | refine wl_value rfl (ex_l1 hS rfl rfl rfl CellAt.out) ?_ | refine wl_value rfl (ex_ldC hS rfl rfl CellAt.out) ?_ | refine wl_value rfl (ex_l0 hS rfl rfl rfl rfl) ?_ | refine wl_value rfl (ex_lf hS rfl rfl rfl rfl) ?_ | refine wl_value rfl (ex_l1 hS rfl rfl rfl rfl) ?_ | refine wl_value rfl (ex_ldC hS rfl rfl rfl) ?_ | refine wl_value rfl (ex_l00 hS rfl rfl CellAt.out) ?_ | refine wl_value rfl (ex_l00 hS rfl rfl rfl) ?_ | refine wl_value rfl (ex_l0f hS rfl rfl CellAt.out) ?_ | refine wl_value rfl (ex_l0f hS rfl rfl rfl) ?_ | refine wl_value rfl (ex_lr hS rfl rfl rfl rfl) ?_ | refine wl_value rfl (ex_lr0 hS rfl rfl rfl) ?_ | refine wl_value rfl (ex_lrz hS rfl rfl rfl) ?_ | refine wl_value rfl (ex_lrf hS rfl rfl rfl) ?_ | refine wl_value rfl (ex_ldrC hS rfl rfl) ?_ | refine wl_value rfl (ex_ldr0 hS rfl rfl rfl) ?_); (try simp only [Act.put, List.setIfInBounds_toArray, List.set_cons_zero, List.set_cons_succ]))) | ((first | refine wl_value rfl (ex_ix hS rfl rfl rfl ?_) ?_); (focus (first | rfl | omega | (simp; done))); (try simp only [Act.put, List.setIfInBounds_toArray, List.set_cons_zero, List.set_cons_succ])) | ((first | refine wl_value rfl (ex_eqA rfl rfl rfl) ?_ | refine wl_value rfl (ex_neA rfl rfl rfl) ?_); (try simp only [Act.put, List.setIfInBounds_toArray, List.set_cons_zero, List.set_cons_succ])) | (refine wl_alloc rfl rfl hS ?_; intro _ _ hS; (try simp only [Act.put, List.setIfInBounds_toArray, List.set_cons_zero, List.set_cons_succ])) | (refine wl_box rfl rfl rfl rfl hS ?_; intro _ _ hS; (try simp only [Act.put, List.setIfInBounds_toArray, List.set_cons_zero, List.set_cons_succ])) | (refine wl_st rfl rfl rfl rfl rfl hS (of_decide_eq_true rfl) ?_; intro _ hS; (try simp only [evT, evC, List.getD_cons_succ, List.getD_cons_zero, List.set_cons_zero, List.set_cons_succ] at hS); (try simp only [List.set_cons_zero, List.set_cons_succ] at hS); (try simp only [Act.put, List.setIfInBounds_toArray, List.set_cons_zero, List.set_cons_succ])) | (refine wl_strC rfl rfl rfl rfl hS rfl rfl ?_; intro _ hS; (try simp only [evT, evC, List.getD_cons_succ, List.getD_cons_zero, List.set_cons_zero, List.set_cons_succ] at hS); (try simp only [Act.put, List.setIfInBounds_toArray, List.set_cons_zero, List.set_cons_succ])))
    have h0 : LaI B R n p.size ((p.size : Int) - 1) _ := ⟨by omega, by omega, hS⟩
    clear hS
    refine wp_loopS [3] [2, 7, 8, 9, 10, 11, 12, 13, 14, 15, 16, 17, 18] (fun i : Int => [.int .i64 i]) (LaI B R n p.size) (fun i => (i + 1).toNat) (((p.size : Int) - 1)) rfl (h0) ?_
    clear h0
    rintro i J w ⟨hi1, hi2, hS⟩
    (simp only [Frm, setsT, junkT, List.setIfInBounds_toArray, List.set_cons_zero, List.set_cons_succ])
    obtain ⟨j, rfl⟩ : ∃ j : Nat, i = (j : Int) := ⟨i.toNat, by omega⟩
    have hj : j < p.size := by omega
    by_cases hjn : n < j
    · have d1 : ((p[j].toNat : Int) == 47) = false := by rw [u8_slash]; exact decide_eq_false (Hno.out j hj hjn)
      go_wp2_with (first | (refine wl_isld rfl ?_; ((first | refine wl_value rfl (ex_l0 hS rfl rfl rfl CellAt.out) ?_ | refine wl_value rfl (ex_lf hS rfl rfl rfl CellAt.out) ?_ | refine wl_value rfl (ex_l1 hS rfl rfl rfl CellAt.out) ?_ | refine wl_value rfl (ex_ldC hS rfl rfl CellAt.out) ?_ | refine wl_value rfl (ex_l0 hS rfl rfl rfl rfl) ?_ | refine wl_value rfl (ex_lf hS rfl rfl rfl rfl) ?_ | refine wl_value rfl (ex_l1 hS rfl rfl rfl rfl) ?_ | refine wl_value rfl (ex_ldC hS rfl rfl rfl) ?_ | refine wl_value rfl (ex_l00 hS rfl rfl CellAt.out) ?_ | refine wl_value rfl (ex_l00 hS rfl rfl rfl) ?_ | refine wl_value rfl (ex_l0f hS rfl rfl CellAt.out) ?_ | refine wl_value rfl (ex_l0f hS rfl rfl rfl) ?_ | refine wl_value rfl (ex_lr hS rfl rfl rfl rfl) ?_ | refine wl_value rfl (ex_lr0 hS rfl rfl rfl) ?_ | refine wl_value rfl (ex_lrz hS rfl rfl rfl) ?_ | refine wl_value rfl (ex_lrf hS rfl rfl rfl) ?_ | refine wl_value rfl (ex_ldrC hS rfl rfl) ?_ | refine wl_value rfl (ex_ldr0 hS rfl rfl rfl) ?_); (try simp only [Act.put, List.setIfInBounds_toArray, List.set_cons_zero, List.set_cons_succ]))) | ((first | refine wl_value rfl (ex_ix hS rfl rfl rfl ?_) ?_); (focus (first | rfl | omega | (simp; done))); (try simp only [Act.put, List.setIfInBounds_toArray, List.set_cons_zero, List.set_cons_succ])) | ((first | refine wl_value rfl (ex_eqA rfl rfl rfl) ?_ | refine wl_value rfl (ex_neA rfl rfl rfl) ?_); (try simp only [Act.put, List.setIfInBounds_toArray, List.set_cons_zero, List.set_cons_succ])) | (refine wl_alloc rfl rfl hS ?_; intro _ _ hS; (try simp only [Act.put, List.setIfInBounds_toArray, List.set_cons_zero, List.set_cons_succ])) | (refine wl_box rfl rfl rfl rfl hS ?_; intro _ _ hS; (try simp only [Act.put, List.setIfInBounds_toArray, List.set_cons_zero, List.set_cons_succ])) | (refine wl_st rfl rfl rfl rfl rfl hS (of_decide_eq_true rfl) ?_; intro _ hS; (try simp only [evT, evC, List.getD_cons_succ, List.getD_cons_zero, List.set_cons_zero, List.set_cons_succ] at hS); (try simp only [List.set_cons_zero, List.set_cons_succ] at hS); (try simp only [Act.put, List.setIfInBounds_toArray, List.set_cons_zero, List.set_cons_succ])) | (refine wl_strC rfl rfl rfl rfl hS rfl rfl ?_; intro _ hS; (try simp only [evT, evC, List.getD_cons_succ, List.getD_cons_zero, List.set_cons_zero, List.set_cons_succ] at hS); (try simp only [Act.put, List.setIfInBounds_toArray, List.set_cons_zero, List.set_cons_succ])))
      exact ⟨((j : Int) - 1), ⟨by omega, by omega, hS⟩, by omega, rfl, (by (simp only [blankT, junkT, List.cons_append, List.nil_append, List.setIfInBounds_toArray, List.set_cons_zero, List.set_cons_succ])), rfl⟩
    · have e1 : j = n := by omega
      subst e1
      have d1 : ((p[j].toNat : Int) == 47) = true := by rw [u8_slash, Hyes.out hj]; rfl
      go_wp2_with (first | (refine wl_isld rfl ?_; ((first | refine wl_value rfl (ex_l0 hS rfl rfl rfl CellAt.out) ?_ | refine wl_value rfl (ex_lf hS rfl rfl rfl CellAt.out) ?_ | refine wl_value rfl (ex_l1 hS rfl rfl rfl CellAt.out) ?_ | refine wl_value rfl (ex_ldC hS rfl rfl CellAt.out) ?_ | refine wl_value rfl (ex_l0 hS rfl rfl rfl rfl) ?_ | refine wl_value rfl (ex_lf hS rfl rfl rfl rfl) ?_ | refine wl_value rfl (ex_l1 hS rfl rfl rfl rfl) ?_ | refine wl_value rfl (ex_ldC hS rfl rfl rfl) ?_ | refine wl_value rfl (ex_l00 hS rfl rfl CellAt.out) ?_ | refine wl_value rfl (ex_l00 hS rfl rfl rfl) ?_ | refine wl_value rfl (ex_l0f hS rfl rfl CellAt.out) ?_ | refine wl_value rfl (ex_l0f hS rfl rfl rfl) ?_ | refine wl_value rfl (ex_lr hS rfl rfl rfl rfl) ?_ | refine wl_value rfl (ex_lr0 hS rfl rfl rfl) ?_ | refine wl_value rfl (ex_lrz hS rfl rfl rfl) ?_ | refine wl_value rfl (ex_lrf hS rfl rfl rfl) ?_ | refine wl_value rfl (ex_ldrC hS rfl rfl) ?_ | refine wl_value rfl (ex_ldr0 hS rfl rfl rfl) ?_); (try simp only [Act.put, List.setIfInBounds_toArray, List.set_cons_zero, List.set_cons_succ]))) | ((first | refine wl_value rfl (ex_ix hS rfl rfl rfl ?_) ?_); (focus (first | rfl | omega | (simp; done))); (try simp only [Act.put, List.setIfInBounds_toArray, List.set_cons_zero, List.set_cons_succ])) | ((first | refine wl_value rfl (ex_eqA rfl rfl rfl) ?_ | refine wl_value rfl (ex_neA rfl rfl rfl) ?_); (try simp only [Act.put, List.setIfInBounds_toArray, List.set_cons_zero, List.set_cons_succ])) | (refine wl_alloc rfl rfl hS ?_; intro _ _ hS; (try simp only [Act.put, List.setIfInBounds_toArray, List.set_cons_zero, List.set_cons_succ])) | (refine wl_box rfl rfl rfl rfl hS ?_; intro _ _ hS; (try simp only [Act.put, List.setIfInBounds_toArray, List.set_cons_zero, List.set_cons_succ])) | (refine wl_st rfl rfl rfl rfl rfl hS (of_decide_eq_true rfl) ?_; intro _ hS; (try simp only [evT, evC, List.getD_cons_succ, List.getD_cons_zero, List.set_cons_zero, List.set_cons_succ] at hS); (try simp only [List.set_cons_zero, List.set_cons_succ] at hS); (try simp only [Act.put, List.setIfInBounds_toArray, List.set_cons_zero, List.set_cons_succ])) | (refine wl_strC rfl rfl rfl rfl hS rfl rfl ?_; intro _ hS; (try simp only [evT, evC, List.getD_cons_succ, List.getD_cons_zero, List.set_cons_zero, List.set_cons_succ] at hS); (try simp only [Act.put, List.setIfInBounds_toArray, List.set_cons_zero, List.set_cons_succ])))
      go_ret
      rw [← Hex.out]
      exact ⟨rfl, hS⟩
end
end Go.Tk
