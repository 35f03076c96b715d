/- Kids: the tree's and the document's; Right; walked: what a walk tells is what lies below; The law TreeFinds. -/
import Derived.Test.YtclmemhginekbaaGreatDoorGd51db6
import Derived.Test.YtclmemhginekbaaGreatDoorGf77356
set_option linter.unusedSectionVars false
set_option linter.unusedSimpArgs false
set_option linter.unusedVariables false
namespace Go.Tk
open Go.RowKit Go.Proofs
theorem kidL_snoc (dir : ByteArray) (a : List En) (x : En) : kidL dir (a ++ [x]) = kidL dir a ++ (if upP x.path = dir then [nmP x.path] else []) := by
  unfold kidL
  rw [List.filter_append, List.map_append]
  by_cases h : upP x.path = dir
  · rw [if_pos h]; simp [h]
  · rw [if_neg h]; simp [h]
structure KdSt where
  i : Nat
  A : Option Addr
  out : List ByteArray
  cap : Nat
section
variable {B : Base} {R H H1 : HL} {w w' : World}
def KidsP (B : Base) (R : HL) (x : List ByteArray × Int) (e : Ending) (w' : World) : Prop :=
  ∃ A sp cap, e = .returned (.tuple #[.slice A x.1.length cap, .int .i64 x.2]) ∧ OwnSl strE A x.1 sp cap ∧ Sh B (rowA A (flat strE x.1 ++ sp) 9 ++ R) w'
theorem KidsP.bad {n : Int} {w : World} (h : Sh B R w) : KidsP B R ([], n) (.returned (.tuple #[.slice none 0 0, .int .i64 n])) w := ⟨none, [], 0, rfl, OwnSl.nothing, h⟩
def KdI (B : Base) (R : HL) (dir : ByteArray) (t : List En) (x : KdSt) (w : World) : Prop :=
  ∃ sp, x.i ≤ t.length ∧ x.out = kidL dir (t.take x.i) ∧ x.out.length ≤ x.i ∧ OwnSl strE x.A x.out sp x.cap ∧ Sh B (rowA x.A (flat strE x.out ++ sp) 9 ++ R) w
set_option maxRecDepth 100000 in
set_option maxHeartbeats 3200000 in
theorem RKids_any [HasML B] (hS : Sh B R w) {A : Option Addr} {cap : Nat} {t : List En} [r : RdAt enE B R A t] (hc : t.length ≤ cap) (hl : t.length ≤ 16777216) (hsm : SmallE t) (dir : ByteArray) (hdir : dir.size ≤ 16777216) :
    Calls Tryz.prog 22 #[.slice A t.length cap, .string dir] w (KidsP B R (kidsR t dir)) := by
  have l1 := fun (w : World) (H : HL) (hS : Sh B H w) (r : RdAt enE B H A t) => CheckR_any hS (A := A) (cap := cap) (t := t) (r := r) hc hl hsm
  rw [← checks_same] at l1
  have l2 := fun (w : World) (H : HL) (hS : Sh B H w) (r : RdAt enE B H A t) => WhereR_any hS (cap := cap) (r := r) hl dir hdir
  by_cases ha : (checkA t).2 = 0
  · obtain ⟨hca, hT⟩ := right_of ha
    rw [hca] at l1
    by_cases hw : whereI t dir = 0
    · rw [hw] at l2
      have Hx := Lib.hid (show kidsR t dir = (kidL dir t, 0) by unfold kidsR; rw [if_pos ha, if_pos hw])
      have Hsm := Lib.hid hsm
      clear ha hca hT hw hsm
      go_enter Tryz.func22, Tryz.ntmps22
      go_upto_region 8 with (first | (go_at_call 31; refine ((l1 _ _ hS inferInstance)).mono ?_; rintro e w' (⟨rfl, hS⟩)) | (go_at_call 34; refine ((l2 _ _ hS inferInstance)).mono ?_; rintro e w' (⟨rfl, hS⟩)))
      have h0 : KdI B R dir t ⟨0, none, [], 0⟩ _ := ⟨[], Nat.zero_le _, rfl, Nat.le_refl _, OwnSl.nothing, hS⟩
      clear hS l1 l2
      refine wp_loopS [8, 9] [10, 11, 12, 26, 27, 28, 29, 30, 31, 32, 33, 34, 35, 36, 37, 38, 39, 40, 41, 42, 43, 44, 45, 46, 47, 48] (fun x : KdSt => [.slice x.A x.out.length x.cap, .int .i64 x.i]) (KdI B R dir t) (fun x => t.length - x.i) (⟨0, none, [], 0⟩) rfl (h0) ?_
      clear h0
      rintro ⟨i, A4, out, cap4⟩ J w ⟨sp4, hi, hou, hlo, hO, hS⟩
      dsimp only at hi hou hlo hO hS
      have Hou := Lib.hid hou
      clear hou
      (simp only [Frm, setsT, junkT, List.setIfInBounds_toArray, List.set_cons_zero, List.set_cons_succ])
      by_cases hlt : i < t.length
      · obtain ⟨x, gx⟩ := Nth.of hlt
        have hxz := (Hsm.out x gx.mem).1
        have Htk := Lib.hid gx.take
        have ls := fun (w : World) (H : HL) (hS : Sh B H w) => SplitR_any hS x.path hxz
        have Hsn := Lib.hid (kidL_snoc dir (t.take i) x)
        unfold upP nmP at Hsn
        obtain ⟨⟨u, nm, er⟩, hs3⟩ : ∃ s, splitP x.path = s := ⟨_, rfl⟩
        rw [hs3] at ls Hsn
        have ls2 : ∀ (w : World) (H : HL) (hS : Sh B H w), Calls Tryz.prog 53 #[.string x.path] w fun e w' => e = .returned (.tuple #[.string u, .string nm, .int .i64 er]) ∧ Sh B H w' := ls
        clear ls hs3
        by_cases hu : u = dir
        · have d1 : (u.toList == dir.toList) = true := by rw [strEq]; simp [hu]
          have H1 := Lib.hid (show out ++ [nm] = kidL dir (t.take (i + 1)) by rw [Htk.out, Hsn.out, if_pos hu, Hou.out])
          clear hu
          go_wp2_with (first | (go_at_call 53; refine ((ls2 _ _ hS)).mono ?_; rintro e w' (⟨rfl, hS⟩)) | (refine wl_buildSlice (E := strE) [nm] rfl rfl (by simp only [List.map_toArray, List.map_cons, List.map_nil]; rfl) rfl (by decide) (by decide) hS ?_; intro _ _ hS hN; (try simp only [Act.put, List.setIfInBounds_toArray, List.set_cons_zero, List.set_cons_succ])) | (refine wl_ap (E := strE) rfl rfl rfl rfl hS ?_ ?_ ?_ ?_ ?_; (focus (rfl)); (focus (rfl)); (focus ((simp only [List.length_cons, List.length_nil]; omega))); (focus decide); intro _ _ _ _ hO6 hS; (try simp only [Act.put, List.setIfInBounds_toArray, List.set_cons_zero, List.set_cons_succ])) | (refine wl_isld rfl ?_; ((refine wl_value rfl (ex_l0 hS rfl rfl rfl CellAt.out) ?_); (try simp only [Act.put, List.setIfInBounds_toArray, List.set_cons_zero, List.set_cons_succ]))) | ((refine wl_value rfl (ex_ix hS rfl rfl rfl ?_) ?_); (focus (rfl)); (try simp only [Act.put, List.setIfInBounds_toArray, List.set_cons_zero, List.set_cons_succ])))
          exact ⟨(⟨i + 1, _, out ++ [nm], _⟩ : KdSt), ⟨_, hlt, H1.out, (by dsimp only; rw [List.length_append]; simp; omega), hO6, hS.to⟩, (by dsimp only; omega), (by dsimp only; rw [List.length_append]; rfl), (by (simp only [blankT, junkT, List.cons_append, List.nil_append, List.setIfInBounds_toArray, List.set_cons_zero, List.set_cons_succ])), rfl⟩
        · have d1 : (u.toList == dir.toList) = false := by rw [strEq]; simp [hu]
          have H1 := Lib.hid (show out = kidL dir (t.take (i + 1)) by rw [Htk.out, Hsn.out, if_neg hu, Hou.out, List.append_nil])
          clear hu
          go_wp2_with (first | (go_at_call 53; refine ((ls2 _ _ hS)).mono ?_; rintro e w' (⟨rfl, hS⟩)) | (refine wl_isld rfl ?_; ((refine wl_value rfl (ex_l0 hS rfl rfl rfl CellAt.out) ?_); (try simp only [Act.put, List.setIfInBounds_toArray, List.set_cons_zero, List.set_cons_succ]))) | ((refine wl_value rfl (ex_ix hS rfl rfl rfl ?_) ?_); (focus (rfl)); (try simp only [Act.put, List.setIfInBounds_toArray, List.set_cons_zero, List.set_cons_succ])))
          exact ⟨(⟨i + 1, A4, out, cap4⟩ : KdSt), ⟨_, hlt, H1.out, (by dsimp only; omega), hO, hS.to⟩, (by dsimp only; omega), rfl, (by (simp only [blankT, junkT, List.cons_append, List.nil_append, List.setIfInBounds_toArray, List.set_cons_zero, List.set_cons_succ])), rfl⟩
      · have H1 := Lib.hid (show kidsR t dir = (out, 0) by rw [Hx.out, Hou.out, List.take_of_length_le (by omega)])
        go_wp2_with (fail)
        go_ret2
        rw [H1.out]
        exact ⟨_, _, _, rfl, hO, hS.to⟩
    · have Hx := Lib.hid (show kidsR t dir = ([], whereI t dir) by unfold kidsR; rw [if_pos ha, if_neg hw])
      obtain ⟨v, hv⟩ : ∃ v, whereI t dir = v := ⟨_, rfl⟩
      rw [hv] at l2 hw Hx
      have d2 : (v == 0) = false := beq_no hw
      have d3 : (v != 0) = true := bne_no hw
      clear ha hca hT hw hv
      go_enter Tryz.func22, Tryz.ntmps22
      go_wp2_with (first | (go_at_call 31; refine ((l1 _ _ hS inferInstance)).mono ?_; rintro e w' (⟨rfl, hS⟩)) | (go_at_call 34; refine ((l2 _ _ hS inferInstance)).mono ?_; rintro e w' (⟨rfl, hS⟩)))
      go_ret2
      rw [Hx.out]
      exact .bad hS.to
  · have Hx := Lib.hid (show kidsR t dir = ([], (checkA t).2) by unfold kidsR; rw [if_neg ha])
    obtain ⟨v, hv⟩ : ∃ v, checkA t = v := ⟨_, rfl⟩
    rw [hv] at l1 ha Hx
    have d2 : (v.2 == 0) = false := beq_no ha
    have d3 : (v.2 != 0) = true := bne_no ha
    clear ha hv
    go_enter Tryz.func22, Tryz.ntmps22
    go_wp2_with ((go_at_call 31; refine ((l1 _ _ hS inferInstance)).mono ?_; rintro e w' (⟨rfl, hS⟩)))
    go_ret2
    rw [Hx.out]
    exact .bad hS.to
set_option maxRecDepth 100000 in
set_option maxHeartbeats 3200000 in
theorem TKids_any [HasML B] [NoDraw B] (hS : Sh B R w) {A : Option Addr} {cap : Nat} {t : List En} [r : RdAt enE B R A t] (hl : t.length ≤ 16777216) (hsm : SmallE t) (dir : ByteArray) (hdir : dir.size ≤ 16777216) :
    Calls Tryz.prog 21 #[.slice A t.length cap, .string dir] w (KidsP B R (kidsR t dir)) := by
  have l1 := fun (w : World) (H : HL) (hS : Sh B H w) (r : RdAt enE B H A t) => Right_any hS (A := A) (cap := cap) (t := t) (r := r) hl hsm
  have l2 := fun (w : World) (H : HL) (hS : Sh B H w) (r : RdAt enE B H A t) => Where_any hS (cap := cap) (r := r) hl dir hdir
  by_cases ha : (checkA t).2 = 0
  · obtain ⟨hca, hT⟩ := right_of ha
    rw [ha] at l1
    by_cases hw : whereI t dir = 0
    · rw [hw] at l2
      have Hx := Lib.hid (show kidsR t dir = (kidL dir t, 0) by unfold kidsR; rw [if_pos ha, if_pos hw])
      have Hso := Lib.hid (kids_sorted hT dir)
      have Hsm := Lib.hid hsm
      clear ha hca hT hw hsm
      go_enter Tryz.func21, Tryz.ntmps21
      go_upto_region 9 with (first | (go_at_call 37; refine ((l1 _ _ hS inferInstance)).mono ?_; rintro e w' (⟨rfl, hS⟩)) | (go_at_call 39; refine ((l2 _ _ hS inferInstance)).mono ?_; rintro e w' (⟨rfl, hS⟩)))
      have h0 : KdI B R dir t ⟨0, none, [], 0⟩ _ := ⟨[], Nat.zero_le _, rfl, Nat.le_refl _, OwnSl.nothing, hS⟩
      clear hS l1 l2
      refine wp_loopS [8, 27] [10, 11, 12, 13, 28, 29, 30, 31, 32, 33, 34, 35, 36, 37, 38, 39, 40, 41, 42, 43, 44, 45] (fun x : KdSt => [.slice x.A x.out.length x.cap, .int .i64 x.i]) (KdI B R dir t) (fun x => t.length - x.i) (⟨0, none, [], 0⟩) rfl (h0) ?_
      clear h0
      rintro ⟨i, A4, out, cap4⟩ J w ⟨sp4, hi, hou, hlo, hO, hS⟩
      dsimp only at hi hou hlo hO hS
      have Hou := Lib.hid hou
      clear hou
      (simp only [Frm, setsT, junkT, List.setIfInBounds_toArray, List.set_cons_zero, List.set_cons_succ])
      by_cases hlt : i < t.length
      · obtain ⟨x, gx⟩ := Nth.of hlt
        have hxz := (Hsm.out x gx.mem).1
        have Htk := Lib.hid gx.take
        have ls := fun (w : World) (H : HL) (hS : Sh B H w) => SplitP_any hS x.path hxz
        have Hsn := Lib.hid (kidL_snoc dir (t.take i) x)
        unfold upP nmP at Hsn
        obtain ⟨⟨u, nm, er⟩, hs3⟩ : ∃ s, splitP x.path = s := ⟨_, rfl⟩
        rw [hs3] at ls Hsn
        have ls2 : ∀ (w : World) (H : HL) (hS : Sh B H w), Calls Tryz.prog 51 #[.string x.path] w fun e w' => e = .returned (.tuple #[.string u, .string nm, .int .i64 er]) ∧ Sh B H w' := ls
        clear ls hs3
        by_cases hu : u = dir
        · have d1 : (u.toList == dir.toList) = true := by rw [strEq]; simp [hu]
          have H1 := Lib.hid (show out ++ [nm] = kidL dir (t.take (i + 1)) by rw [Htk.out, Hsn.out, if_pos hu, Hou.out])
          clear hu
          go_wp2_with (first | (refine wl_alloc rfl rfl hS ?_; intro eb _ hS; (try simp only [Act.put, List.setIfInBounds_toArray, List.set_cons_zero, List.set_cons_succ])) | (go_at_call 51; refine ((ls2 _ _ hS)).mono ?_; rintro e w' (⟨rfl, hS⟩)) | (refine wl_buildSlice (E := strE) [nm] rfl rfl (by simp only [List.map_toArray, List.map_cons, List.map_nil]; rfl) rfl (by decide) (by decide) hS ?_; intro _ _ hS hN; (try simp only [Act.put, List.setIfInBounds_toArray, List.set_cons_zero, List.set_cons_succ])) | (refine wl_ap (E := strE) rfl rfl rfl rfl hS ?_ ?_ ?_ ?_ ?_; (focus (rfl)); (focus (rfl)); (focus ((simp only [List.length_cons, List.length_nil]; omega))); (focus decide); intro _ _ _ _ hO6 hS; (try simp only [Act.put, List.setIfInBounds_toArray, List.set_cons_zero, List.set_cons_succ])) | (refine wl_isld rfl ?_; ((first | refine wl_value rfl (ex_ldC hS rfl rfl CellAt.out) ?_ | refine wl_value rfl (ex_lr hS rfl rfl rfl rfl) ?_); (try simp only [Act.put, List.setIfInBounds_toArray, List.set_cons_zero, List.set_cons_succ]))) | ((refine wl_value rfl (ex_ix hS rfl rfl rfl ?_) ?_); (focus (rfl)); (try simp only [Act.put, List.setIfInBounds_toArray, List.set_cons_zero, List.set_cons_succ])) | (refine wl_strC rfl rfl rfl rfl hS rfl rfl ?_; intro _ hS; (try simp only [evT, evC, List.getD_cons_succ, List.getD_cons_zero, List.set_cons_zero, List.set_cons_succ] at hS); (try simp only [Act.put, List.setIfInBounds_toArray, List.set_cons_zero, List.set_cons_succ])))
          exact ⟨(⟨i + 1, _, out ++ [nm], _⟩ : KdSt), ⟨_, hlt, H1.out, (by dsimp only; rw [List.length_append]; simp; omega), hO6, hS.to⟩, (by dsimp only; omega), (by dsimp only; rw [List.length_append]; rfl), (by (simp only [blankT, junkT, List.cons_append, List.nil_append, List.setIfInBounds_toArray, List.set_cons_zero, List.set_cons_succ])), rfl⟩
        · have d1 : (u.toList == dir.toList) = false := by rw [strEq]; simp [hu]
          have H1 := Lib.hid (show out = kidL dir (t.take (i + 1)) by rw [Htk.out, Hsn.out, if_neg hu, Hou.out, List.append_nil])
          clear hu
          go_wp2_with (first | (refine wl_alloc rfl rfl hS ?_; intro eb _ hS; (try simp only [Act.put, List.setIfInBounds_toArray, List.set_cons_zero, List.set_cons_succ])) | (go_at_call 51; refine ((ls2 _ _ hS)).mono ?_; rintro e w' (⟨rfl, hS⟩)) | (refine wl_isld rfl ?_; ((first | refine wl_value rfl (ex_ldC hS rfl rfl CellAt.out) ?_ | refine wl_value rfl (ex_lr hS rfl rfl rfl rfl) ?_); (try simp only [Act.put, List.setIfInBounds_toArray, List.set_cons_zero, List.set_cons_succ]))) | ((refine wl_value rfl (ex_ix hS rfl rfl rfl ?_) ?_); (focus (rfl)); (try simp only [Act.put, List.setIfInBounds_toArray, List.set_cons_zero, List.set_cons_succ])) | (refine wl_strC rfl rfl rfl rfl hS rfl rfl ?_; intro _ hS; (try simp only [evT, evC, List.getD_cons_succ, List.getD_cons_zero, List.set_cons_zero, List.set_cons_succ] at hS); (try simp only [Act.put, List.setIfInBounds_toArray, List.set_cons_zero, List.set_cons_succ])))
          exact ⟨(⟨i + 1, A4, out, cap4⟩ : KdSt), ⟨_, hlt, H1.out, (by dsimp only; omega), hO, hS.to⟩, (by dsimp only; omega), rfl, (by (simp only [blankT, junkT, List.cons_append, List.nil_append, List.setIfInBounds_toArray, List.set_cons_zero, List.set_cons_succ])), rfl⟩
      · have hfin : out = kidL dir t := by rw [Hou.out, List.take_of_length_le (by omega)]
        have H1 := Lib.hid (show kidsR t dir = (out, 0) by rw [Hx.out, hfin])
        have hso : (out.map fun x => x.data.toList).Pairwise fun x y => x ≤ y := by rw [hfin]; exact Hso.out
        clear hfin
        have lz := fun (w : World) (H : HL) (hS : Sh B H w) (C : HL → HL) (hp : CtxRow H A4 (flat strE out ++ sp4) 9 C) => SortS_any hO hS (hp := hp) (by omega) hso
        go_wp2_with ((go_at_call 52; refine ((lz _ _ hS _ inferInstance)).mono ?_; rintro e w' (⟨rfl, hS⟩)))
        go_ret2
        rw [H1.out]
        exact ⟨_, _, _, rfl, hO, hS.to⟩
    · have Hx := Lib.hid (show kidsR t dir = ([], whereI t dir) by unfold kidsR; rw [if_pos ha, if_neg hw])
      obtain ⟨v, hv⟩ : ∃ v, whereI t dir = v := ⟨_, rfl⟩
      rw [hv] at l2 hw Hx
      have d2 : (v == 0) = false := beq_no hw
      have d3 : (v != 0) = true := bne_no hw
      clear ha hca hT hw hv
      go_enter Tryz.func21, Tryz.ntmps21
      go_wp2_with (first | (go_at_call 37; refine ((l1 _ _ hS inferInstance)).mono ?_; rintro e w' (⟨rfl, hS⟩)) | (go_at_call 39; refine ((l2 _ _ hS inferInstance)).mono ?_; rintro e w' (⟨rfl, hS⟩)))
      go_ret2
      rw [Hx.out]
      exact .bad hS.to
  · have Hx := Lib.hid (show kidsR t dir = ([], (checkA t).2) by unfold kidsR; rw [if_neg ha])
    obtain ⟨v, hv⟩ : ∃ v, (checkA t).2 = v := ⟨_, rfl⟩
    rw [hv] at l1 ha Hx
    have d2 : (v == 0) = false := beq_no ha
    have d3 : (v != 0) = true := bne_no ha
    clear ha hv
    go_enter Tryz.func21, Tryz.ntmps21
    go_wp2_with ((go_at_call 37; refine ((l1 _ _ hS inferInstance)).mono ?_; rintro e w' (⟨rfl, hS⟩)))
    go_ret2
    rw [Hx.out]
    exact .bad hS.to
theorem RRight_any [HasML B] (hS : Sh B R w) {A : Option Addr} {cap : Nat} {t : List En} [r : RdAt enE B R A t] (hc : t.length ≤ cap) (hl : t.length ≤ 16777216) (hsm : SmallE t) :
    Calls Tryz.prog 18 #[.slice A t.length cap] w fun e w' => e = .returned (.bool ((checkA t).2 == 0)) ∧ Sh B R w' := by
  have l1 := fun (w : World) (H : HL) (hS : Sh B H w) (r : RdAt enE B H A t) => CheckR_any hS (A := A) (cap := cap) (t := t) (r := r) hc hl hsm
  rw [← checks_same] at l1
  obtain ⟨v, hv⟩ : ∃ v, checkA t = v := ⟨_, rfl⟩
  rw [hv] at l1 ⊢
  clear hv
  go_enter Tryz.func18, Tryz.ntmps18
  go_wp2_with ((go_at_call 31; refine ((l1 _ _ hS inferInstance)).mono ?_; rintro e w' (⟨rfl, hS⟩)))
  go_ret
  exact ⟨rfl, hS.to⟩
end
end Go.Tk

set_option linter.unusedSectionVars false
set_option linter.unusedSimpArgs false
set_option linter.unusedVariables false
namespace Go.Tk
open Go.RowKit Go.Proofs
/-- What is wanted of a walk. -/
def wantL (t : List En) (dir : ByteArray) : List En := if (subR t dir).2 = 0 then (subR t dir).1 else []
theorem want_walk (t : List En) (dir : ByteArray) : wantL t dir = (belowL dir (walkT t dir)).map (cutE dir) := by
  unfold wantL subR walkT
  by_cases h1 : (checkA t).2 = 0
  · rw [if_pos h1, if_pos h1]
    by_cases h2 : whereI t dir = 0
    · rw [if_pos h2, if_pos h2, if_pos rfl]
    · rw [if_neg h2, if_neg h2, if_neg h2]; rfl
  · rw [if_neg h1, if_neg h1, if_neg h1]; rfl
theorem walk_at {t : List En} {dir : ByteArray} {pre : List En} {x : En} (hx : x ∈ walkT t dir) (hab : aboveB dir x.path = true) (hp : pre ++ [x] <+: belowL dir (walkT t dir)) :
    Nth (wantL t dir) pre.length (cutE dir x) ∧ putP dir (cutE dir x).path = x.path ∧ (∃ k, Nth t k x ∧ findI t x.path = k) ∧ (∃ l, namesB x.path = some l ∧ l ≠ []) ∧ x ∈ t ∧ pre.length < (belowL dir (walkT t dir)).length := by
  obtain ⟨hxt, hd, hw⟩ : x ∈ t ∧ RightT t ∧ okP dir = true := by
    unfold walkT at hx
    by_cases h1 : (checkA t).2 = 0
    · rw [if_pos h1] at hx
      by_cases h2 : whereI t dir = 0
      · rw [if_pos h2] at hx
        exact ⟨hx, (right_of h1).2, whereI_ok h2⟩
      · rw [if_neg h2] at hx; cases hx
    · rw [if_neg h1] at hx; cases hx
  obtain ⟨D, hD⟩ := okP_some hw
  have ok := mayB_ok (hd.may x hxt)
  obtain ⟨z, _, _, _, h5⟩ := below_cut hD hab ok.1
  obtain ⟨l, hl⟩ := okP_some ok.1
  obtain ⟨r, hr⟩ := hp
  refine ⟨?_, ?_, ?_, ⟨l, hl, fun h0 => ok.2 ((namesL_join hl).2.1 h0)⟩, hxt, ?_⟩
  · rw [want_walk, ← hr]
    refine ⟨?_⟩
    rw [List.getElem?_map, List.append_assoc, List.getElem?_append_right (Nat.le_refl _)]
    simp
  · have := congrArg En.path h5
    exact this
  · rcases find_idx (t := t) (p := x.path) with ⟨_, _, _, _, h6⟩ | ⟨i, y, h3, _, gy, h4, _⟩
    · exact absurd rfl (h6 x hxt)
    · have : y = x := Dist.inj hd.sorted.dist gy.mem hxt h4
      subst this
      exact ⟨i, gy, h3⟩
  · rw [← hr]; simp
theorem walk_few (t : List En) (dir : ByteArray) : (walkT t dir).length ≤ 1024 := by
  unfold walkT
  by_cases h1 : (checkA t).2 = 0
  · rw [if_pos h1]
    by_cases h2 : whereI t dir = 0
    · rw [if_pos h2]; exact (right_of h1).2.few
    · rw [if_neg h2]; exact Nat.zero_le _
  · rw [if_neg h1]; exact Nat.zero_le _
theorem walk_mem2 {t : List En} {dir : ByteArray} {x : En} (hx : x ∈ walkT t dir) : x ∈ t := by
  unfold walkT at hx
  by_cases h1 : (checkA t).2 = 0
  · rw [if_pos h1] at hx
    by_cases h2 : whereI t dir = 0
    · rw [if_pos h2] at hx
      exact hx
    · rw [if_neg h2] at hx; cases hx
  · rw [if_neg h1] at hx; cases hx
def WaJ (l D nb : Nat) (o : Obj) (pre : List En) (d : HL) : Prop :=
  d = objB l o ++ (cellB nb [.int .i64 pre.length] 3 ++ (objB D (.deferred (some [])) ++ []))
def noX (_ : List En) (_ : HL) : Prop := False
section
variable {B : Base} {R H H1 : HL} {w w' : World}
set_option maxRecDepth 100000 in
set_option maxHeartbeats 6400000 in
theorem Walked_any [HasML B] [NoDraw B] (hS : Sh B R w) {A : Option Addr} {cap : Nat} {t : List En} [r : RdAt enE B R A t] (hc : t.length ≤ cap) (hl : t.length ≤ 8388608) (hsm : SmallE t) (dir : ByteArray) (hdir : dir.size ≤ 1048576) (htp : ∀ e ∈ t, e.path.size ≤ 1048576) :
    Calls Tryz.prog 25 #[.slice A t.length cap, .string dir] w fun e w' => e = .returned (.bool true) ∧ Sh B R w' := by
  have l0 := fun (w : World) (H : HL) (hS : Sh B H w) (r : RdAt enE B H A t) => Walk_any hS (A := A) (cap := cap) (t := t) (r := r) (by omega) hsm dir (by omega)
  have l1 := fun (w : World) (H : HL) (hS : Sh B H w) (r : RdAt enE B H A t) => RSub_any hS (A := A) (cap := cap) (t := t) (r := r) hc (by omega) hsm dir (by omega)
  have Hsm := Lib.hid hsm
  have Hwt := Lib.hid (fun (pre : List En) (x : En) (h1 : x ∈ walkT t dir) h2 h3 => walk_at (t := t) (dir := dir) (pre := pre) (x := x) h1 h2 h3)
  have hTl := walk_few t dir
  obtain ⟨T, hT⟩ : ∃ T, walkT t dir = T := ⟨_, rfl⟩
  have Hww := Lib.hid (want_walk t dir)
  obtain ⟨Y, hY⟩ : ∃ Y, wantL t dir = Y := ⟨_, rfl⟩
  have Hin := Lib.hid (fun (x : En) (h : x ∈ walkT t dir) => walk_mem2 h)
  rw [hT] at l0 Hwt hTl Hww Hin
  rw [hY] at Hwt Hww
  unfold wantL at hY
  obtain ⟨⟨W, e⟩, hX⟩ : ∃ X, subR t dir = X := ⟨_, rfl⟩
  rw [hX] at l1 hY
  dsimp only at hY
  clear hsm hT hX
  refine calls_of_marks Tryz.func25 rfl ?_
  simp only [Tryz.ntmps25, List.size_toArray, List.length_cons, List.length_nil, Nat.reduceAdd, Nat.reduceSub, Array.replicate_succ, Array.replicate_zero, List.push_toArray, List.append_toArray, List.nil_append, List.cons_append]
  go_upto_region 1 with (first | ((fail_if_success (have _hh := tb)); (refine wl_box rfl rfl rfl rfl hS ?_; intro tb _ hS; (try simp only [Act.put, List.setIfInBounds_toArray, List.set_cons_zero, List.set_cons_succ]))) | ((fail_if_success (have _hh := lb)); (refine wl_box rfl rfl rfl rfl hS ?_; intro lb _ hS; (try simp only [Act.put, List.setIfInBounds_toArray, List.set_cons_zero, List.set_cons_succ]))) | (refine wl_alloc rfl rfl hS ?_; intro rb _ hS; (try simp only [Act.put, List.setIfInBounds_toArray, List.set_cons_zero, List.set_cons_succ])))
  have hS : Sh B (cellB rb [.bool false] 4 ++ (cellB lb [.string dir] 9 ++ (cellB tb [.slice A t.length cap] 22 ++ R))) _ := hS
  go_upto_region 3 with (first | (refine wl_alloc rfl rfl hS ?_; intro wb _ hS; (try simp only [Act.put, List.setIfInBounds_toArray, List.set_cons_zero, List.set_cons_succ])) | (go_at_call 10; refine ((l1 _ _ hS inferInstance)).mono ?_; rintro e w' (⟨A5, sp5, cap5, rfl, hO5, hS⟩)) | (refine wl_isld rfl ?_; ((refine wl_value rfl (ex_ldC hS rfl rfl CellAt.out) ?_); (try simp only [Act.put, List.setIfInBounds_toArray, List.set_cons_zero, List.set_cons_succ]))))
  have hob : (if e = 0 then W else []) = Y := hY
  clear l1 hY
  by_cases he : e = 0
  focus
    rw [if_pos he] at hob
    have hob2 := hob.symm
    subst hob2
    have d1 : (e == 0) = true := by rw [he]; rfl
    go_upto_region 5 with ((refine wl_st rfl rfl rfl rfl rfl hS (of_decide_eq_true rfl) ?_; intro _ hS; (try simp only [evT, evC, List.getD_cons_succ, List.getD_cons_zero, List.set_cons_zero, List.set_cons_succ] at hS); (try simp only [List.set_cons_zero, List.set_cons_succ] at hS); (try simp only [Act.put, List.setIfInBounds_toArray, List.set_cons_zero, List.set_cons_succ])))
    obtain ⟨Aw, spw, capw, hOw, hS⟩ : ∃ Aw spw capw, OwnSl enE Aw Y spw capw ∧ Sh B (rowA Aw (flat enE Y ++ spw) 24 ++ (cellB wb [.slice Aw Y.length capw] 22 ++ (cellB rb [.bool false] 4 ++ (cellB lb [.string dir] 9 ++ (cellB tb [.slice A t.length cap] 22 ++ R))))) _ := ⟨A5, sp5, cap5, hO5, hS.to⟩
    clear hO5 d1
  rotate_left
  focus
    rw [if_neg he] at hob
    have d1 : (e == 0) = false := beq_no he
    go_upto_region 5 with (fail)
    have h2 := hS.to (H' := cellB wb [.slice none 0 0] 22 ++ (cellB rb [.bool false] 4 ++ (cellB lb [.string dir] 9 ++ (cellB tb [.slice A t.length cap] 22 ++ R))))
    obtain ⟨Aw, spw, capw, hOw, hS⟩ : ∃ Aw spw capw, OwnSl enE Aw Y spw capw ∧ Sh B (rowA Aw (flat enE Y ++ spw) 24 ++ (cellB wb [.slice Aw Y.length capw] 22 ++ (cellB rb [.bool false] 4 ++ (cellB lb [.string dir] 9 ++ (cellB tb [.slice A t.length cap] 22 ++ R))))) _ := by
      rw [← hob]
      exact ⟨none, [], 0, OwnSl.nothing, h2⟩
    clear h2 hO5 d1 hob
  all_goals
    have hYl : Y.length ≤ 1024 := by
      rw [Hww.out, List.length_map]
      have := List.length_filter_le (fun e : En => aboveB dir e.path) T
      unfold belowL
      omega
    go_upto_region 7 with (first | (refine wl_alloc rfl rfl hS ?_; intro nb _ hS; (try simp only [Act.put, List.setIfInBounds_toArray, List.set_cons_zero, List.set_cons_succ])) | (go_at_call 54; refine ((l0 _ _ hS inferInstance)).mono ?_; rintro e w' (⟨sb, db, A3, sp3, cap3, rfl, hO3, hS⟩)) | (refine wl_isld rfl ?_; ((refine wl_value rfl (ex_ldC hS rfl rfl CellAt.out) ?_); (try simp only [Act.put, List.setIfInBounds_toArray, List.set_cons_zero, List.set_cons_succ]))) | (refine wl_st rfl rfl rfl rfl rfl hS (of_decide_eq_true rfl) ?_; intro _ hS; (try simp only [evT, evC, List.getD_cons_succ, List.getD_cons_zero, List.set_cons_zero, List.set_cons_succ] at hS); (try simp only [List.set_cons_zero, List.set_cons_succ] at hS); (try simp only [Act.put, List.setIfInBounds_toArray, List.set_cons_zero, List.set_cons_succ])))
    unfold walkH at hS
    simp only [List.append_assoc, List.cons_append, List.nil_append] at hS
    have hS := hS.to (H' := cellB nb [.int .i64 0] 3 ++ (cellB sb [.slice A3 T.length cap3] 22 ++ (cellB db [.string dir] 9 ++ (rowA A3 (flat enE T ++ sp3) 24 ++ (rowA Aw (flat enE Y ++ spw) 24 ++ (cellB wb [.slice Aw Y.length capw] 22 ++ (cellB rb [.bool false] 4 ++ (cellB lb [.string dir] 9 ++ (cellB tb [.slice A t.length cap] 22 ++ R)))))))))
    refine wp_rangeO hS rfl (EntersC.out (P := Tryz.prog) (f := 70)) ?_
    intro fn l D w2 O hL hS
    refine (Walk1_pre (B := B) (R := rowA A3 (flat enE T ++ sp3) 24 ++ (rowA Aw (flat enE Y ++ spw) 24 ++ (cellB wb [.slice Aw Y.length capw] 22 ++ (cellB rb [.bool false] 4 ++ (cellB lb [.string dir] 9 ++ (cellB tb [.slice A t.length cap] 22 ++ R)))))) (sb := sb) (db := db) (l0 := l) (A := A3) (cap := cap3) (t := T) (dir := dir) (r := inferInstance) (J := WaJ l D nb (O .ready none)) (Jx := noX) (by omega) (by omega) (fun x hx => Hsm.out x (Hin.out x hx)) ?_ (d := objB l (O .ready none) ++ (cellB nb [.int .i64 0] 3 ++ (objB D (.deferred (some [])) ++ []))) rfl ?_).mono ?_
    · rintro F pre x d w hx hpl hab hpx rfl hS
      obtain ⟨gw, hpp, ⟨k, gk, hk⟩, ⟨ln, hln, hlnn⟩, hxt, hlt⟩ := Hwt.out pre x hx hab hpx
      simp only [List.append_assoc, List.nil_append] at hS
      have hwl := gw.lt
      have hxs := Hsm.out x hxt
      have hxp := htp x hxt
      have lf0 := fun (w : World) (H : HL) (hS : Sh B H w) (r : RdAt enE B H A t) => FindR_any hS (cap := cap) (t := t) (r := r) (by omega) x.path
      rw [hk] at lf0
      have la0 := fun (w : World) (H : HL) (hS : Sh B H w) => Last_any hS x.path (by omega) hln hlnn
      obtain ⟨nm, hnm⟩ : ∃ nm, nmP x.path = nm := ⟨_, rfl⟩
      rw [hnm] at la0
      have lf : ∀ (s : ByteArray) (hs : s = x.path) (w : World) (H : HL) (hS : Sh B H w) (r : RdAt enE B H A t), Calls Tryz.prog 20 #[.slice A t.length cap, .string s] w fun e w' => e = .returned (.int .i64 k) ∧ Sh B H w' := fun s hs => by rw [hs]; exact lf0
      have la : ∀ (s : ByteArray) (hs : s = x.path) (w : World) (H : HL) (hS : Sh B H w), Calls Tryz.prog 55 #[.string s] w fun e w' => e = .returned (.string nm) ∧ Sh B H w' := fun s hs => by rw [hs]; exact la0
      clear lf0 la0
      have hnm2 : (splitP x.path).2.1 = nm := hnm
      rw [hnm2]
      clear hnm hnm2
      obtain ⟨y, hy⟩ : ∃ y, cutE dir x = y := ⟨_, rfl⟩
      rw [hy] at gw hpp
      haveI qE : EqA Tryz.prog 24 x.cells (enE.cells x) true := eqE_yes x
      have dk : decide ((k : Int) < 0) = false := decide_eq_false (by omega)
      have dn : decide ((pre.length : Int) ≥ (Y.length : Int)) = false := decide_eq_false (by omega)
      have dn2 : decide ((Y.length : Int) ≤ (pre.length : Int)) = false := decide_eq_false (by omega)
      have dnm : (nm.toList == nm.toList) = true := by simp
      clear hy hlt
      refine hL.yield2 hS ?_
      intro K hK
      (try simp only [Act.put, List.setIfInBounds_toArray, List.set_cons_zero, List.set_cons_succ])
      refine wpIn_seq_k fun K1 h1 => ?_
      refine wpIn_region_of (by rintro ⟨a, w, h⟩; exact h) rfl ?_
      go_wp2_with (fail)
      refine wpIn_region_of (by rintro ⟨a, w, h⟩; exact h) rfl ?_
      go_wp2_with (first | (refine wl_alloc rfl rfl hS ?_; intro xb _ hS; (try simp only [Act.put, List.setIfInBounds_toArray, List.set_cons_zero, List.set_cons_succ])) | (refine wl_strC rfl rfl rfl rfl hS rfl rfl ?_; intro _ hS; (try simp only [evT, evC, List.getD_cons_succ, List.getD_cons_zero, List.set_cons_zero, List.set_cons_succ] at hS); (try simp only [Act.put, List.setIfInBounds_toArray, List.set_cons_zero, List.set_cons_succ])))
      refine hK _ _ (cellB xb x.cells 24 ++ (cellB nb [.int .i64 pre.length] 3 ++ (objB D (.deferred (some [])) ++ (F ++ (cellB sb [.slice A3 T.length cap3] 22 ++ (cellB db [.string dir] 9 ++ (rowA A3 (flat enE T ++ sp3) 24 ++ (rowA Aw (flat enE Y ++ spw) 24 ++ (cellB wb [.slice Aw Y.length capw] 22 ++ (cellB rb [.bool false] 4 ++ (cellB lb [.string dir] 9 ++ (cellB tb [.slice A t.length cap] 22 ++ R)))))))))))) hS.to ?_
      clear hK hS
      intro w3 hS
      refine wpIn_block ?_
      refine wpIn_seq_k fun K2 h2 => ?_
      refine wpIn_seq_k fun K3 h3 => ?_
      refine wpIn_region_of (by rintro ⟨a, w, h⟩; exact h) rfl ?_
      go_wp2_with ((refine wl_isld rfl ?_; ((refine wl_value rfl (ex_ldC hS rfl rfl CellAt.out) ?_); (try simp only [Act.put, List.setIfInBounds_toArray, List.set_cons_zero, List.set_cons_succ]))))
      refine wpIn_cond_false (by go_simp) ?_
      refine wpIn_skip ?_
      refine h2 _ _ ?_
      clear h2
      refine wpIn_seq_k fun K4 h4 => ?_
      refine wpIn_region_of (by rintro ⟨a, w, h⟩; exact h) rfl ?_
      go_wp2_with (first | (refine wl_isld rfl ?_; ((first | refine wl_value rfl (ex_l0 hS rfl rfl rfl CellAt.out) ?_ | refine wl_value rfl (ex_ldC hS rfl rfl CellAt.out) ?_); (try simp only [Act.put, List.setIfInBounds_toArray, List.set_cons_zero, List.set_cons_succ]))) | ((refine wl_value rfl (ex_ix hS rfl rfl rfl ?_) ?_); (focus (rfl)); (try simp only [Act.put, List.setIfInBounds_toArray, List.set_cons_zero, List.set_cons_succ])))
      refine wpIn_seq_k fun K5 h5 => ?_
      refine wpIn_seq_k fun K6 h6 => ?_
      by_cases hz : dir.size = 0
      · have hde : dir.toList = [] := (empty_prop dir).2 hz
        have d1 : dir.toList.isEmpty = true := by rw [hde]; rfl
        have Hpx := Lib.hid (show y.path = x.path by rw [← hpp]; unfold putP; rw [if_pos hz])
        clear hpp
        refine wpIn_region_of (by rintro ⟨a, w, h⟩; exact h) rfl ?_
        go_wp2_with ((refine wl_isld rfl ?_; ((refine wl_value rfl (ex_ldC hS rfl rfl CellAt.out) ?_); (try simp only [Act.put, List.setIfInBounds_toArray, List.set_cons_zero, List.set_cons_succ]))))
        refine wpIn_cond_false (by go_simp) ?_
        refine wpIn_skip ?_
        refine h5 _ _ ?_
        clear h5
        refine wpIn_seq_k fun K7 h7 => ?_
        refine wpIn_region_of (by rintro ⟨a, w, h⟩; exact h) rfl ?_
        go_wp2_with (first | (go_at_call 20; refine ((lf _ Hpx.out _ _ hS inferInstance)).mono ?_; rintro e w' (⟨rfl, hS⟩)) | (refine wl_isld rfl ?_; ((refine wl_value rfl (ex_ldC hS rfl rfl CellAt.out) ?_); (try simp only [Act.put, List.setIfInBounds_toArray, List.set_cons_zero, List.set_cons_succ]))))
        refine wpIn_seq_k fun K8 h8 => ?_
        refine wpIn_seq_k fun K9 h9 => ?_
        (refine wp_drawnFR hS [(0, true), (1, true), (2, true), (3, true), (4, true), (5, true), (6, true), (7, true), (8, true), (9, true), (10, true), (11, true), (12, true), (13, false), (14, true), (15, true)] (by kernel_rfl) (by kernel_rfl) (by intro d _ _ _ _ h; cases d <;> exact h) (by rintro ⟨a, w, h⟩; exact h) ?_; have hS := hS.drew; simp only [picks_cons, picks_nil, opAt, List.toList_toArray]; (refine wpF_U (v := ?_) rfl ?_ (Sh.to hS) ?_; rotate_left; (focus (intro _ _; go_simp; (try (rw [wrap_i64]; (rotate_left; omega))); (try with_reducible rfl))); (try simp only [Act.put, List.setIfInBounds_toArray, List.set_cons_zero, List.set_cons_succ])); (refine wpF_U (v := ?_) rfl ?_ (Sh.to hS) ?_; rotate_left; (focus (intro _ _; go_simp; (try (rw [wrap_i64]; (rotate_left; omega))); (try with_reducible rfl))); (try simp only [Act.put, List.setIfInBounds_toArray, List.set_cons_zero, List.set_cons_succ])); (refine wpF_U (v := ?_) rfl ?_ (Sh.to hS) ?_; rotate_left; (focus (intro _ _; go_simp; (try (rw [wrap_i64]; (rotate_left; omega))); (try with_reducible rfl))); (try simp only [Act.put, List.setIfInBounds_toArray, List.set_cons_zero, List.set_cons_succ])); (((refine wpF_U rfl (fun _ hT => ex_ldr0 hT rfl rfl rfl) (Sh.to hS) ?_); (try simp only [Act.put, List.setIfInBounds_toArray, List.set_cons_zero, List.set_cons_succ]))); (((refine wpF_U rfl (fun _ hT => ex_ldC hT rfl rfl CellAt.out) (Sh.to hS) ?_); (try simp only [Act.put, List.setIfInBounds_toArray, List.set_cons_zero, List.set_cons_succ]))); ((refine wpF_U (v := ?_) rfl ?_ (Sh.to hS) ?_; rotate_left; (focus (intro _ _; go_simp; (try (rw [wrap_i64]; (rotate_left; omega))); (try with_reducible rfl))); (try simp only [Act.put, List.setIfInBounds_toArray, List.set_cons_zero, List.set_cons_succ]))); (((refine wpF_U rfl (fun _ hT => ex_ix hT rfl rfl rfl ?_) (Sh.to hS) ?_); (focus (rfl)); (try simp only [Act.put, List.setIfInBounds_toArray, List.set_cons_zero, List.set_cons_succ]))); (((refine wpF_U rfl (fun _ hT => ex_lr hT rfl rfl rfl rfl) (Sh.to hS) ?_); (try simp only [Act.put, List.setIfInBounds_toArray, List.set_cons_zero, List.set_cons_succ]))); (((refine wpF_U rfl (fun _ hT => ex_neA rfl rfl rfl) (Sh.to hS) ?_); (try simp only [Act.put, List.setIfInBounds_toArray, List.set_cons_zero, List.set_cons_succ]))); (refine wpF_U (v := ?_) rfl ?_ (Sh.to hS) ?_; rotate_left; (focus (intro _ _; go_simp; (try (rw [wrap_i64]; (rotate_left; omega))); (try with_reducible rfl))); (try simp only [Act.put, List.setIfInBounds_toArray, List.set_cons_zero, List.set_cons_succ])); (refine wpF_U (v := ?_) rfl ?_ (Sh.to hS) ?_; rotate_left; (focus (intro _ _; go_simp; (try (rw [wrap_i64]; (rotate_left; omega))); (try with_reducible rfl))); (try simp only [Act.put, List.setIfInBounds_toArray, List.set_cons_zero, List.set_cons_succ])); ((refine wpF_U (v := ?_) rfl ?_ (Sh.to hS) ?_; rotate_left; (focus (intro _ _; go_simp; (try (rw [wrap_i64]; (rotate_left; omega))); (try with_reducible rfl))); (try simp only [Act.put, List.setIfInBounds_toArray, List.set_cons_zero, List.set_cons_succ]))); ((refine wpF_U (v := ?_) rfl ?_ (Sh.to hS) ?_; rotate_left; (focus (intro _ _; go_simp; (try (rw [wrap_i64]; (rotate_left; omega))); (try with_reducible rfl))); (try simp only [Act.put, List.setIfInBounds_toArray, List.set_cons_zero, List.set_cons_succ]))); (refine wpF_ex ?_); go_wp2_with ((go_at_call 55; refine ((la _ Hpx.out _ _ hS)).mono ?_; rintro e w' (⟨rfl, hS⟩))); (refine ⟨?_, ?_⟩; (focus ((refine Or.inr ?_; exact Sh.to hS)))); ((refine wpF_U (v := ?_) rfl ?_ (Sh.to hS) ?_; rotate_left; (focus (intro _ _; go_simp; (try (rw [wrap_i64]; (rotate_left; omega))); (try with_reducible rfl))); (try simp only [Act.put, List.setIfInBounds_toArray, List.set_cons_zero, List.set_cons_succ]))); (refine wpF_U (v := ?_) rfl ?_ (Sh.to hS) ?_; rotate_left; (focus (intro _ _; go_simp; (try (rw [wrap_i64]; (rotate_left; omega))); (try with_reducible rfl))); (try simp only [Act.put, List.setIfInBounds_toArray, List.set_cons_zero, List.set_cons_succ])); ((refine wpF_done (by assumption) ?_)))
        refine wpIn_cond_false (by go_simp) ?_
        refine wpIn_skip ?_
        refine h8 _ _ ?_
        clear h8
        refine wpIn_region_of (by rintro ⟨a, w, h⟩; exact h) rfl ?_
        go_wp2_with (first | (refine wl_isld rfl ?_; ((refine wl_value rfl (ex_ldC hS rfl rfl CellAt.out) ?_); (try simp only [Act.put, List.setIfInBounds_toArray, List.set_cons_zero, List.set_cons_succ]))) | (refine wl_st rfl rfl rfl rfl rfl hS (of_decide_eq_true rfl) ?_; intro _ hS; (try simp only [evT, evC, List.getD_cons_succ, List.getD_cons_zero, List.set_cons_zero, List.set_cons_succ] at hS); (try simp only [List.set_cons_zero, List.set_cons_succ] at hS); (try simp only [Act.put, List.setIfInBounds_toArray, List.set_cons_zero, List.set_cons_succ])))
        (try simp only [Exit.inBlock])
        rw [show (pre.length : Int) + 1 = (((pre ++ [x]).length : Nat) : Int) by simp] at hS
        refine hL.end_ (H := cellB nb [.int .i64 (pre ++ [x]).length] 3 ++ (objB D (.deferred (some [])) ++ (F ++ (cellB sb [.slice A3 T.length cap3] 22 ++ (cellB db [.string dir] 9 ++ (rowA A3 (flat enE T ++ sp3) 24 ++ (rowA Aw (flat enE Y ++ spw) 24 ++ (cellB wb [.slice Aw Y.length capw] 22 ++ (cellB rb [.bool false] 4 ++ (cellB lb [.string dir] 9 ++ (cellB tb [.slice A t.length cap] 22 ++ R))))))))))) hS.to ?_
        intro w5 hS
        refine .inl ⟨rfl, _, rfl, ?_⟩
        simp only [List.append_assoc, List.nil_append]
        exact hS.to
      · have hde : ¬ dir.toList = [] := fun h => hz ((empty_prop dir).1 h)
        have d1 : dir.toList.isEmpty = false := by rw [empty_iff]; exact decide_eq_false hz
        have hpx : dir ++ slash ++ y.path = x.path := by rw [← hpp]; unfold putP; rw [if_neg hz]
        have hps : (dir ++ slash ++ y.path).size ≤ 16777216 := by rw [hpx]; omega
        have hyp : y.path.size ≤ 1048576 := by
          have h1 := congrArg ByteArray.size hpx
          rw [ByteArray.size_append, ByteArray.size_append] at h1
          omega
        have Hpx := Lib.hid hpx
        clear hpx hpp
        refine wpIn_region_of (by rintro ⟨a, w, h⟩; exact h) rfl ?_
        go_wp2_with ((refine wl_isld rfl ?_; ((refine wl_value rfl (ex_ldC hS rfl rfl CellAt.out) ?_); (try simp only [Act.put, List.setIfInBounds_toArray, List.set_cons_zero, List.set_cons_succ]))))
        refine wpIn_cond_true (by go_simp) ?_
        refine wpIn_region_of (by rintro ⟨a, w, h⟩; exact h) rfl ?_
        go_wp2_with ((refine wl_isld rfl ?_; ((refine wl_value rfl (ex_ldC hS rfl rfl CellAt.out) ?_); (try simp only [Act.put, List.setIfInBounds_toArray, List.set_cons_zero, List.set_cons_succ]))))
        refine wpIn_seq_k fun K7 h7 => ?_
        refine wpIn_region_of (by rintro ⟨a, w, h⟩; exact h) rfl ?_
        go_wp2_with (first | (go_at_call 20; refine ((lf _ Hpx.out _ _ hS inferInstance)).mono ?_; rintro e w' (⟨rfl, hS⟩)) | (refine wl_isld rfl ?_; ((refine wl_value rfl (ex_ldC hS rfl rfl CellAt.out) ?_); (try simp only [Act.put, List.setIfInBounds_toArray, List.set_cons_zero, List.set_cons_succ]))))
        refine wpIn_seq_k fun K8 h8 => ?_
        refine wpIn_seq_k fun K9 h9 => ?_
        (refine wp_drawnFR hS [(0, true), (1, true), (2, true), (3, true), (4, true), (5, true), (6, true), (7, true), (8, true), (9, true), (10, true), (11, true), (12, true), (13, false), (14, true), (15, true)] (by kernel_rfl) (by kernel_rfl) (by intro d _ _ _ _ h; cases d <;> exact h) (by rintro ⟨a, w, h⟩; exact h) ?_; have hS := hS.drew; simp only [picks_cons, picks_nil, opAt, List.toList_toArray]; (refine wpF_U (v := ?_) rfl ?_ (Sh.to hS) ?_; rotate_left; (focus (intro _ _; go_simp; (try (rw [wrap_i64]; (rotate_left; omega))); (try with_reducible rfl))); (try simp only [Act.put, List.setIfInBounds_toArray, List.set_cons_zero, List.set_cons_succ])); (refine wpF_U (v := ?_) rfl ?_ (Sh.to hS) ?_; rotate_left; (focus (intro _ _; go_simp; (try (rw [wrap_i64]; (rotate_left; omega))); (try with_reducible rfl))); (try simp only [Act.put, List.setIfInBounds_toArray, List.set_cons_zero, List.set_cons_succ])); (refine wpF_U (v := ?_) rfl ?_ (Sh.to hS) ?_; rotate_left; (focus (intro _ _; go_simp; (try (rw [wrap_i64]; (rotate_left; omega))); (try with_reducible rfl))); (try simp only [Act.put, List.setIfInBounds_toArray, List.set_cons_zero, List.set_cons_succ])); (((refine wpF_U rfl (fun _ hT => ex_ldr0 hT rfl rfl rfl) (Sh.to hS) ?_); (try simp only [Act.put, List.setIfInBounds_toArray, List.set_cons_zero, List.set_cons_succ]))); (((refine wpF_U rfl (fun _ hT => ex_ldC hT rfl rfl CellAt.out) (Sh.to hS) ?_); (try simp only [Act.put, List.setIfInBounds_toArray, List.set_cons_zero, List.set_cons_succ]))); ((refine wpF_U (v := ?_) rfl ?_ (Sh.to hS) ?_; rotate_left; (focus (intro _ _; go_simp; (try (rw [wrap_i64]; (rotate_left; omega))); (try with_reducible rfl))); (try simp only [Act.put, List.setIfInBounds_toArray, List.set_cons_zero, List.set_cons_succ]))); (((refine wpF_U rfl (fun _ hT => ex_ix hT rfl rfl rfl ?_) (Sh.to hS) ?_); (focus (rfl)); (try simp only [Act.put, List.setIfInBounds_toArray, List.set_cons_zero, List.set_cons_succ]))); (((refine wpF_U rfl (fun _ hT => ex_lr hT rfl rfl rfl rfl) (Sh.to hS) ?_); (try simp only [Act.put, List.setIfInBounds_toArray, List.set_cons_zero, List.set_cons_succ]))); (((refine wpF_U rfl (fun _ hT => ex_neA rfl rfl rfl) (Sh.to hS) ?_); (try simp only [Act.put, List.setIfInBounds_toArray, List.set_cons_zero, List.set_cons_succ]))); (refine wpF_U (v := ?_) rfl ?_ (Sh.to hS) ?_; rotate_left; (focus (intro _ _; go_simp; (try (rw [wrap_i64]; (rotate_left; omega))); (try with_reducible rfl))); (try simp only [Act.put, List.setIfInBounds_toArray, List.set_cons_zero, List.set_cons_succ])); (refine wpF_U (v := ?_) rfl ?_ (Sh.to hS) ?_; rotate_left; (focus (intro _ _; go_simp; (try (rw [wrap_i64]; (rotate_left; omega))); (try with_reducible rfl))); (try simp only [Act.put, List.setIfInBounds_toArray, List.set_cons_zero, List.set_cons_succ])); ((refine wpF_U (v := ?_) rfl ?_ (Sh.to hS) ?_; rotate_left; (focus (intro _ _; go_simp; (try (rw [wrap_i64]; (rotate_left; omega))); (try with_reducible rfl))); (try simp only [Act.put, List.setIfInBounds_toArray, List.set_cons_zero, List.set_cons_succ]))); ((refine wpF_U (v := ?_) rfl ?_ (Sh.to hS) ?_; rotate_left; (focus (intro _ _; go_simp; (try (rw [wrap_i64]; (rotate_left; omega))); (try with_reducible rfl))); (try simp only [Act.put, List.setIfInBounds_toArray, List.set_cons_zero, List.set_cons_succ]))); (refine wpF_ex ?_); go_wp2_with ((go_at_call 55; refine ((la _ Hpx.out _ _ hS)).mono ?_; rintro e w' (⟨rfl, hS⟩))); (refine ⟨?_, ?_⟩; (focus ((refine Or.inr ?_; exact Sh.to hS)))); ((refine wpF_U (v := ?_) rfl ?_ (Sh.to hS) ?_; rotate_left; (focus (intro _ _; go_simp; (try (rw [wrap_i64]; (rotate_left; omega))); (try with_reducible rfl))); (try simp only [Act.put, List.setIfInBounds_toArray, List.set_cons_zero, List.set_cons_succ]))); (refine wpF_U (v := ?_) rfl ?_ (Sh.to hS) ?_; rotate_left; (focus (intro _ _; go_simp; (try (rw [wrap_i64]; (rotate_left; omega))); (try with_reducible rfl))); (try simp only [Act.put, List.setIfInBounds_toArray, List.set_cons_zero, List.set_cons_succ])); ((refine wpF_done (by assumption) ?_)))
        refine wpIn_cond_false (by go_simp) ?_
        refine wpIn_skip ?_
        refine h8 _ _ ?_
        clear h8
        refine wpIn_region_of (by rintro ⟨a, w, h⟩; exact h) rfl ?_
        go_wp2_with (first | (refine wl_isld rfl ?_; ((refine wl_value rfl (ex_ldC hS rfl rfl CellAt.out) ?_); (try simp only [Act.put, List.setIfInBounds_toArray, List.set_cons_zero, List.set_cons_succ]))) | (refine wl_st rfl rfl rfl rfl rfl hS (of_decide_eq_true rfl) ?_; intro _ hS; (try simp only [evT, evC, List.getD_cons_succ, List.getD_cons_zero, List.set_cons_zero, List.set_cons_succ] at hS); (try simp only [List.set_cons_zero, List.set_cons_succ] at hS); (try simp only [Act.put, List.setIfInBounds_toArray, List.set_cons_zero, List.set_cons_succ])))
        (try simp only [Exit.inBlock])
        rw [show (pre.length : Int) + 1 = (((pre ++ [x]).length : Nat) : Int) by simp] at hS
        refine hL.end_ (H := cellB nb [.int .i64 (pre ++ [x]).length] 3 ++ (objB D (.deferred (some [])) ++ (F ++ (cellB sb [.slice A3 T.length cap3] 22 ++ (cellB db [.string dir] 9 ++ (rowA A3 (flat enE T ++ sp3) 24 ++ (rowA Aw (flat enE Y ++ spw) 24 ++ (cellB wb [.slice Aw Y.length capw] 22 ++ (cellB rb [.bool false] 4 ++ (cellB lb [.string dir] 9 ++ (cellB tb [.slice A t.length cap] 22 ++ R))))))))))) hS.to ?_
        intro w5 hS
        refine .inl ⟨rfl, _, rfl, ?_⟩
        simp only [List.append_assoc, List.nil_append]
        exact hS.to
    · simp only [List.append_assoc, List.nil_append]
      exact hS.to
    · rintro e2 w' ⟨v, rfl, ⟨d, rfl, hS⟩ | ⟨_, _, _, h, _⟩⟩
      · simp only [List.append_assoc, List.nil_append] at hS
        refine ⟨_, .ready, none, _, rfl, by decide, hS, ?_⟩
        intro w4 hS
        simp only [Exit.inBlock, Exit.then]
        have hbl : (belowL dir T).length = Y.length := by rw [Hww.out, List.length_map]
        rw [hbl] at hS
        have d9 : ((Y.length : Int) == (Y.length : Int)) = true := by simp
        clear hbl
        go_wp2_with (first | (refine wl_isld rfl ?_; ((refine wl_value rfl (ex_ldC hS rfl rfl CellAt.out) ?_); (try simp only [Act.put, List.setIfInBounds_toArray, List.set_cons_zero, List.set_cons_succ]))) | (refine wl_st rfl rfl rfl rfl rfl hS (of_decide_eq_true rfl) ?_; intro _ hS; (try simp only [evT, evC, List.getD_cons_succ, List.getD_cons_zero, List.set_cons_zero, List.set_cons_succ] at hS); (try simp only [List.set_cons_zero, List.set_cons_succ] at hS); (try simp only [Act.put, List.setIfInBounds_toArray, List.set_cons_zero, List.set_cons_succ])))
        refine post_marks (D := D) (v := .bool true) (H := cellB rb [.bool true] 4 ++ R) hS.to rfl ?_
        intro w' hS
        exact ⟨run_results (rs := [.cell 4 4]) (vs := [.bool true]) rfl (.cell rfl (ldv_sc (Sh.ldC hS rfl)) .nil), rfl, hS.to⟩
      · exact False.elim h
end
end Go.Tk

set_option linter.unusedSectionVars false
set_option linter.unusedSimpArgs false
set_option linter.unusedVariables false
namespace Go.Tk
open Go.RowKit Go.Proofs
theorem kids_len (t : List En) (p : ByteArray) : (kidsR t p).1.length ≤ t.length := by
  unfold kidsR
  split
  · split
    · show (List.map _ _).length ≤ _
      rw [List.length_map]
      exact List.length_filter_le ..
    · exact Nat.zero_le _
  · exact Nat.zero_le _
def KnI (B : Base) (R : HL) (n : Nat) (i : Nat) (w : World) : Prop := i ≤ n ∧ Sh B R w
section
variable {B : Base} {R H H1 : HL} {w w' : World}
set_option maxRecDepth 100000 in
set_option maxHeartbeats 6400000 in
theorem Finds_any [HasML B] [NoDraw B] (hS : Sh B R w) {A : Option Addr} {cap : Nat} {t : List En} [r : RdAt enE B R A t] (hc : t.length ≤ cap) (hl : t.length ≤ 8000000) (hsm : SmallE t) (p : ByteArray) (hp : p.size ≤ 1048576) (htp : ∀ e ∈ t, e.path.size ≤ 1048576) :
    Calls Tryz.prog 5 #[.slice A t.length cap, .string p] w fun e w' => e = .returned (.bool true) ∧ Sh B R w' := by
  have l1 := fun (w : World) (H : HL) (hS : Sh B H w) (r : RdAt enE B H A t) => RRight_any hS (A := A) (cap := cap) (t := t) (r := r) hc (by omega) hsm
  have l2 := fun (w : World) (H : HL) (hS : Sh B H w) (r : RdAt enE B H A t) => TFind_any hS (A := A) (cap := cap) (t := t) (r := r) (by omega) hsm p
  have l3 := fun (w : World) (H : HL) (hS : Sh B H w) (r : RdAt enE B H A t) => FindR_any hS (A := A) (cap := cap) (t := t) (r := r) (by omega) p
  have l4 := fun (w : World) (H : HL) (hS : Sh B H w) (r : RdAt enE B H A t) => TKids_any hS (A := A) (cap := cap) (t := t) (r := r) (by omega) hsm p (by omega)
  have l5 := fun (w : World) (H : HL) (hS : Sh B H w) (r : RdAt enE B H A t) => RKids_any hS (A := A) (cap := cap) (t := t) (r := r) hc (by omega) hsm p (by omega)
  have l6 := fun (w : World) (H : HL) (hS : Sh B H w) (r : RdAt enE B H A t) => SizeR_any hS (A := A) (cap := cap) (t := t) (r := r) (by omega) hsm
  have l7 := fun (w : World) (H : HL) (hS : Sh B H w) (r : RdAt enE B H A t) => TSize_any hS (A := A) (cap := cap) (t := t) (r := r) (by omega) hsm
  have l8 := fun (w : World) (H : HL) (hS : Sh B H w) (r : RdAt enE B H A t) => Walked_any hS (A := A) (cap := cap) (t := t) (r := r) hc (by omega) hsm p hp htp
  obtain ⟨⟨K1, v⟩, hK⟩ : ∃ X, kidsR t p = X := ⟨_, rfl⟩
  have hKl := kids_len t p
  rw [hK] at l4 l5 hKl
  dsimp only at hKl
  have dv : (v == v) = true := by simp
  have dlen : ((K1.length : Int) == (K1.length : Int)) = true := by simp
  have hsz : sizeI t = if (checkA t).2 = 0 then sumE t else 0 := rfl
  have hfe : findE t p = if (checkA t).2 = 0 then (standE t p, !decide (findI t p = -1)) else (zE, false) := rfl
  by_cases ha : (checkA t).2 = 0
  · have hv : ((checkA t).2 == 0) = true := by rw [ha]; rfl
    rw [hv] at l1
    rw [if_pos ha] at hsz hfe
    rw [hsz] at l7
    obtain ⟨sz, hz⟩ : ∃ sz, sumE t = sz := ⟨_, rfl⟩
    rw [hz] at l6 l7
    have dz : (sz == sz) = true := by simp
    rcases find_idx (t := t) (p := p) with ⟨f1, _, _, f2, _⟩ | ⟨k, x, f1, _, gx, f2, _, f3⟩
    · rw [f1, f2] at hfe
      have hfe2 : findE t p = (zE, false) := hfe
      rw [hfe2] at l2
      rw [f1] at l3
      haveI qE : EqA Tryz.prog 24 zE.cells (enE.cells zE) true := eqE_yes zE
      clear ha hv hsz hfe hfe2 f1 f2 hz hK
      go_enter Tryz.func5, Tryz.ntmps5
      go_upto_region 6 with (first | (refine wl_alloc rfl rfl hS ?_; intro xb _ hS; (try simp only [Act.put, List.setIfInBounds_toArray, List.set_cons_zero, List.set_cons_succ])) | (go_at_call 18; refine ((l1 _ _ hS inferInstance)).mono ?_; rintro e w' (⟨rfl, hS⟩)) | (go_at_call 19; refine ((l2 _ _ hS inferInstance)).mono ?_; rintro e w' (⟨rfl, hS⟩)) | (go_at_call 20; refine ((l3 _ _ hS inferInstance)).mono ?_; rintro e w' (⟨rfl, hS⟩)) | (refine wl_strC rfl rfl rfl rfl hS rfl rfl ?_; intro _ hS; (try simp only [evT, evC, List.getD_cons_succ, List.getD_cons_zero, List.set_cons_zero, List.set_cons_succ] at hS); (try simp only [Act.put, List.setIfInBounds_toArray, List.set_cons_zero, List.set_cons_succ])))
      (refine wp_drawnF hS [(0, true), (1, true), (2, true), (3, true), (4, true), (5, true), (6, true), (7, true), (8, true), (9, true), (10, true), (11, true), (12, true), (13, true), (14, true), (15, true), (16, true), (17, true), (18, true), (19, true), (20, true), (21, true), (22, true), (23, true)] (by kernel_rfl) (by kernel_rfl) (by intro d _ _ _ _ h; cases d <;> exact h) ?_; have hS := hS.drew; simp only [picks_cons, picks_nil, opAt, List.toList_toArray]; (refine wpF_U (v := ?_) rfl ?_ (Sh.to hS) ?_; rotate_left; (focus (intro _ _; go_simp; (try (rw [wrap_i64]; (rotate_left; omega))); (try with_reducible rfl))); (try simp only [Act.put, List.setIfInBounds_toArray, List.set_cons_zero, List.set_cons_succ])); (refine wpF_U (v := ?_) rfl ?_ (Sh.to hS) ?_; rotate_left; (focus (intro _ _; go_simp; (try (rw [wrap_i64]; (rotate_left; omega))); (try with_reducible rfl))); (try simp only [Act.put, List.setIfInBounds_toArray, List.set_cons_zero, List.set_cons_succ])); ((refine wpF_U (v := ?_) rfl ?_ (Sh.to hS) ?_; rotate_left; (focus (intro _ _; go_simp; (try (rw [wrap_i64]; (rotate_left; omega))); (try with_reducible rfl))); (try simp only [Act.put, List.setIfInBounds_toArray, List.set_cons_zero, List.set_cons_succ]))); ((refine wpF_U (v := ?_) rfl ?_ (Sh.to hS) ?_; rotate_left; (focus (intro _ _; go_simp; (try (rw [wrap_i64]; (rotate_left; omega))); (try with_reducible rfl))); (try simp only [Act.put, List.setIfInBounds_toArray, List.set_cons_zero, List.set_cons_succ]))); (refine wpF_U (v := ?_) rfl ?_ (Sh.to hS) ?_; rotate_left; (focus (intro _ _; go_simp; (try (rw [wrap_i64]; (rotate_left; omega))); (try with_reducible rfl))); (try simp only [Act.put, List.setIfInBounds_toArray, List.set_cons_zero, List.set_cons_succ])); ((refine wpF_U (v := ?_) rfl ?_ (Sh.to hS) ?_; rotate_left; (focus (intro _ _; go_simp; (try (rw [wrap_i64]; (rotate_left; omega))); (try with_reducible rfl))); (try simp only [Act.put, List.setIfInBounds_toArray, List.set_cons_zero, List.set_cons_succ]))); ((refine wpF_U (v := ?_) rfl ?_ (Sh.to hS) ?_; rotate_left; (focus (intro _ _; go_simp; (try (rw [wrap_i64]; (rotate_left; omega))); (try with_reducible rfl))); (try simp only [Act.put, List.setIfInBounds_toArray, List.set_cons_zero, List.set_cons_succ]))); ((refine wpF_not rfl (Sh.to hS) ?_; (try simp only [Act.put, List.setIfInBounds_toArray, List.set_cons_zero, List.set_cons_succ]))); ((refine wpF_not rfl (Sh.to hS) ?_; (try simp only [Act.put, List.setIfInBounds_toArray, List.set_cons_zero, List.set_cons_succ]))); ((refine wpF_not rfl (Sh.to hS) ?_; (try simp only [Act.put, List.setIfInBounds_toArray, List.set_cons_zero, List.set_cons_succ]))); ((refine wpF_not rfl (Sh.to hS) ?_; (try simp only [Act.put, List.setIfInBounds_toArray, List.set_cons_zero, List.set_cons_succ]))); ((refine wpF_not rfl (Sh.to hS) ?_; (try simp only [Act.put, List.setIfInBounds_toArray, List.set_cons_zero, List.set_cons_succ]))); ((refine wpF_not rfl (Sh.to hS) ?_; (try simp only [Act.put, List.setIfInBounds_toArray, List.set_cons_zero, List.set_cons_succ]))); ((refine wpF_U (v := ?_) rfl ?_ (Sh.to hS) ?_; rotate_left; (focus (intro _ _; go_simp; (try (rw [wrap_i64]; (rotate_left; omega))); (try with_reducible rfl))); (try simp only [Act.put, List.setIfInBounds_toArray, List.set_cons_zero, List.set_cons_succ]))); (refine wpF_U (v := ?_) rfl ?_ (Sh.to hS) ?_; rotate_left; (focus (intro _ _; go_simp; (try (rw [wrap_i64]; (rotate_left; omega))); (try with_reducible rfl))); (try simp only [Act.put, List.setIfInBounds_toArray, List.set_cons_zero, List.set_cons_succ])); (refine wpF_U (v := ?_) rfl ?_ (Sh.to hS) ?_; rotate_left; (focus (intro _ _; go_simp; (try (rw [wrap_i64]; (rotate_left; omega))); (try with_reducible rfl))); (try simp only [Act.put, List.setIfInBounds_toArray, List.set_cons_zero, List.set_cons_succ])); ((refine wpF_U (v := ?_) rfl ?_ (Sh.to hS) ?_; rotate_left; (focus (intro _ _; go_simp; (try (rw [wrap_i64]; (rotate_left; omega))); (try with_reducible rfl))); (try simp only [Act.put, List.setIfInBounds_toArray, List.set_cons_zero, List.set_cons_succ]))); ((refine wpF_U (v := ?_) rfl ?_ (Sh.to hS) ?_; rotate_left; (focus (intro _ _; go_simp; (try (rw [wrap_i64]; (rotate_left; omega))); (try with_reducible rfl))); (try simp only [Act.put, List.setIfInBounds_toArray, List.set_cons_zero, List.set_cons_succ]))); ((refine wpF_U (v := ?_) rfl ?_ (Sh.to hS) ?_; rotate_left; (focus (intro _ _; go_simp; (try (rw [wrap_i64]; (rotate_left; omega))); (try with_reducible rfl))); (try simp only [Act.put, List.setIfInBounds_toArray, List.set_cons_zero, List.set_cons_succ]))); (((refine wpF_U rfl (fun _ hT => ex_ldr0 hT rfl rfl rfl) (Sh.to hS) ?_); (try simp only [Act.put, List.setIfInBounds_toArray, List.set_cons_zero, List.set_cons_succ]))); ((refine wpF_U rfl (fun _ _ => ex_build ((enE.cells zE)) _ rfl (by simp only [List.map_toArray, List.map_cons, List.map_nil]; rfl) ((by kernel_rfl))) (Sh.to hS) ?_; (try simp only [Act.put, List.setIfInBounds_toArray, List.set_cons_zero, List.set_cons_succ]))); (((refine wpF_U rfl (fun _ hT => ex_neA rfl rfl rfl) (Sh.to hS) ?_); (try simp only [Act.put, List.setIfInBounds_toArray, List.set_cons_zero, List.set_cons_succ]))); ((refine wpF_U (v := ?_) rfl ?_ (Sh.to hS) ?_; rotate_left; (focus (intro _ _; go_simp; (try (rw [wrap_i64]; (rotate_left; omega))); (try with_reducible rfl))); (try simp only [Act.put, List.setIfInBounds_toArray, List.set_cons_zero, List.set_cons_succ]))); (refine wpF_U (v := ?_) rfl ?_ (Sh.to hS) ?_; rotate_left; (focus (intro _ _; go_simp; (try (rw [wrap_i64]; (rotate_left; omega))); (try with_reducible rfl))); (try simp only [Act.put, List.setIfInBounds_toArray, List.set_cons_zero, List.set_cons_succ])); ((refine wpF_done (by assumption) ?_)))
      go_upto_region 8 with (fail)
      go_upto_region 9 with ((go_at_call 21; refine ((l4 _ _ hS inferInstance)).mono ?_; rintro e w' (⟨A3, sp3, cap3, rfl, hO3, hS⟩)))
      go_upto_region 13 with ((go_at_call 22; refine ((l5 _ _ hS inferInstance)).mono ?_; rintro e w' (⟨A4, sp4, cap4, rfl, hO4, hS⟩)))
      have h0 : KnI B (rowA A4 (flat strE K1 ++ sp4) 9 ++ (rowA A3 (flat strE K1 ++ sp3) 9 ++ R)) K1.length 0 _ := ⟨Nat.zero_le _, hS.to⟩
      clear hS l4 l5
      refine wp_loopS [75] [4, 13, 76, 77, 78, 79, 80, 81, 82, 83, 84, 85, 86, 87] (fun i : Nat => [.int .i64 i]) (KnI B (rowA A4 (flat strE K1 ++ sp4) 9 ++ (rowA A3 (flat strE K1 ++ sp3) 9 ++ R)) K1.length) (fun i => K1.length - i) (0) rfl (h0) ?_
      clear h0
      rintro i J w ⟨hi, hS⟩
      (simp only [Frm, setsT, junkT, List.setIfInBounds_toArray, List.set_cons_zero, List.set_cons_succ])
      by_cases hlt : i < K1.length
      · obtain ⟨y, gy⟩ := Nth.of hlt
        have dy : (y.toList == y.toList) = true := by simp
        go_upto_region 15 with (fail)
        (refine wp_drawnF hS [(0, true), (1, true), (2, true), (3, true), (4, true), (5, true), (6, true), (7, true), (8, true)] (by kernel_rfl) (by kernel_rfl) (by intro d _ _ _ _ h; cases d <;> exact h) ?_; have hS := hS.drew; simp only [picks_cons, picks_nil, opAt, List.toList_toArray]; (refine wpF_U (v := ?_) rfl ?_ (Sh.to hS) ?_; rotate_left; (focus (intro _ _; go_simp; (try (rw [wrap_i64]; (rotate_left; omega))); (try with_reducible rfl))); (try simp only [Act.put, List.setIfInBounds_toArray, List.set_cons_zero, List.set_cons_succ])); (refine wpF_U (v := ?_) rfl ?_ (Sh.to hS) ?_; rotate_left; (focus (intro _ _; go_simp; (try (rw [wrap_i64]; (rotate_left; omega))); (try with_reducible rfl))); (try simp only [Act.put, List.setIfInBounds_toArray, List.set_cons_zero, List.set_cons_succ])); ((refine wpF_U rfl (fun _ hT => ex_ix hT rfl rfl rfl ?_) (Sh.to hS) ?_); (focus (rfl)); (try simp only [Act.put, List.setIfInBounds_toArray, List.set_cons_zero, List.set_cons_succ])); ((refine wpF_U rfl (fun _ hT => ex_l0 hT rfl rfl rfl rfl) (Sh.to hS) ?_); (try simp only [Act.put, List.setIfInBounds_toArray, List.set_cons_zero, List.set_cons_succ])); (refine wpF_U (v := ?_) rfl ?_ (Sh.to hS) ?_; rotate_left; (focus (intro _ _; go_simp; (try (rw [wrap_i64]; (rotate_left; omega))); (try with_reducible rfl))); (try simp only [Act.put, List.setIfInBounds_toArray, List.set_cons_zero, List.set_cons_succ])); (refine wpF_U (v := ?_) rfl ?_ (Sh.to hS) ?_; rotate_left; (focus (intro _ _; go_simp; (try (rw [wrap_i64]; (rotate_left; omega))); (try with_reducible rfl))); (try simp only [Act.put, List.setIfInBounds_toArray, List.set_cons_zero, List.set_cons_succ])); ((refine wpF_U rfl (fun _ hT => ex_ix hT rfl rfl rfl ?_) (Sh.to hS) ?_); (focus (rfl)); (try simp only [Act.put, List.setIfInBounds_toArray, List.set_cons_zero, List.set_cons_succ])); ((refine wpF_U rfl (fun _ hT => ex_l0 hT rfl rfl rfl rfl) (Sh.to hS) ?_); (try simp only [Act.put, List.setIfInBounds_toArray, List.set_cons_zero, List.set_cons_succ])); ((refine wpF_U (v := ?_) rfl ?_ (Sh.to hS) ?_; rotate_left; (focus (intro _ _; go_simp; (try (rw [wrap_i64]; (rotate_left; omega))); (try with_reducible rfl))); (try simp only [Act.put, List.setIfInBounds_toArray, List.set_cons_zero, List.set_cons_succ]))); ((refine wpF_done (by assumption) ?_)))
        go_wp2_with (fail)
        exact ⟨(i + 1 : Nat), ⟨hlt, hS.to⟩, (by dsimp only; omega), rfl, (by (simp only [blankT, junkT, List.cons_append, List.nil_append, List.setIfInBounds_toArray, List.set_cons_zero, List.set_cons_succ])), rfl⟩
      · go_wp2_with (first | (go_at_call 23; refine ((l6 _ _ hS inferInstance)).mono ?_; rintro e w' (⟨rfl, hS⟩)) | (go_at_call 24; refine ((l7 _ _ hS inferInstance)).mono ?_; rintro e w' (⟨rfl, hS⟩)) | (go_at_call 25; refine ((l8 _ _ hS inferInstance)).mono ?_; rintro e w' (⟨rfl, hS⟩)) | (go_at_call 6; refine ((alive_any hS)).mono ?_; rintro e w' (⟨rfl, hS⟩)))
        go_ret
        exact ⟨rfl, hS.to⟩
    · rw [f1, f3] at hfe
      have hfe2 : findE t p = (x, true) := by rw [hfe, decide_eq_false (by omega)]; rfl
      rw [hfe2] at l2
      rw [f1] at l3
      haveI qE : EqA Tryz.prog 24 x.cells (enE.cells x) true := eqE_yes x
      have dk : decide ((k : Int) ≥ 0) = true := decide_eq_true (by omega)
      have dk2 : decide ((0 : Int) ≤ (k : Int)) = true := decide_eq_true (by omega)
      clear ha hv hsz hfe hfe2 f1 f3 hz hK f2
      go_enter Tryz.func5, Tryz.ntmps5
      go_upto_region 6 with (first | (refine wl_alloc rfl rfl hS ?_; intro xb _ hS; (try simp only [Act.put, List.setIfInBounds_toArray, List.set_cons_zero, List.set_cons_succ])) | (go_at_call 18; refine ((l1 _ _ hS inferInstance)).mono ?_; rintro e w' (⟨rfl, hS⟩)) | (go_at_call 19; refine ((l2 _ _ hS inferInstance)).mono ?_; rintro e w' (⟨rfl, hS⟩)) | (go_at_call 20; refine ((l3 _ _ hS inferInstance)).mono ?_; rintro e w' (⟨rfl, hS⟩)) | (refine wl_strC rfl rfl rfl rfl hS rfl rfl ?_; intro _ hS; (try simp only [evT, evC, List.getD_cons_succ, List.getD_cons_zero, List.set_cons_zero, List.set_cons_succ] at hS); (try simp only [Act.put, List.setIfInBounds_toArray, List.set_cons_zero, List.set_cons_succ])))
      (refine wp_drawnF hS [(0, true), (1, true), (2, true), (3, true), (4, true), (5, true), (6, true), (7, true), (8, true), (9, true), (10, true), (11, true), (12, true), (13, true), (14, true), (15, true), (16, true), (17, true), (18, true), (19, true), (20, true), (21, true), (22, true), (23, true)] (by kernel_rfl) (by kernel_rfl) (by intro d _ _ _ _ h; cases d <;> exact h) ?_; have hS := hS.drew; simp only [picks_cons, picks_nil, opAt, List.toList_toArray]; (refine wpF_U (v := ?_) rfl ?_ (Sh.to hS) ?_; rotate_left; (focus (intro _ _; go_simp; (try (rw [wrap_i64]; (rotate_left; omega))); (try with_reducible rfl))); (try simp only [Act.put, List.setIfInBounds_toArray, List.set_cons_zero, List.set_cons_succ])); (refine wpF_U (v := ?_) rfl ?_ (Sh.to hS) ?_; rotate_left; (focus (intro _ _; go_simp; (try (rw [wrap_i64]; (rotate_left; omega))); (try with_reducible rfl))); (try simp only [Act.put, List.setIfInBounds_toArray, List.set_cons_zero, List.set_cons_succ])); ((refine wpF_U (v := ?_) rfl ?_ (Sh.to hS) ?_; rotate_left; (focus (intro _ _; go_simp; (try (rw [wrap_i64]; (rotate_left; omega))); (try with_reducible rfl))); (try simp only [Act.put, List.setIfInBounds_toArray, List.set_cons_zero, List.set_cons_succ]))); ((refine wpF_U (v := ?_) rfl ?_ (Sh.to hS) ?_; rotate_left; (focus (intro _ _; go_simp; (try (rw [wrap_i64]; (rotate_left; omega))); (try with_reducible rfl))); (try simp only [Act.put, List.setIfInBounds_toArray, List.set_cons_zero, List.set_cons_succ]))); (refine wpF_U (v := ?_) rfl ?_ (Sh.to hS) ?_; rotate_left; (focus (intro _ _; go_simp; (try (rw [wrap_i64]; (rotate_left; omega))); (try with_reducible rfl))); (try simp only [Act.put, List.setIfInBounds_toArray, List.set_cons_zero, List.set_cons_succ])); ((refine wpF_U (v := ?_) rfl ?_ (Sh.to hS) ?_; rotate_left; (focus (intro _ _; go_simp; (try (rw [wrap_i64]; (rotate_left; omega))); (try with_reducible rfl))); (try simp only [Act.put, List.setIfInBounds_toArray, List.set_cons_zero, List.set_cons_succ]))); ((refine wpF_U (v := ?_) rfl ?_ (Sh.to hS) ?_; rotate_left; (focus (intro _ _; go_simp; (try (rw [wrap_i64]; (rotate_left; omega))); (try with_reducible rfl))); (try simp only [Act.put, List.setIfInBounds_toArray, List.set_cons_zero, List.set_cons_succ]))); (((refine wpF_U rfl (fun _ hT => ex_ldr0 hT rfl rfl rfl) (Sh.to hS) ?_); (try simp only [Act.put, List.setIfInBounds_toArray, List.set_cons_zero, List.set_cons_succ]))); ((refine wpF_U (v := ?_) rfl ?_ (Sh.to hS) ?_; rotate_left; (focus (intro _ _; go_simp; (try (rw [wrap_i64]; (rotate_left; omega))); (try with_reducible rfl))); (try simp only [Act.put, List.setIfInBounds_toArray, List.set_cons_zero, List.set_cons_succ]))); ((refine wpF_U (v := ?_) rfl ?_ (Sh.to hS) ?_; rotate_left; (focus (intro _ _; go_simp; (try (rw [wrap_i64]; (rotate_left; omega))); (try with_reducible rfl))); (try simp only [Act.put, List.setIfInBounds_toArray, List.set_cons_zero, List.set_cons_succ]))); (((refine wpF_U rfl (fun _ hT => ex_ix hT rfl rfl rfl ?_) (Sh.to hS) ?_); (focus (rfl)); (try simp only [Act.put, List.setIfInBounds_toArray, List.set_cons_zero, List.set_cons_succ]))); (((refine wpF_U rfl (fun _ hT => ex_lr hT rfl rfl rfl rfl) (Sh.to hS) ?_); (try simp only [Act.put, List.setIfInBounds_toArray, List.set_cons_zero, List.set_cons_succ]))); (((refine wpF_U rfl (fun _ hT => ex_neA rfl rfl rfl) (Sh.to hS) ?_); (try simp only [Act.put, List.setIfInBounds_toArray, List.set_cons_zero, List.set_cons_succ]))); ((refine wpF_U (v := ?_) rfl ?_ (Sh.to hS) ?_; rotate_left; (focus (intro _ _; go_simp; (try (rw [wrap_i64]; (rotate_left; omega))); (try with_reducible rfl))); (try simp only [Act.put, List.setIfInBounds_toArray, List.set_cons_zero, List.set_cons_succ]))); (refine wpF_U (v := ?_) rfl ?_ (Sh.to hS) ?_; rotate_left; (focus (intro _ _; go_simp; (try (rw [wrap_i64]; (rotate_left; omega))); (try with_reducible rfl))); (try simp only [Act.put, List.setIfInBounds_toArray, List.set_cons_zero, List.set_cons_succ])); (refine wpF_U (v := ?_) rfl ?_ (Sh.to hS) ?_; rotate_left; (focus (intro _ _; go_simp; (try (rw [wrap_i64]; (rotate_left; omega))); (try with_reducible rfl))); (try simp only [Act.put, List.setIfInBounds_toArray, List.set_cons_zero, List.set_cons_succ])); ((refine wpF_U (v := ?_) rfl ?_ (Sh.to hS) ?_; rotate_left; (focus (intro _ _; go_simp; (try (rw [wrap_i64]; (rotate_left; omega))); (try with_reducible rfl))); (try simp only [Act.put, List.setIfInBounds_toArray, List.set_cons_zero, List.set_cons_succ]))); ((refine wpF_U (v := ?_) rfl ?_ (Sh.to hS) ?_; rotate_left; (focus (intro _ _; go_simp; (try (rw [wrap_i64]; (rotate_left; omega))); (try with_reducible rfl))); (try simp only [Act.put, List.setIfInBounds_toArray, List.set_cons_zero, List.set_cons_succ]))); ((refine wpF_U (v := ?_) rfl ?_ (Sh.to hS) ?_; rotate_left; (focus (intro _ _; go_simp; (try (rw [wrap_i64]; (rotate_left; omega))); (try with_reducible rfl))); (try simp only [Act.put, List.setIfInBounds_toArray, List.set_cons_zero, List.set_cons_succ]))); ((refine wpF_not rfl (Sh.to hS) ?_; (try simp only [Act.put, List.setIfInBounds_toArray, List.set_cons_zero, List.set_cons_succ]))); (((refine wpF_not rfl (Sh.to hS) ?_; (try simp only [Act.put, List.setIfInBounds_toArray, List.set_cons_zero, List.set_cons_succ])))); ((refine wpF_not rfl (Sh.to hS) ?_; (try simp only [Act.put, List.setIfInBounds_toArray, List.set_cons_zero, List.set_cons_succ]))); ((refine wpF_U (v := ?_) rfl ?_ (Sh.to hS) ?_; rotate_left; (focus (intro _ _; go_simp; (try (rw [wrap_i64]; (rotate_left; omega))); (try with_reducible rfl))); (try simp only [Act.put, List.setIfInBounds_toArray, List.set_cons_zero, List.set_cons_succ]))); (refine wpF_U (v := ?_) rfl ?_ (Sh.to hS) ?_; rotate_left; (focus (intro _ _; go_simp; (try (rw [wrap_i64]; (rotate_left; omega))); (try with_reducible rfl))); (try simp only [Act.put, List.setIfInBounds_toArray, List.set_cons_zero, List.set_cons_succ])); ((refine wpF_done (by assumption) ?_)))
      go_upto_region 8 with (fail)
      go_upto_region 9 with ((go_at_call 21; refine ((l4 _ _ hS inferInstance)).mono ?_; rintro e w' (⟨A3, sp3, cap3, rfl, hO3, hS⟩)))
      go_upto_region 13 with ((go_at_call 22; refine ((l5 _ _ hS inferInstance)).mono ?_; rintro e w' (⟨A4, sp4, cap4, rfl, hO4, hS⟩)))
      have h0 : KnI B (rowA A4 (flat strE K1 ++ sp4) 9 ++ (rowA A3 (flat strE K1 ++ sp3) 9 ++ R)) K1.length 0 _ := ⟨Nat.zero_le _, hS.to⟩
      clear hS l4 l5
      refine wp_loopS [75] [4, 13, 76, 77, 78, 79, 80, 81, 82, 83, 84, 85, 86, 87] (fun i : Nat => [.int .i64 i]) (KnI B (rowA A4 (flat strE K1 ++ sp4) 9 ++ (rowA A3 (flat strE K1 ++ sp3) 9 ++ R)) K1.length) (fun i => K1.length - i) (0) rfl (h0) ?_
      clear h0
      rintro i J w ⟨hi, hS⟩
      (simp only [Frm, setsT, junkT, List.setIfInBounds_toArray, List.set_cons_zero, List.set_cons_succ])
      by_cases hlt : i < K1.length
      · obtain ⟨y, gy⟩ := Nth.of hlt
        have dy : (y.toList == y.toList) = true := by simp
        go_upto_region 15 with (fail)
        (refine wp_drawnF hS [(0, true), (1, true), (2, true), (3, true), (4, true), (5, true), (6, true), (7, true), (8, true)] (by kernel_rfl) (by kernel_rfl) (by intro d _ _ _ _ h; cases d <;> exact h) ?_; have hS := hS.drew; simp only [picks_cons, picks_nil, opAt, List.toList_toArray]; (refine wpF_U (v := ?_) rfl ?_ (Sh.to hS) ?_; rotate_left; (focus (intro _ _; go_simp; (try (rw [wrap_i64]; (rotate_left; omega))); (try with_reducible rfl))); (try simp only [Act.put, List.setIfInBounds_toArray, List.set_cons_zero, List.set_cons_succ])); (refine wpF_U (v := ?_) rfl ?_ (Sh.to hS) ?_; rotate_left; (focus (intro _ _; go_simp; (try (rw [wrap_i64]; (rotate_left; omega))); (try with_reducible rfl))); (try simp only [Act.put, List.setIfInBounds_toArray, List.set_cons_zero, List.set_cons_succ])); ((refine wpF_U rfl (fun _ hT => ex_ix hT rfl rfl rfl ?_) (Sh.to hS) ?_); (focus (rfl)); (try simp only [Act.put, List.setIfInBounds_toArray, List.set_cons_zero, List.set_cons_succ])); ((refine wpF_U rfl (fun _ hT => ex_l0 hT rfl rfl rfl rfl) (Sh.to hS) ?_); (try simp only [Act.put, List.setIfInBounds_toArray, List.set_cons_zero, List.set_cons_succ])); (refine wpF_U (v := ?_) rfl ?_ (Sh.to hS) ?_; rotate_left; (focus (intro _ _; go_simp; (try (rw [wrap_i64]; (rotate_left; omega))); (try with_reducible rfl))); (try simp only [Act.put, List.setIfInBounds_toArray, List.set_cons_zero, List.set_cons_succ])); (refine wpF_U (v := ?_) rfl ?_ (Sh.to hS) ?_; rotate_left; (focus (intro _ _; go_simp; (try (rw [wrap_i64]; (rotate_left; omega))); (try with_reducible rfl))); (try simp only [Act.put, List.setIfInBounds_toArray, List.set_cons_zero, List.set_cons_succ])); ((refine wpF_U rfl (fun _ hT => ex_ix hT rfl rfl rfl ?_) (Sh.to hS) ?_); (focus (rfl)); (try simp only [Act.put, List.setIfInBounds_toArray, List.set_cons_zero, List.set_cons_succ])); ((refine wpF_U rfl (fun _ hT => ex_l0 hT rfl rfl rfl rfl) (Sh.to hS) ?_); (try simp only [Act.put, List.setIfInBounds_toArray, List.set_cons_zero, List.set_cons_succ])); ((refine wpF_U (v := ?_) rfl ?_ (Sh.to hS) ?_; rotate_left; (focus (intro _ _; go_simp; (try (rw [wrap_i64]; (rotate_left; omega))); (try with_reducible rfl))); (try simp only [Act.put, List.setIfInBounds_toArray, List.set_cons_zero, List.set_cons_succ]))); ((refine wpF_done (by assumption) ?_)))
        go_wp2_with (fail)
        exact ⟨(i + 1 : Nat), ⟨hlt, hS.to⟩, (by dsimp only; omega), rfl, (by (simp only [blankT, junkT, List.cons_append, List.nil_append, List.setIfInBounds_toArray, List.set_cons_zero, List.set_cons_succ])), rfl⟩
      · go_wp2_with (first | (go_at_call 23; refine ((l6 _ _ hS inferInstance)).mono ?_; rintro e w' (⟨rfl, hS⟩)) | (go_at_call 24; refine ((l7 _ _ hS inferInstance)).mono ?_; rintro e w' (⟨rfl, hS⟩)) | (go_at_call 25; refine ((l8 _ _ hS inferInstance)).mono ?_; rintro e w' (⟨rfl, hS⟩)) | (go_at_call 6; refine ((alive_any hS)).mono ?_; rintro e w' (⟨rfl, hS⟩)))
        go_ret
        exact ⟨rfl, hS.to⟩
  · have hv : ((checkA t).2 == 0) = false := beq_no ha
    rw [hv] at l1
    rw [if_neg ha] at hsz hfe
    rw [hsz] at l7
    rw [hfe] at l2
    haveI qE : EqA Tryz.prog 24 zE.cells (enE.cells zE) true := eqE_yes zE
    clear ha hv hsz hfe hK
    go_enter Tryz.func5, Tryz.ntmps5
    go_upto_region 6 with (first | (refine wl_alloc rfl rfl hS ?_; intro xb _ hS; (try simp only [Act.put, List.setIfInBounds_toArray, List.set_cons_zero, List.set_cons_succ])) | (go_at_call 18; refine ((l1 _ _ hS inferInstance)).mono ?_; rintro e w' (⟨rfl, hS⟩)) | (go_at_call 19; refine ((l2 _ _ hS inferInstance)).mono ?_; rintro e w' (⟨rfl, hS⟩)) | (refine wl_strC rfl rfl rfl rfl hS rfl rfl ?_; intro _ hS; (try simp only [evT, evC, List.getD_cons_succ, List.getD_cons_zero, List.set_cons_zero, List.set_cons_succ] at hS); (try simp only [Act.put, List.setIfInBounds_toArray, List.set_cons_zero, List.set_cons_succ])))
    (refine wp_drawnF hS [(0, true), (1, true), (2, true), (3, true), (4, true), (5, true), (6, true), (7, true), (8, true), (9, true), (10, true), (11, true), (12, true), (13, true), (14, true), (15, true), (16, true), (17, true), (18, true), (19, true), (20, true), (21, true), (22, true), (23, true)] (by kernel_rfl) (by kernel_rfl) (by intro d _ _ _ _ h; cases d <;> exact h) ?_; have hS := hS.drew; simp only [picks_cons, picks_nil, opAt, List.toList_toArray]; (refine wpF_U (v := ?_) rfl ?_ (Sh.to hS) ?_; rotate_left; (focus (intro _ _; go_simp; (try (rw [wrap_i64]; (rotate_left; omega))); (try with_reducible rfl))); (try simp only [Act.put, List.setIfInBounds_toArray, List.set_cons_zero, List.set_cons_succ])); (refine wpF_U (v := ?_) rfl ?_ (Sh.to hS) ?_; rotate_left; (focus (intro _ _; go_simp; (try (rw [wrap_i64]; (rotate_left; omega))); (try with_reducible rfl))); (try simp only [Act.put, List.setIfInBounds_toArray, List.set_cons_zero, List.set_cons_succ])); ((refine wpF_U (v := ?_) rfl ?_ (Sh.to hS) ?_; rotate_left; (focus (intro _ _; go_simp; (try (rw [wrap_i64]; (rotate_left; omega))); (try with_reducible rfl))); (try simp only [Act.put, List.setIfInBounds_toArray, List.set_cons_zero, List.set_cons_succ]))); ((refine wpF_U (v := ?_) rfl ?_ (Sh.to hS) ?_; rotate_left; (focus (intro _ _; go_simp; (try (rw [wrap_i64]; (rotate_left; omega))); (try with_reducible rfl))); (try simp only [Act.put, List.setIfInBounds_toArray, List.set_cons_zero, List.set_cons_succ]))); (refine wpF_U (v := ?_) rfl ?_ (Sh.to hS) ?_; rotate_left; (focus (intro _ _; go_simp; (try (rw [wrap_i64]; (rotate_left; omega))); (try with_reducible rfl))); (try simp only [Act.put, List.setIfInBounds_toArray, List.set_cons_zero, List.set_cons_succ])); ((refine wpF_U (v := ?_) rfl ?_ (Sh.to hS) ?_; rotate_left; (focus (intro _ _; go_simp; (try (rw [wrap_i64]; (rotate_left; omega))); (try with_reducible rfl))); (try simp only [Act.put, List.setIfInBounds_toArray, List.set_cons_zero, List.set_cons_succ]))); ((refine wpF_U (v := ?_) rfl ?_ (Sh.to hS) ?_; rotate_left; (focus (intro _ _; go_simp; (try (rw [wrap_i64]; (rotate_left; omega))); (try with_reducible rfl))); (try simp only [Act.put, List.setIfInBounds_toArray, List.set_cons_zero, List.set_cons_succ]))); ((refine wpF_not rfl (Sh.to hS) ?_; (try simp only [Act.put, List.setIfInBounds_toArray, List.set_cons_zero, List.set_cons_succ]))); ((refine wpF_not rfl (Sh.to hS) ?_; (try simp only [Act.put, List.setIfInBounds_toArray, List.set_cons_zero, List.set_cons_succ]))); ((refine wpF_not rfl (Sh.to hS) ?_; (try simp only [Act.put, List.setIfInBounds_toArray, List.set_cons_zero, List.set_cons_succ]))); ((refine wpF_not rfl (Sh.to hS) ?_; (try simp only [Act.put, List.setIfInBounds_toArray, List.set_cons_zero, List.set_cons_succ]))); ((refine wpF_not rfl (Sh.to hS) ?_; (try simp only [Act.put, List.setIfInBounds_toArray, List.set_cons_zero, List.set_cons_succ]))); ((refine wpF_not rfl (Sh.to hS) ?_; (try simp only [Act.put, List.setIfInBounds_toArray, List.set_cons_zero, List.set_cons_succ]))); ((refine wpF_U (v := ?_) rfl ?_ (Sh.to hS) ?_; rotate_left; (focus (intro _ _; go_simp; (try (rw [wrap_i64]; (rotate_left; omega))); (try with_reducible rfl))); (try simp only [Act.put, List.setIfInBounds_toArray, List.set_cons_zero, List.set_cons_succ]))); (refine wpF_U (v := ?_) rfl ?_ (Sh.to hS) ?_; rotate_left; (focus (intro _ _; go_simp; (try (rw [wrap_i64]; (rotate_left; omega))); (try with_reducible rfl))); (try simp only [Act.put, List.setIfInBounds_toArray, List.set_cons_zero, List.set_cons_succ])); (refine wpF_U (v := ?_) rfl ?_ (Sh.to hS) ?_; rotate_left; (focus (intro _ _; go_simp; (try (rw [wrap_i64]; (rotate_left; omega))); (try with_reducible rfl))); (try simp only [Act.put, List.setIfInBounds_toArray, List.set_cons_zero, List.set_cons_succ])); ((refine wpF_U (v := ?_) rfl ?_ (Sh.to hS) ?_; rotate_left; (focus (intro _ _; go_simp; (try (rw [wrap_i64]; (rotate_left; omega))); (try with_reducible rfl))); (try simp only [Act.put, List.setIfInBounds_toArray, List.set_cons_zero, List.set_cons_succ]))); ((refine wpF_U (v := ?_) rfl ?_ (Sh.to hS) ?_; rotate_left; (focus (intro _ _; go_simp; (try (rw [wrap_i64]; (rotate_left; omega))); (try with_reducible rfl))); (try simp only [Act.put, List.setIfInBounds_toArray, List.set_cons_zero, List.set_cons_succ]))); ((refine wpF_U (v := ?_) rfl ?_ (Sh.to hS) ?_; rotate_left; (focus (intro _ _; go_simp; (try (rw [wrap_i64]; (rotate_left; omega))); (try with_reducible rfl))); (try simp only [Act.put, List.setIfInBounds_toArray, List.set_cons_zero, List.set_cons_succ]))); (((refine wpF_U rfl (fun _ hT => ex_ldr0 hT rfl rfl rfl) (Sh.to hS) ?_); (try simp only [Act.put, List.setIfInBounds_toArray, List.set_cons_zero, List.set_cons_succ]))); ((refine wpF_U rfl (fun _ _ => ex_build ((enE.cells zE)) _ rfl (by simp only [List.map_toArray, List.map_cons, List.map_nil]; rfl) ((by kernel_rfl))) (Sh.to hS) ?_; (try simp only [Act.put, List.setIfInBounds_toArray, List.set_cons_zero, List.set_cons_succ]))); (((refine wpF_U rfl (fun _ hT => ex_neA rfl rfl rfl) (Sh.to hS) ?_); (try simp only [Act.put, List.setIfInBounds_toArray, List.set_cons_zero, List.set_cons_succ]))); ((refine wpF_U (v := ?_) rfl ?_ (Sh.to hS) ?_; rotate_left; (focus (intro _ _; go_simp; (try (rw [wrap_i64]; (rotate_left; omega))); (try with_reducible rfl))); (try simp only [Act.put, List.setIfInBounds_toArray, List.set_cons_zero, List.set_cons_succ]))); (refine wpF_U (v := ?_) rfl ?_ (Sh.to hS) ?_; rotate_left; (focus (intro _ _; go_simp; (try (rw [wrap_i64]; (rotate_left; omega))); (try with_reducible rfl))); (try simp only [Act.put, List.setIfInBounds_toArray, List.set_cons_zero, List.set_cons_succ])); ((refine wpF_done (by assumption) ?_)))
    go_upto_region 8 with (fail)
    go_upto_region 9 with ((go_at_call 21; refine ((l4 _ _ hS inferInstance)).mono ?_; rintro e w' (⟨A3, sp3, cap3, rfl, hO3, hS⟩)))
    go_upto_region 13 with ((go_at_call 22; refine ((l5 _ _ hS inferInstance)).mono ?_; rintro e w' (⟨A4, sp4, cap4, rfl, hO4, hS⟩)))
    have h0 : KnI B (rowA A4 (flat strE K1 ++ sp4) 9 ++ (rowA A3 (flat strE K1 ++ sp3) 9 ++ R)) K1.length 0 _ := ⟨Nat.zero_le _, hS.to⟩
    clear hS l4 l5
    refine wp_loopS [75] [4, 13, 76, 77, 78, 79, 80, 81, 82, 83, 84, 85, 86, 87] (fun i : Nat => [.int .i64 i]) (KnI B (rowA A4 (flat strE K1 ++ sp4) 9 ++ (rowA A3 (flat strE K1 ++ sp3) 9 ++ R)) K1.length) (fun i => K1.length - i) (0) rfl (h0) ?_
    clear h0
    rintro i J w ⟨hi, hS⟩
    (simp only [Frm, setsT, junkT, List.setIfInBounds_toArray, List.set_cons_zero, List.set_cons_succ])
    by_cases hlt : i < K1.length
    · obtain ⟨y, gy⟩ := Nth.of hlt
      have dy : (y.toList == y.toList) = true := by simp
      go_upto_region 15 with (fail)
      (refine wp_drawnF hS [(0, true), (1, true), (2, true), (3, true), (4, true), (5, true), (6, true), (7, true), (8, true)] (by kernel_rfl) (by kernel_rfl) (by intro d _ _ _ _ h; cases d <;> exact h) ?_; have hS := hS.drew; simp only [picks_cons, picks_nil, opAt, List.toList_toArray]; (refine wpF_U (v := ?_) rfl ?_ (Sh.to hS) ?_; rotate_left; (focus (intro _ _; go_simp; (try (rw [wrap_i64]; (rotate_left; omega))); (try with_reducible rfl))); (try simp only [Act.put, List.setIfInBounds_toArray, List.set_cons_zero, List.set_cons_succ])); (refine wpF_U (v := ?_) rfl ?_ (Sh.to hS) ?_; rotate_left; (focus (intro _ _; go_simp; (try (rw [wrap_i64]; (rotate_left; omega))); (try with_reducible rfl))); (try simp only [Act.put, List.setIfInBounds_toArray, List.set_cons_zero, List.set_cons_succ])); ((refine wpF_U rfl (fun _ hT => ex_ix hT rfl rfl rfl ?_) (Sh.to hS) ?_); (focus (rfl)); (try simp only [Act.put, List.setIfInBounds_toArray, List.set_cons_zero, List.set_cons_succ])); ((refine wpF_U rfl (fun _ hT => ex_l0 hT rfl rfl rfl rfl) (Sh.to hS) ?_); (try simp only [Act.put, List.setIfInBounds_toArray, List.set_cons_zero, List.set_cons_succ])); (refine wpF_U (v := ?_) rfl ?_ (Sh.to hS) ?_; rotate_left; (focus (intro _ _; go_simp; (try (rw [wrap_i64]; (rotate_left; omega))); (try with_reducible rfl))); (try simp only [Act.put, List.setIfInBounds_toArray, List.set_cons_zero, List.set_cons_succ])); (refine wpF_U (v := ?_) rfl ?_ (Sh.to hS) ?_; rotate_left; (focus (intro _ _; go_simp; (try (rw [wrap_i64]; (rotate_left; omega))); (try with_reducible rfl))); (try simp only [Act.put, List.setIfInBounds_toArray, List.set_cons_zero, List.set_cons_succ])); ((refine wpF_U rfl (fun _ hT => ex_ix hT rfl rfl rfl ?_) (Sh.to hS) ?_); (focus (rfl)); (try simp only [Act.put, List.setIfInBounds_toArray, List.set_cons_zero, List.set_cons_succ])); ((refine wpF_U rfl (fun _ hT => ex_l0 hT rfl rfl rfl rfl) (Sh.to hS) ?_); (try simp only [Act.put, List.setIfInBounds_toArray, List.set_cons_zero, List.set_cons_succ])); ((refine wpF_U (v := ?_) rfl ?_ (Sh.to hS) ?_; rotate_left; (focus (intro _ _; go_simp; (try (rw [wrap_i64]; (rotate_left; omega))); (try with_reducible rfl))); (try simp only [Act.put, List.setIfInBounds_toArray, List.set_cons_zero, List.set_cons_succ]))); ((refine wpF_done (by assumption) ?_)))
      go_wp2_with (fail)
      exact ⟨(i + 1 : Nat), ⟨hlt, hS.to⟩, (by dsimp only; omega), rfl, (by (simp only [blankT, junkT, List.cons_append, List.nil_append, List.setIfInBounds_toArray, List.set_cons_zero, List.set_cons_succ])), rfl⟩
    · go_wp2_with (first | (go_at_call 24; refine ((l7 _ _ hS inferInstance)).mono ?_; rintro e w' (⟨rfl, hS⟩)) | (go_at_call 25; refine ((l8 _ _ hS inferInstance)).mono ?_; rintro e w' (⟨rfl, hS⟩)) | (go_at_call 6; refine ((alive_any hS)).mono ?_; rintro e w' (⟨rfl, hS⟩)))
      go_ret
      exact ⟨rfl, hS.to⟩
end
end Go.Tk
