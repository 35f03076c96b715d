/- The document's Put, Remove and Graft; The document's Remove and Graft; The document's Graft; An edit: its cells; what it answers, plain; The law TreeEdits; Edits read by a row. -/
import Derived.Test.YtclmemhginekbaaGreatDoorG475ac6
import Derived.Test.YtclmemhginekbaaGreatDoorGd64a72
import Derived.Deep.Slices
set_option linter.unusedSectionVars false
set_option linter.unusedSimpArgs false
set_option linter.unusedVariables false
namespace Go.Tk
open Go.RowKit Go.Proofs
section
variable {B : Base} {R H H1 : HL} {w w' : World}
def sizedV (A : Option Addr) (t : List En) (cap : Nat) : Value := if fitsI t = 0 then .tuple #[.slice A t.length cap, .int .i64 0] else .tuple #[.slice none 0 0, .int .i64 (fitsI t)]
set_option maxRecDepth 100000 in
set_option maxHeartbeats 1600000 in
theorem SizedR_any [HasML B] (hS : Sh B R w) {A : Option Addr} {cap : Nat} {t : List En} [r : RdAt enE B R A t] (hl : t.length ≤ 16777216) (hsm : SmallE t) :
    Calls Tryz.prog 33 #[.slice A t.length cap] w fun e w' => e = .returned (sizedV A t cap) ∧ Sh B R w' := by
  have l1 := fun (w : World) (H : HL) (hS : Sh B H w) (r : RdAt enE B H A t) => SizeR_any hS (cap := cap) (t := t) (r := r) hl hsm
  by_cases hm : 1024 < t.length
  · have hf : fitsI t = 53 := by unfold fitsI; rw [if_pos hm]
    have Hx := Lib.hid (show sizedV A t cap = .tuple #[.slice none 0 0, .int .i64 53] by unfold sizedV; rw [hf, if_neg (by decide)])
    clear hf
    go_enter Tryz.func33, Tryz.ntmps33
    go_wp2_with (fail)
    go_ret2
    rw [Hx.out]
    exact ⟨rfl, hS.to⟩
  · by_cases hb : 1048576 < sumE t
    · have hf : fitsI t = 54 := by unfold fitsI; rw [if_neg hm, if_pos hb]
      have Hx := Lib.hid (show sizedV A t cap = .tuple #[.slice none 0 0, .int .i64 54] by unfold sizedV; rw [hf, if_neg (by decide)])
      clear hf
      go_enter Tryz.func33, Tryz.ntmps33
      go_wp2_with ((go_at_call 23; refine ((l1 _ _ hS inferInstance)).mono ?_; rintro e w' (⟨rfl, hS⟩)))
      go_ret2
      rw [Hx.out]
      exact ⟨rfl, hS.to⟩
    · have hf : fitsI t = 0 := by unfold fitsI; rw [if_neg hm, if_neg hb]
      have Hx := Lib.hid (show sizedV A t cap = .tuple #[.slice A t.length cap, .int .i64 0] by unfold sizedV; rw [if_pos hf])
      clear hf
      go_enter Tryz.func33, Tryz.ntmps33
      go_wp2_with ((go_at_call 23; refine ((l1 _ _ hS inferInstance)).mono ?_; rintro e w' (⟨rfl, hS⟩)))
      go_ret2
      rw [Hx.out]
      exact ⟨rfl, hS.to⟩
def OneP (B : Base) (R : HL) (X : List En) (e : Ending) (w' : World) : Prop :=
  ∃ A sp cap, e = .returned (.slice A X.length cap) ∧ OwnSl enE A X sp cap ∧ Sh B (rowA A (flat enE X ++ sp) 24 ++ R) w'
theorem SortR_to [HasML B] (hS : Sh B R w) {A : Option Addr} {cap : Nat} {t X : List En} (r : RdAt enE B R A t) (hc : t.length ≤ cap) (hl : t.length ≤ 8388608) (hg : GoodP t)
    (hX : ∀ ys : List En, ys.Perm t → (ys.Pairwise fun x y => 0 ≤ lessI y.path x.path) → ys = X) :
    Calls Tryz.prog 29 #[.slice A t.length cap] w (OneP B R X) := by
  refine (SortR_all t.length t rfl hS r hc hl hg).mono ?_
  rintro e w' ⟨A2, sp2, cap2, ys, rfl, h1, h2, hO, hS⟩
  obtain rfl := hX ys h1 h2
  exact ⟨A2, sp2, cap2, rfl, hO, hS⟩
theorem SizedR_ok [HasML B] (hS : Sh B R w) {A : Option Addr} {cap : Nat} {t : List En} (r : RdAt enE B R A t) (hl : t.length ≤ 16777216) (hsm : SmallE t) (hf : fitsI t = 0) :
    Calls Tryz.prog 33 #[.slice A t.length cap] w fun e w' => e = .returned (.tuple #[.slice A t.length cap, .int .i64 0]) ∧ Sh B R w' := by
  have := SizedR_any hS (cap := cap) (t := t) (r := r) hl hsm
  unfold sizedV at this
  rwa [if_pos hf] at this
theorem SizedR_bad [HasML B] (hS : Sh B R w) {A : Option Addr} {cap : Nat} {t : List En} (r : RdAt enE B R A t) (hl : t.length ≤ 16777216) (hsm : SmallE t) {n : Int} (hf : fitsI t = n) (hn : ¬ n = 0) :
    Calls Tryz.prog 33 #[.slice A t.length cap] w fun e w' => e = .returned (.tuple #[.slice none 0 0, .int .i64 n]) ∧ Sh B R w' := by
  have := SizedR_any hS (cap := cap) (t := t) (r := r) hl hsm
  unfold sizedV at this
  rwa [if_neg (by rw [hf]; exact hn), hf] at this
set_option maxRecDepth 100000 in
set_option maxHeartbeats 6400000 in
theorem RPut_any [HasML B] [NoDraw B] (hS : Sh B R w) {A : Option Addr} {cap : Nat} {t : List En} [r : RdAt enE B R A t] (hc : t.length ≤ cap) (hl : t.length ≤ 8000000) (hsm : SmallE t) (e : En) (hp : e.path.size ≤ 16777216) (hdz : e.data.size ≤ 16777216) :
    Calls Tryz.prog 9 #[.slice A t.length cap, .agg e.cells.toArray] w (ApplyP B R (putR t e)) := by
  have l1 := fun (w : World) (H : HL) (hS : Sh B H w) (r : RdAt enE B H A t) => CheckR_any hS (A := A) (cap := cap) (t := t) (r := r) hc (by omega) hsm
  rw [← checks_same] at l1
  have l2 := fun (w : World) (H : HL) (hS : Sh B H w) => MayR_any hS e hp
  have l3 := fun (w : World) (H : HL) (hS : Sh B H w) => UpR_any hS e.path hp
  have l4 := fun (w : World) (H : HL) (hS : Sh B H w) (r : RdAt enE B H A t) => IsDirR_any hS (cap := cap) (t := t) (r := r) (by omega) (upP e.path)
  have l5 := fun (w : World) (H : HL) (hS : Sh B H w) (r : RdAt enE B H A t) => FindR_any hS (cap := cap) (t := t) (r := r) (by omega) e.path
  by_cases ha : (checkA t).2 = 0
  · obtain ⟨hca, hT⟩ := right_of ha
    rw [hca] at l1
    by_cases hm : mayB e = true
    · rw [hm] at l2
      rw [isDirF_where (up_ok (mayB_ok hm).1)] at l4
      by_cases hw : whereI t (upP e.path) = 0
      · rw [decide_eq_true hw] at l4
        rcases find_idx (t := t) (p := e.path) with ⟨f1, f2, _, _, _⟩ | ⟨i, x, f1, f2, gx, f3, f4, _⟩
        · have hpo : putO t e = some (t ++ [e]) := by unfold putO; rw [f2]
          have hmo := putO_ok hT.may hT.sorted.dist hm hpo
          have hgo : GoodP (t ++ [e]) := fun y hy => ⟨(mayB_ok (hmo.1 y hy)).1, by
            rcases List.mem_append.1 hy with h | h
            · exact (hsm y h).1
            · rw [List.mem_singleton.1 h]; exact hp⟩
          have hun := fun ys h1 h2 => put_srt hT hm f1 (ys := ys) h1 h2
          have hsz : SmallE (srt (t ++ [e])) := fun y hy => by
            rcases List.mem_append.1 ((srt_perm _).subset hy) with h | h
            · exact hsm y h
            · rw [List.mem_singleton.1 h]; exact ⟨hp, hdz⟩
          have hfi : fitsI (srt (t ++ [e])) = fitsI (t ++ [e]) := fits_perm (srt_perm _)
          have hlx : (srt (t ++ [e])).length = t.length + 1 := by rw [(srt_perm _).length_eq]; simp
          obtain ⟨X, hX⟩ : ∃ X, srt (t ++ [e]) = X := ⟨_, rfl⟩
          have Hr := Lib.hid (show putR t e = if fitsI X = 0 then (X, 0) else ([], fitsI X) by
            unfold putR
            rw [if_pos ha, if_pos hm, if_pos hw, hpo, ← hX, hfi])
          rw [hX] at hun hsz hlx
          have l6 := fun (w : World) (H : HL) (hS : Sh B H w) (ys : List En) (hy : ys = t ++ [e]) (A2 : Option Addr) (cap2 : Nat) (hc2 : ys.length ≤ cap2) (r : RdAt enE B H A2 ys) => SortR_to hS (A := A2) (cap := cap2) (t := ys) r hc2 (by rw [hy]; simp; omega) (by rw [hy]; exact hgo) (fun y2 h1 h2 => hun y2 (by rw [← hy]; exact h1) h2)
          rw [f1] at l5
          have hN0 : OwnSl enE none [] [] 0 := OwnSl.nothing
          clear hX hgo hun hfi hmo hpo f1 f2 ha hca hm hw hT
          by_cases hf : fitsI X = 0
          · have l7 := fun (w : World) (H : HL) (hS : Sh B H w) (A3 : Option Addr) (cap3 : Nat) (r : RdAt enE B H A3 X) => SizedR_ok hS (A := A3) (cap := cap3) r (by omega) hsz hf
            rw [if_pos hf] at Hr
            clear hf hsz hlx
            go_enter Tryz.func9, Tryz.ntmps9
            (go_upto_region 8 with (first | (refine wl_box rfl rfl rfl rfl hS ?_; intro eb _ hS; (try simp only [Act.put, List.setIfInBounds_toArray, List.set_cons_zero, List.set_cons_succ])) | (go_at_call 31; refine ((l1 _ _ hS inferInstance)).mono ?_; rintro e w' (⟨rfl, hS⟩)) | (go_at_call 28; refine ((l2 _ _ hS)).mono ?_; rintro e w' (⟨rfl, hS⟩)) | (go_at_call 30; refine ((l3 _ _ hS)).mono ?_; rintro e w' (⟨rfl, hS⟩)) | (go_at_call 32; refine ((l4 _ _ hS inferInstance)).mono ?_; rintro e w' (⟨rfl, hS⟩)) | (refine wl_isld rfl ?_; ((first | refine wl_value rfl (ex_ldC hS rfl rfl CellAt.out) ?_ | refine wl_value rfl (ex_ldr0 hS rfl rfl rfl) ?_); (try simp only [Act.put, List.setIfInBounds_toArray, List.set_cons_zero, List.set_cons_succ])))))
            go_upto_region 9 with (first | (go_at_call 20; refine ((l5 _ _ hS inferInstance)).mono ?_; rintro e w' (⟨rfl, hS⟩)) | (refine wl_isld rfl ?_; ((refine wl_value rfl (ex_ldC hS rfl rfl CellAt.out) ?_); (try simp only [Act.put, List.setIfInBounds_toArray, List.set_cons_zero, List.set_cons_succ]))))
            (have hS : Sh B (rowA none (flat enE [] ++ []) 24 ++ (cellB eb e.cells 24 ++ R)) _ := hS); (go_upto_region 10 with ((refine wl_apz (E := enE) rfl rfl rfl rfl hS ?_ ?_ ?_ ?_ ?_; (focus (rfl)); (focus (rfl)); (focus ((simp only [List.length_nil]; omega))); (focus decide); intro zs A2 sp2 cap2 _ hz0 hO hS; have Hz := Lib.hid hz0; clear hz0; (try simp only [Act.put, List.setIfInBounds_toArray, List.set_cons_zero, List.set_cons_succ])))); (have hz : zs = t := by rw [Hz.out]; rfl); clear Hz; subst hz
            go_wp2_with (first | (refine wl_buildSlice (E := enE) [e] rfl rfl (by simp only [List.map_toArray, List.map_cons, List.map_nil]; rfl) rfl (by decide) (by decide) hS ?_; intro _ _ hS hN; (try simp only [Act.put, List.setIfInBounds_toArray, List.set_cons_zero, List.set_cons_succ])) | (refine wl_apz (E := enE) rfl rfl rfl rfl hS ?_ ?_ ?_ ?_ ?_; (focus (rfl)); (focus (rfl)); (focus ((simp only [List.length_cons, List.length_nil]; omega))); (focus decide); intro z2 A3 sp3 cap3 _ hz0 hO3 hS; have Hz3 := Lib.hid hz0; clear hz0; (try simp only [Act.put, List.setIfInBounds_toArray, List.set_cons_zero, List.set_cons_succ])) | (go_at_call 29; refine ((l6 _ _ hS _ Hz3.out _ _ hO3.len_le inferInstance)).mono ?_; rintro e w' (⟨A4, sp4, cap4, rfl, hO4, hS⟩)) | (go_at_call 33; refine ((l7 _ _ hS _ _ inferInstance)).mono ?_; rintro e w' (⟨rfl, hS⟩)) | (refine wl_isld rfl ?_; ((refine wl_value rfl (ex_ldr0 hS rfl rfl rfl) ?_); (try simp only [Act.put, List.setIfInBounds_toArray, List.set_cons_zero, List.set_cons_succ]))))
            go_ret2
            rw [Hr.out]
            exact ⟨A4, sp4, cap4, rfl, hO4, hS.to⟩
          · rw [if_neg hf] at Hr
            obtain ⟨v, hv⟩ : ∃ v, fitsI X = v := ⟨_, rfl⟩
            have l7 := fun (w : World) (H : HL) (hS : Sh B H w) (A3 : Option Addr) (cap3 : Nat) (r : RdAt enE B H A3 X) => SizedR_bad hS (A := A3) (cap := cap3) r (by omega) hsz hv (by rw [← hv]; exact hf)
            rw [hv] at Hr
            clear hf hsz hlx hv
            go_enter Tryz.func9, Tryz.ntmps9
            (go_upto_region 8 with (first | (refine wl_box rfl rfl rfl rfl hS ?_; intro eb _ hS; (try simp only [Act.put, List.setIfInBounds_toArray, List.set_cons_zero, List.set_cons_succ])) | (go_at_call 31; refine ((l1 _ _ hS inferInstance)).mono ?_; rintro e w' (⟨rfl, hS⟩)) | (go_at_call 28; refine ((l2 _ _ hS)).mono ?_; rintro e w' (⟨rfl, hS⟩)) | (go_at_call 30; refine ((l3 _ _ hS)).mono ?_; rintro e w' (⟨rfl, hS⟩)) | (go_at_call 32; refine ((l4 _ _ hS inferInstance)).mono ?_; rintro e w' (⟨rfl, hS⟩)) | (refine wl_isld rfl ?_; ((first | refine wl_value rfl (ex_ldC hS rfl rfl CellAt.out) ?_ | refine wl_value rfl (ex_ldr0 hS rfl rfl rfl) ?_); (try simp only [Act.put, List.setIfInBounds_toArray, List.set_cons_zero, List.set_cons_succ])))))
            go_upto_region 9 with (first | (go_at_call 20; refine ((l5 _ _ hS inferInstance)).mono ?_; rintro e w' (⟨rfl, hS⟩)) | (refine wl_isld rfl ?_; ((refine wl_value rfl (ex_ldC hS rfl rfl CellAt.out) ?_); (try simp only [Act.put, List.setIfInBounds_toArray, List.set_cons_zero, List.set_cons_succ]))))
            (have hS : Sh B (rowA none (flat enE [] ++ []) 24 ++ (cellB eb e.cells 24 ++ R)) _ := hS); (go_upto_region 10 with ((refine wl_apz (E := enE) rfl rfl rfl rfl hS ?_ ?_ ?_ ?_ ?_; (focus (rfl)); (focus (rfl)); (focus ((simp only [List.length_nil]; omega))); (focus decide); intro zs A2 sp2 cap2 _ hz0 hO hS; have Hz := Lib.hid hz0; clear hz0; (try simp only [Act.put, List.setIfInBounds_toArray, List.set_cons_zero, List.set_cons_succ])))); (have hz : zs = t := by rw [Hz.out]; rfl); clear Hz; subst hz
            go_wp2_with (first | (refine wl_buildSlice (E := enE) [e] rfl rfl (by simp only [List.map_toArray, List.map_cons, List.map_nil]; rfl) rfl (by decide) (by decide) hS ?_; intro _ _ hS hN; (try simp only [Act.put, List.setIfInBounds_toArray, List.set_cons_zero, List.set_cons_succ])) | (refine wl_apz (E := enE) rfl rfl rfl rfl hS ?_ ?_ ?_ ?_ ?_; (focus (rfl)); (focus (rfl)); (focus ((simp only [List.length_cons, List.length_nil]; omega))); (focus decide); intro z2 A3 sp3 cap3 _ hz0 hO3 hS; have Hz3 := Lib.hid hz0; clear hz0; (try simp only [Act.put, List.setIfInBounds_toArray, List.set_cons_zero, List.set_cons_succ])) | (go_at_call 29; refine ((l6 _ _ hS _ Hz3.out _ _ hO3.len_le inferInstance)).mono ?_; rintro e w' (⟨A4, sp4, cap4, rfl, hO4, hS⟩)) | (go_at_call 33; refine ((l7 _ _ hS _ _ inferInstance)).mono ?_; rintro e w' (⟨rfl, hS⟩)) | (refine wl_isld rfl ?_; ((refine wl_value rfl (ex_ldr0 hS rfl rfl rfl) ?_); (try simp only [Act.put, List.setIfInBounds_toArray, List.set_cons_zero, List.set_cons_succ]))))
            go_ret2
            rw [Hr.out]
            exact .bad hS.to
        · rw [f1] at l5
          have d2 : decide ((i : Int) < 0) = false := decide_eq_false (by omega)
          have hN0 : OwnSl enE none [] [] 0 := OwnSl.nothing
          have hpo : putO t e = if decide (x.kind = 2) = decide (e.kind = 2) then some (t.set i e) else none := by unfold putO; rw [f2]; dsimp only; rw [f4]
          by_cases hk : decide (x.kind = 2) = decide (e.kind = 2)
          · rw [if_pos hk] at hpo
            have dk := kindB hk
            have d6 : ((x.kind == 2) == (e.kind == 2)) = true := by
              revert dk
              cases (x.kind == 2) <;> cases (e.kind == 2) <;> simp
            clear dk
            have hsz : SmallE (t.set i e) := fun y hy => by
              rcases List.mem_or_eq_of_mem_set hy with h | h
              · exact hsm y h
              · rw [h]; exact ⟨hp, hdz⟩
            have hse := set_srt hT gx f3
            have hls : (t.set i e).length = t.length := List.length_set
            have Hr := Lib.hid (show putR t e = if fitsI (t.set i e) = 0 then (t.set i e, 0) else ([], fitsI (t.set i e)) by
              unfold putR
              rw [if_pos ha, if_pos hm, if_pos hw, hpo]
              dsimp only
              rw [hse])
            clear hpo ha hca hm hw hT f1 f2 f3 f4 hse hk
            by_cases hf : fitsI (t.set i e) = 0
            · have l7 := fun (w : World) (H : HL) (hS : Sh B H w) (A3 : Option Addr) (cap3 : Nat) (r : RdAt enE B H A3 (t.set i e)) => SizedR_ok hS (A := A3) (cap := cap3) r (by rw [hls]; omega) hsz hf
              rw [hls] at l7
              rw [if_pos hf] at Hr
              have Hls := Lib.hid hls
              clear hf hsz hls
              go_enter Tryz.func9, Tryz.ntmps9
              (go_upto_region 8 with (first | (refine wl_box rfl rfl rfl rfl hS ?_; intro eb _ hS; (try simp only [Act.put, List.setIfInBounds_toArray, List.set_cons_zero, List.set_cons_succ])) | (go_at_call 31; refine ((l1 _ _ hS inferInstance)).mono ?_; rintro e w' (⟨rfl, hS⟩)) | (go_at_call 28; refine ((l2 _ _ hS)).mono ?_; rintro e w' (⟨rfl, hS⟩)) | (go_at_call 30; refine ((l3 _ _ hS)).mono ?_; rintro e w' (⟨rfl, hS⟩)) | (go_at_call 32; refine ((l4 _ _ hS inferInstance)).mono ?_; rintro e w' (⟨rfl, hS⟩)) | (refine wl_isld rfl ?_; ((first | refine wl_value rfl (ex_ldC hS rfl rfl CellAt.out) ?_ | refine wl_value rfl (ex_ldr0 hS rfl rfl rfl) ?_); (try simp only [Act.put, List.setIfInBounds_toArray, List.set_cons_zero, List.set_cons_succ])))))
              go_upto_region 9 with (first | (go_at_call 20; refine ((l5 _ _ hS inferInstance)).mono ?_; rintro e w' (⟨rfl, hS⟩)) | (refine wl_isld rfl ?_; ((refine wl_value rfl (ex_ldC hS rfl rfl CellAt.out) ?_); (try simp only [Act.put, List.setIfInBounds_toArray, List.set_cons_zero, List.set_cons_succ]))))
              (have hS : Sh B (rowA none (flat enE [] ++ []) 24 ++ (cellB eb e.cells 24 ++ R)) _ := hS); (go_upto_region 10 with ((refine wl_apz (E := enE) rfl rfl rfl rfl hS ?_ ?_ ?_ ?_ ?_; (focus (rfl)); (focus (rfl)); (focus ((simp only [List.length_nil]; omega))); (focus decide); intro zs A2 sp2 cap2 _ hz0 hO hS; have Hz := Lib.hid hz0; clear hz0; (try simp only [Act.put, List.setIfInBounds_toArray, List.set_cons_zero, List.set_cons_succ])))); (have hz : zs = t := by rw [Hz.out]; rfl); clear Hz; subst hz
              go_upto_region 12 with (fail)
              (refine wp_drawnF hS [(0, true), (1, true), (2, true), (3, true), (4, true), (5, true), (6, true), (7, true), (8, true), (9, true)] (by kernel_rfl) (by kernel_rfl) (by intro d _ _ _ _ h; cases d <;> exact h) ?_; have hS := hS.drew; simp only [picks_cons, picks_nil, opAt, List.toList_toArray]; (refine wpF_U (v := ?_) rfl ?_ (Sh.to hS) ?_; rotate_left; (focus (intro _ _; go_simp; (try (rw [wrap_i64]; (rotate_left; omega))); (try with_reducible rfl))); (try simp only [Act.put, List.setIfInBounds_toArray, List.set_cons_zero, List.set_cons_succ])); (refine wpF_U (v := ?_) rfl ?_ (Sh.to hS) ?_; rotate_left; (focus (intro _ _; go_simp; (try (rw [wrap_i64]; (rotate_left; omega))); (try with_reducible rfl))); (try simp only [Act.put, List.setIfInBounds_toArray, List.set_cons_zero, List.set_cons_succ])); ((refine wpF_U rfl (fun _ hT => ex_ix hT rfl rfl rfl ?_) (Sh.to hS) ?_); (focus (rfl)); (try simp only [Act.put, List.setIfInBounds_toArray, List.set_cons_zero, List.set_cons_succ])); (refine wpF_U (v := ?_) rfl ?_ (Sh.to hS) ?_; rotate_left; (focus (intro _ _; go_simp; (try (rw [wrap_i64]; (rotate_left; omega))); (try with_reducible rfl))); (try simp only [Act.put, List.setIfInBounds_toArray, List.set_cons_zero, List.set_cons_succ])); ((refine wpF_U rfl (fun _ hT => ex_lf hT rfl rfl rfl CellAt.out) (Sh.to hS) ?_); (try simp only [Act.put, List.setIfInBounds_toArray, List.set_cons_zero, List.set_cons_succ])); ((refine wpF_U (v := ?_) rfl ?_ (Sh.to hS) ?_; rotate_left; (focus (intro _ _; go_simp; (try (rw [wrap_i64]; (rotate_left; omega))); (try with_reducible rfl))); (try simp only [Act.put, List.setIfInBounds_toArray, List.set_cons_zero, List.set_cons_succ]))); (refine wpF_U (v := ?_) rfl ?_ (Sh.to hS) ?_; rotate_left; (focus (intro _ _; go_simp; (try (rw [wrap_i64]; (rotate_left; omega))); (try with_reducible rfl))); (try simp only [Act.put, List.setIfInBounds_toArray, List.set_cons_zero, List.set_cons_succ])); ((refine wpF_U rfl (fun _ hT => ex_ldC hT rfl rfl CellAt.out) (Sh.to hS) ?_); (try simp only [Act.put, List.setIfInBounds_toArray, List.set_cons_zero, List.set_cons_succ])); ((refine wpF_U (v := ?_) rfl ?_ (Sh.to hS) ?_; rotate_left; (focus (intro _ _; go_simp; (try (rw [wrap_i64]; (rotate_left; omega))); (try with_reducible rfl))); (try simp only [Act.put, List.setIfInBounds_toArray, List.set_cons_zero, List.set_cons_succ]))); ((refine wpF_U (v := ?_) rfl ?_ (Sh.to hS) ?_; rotate_left; (focus (intro _ _; go_simp; (try (rw [wrap_i64]; (rotate_left; omega))); (try with_reducible rfl))); (try simp only [Act.put, List.setIfInBounds_toArray, List.set_cons_zero, List.set_cons_succ]))); ((refine wpF_done (by assumption) ?_)))
              go_wp2_with (first | (refine wl_stEw rfl rfl rfl rfl hS hO rfl rfl ?_; clear hO; intro _ hS hO gy; (try simp only [evT, evC, List.getD_cons_succ, List.getD_cons_zero, List.set_cons_zero, List.set_cons_succ] at hS); (try simp only [Act.put, List.setIfInBounds_toArray, List.set_cons_zero, List.set_cons_succ])) | (go_at_call 33; refine ((l7 _ _ hS _ _ inferInstance)).mono ?_; rintro e w' (⟨rfl, hS⟩)) | (refine wl_isld rfl ?_; ((refine wl_value rfl (ex_ldr0 hS rfl rfl rfl) ?_); (try simp only [Act.put, List.setIfInBounds_toArray, List.set_cons_zero, List.set_cons_succ]))) | ((refine wl_value rfl (ex_ix hS rfl rfl rfl ?_) ?_); (focus (rfl)); (try simp only [Act.put, List.setIfInBounds_toArray, List.set_cons_zero, List.set_cons_succ])))
              go_ret2
              rw [Hr.out]
              exact ⟨A2, sp2, cap2, (by dsimp only; rw [Hls.out]; rfl), hO, hS.to⟩
            · rw [if_neg hf] at Hr
              obtain ⟨v, hv⟩ : ∃ v, fitsI (t.set i e) = v := ⟨_, rfl⟩
              have l7 := fun (w : World) (H : HL) (hS : Sh B H w) (A3 : Option Addr) (cap3 : Nat) (r : RdAt enE B H A3 (t.set i e)) => SizedR_bad hS (A := A3) (cap := cap3) r (by rw [hls]; omega) hsz hv (by rw [← hv]; exact hf)
              rw [hls] at l7
              rw [hv] at Hr
              clear hf hsz hls hv
              go_enter Tryz.func9, Tryz.ntmps9
              (go_upto_region 8 with (first | (refine wl_box rfl rfl rfl rfl hS ?_; intro eb _ hS; (try simp only [Act.put, List.setIfInBounds_toArray, List.set_cons_zero, List.set_cons_succ])) | (go_at_call 31; refine ((l1 _ _ hS inferInstance)).mono ?_; rintro e w' (⟨rfl, hS⟩)) | (go_at_call 28; refine ((l2 _ _ hS)).mono ?_; rintro e w' (⟨rfl, hS⟩)) | (go_at_call 30; refine ((l3 _ _ hS)).mono ?_; rintro e w' (⟨rfl, hS⟩)) | (go_at_call 32; refine ((l4 _ _ hS inferInstance)).mono ?_; rintro e w' (⟨rfl, hS⟩)) | (refine wl_isld rfl ?_; ((first | refine wl_value rfl (ex_ldC hS rfl rfl CellAt.out) ?_ | refine wl_value rfl (ex_ldr0 hS rfl rfl rfl) ?_); (try simp only [Act.put, List.setIfInBounds_toArray, List.set_cons_zero, List.set_cons_succ])))))
              go_upto_region 9 with (first | (go_at_call 20; refine ((l5 _ _ hS inferInstance)).mono ?_; rintro e w' (⟨rfl, hS⟩)) | (refine wl_isld rfl ?_; ((refine wl_value rfl (ex_ldC hS rfl rfl CellAt.out) ?_); (try simp only [Act.put, List.setIfInBounds_toArray, List.set_cons_zero, List.set_cons_succ]))))
              (have hS : Sh B (rowA none (flat enE [] ++ []) 24 ++ (cellB eb e.cells 24 ++ R)) _ := hS); (go_upto_region 10 with ((refine wl_apz (E := enE) rfl rfl rfl rfl hS ?_ ?_ ?_ ?_ ?_; (focus (rfl)); (focus (rfl)); (focus ((simp only [List.length_nil]; omega))); (focus decide); intro zs A2 sp2 cap2 _ hz0 hO hS; have Hz := Lib.hid hz0; clear hz0; (try simp only [Act.put, List.setIfInBounds_toArray, List.set_cons_zero, List.set_cons_succ])))); (have hz : zs = t := by rw [Hz.out]; rfl); clear Hz; subst hz
              go_upto_region 12 with (fail)
              (refine wp_drawnF hS [(0, true), (1, true), (2, true), (3, true), (4, true), (5, true), (6, true), (7, true), (8, true), (9, true)] (by kernel_rfl) (by kernel_rfl) (by intro d _ _ _ _ h; cases d <;> exact h) ?_; have hS := hS.drew; simp only [picks_cons, picks_nil, opAt, List.toList_toArray]; (refine wpF_U (v := ?_) rfl ?_ (Sh.to hS) ?_; rotate_left; (focus (intro _ _; go_simp; (try (rw [wrap_i64]; (rotate_left; omega))); (try with_reducible rfl))); (try simp only [Act.put, List.setIfInBounds_toArray, List.set_cons_zero, List.set_cons_succ])); (refine wpF_U (v := ?_) rfl ?_ (Sh.to hS) ?_; rotate_left; (focus (intro _ _; go_simp; (try (rw [wrap_i64]; (rotate_left; omega))); (try with_reducible rfl))); (try simp only [Act.put, List.setIfInBounds_toArray, List.set_cons_zero, List.set_cons_succ])); ((refine wpF_U rfl (fun _ hT => ex_ix hT rfl rfl rfl ?_) (Sh.to hS) ?_); (focus (rfl)); (try simp only [Act.put, List.setIfInBounds_toArray, List.set_cons_zero, List.set_cons_succ])); (refine wpF_U (v := ?_) rfl ?_ (Sh.to hS) ?_; rotate_left; (focus (intro _ _; go_simp; (try (rw [wrap_i64]; (rotate_left; omega))); (try with_reducible rfl))); (try simp only [Act.put, List.setIfInBounds_toArray, List.set_cons_zero, List.set_cons_succ])); ((refine wpF_U rfl (fun _ hT => ex_lf hT rfl rfl rfl CellAt.out) (Sh.to hS) ?_); (try simp only [Act.put, List.setIfInBounds_toArray, List.set_cons_zero, List.set_cons_succ])); ((refine wpF_U (v := ?_) rfl ?_ (Sh.to hS) ?_; rotate_left; (focus (intro _ _; go_simp; (try (rw [wrap_i64]; (rotate_left; omega))); (try with_reducible rfl))); (try simp only [Act.put, List.setIfInBounds_toArray, List.set_cons_zero, List.set_cons_succ]))); (refine wpF_U (v := ?_) rfl ?_ (Sh.to hS) ?_; rotate_left; (focus (intro _ _; go_simp; (try (rw [wrap_i64]; (rotate_left; omega))); (try with_reducible rfl))); (try simp only [Act.put, List.setIfInBounds_toArray, List.set_cons_zero, List.set_cons_succ])); ((refine wpF_U rfl (fun _ hT => ex_ldC hT rfl rfl CellAt.out) (Sh.to hS) ?_); (try simp only [Act.put, List.setIfInBounds_toArray, List.set_cons_zero, List.set_cons_succ])); ((refine wpF_U (v := ?_) rfl ?_ (Sh.to hS) ?_; rotate_left; (focus (intro _ _; go_simp; (try (rw [wrap_i64]; (rotate_left; omega))); (try with_reducible rfl))); (try simp only [Act.put, List.setIfInBounds_toArray, List.set_cons_zero, List.set_cons_succ]))); ((refine wpF_U (v := ?_) rfl ?_ (Sh.to hS) ?_; rotate_left; (focus (intro _ _; go_simp; (try (rw [wrap_i64]; (rotate_left; omega))); (try with_reducible rfl))); (try simp only [Act.put, List.setIfInBounds_toArray, List.set_cons_zero, List.set_cons_succ]))); ((refine wpF_done (by assumption) ?_)))
              go_wp2_with (first | (refine wl_stEw rfl rfl rfl rfl hS hO rfl rfl ?_; clear hO; intro _ hS hO gy; (try simp only [evT, evC, List.getD_cons_succ, List.getD_cons_zero, List.set_cons_zero, List.set_cons_succ] at hS); (try simp only [Act.put, List.setIfInBounds_toArray, List.set_cons_zero, List.set_cons_succ])) | (go_at_call 33; refine ((l7 _ _ hS _ _ inferInstance)).mono ?_; rintro e w' (⟨rfl, hS⟩)) | (refine wl_isld rfl ?_; ((refine wl_value rfl (ex_ldr0 hS rfl rfl rfl) ?_); (try simp only [Act.put, List.setIfInBounds_toArray, List.set_cons_zero, List.set_cons_succ]))) | ((refine wl_value rfl (ex_ix hS rfl rfl rfl ?_) ?_); (focus (rfl)); (try simp only [Act.put, List.setIfInBounds_toArray, List.set_cons_zero, List.set_cons_succ])))
              go_ret2
              rw [Hr.out]
              exact .bad hS.to
          · rw [if_neg hk] at hpo
            have d6 : ((x.kind == 2) == (e.kind == 2)) = false := by
              have e1 : (x.kind == 2) = decide (x.kind = 2) := by rw [Bool.eq_iff_iff]; simp
              have e2 : (e.kind == 2) = decide (e.kind = 2) := by rw [Bool.eq_iff_iff]; simp
              rw [e1, e2]
              exact beq_no hk
            have Hr := Lib.hid (show putR t e = ([], 9) by
              unfold putR
              rw [if_pos ha, if_pos hm, if_pos hw, hpo])
            clear hpo ha hca hm hw hT f1 f2 f3 f4 hk
            go_enter Tryz.func9, Tryz.ntmps9
            (go_upto_region 8 with (first | (refine wl_box rfl rfl rfl rfl hS ?_; intro eb _ hS; (try simp only [Act.put, List.setIfInBounds_toArray, List.set_cons_zero, List.set_cons_succ])) | (go_at_call 31; refine ((l1 _ _ hS inferInstance)).mono ?_; rintro e w' (⟨rfl, hS⟩)) | (go_at_call 28; refine ((l2 _ _ hS)).mono ?_; rintro e w' (⟨rfl, hS⟩)) | (go_at_call 30; refine ((l3 _ _ hS)).mono ?_; rintro e w' (⟨rfl, hS⟩)) | (go_at_call 32; refine ((l4 _ _ hS inferInstance)).mono ?_; rintro e w' (⟨rfl, hS⟩)) | (refine wl_isld rfl ?_; ((first | refine wl_value rfl (ex_ldC hS rfl rfl CellAt.out) ?_ | refine wl_value rfl (ex_ldr0 hS rfl rfl rfl) ?_); (try simp only [Act.put, List.setIfInBounds_toArray, List.set_cons_zero, List.set_cons_succ])))))
            go_upto_region 9 with (first | (go_at_call 20; refine ((l5 _ _ hS inferInstance)).mono ?_; rintro e w' (⟨rfl, hS⟩)) | (refine wl_isld rfl ?_; ((refine wl_value rfl (ex_ldC hS rfl rfl CellAt.out) ?_); (try simp only [Act.put, List.setIfInBounds_toArray, List.set_cons_zero, List.set_cons_succ]))))
            (have hS : Sh B (rowA none (flat enE [] ++ []) 24 ++ (cellB eb e.cells 24 ++ R)) _ := hS); (go_upto_region 10 with ((refine wl_apz (E := enE) rfl rfl rfl rfl hS ?_ ?_ ?_ ?_ ?_; (focus (rfl)); (focus (rfl)); (focus ((simp only [List.length_nil]; omega))); (focus decide); intro zs A2 sp2 cap2 _ hz0 hO hS; have Hz := Lib.hid hz0; clear hz0; (try simp only [Act.put, List.setIfInBounds_toArray, List.set_cons_zero, List.set_cons_succ])))); (have hz : zs = t := by rw [Hz.out]; rfl); clear Hz; subst hz
            go_upto_region 12 with (fail)
            (refine wp_drawnF hS [(0, true), (1, true), (2, true), (3, true), (4, true), (5, true), (6, true), (7, true), (8, true), (9, true)] (by kernel_rfl) (by kernel_rfl) (by intro d _ _ _ _ h; cases d <;> exact h) ?_; have hS := hS.drew; simp only [picks_cons, picks_nil, opAt, List.toList_toArray]; (refine wpF_U (v := ?_) rfl ?_ (Sh.to hS) ?_; rotate_left; (focus (intro _ _; go_simp; (try (rw [wrap_i64]; (rotate_left; omega))); (try with_reducible rfl))); (try simp only [Act.put, List.setIfInBounds_toArray, List.set_cons_zero, List.set_cons_succ])); (refine wpF_U (v := ?_) rfl ?_ (Sh.to hS) ?_; rotate_left; (focus (intro _ _; go_simp; (try (rw [wrap_i64]; (rotate_left; omega))); (try with_reducible rfl))); (try simp only [Act.put, List.setIfInBounds_toArray, List.set_cons_zero, List.set_cons_succ])); ((refine wpF_U rfl (fun _ hT => ex_ix hT rfl rfl rfl ?_) (Sh.to hS) ?_); (focus (rfl)); (try simp only [Act.put, List.setIfInBounds_toArray, List.set_cons_zero, List.set_cons_succ])); (refine wpF_U (v := ?_) rfl ?_ (Sh.to hS) ?_; rotate_left; (focus (intro _ _; go_simp; (try (rw [wrap_i64]; (rotate_left; omega))); (try with_reducible rfl))); (try simp only [Act.put, List.setIfInBounds_toArray, List.set_cons_zero, List.set_cons_succ])); ((refine wpF_U rfl (fun _ hT => ex_lf hT rfl rfl rfl CellAt.out) (Sh.to hS) ?_); (try simp only [Act.put, List.setIfInBounds_toArray, List.set_cons_zero, List.set_cons_succ])); ((refine wpF_U (v := ?_) rfl ?_ (Sh.to hS) ?_; rotate_left; (focus (intro _ _; go_simp; (try (rw [wrap_i64]; (rotate_left; omega))); (try with_reducible rfl))); (try simp only [Act.put, List.setIfInBounds_toArray, List.set_cons_zero, List.set_cons_succ]))); (refine wpF_U (v := ?_) rfl ?_ (Sh.to hS) ?_; rotate_left; (focus (intro _ _; go_simp; (try (rw [wrap_i64]; (rotate_left; omega))); (try with_reducible rfl))); (try simp only [Act.put, List.setIfInBounds_toArray, List.set_cons_zero, List.set_cons_succ])); ((refine wpF_U rfl (fun _ hT => ex_ldC hT rfl rfl CellAt.out) (Sh.to hS) ?_); (try simp only [Act.put, List.setIfInBounds_toArray, List.set_cons_zero, List.set_cons_succ])); ((refine wpF_U (v := ?_) rfl ?_ (Sh.to hS) ?_; rotate_left; (focus (intro _ _; go_simp; (try (rw [wrap_i64]; (rotate_left; omega))); (try with_reducible rfl))); (try simp only [Act.put, List.setIfInBounds_toArray, List.set_cons_zero, List.set_cons_succ]))); ((refine wpF_U (v := ?_) rfl ?_ (Sh.to hS) ?_; rotate_left; (focus (intro _ _; go_simp; (try (rw [wrap_i64]; (rotate_left; omega))); (try with_reducible rfl))); (try simp only [Act.put, List.setIfInBounds_toArray, List.set_cons_zero, List.set_cons_succ]))); ((refine wpF_done (by assumption) ?_)))
            go_wp2_with (fail)
            go_ret2
            rw [Hr.out]
            exact .bad hS.to
      · rw [decide_eq_false hw] at l4
        have Hr := Lib.hid (show putR t e = ([], 52) by
          unfold putR
          rw [if_pos ha, if_pos hm, if_neg hw])
        clear ha hca hm hw hT
        go_enter Tryz.func9, Tryz.ntmps9
        go_wp2_with (first | (refine wl_box rfl rfl rfl rfl hS ?_; intro eb _ hS; (try simp only [Act.put, List.setIfInBounds_toArray, List.set_cons_zero, List.set_cons_succ])) | (go_at_call 31; refine ((l1 _ _ hS inferInstance)).mono ?_; rintro e w' (⟨rfl, hS⟩)) | (go_at_call 28; refine ((l2 _ _ hS)).mono ?_; rintro e w' (⟨rfl, hS⟩)) | (go_at_call 30; refine ((l3 _ _ hS)).mono ?_; rintro e w' (⟨rfl, hS⟩)) | (go_at_call 32; refine ((l4 _ _ hS inferInstance)).mono ?_; rintro e w' (⟨rfl, hS⟩)) | (refine wl_isld rfl ?_; ((first | refine wl_value rfl (ex_ldC hS rfl rfl CellAt.out) ?_ | refine wl_value rfl (ex_ldr0 hS rfl rfl rfl) ?_); (try simp only [Act.put, List.setIfInBounds_toArray, List.set_cons_zero, List.set_cons_succ]))))
        go_ret2
        rw [Hr.out]
        exact .bad hS.to
    · rw [Bool.not_eq_true] at hm
      rw [hm] at l2
      have Hr := Lib.hid (show putR t e = ([], 50) by
        unfold putR
        rw [if_pos ha, if_neg (by rw [hm]; decide)])
      clear ha hca hm hT
      go_enter Tryz.func9, Tryz.ntmps9
      go_wp2_with (first | (refine wl_box rfl rfl rfl rfl hS ?_; intro eb _ hS; (try simp only [Act.put, List.setIfInBounds_toArray, List.set_cons_zero, List.set_cons_succ])) | (go_at_call 31; refine ((l1 _ _ hS inferInstance)).mono ?_; rintro e w' (⟨rfl, hS⟩)) | (go_at_call 28; refine ((l2 _ _ hS)).mono ?_; rintro e w' (⟨rfl, hS⟩)) | (refine wl_isld rfl ?_; ((refine wl_value rfl (ex_ldr0 hS rfl rfl rfl) ?_); (try simp only [Act.put, List.setIfInBounds_toArray, List.set_cons_zero, List.set_cons_succ]))))
      go_ret2
      rw [Hr.out]
      exact .bad hS.to
  · have Hr := Lib.hid (show putR t e = ([], (checkA t).2) by unfold putR; rw [if_neg ha])
    obtain ⟨v, hv⟩ : ∃ v, checkA t = v := ⟨_, rfl⟩
    rw [hv] at l1 ha Hr
    have d2 : (v.2 == 0) = false := beq_no ha
    have d3 : (v.2 != 0) = true := bne_no ha
    clear ha hv
    go_enter Tryz.func9, Tryz.ntmps9
    go_wp2_with (first | (refine wl_box rfl rfl rfl rfl hS ?_; intro eb _ hS; (try simp only [Act.put, List.setIfInBounds_toArray, List.set_cons_zero, List.set_cons_succ])) | (go_at_call 31; refine ((l1 _ _ hS inferInstance)).mono ?_; rintro e w' (⟨rfl, hS⟩)))
    go_ret2
    rw [Hr.out]
    exact .bad hS.to
end
end Go.Tk

set_option linter.unusedSectionVars false
set_option linter.unusedSimpArgs false
set_option linter.unusedVariables false
namespace Go.Tk
open Go.RowKit Go.Proofs
section
variable {B : Base} {R H H1 : HL} {w w' : World}
def leftB (p : ByteArray) (x : En) : Bool := !(decide (x.path = p)) && !belowT p x.path
def RmI (B : Base) (R : HL) (p : ByteArray) (t : List En) (x : RsSt) (w : World) : Prop :=
  ∃ sp, x.i ≤ t.length ∧ x.out = ((t.take x.i).filter (leftB p)) ∧ x.out.length ≤ x.i ∧ OwnSl enE x.A x.out sp x.cap ∧ Sh B (rowA x.A (flat enE x.out ++ sp) 24 ++ R) w
set_option maxRecDepth 100000 in
set_option maxHeartbeats 6400000 in
theorem RRemove_any [HasML B] [NoDraw B] (hS : Sh B R w) {A : Option Addr} {cap : Nat} {t : List En} [r : RdAt enE B R A t] (hc : t.length ≤ cap) (hl : t.length ≤ 8000000) (hsm : SmallE t) (p : ByteArray) (hp : p.size ≤ 16777216) :
    Calls Tryz.prog 15 #[.slice A t.length cap, .string p] w (ApplyP B R (removeR t p)) := by
  have l1 := fun (w : World) (H : HL) (hS : Sh B H w) (r : RdAt enE B H A t) => CheckR_any hS (A := A) (cap := cap) (t := t) (r := r) hc (by omega) hsm
  rw [← checks_same] at l1
  have l2 := fun (w : World) (H : HL) (hS : Sh B H w) => PathR_any hS p hp
  have l3 := fun (w : World) (H : HL) (hS : Sh B H w) (r : RdAt enE B H A t) => FindR_any hS (cap := cap) (t := t) (r := r) (by omega) p
  by_cases ha : (checkA t).2 = 0
  · obtain ⟨hca, hT⟩ := right_of ha
    rw [hca] at l1
    cases hok : okP p with
    | false =>
      rw [hok] at l2
      have Hr := Lib.hid (show removeR t p = ([], 45) by unfold removeR; rw [if_pos ha, if_neg (by rw [hok]; decide)])
      clear ha hca hok hT
      go_enter Tryz.func15, Tryz.ntmps15
      go_wp2_with (first | (go_at_call 31; refine ((l1 _ _ hS inferInstance)).mono ?_; rintro e w' (⟨rfl, hS⟩)) | (go_at_call 36; refine ((l2 _ _ hS)).mono ?_; rintro e w' (⟨rfl, hS⟩)) | (refine wl_isld rfl ?_; ((first | refine wl_value rfl (ex_l0 hS rfl rfl rfl CellAt.out) ?_ | refine wl_value rfl (ex_lf hS rfl rfl rfl CellAt.out) ?_ | refine wl_value rfl (ex_l1 hS rfl rfl rfl CellAt.out) ?_ | refine wl_value rfl (ex_ldC hS rfl rfl CellAt.out) ?_ | refine wl_value rfl (ex_l0 hS rfl rfl rfl rfl) ?_ | refine wl_value rfl (ex_lf hS rfl rfl rfl rfl) ?_ | refine wl_value rfl (ex_l1 hS rfl rfl rfl rfl) ?_ | refine wl_value rfl (ex_ldC hS rfl rfl rfl) ?_ | refine wl_value rfl (ex_l00 hS rfl rfl CellAt.out) ?_ | refine wl_value rfl (ex_l00 hS rfl rfl rfl) ?_ | refine wl_value rfl (ex_l0f hS rfl rfl CellAt.out) ?_ | refine wl_value rfl (ex_l0f hS rfl rfl rfl) ?_ | refine wl_value rfl (ex_lr hS rfl rfl rfl rfl) ?_ | refine wl_value rfl (ex_lr0 hS rfl rfl rfl) ?_ | refine wl_value rfl (ex_lrz hS rfl rfl rfl) ?_ | refine wl_value rfl (ex_lrf hS rfl rfl rfl) ?_ | refine wl_value rfl (ex_ldrC hS rfl rfl) ?_ | refine wl_value rfl (ex_ldr0 hS rfl rfl rfl) ?_); (try simp only [Act.put, List.setIfInBounds_toArray, List.set_cons_zero, List.set_cons_succ]))) | ((first | refine wl_value rfl (ex_ix hS rfl rfl rfl ?_) ?_); (focus (first | rfl | omega | (simp; done))); (try simp only [Act.put, List.setIfInBounds_toArray, List.set_cons_zero, List.set_cons_succ])) | ((first | refine wl_value rfl (ex_eqA rfl rfl rfl) ?_ | refine wl_value rfl (ex_neA rfl rfl rfl) ?_); (try simp only [Act.put, List.setIfInBounds_toArray, List.set_cons_zero, List.set_cons_succ])) | (refine wl_alloc rfl rfl hS ?_; intro _ _ hS; (try simp only [Act.put, List.setIfInBounds_toArray, List.set_cons_zero, List.set_cons_succ])) | (refine wl_box rfl rfl rfl rfl hS ?_; intro _ _ hS; (try simp only [Act.put, List.setIfInBounds_toArray, List.set_cons_zero, List.set_cons_succ])) | (refine wl_st rfl rfl rfl rfl rfl hS (of_decide_eq_true rfl) ?_; intro _ hS; (try simp only [evT, evC, List.getD_cons_succ, List.getD_cons_zero, List.set_cons_zero, List.set_cons_succ] at hS); (try simp only [List.set_cons_zero, List.set_cons_succ] at hS); (try simp only [Act.put, List.setIfInBounds_toArray, List.set_cons_zero, List.set_cons_succ])) | (refine wl_strC rfl rfl rfl rfl hS rfl rfl ?_; intro _ hS; (try simp only [evT, evC, List.getD_cons_succ, List.getD_cons_zero, List.set_cons_zero, List.set_cons_succ] at hS); (try simp only [Act.put, List.setIfInBounds_toArray, List.set_cons_zero, List.set_cons_succ])))
      go_ret2
      rw [Hr.out]
      exact .bad hS.to
    | true =>
      rw [hok] at l2
      rcases find_idx (t := t) (p := p) with ⟨f1, _, _, _, _⟩ | ⟨k, x, f1, _, _, _, _, _⟩
      · rw [f1] at l3
        have Hr := Lib.hid (show removeR t p = ([], 8) by unfold removeR; rw [if_pos ha, if_pos hok, if_pos f1])
        clear ha hca hok hT f1
        go_enter Tryz.func15, Tryz.ntmps15
        go_wp2_with (first | (go_at_call 31; refine ((l1 _ _ hS inferInstance)).mono ?_; rintro e w' (⟨rfl, hS⟩)) | (go_at_call 36; refine ((l2 _ _ hS)).mono ?_; rintro e w' (⟨rfl, hS⟩)) | (go_at_call 20; refine ((l3 _ _ hS inferInstance)).mono ?_; rintro e w' (⟨rfl, hS⟩)) | (refine wl_isld rfl ?_; ((first | refine wl_value rfl (ex_l0 hS rfl rfl rfl CellAt.out) ?_ | refine wl_value rfl (ex_lf hS rfl rfl rfl CellAt.out) ?_ | refine wl_value rfl (ex_l1 hS rfl rfl rfl CellAt.out) ?_ | refine wl_value rfl (ex_ldC hS rfl rfl CellAt.out) ?_ | refine wl_value rfl (ex_l0 hS rfl rfl rfl rfl) ?_ | refine wl_value rfl (ex_lf hS rfl rfl rfl rfl) ?_ | refine wl_value rfl (ex_l1 hS rfl rfl rfl rfl) ?_ | refine wl_value rfl (ex_ldC hS rfl rfl rfl) ?_ | refine wl_value rfl (ex_l00 hS rfl rfl CellAt.out) ?_ | refine wl_value rfl (ex_l00 hS rfl rfl rfl) ?_ | refine wl_value rfl (ex_l0f hS rfl rfl CellAt.out) ?_ | refine wl_value rfl (ex_l0f hS rfl rfl rfl) ?_ | refine wl_value rfl (ex_lr hS rfl rfl rfl rfl) ?_ | refine wl_value rfl (ex_lr0 hS rfl rfl rfl) ?_ | refine wl_value rfl (ex_lrz hS rfl rfl rfl) ?_ | refine wl_value rfl (ex_lrf hS rfl rfl rfl) ?_ | refine wl_value rfl (ex_ldrC hS rfl rfl) ?_ | refine wl_value rfl (ex_ldr0 hS rfl rfl rfl) ?_); (try simp only [Act.put, List.setIfInBounds_toArray, List.set_cons_zero, List.set_cons_succ]))) | ((first | refine wl_value rfl (ex_ix hS rfl rfl rfl ?_) ?_); (focus (first | rfl | omega | (simp; done))); (try simp only [Act.put, List.setIfInBounds_toArray, List.set_cons_zero, List.set_cons_succ])) | ((first | refine wl_value rfl (ex_eqA rfl rfl rfl) ?_ | refine wl_value rfl (ex_neA rfl rfl rfl) ?_); (try simp only [Act.put, List.setIfInBounds_toArray, List.set_cons_zero, List.set_cons_succ])) | (refine wl_alloc rfl rfl hS ?_; intro _ _ hS; (try simp only [Act.put, List.setIfInBounds_toArray, List.set_cons_zero, List.set_cons_succ])) | (refine wl_box rfl rfl rfl rfl hS ?_; intro _ _ hS; (try simp only [Act.put, List.setIfInBounds_toArray, List.set_cons_zero, List.set_cons_succ])) | (refine wl_st rfl rfl rfl rfl rfl hS (of_decide_eq_true rfl) ?_; intro _ hS; (try simp only [evT, evC, List.getD_cons_succ, List.getD_cons_zero, List.set_cons_zero, List.set_cons_succ] at hS); (try simp only [List.set_cons_zero, List.set_cons_succ] at hS); (try simp only [Act.put, List.setIfInBounds_toArray, List.set_cons_zero, List.set_cons_succ])) | (refine wl_strC rfl rfl rfl rfl hS rfl rfl ?_; intro _ hS; (try simp only [evT, evC, List.getD_cons_succ, List.getD_cons_zero, List.set_cons_zero, List.set_cons_succ] at hS); (try simp only [Act.put, List.setIfInBounds_toArray, List.set_cons_zero, List.set_cons_succ])))
        go_ret2
        rw [Hr.out]
        exact .bad hS.to
      · rw [f1] at l3
        have dk : decide ((k : Int) < 0) = false := decide_eq_false (by omega)
        have Hr := Lib.hid (show removeR t p = (t.filter (leftB p), 0) by unfold removeR; rw [if_pos ha, if_pos hok, if_neg (by rw [f1]; omega), gone_ref hT hok]; rfl)
        have Hsm := Lib.hid hsm
        clear ha hca hok hT f1 hsm
        go_enter Tryz.func15, Tryz.ntmps15
        go_wp2_with (first | (go_at_call 31; refine ((l1 _ _ hS inferInstance)).mono ?_; rintro e w' (⟨rfl, hS⟩)) | (go_at_call 36; refine ((l2 _ _ hS)).mono ?_; rintro e w' (⟨rfl, hS⟩)) | (go_at_call 20; refine ((l3 _ _ hS inferInstance)).mono ?_; rintro e w' (⟨rfl, hS⟩)) | (refine wl_isld rfl ?_; ((first | refine wl_value rfl (ex_l0 hS rfl rfl rfl CellAt.out) ?_ | refine wl_value rfl (ex_lf hS rfl rfl rfl CellAt.out) ?_ | refine wl_value rfl (ex_l1 hS rfl rfl rfl CellAt.out) ?_ | refine wl_value rfl (ex_ldC hS rfl rfl CellAt.out) ?_ | refine wl_value rfl (ex_l0 hS rfl rfl rfl rfl) ?_ | refine wl_value rfl (ex_lf hS rfl rfl rfl rfl) ?_ | refine wl_value rfl (ex_l1 hS rfl rfl rfl rfl) ?_ | refine wl_value rfl (ex_ldC hS rfl rfl rfl) ?_ | refine wl_value rfl (ex_l00 hS rfl rfl CellAt.out) ?_ | refine wl_value rfl (ex_l00 hS rfl rfl rfl) ?_ | refine wl_value rfl (ex_l0f hS rfl rfl CellAt.out) ?_ | refine wl_value rfl (ex_l0f hS rfl rfl rfl) ?_ | refine wl_value rfl (ex_lr hS rfl rfl rfl rfl) ?_ | refine wl_value rfl (ex_lr0 hS rfl rfl rfl) ?_ | refine wl_value rfl (ex_lrz hS rfl rfl rfl) ?_ | refine wl_value rfl (ex_lrf hS rfl rfl rfl) ?_ | refine wl_value rfl (ex_ldrC hS rfl rfl) ?_ | refine wl_value rfl (ex_ldr0 hS rfl rfl rfl) ?_); (try simp only [Act.put, List.setIfInBounds_toArray, List.set_cons_zero, List.set_cons_succ]))) | ((first | refine wl_value rfl (ex_ix hS rfl rfl rfl ?_) ?_); (focus (first | rfl | omega | (simp; done))); (try simp only [Act.put, List.setIfInBounds_toArray, List.set_cons_zero, List.set_cons_succ])) | ((first | refine wl_value rfl (ex_eqA rfl rfl rfl) ?_ | refine wl_value rfl (ex_neA rfl rfl rfl) ?_); (try simp only [Act.put, List.setIfInBounds_toArray, List.set_cons_zero, List.set_cons_succ])) | (refine wl_alloc rfl rfl hS ?_; intro _ _ hS; (try simp only [Act.put, List.setIfInBounds_toArray, List.set_cons_zero, List.set_cons_succ])) | (refine wl_box rfl rfl rfl rfl hS ?_; intro _ _ hS; (try simp only [Act.put, List.setIfInBounds_toArray, List.set_cons_zero, List.set_cons_succ])) | (refine wl_st rfl rfl rfl rfl rfl hS (of_decide_eq_true rfl) ?_; intro _ hS; (try simp only [evT, evC, List.getD_cons_succ, List.getD_cons_zero, List.set_cons_zero, List.set_cons_succ] at hS); (try simp only [List.set_cons_zero, List.set_cons_succ] at hS); (try simp only [Act.put, List.setIfInBounds_toArray, List.set_cons_zero, List.set_cons_succ])) | (refine wl_strC rfl rfl rfl rfl hS rfl rfl ?_; intro _ hS; (try simp only [evT, evC, List.getD_cons_succ, List.getD_cons_zero, List.set_cons_zero, List.set_cons_succ] at hS); (try simp only [Act.put, List.setIfInBounds_toArray, List.set_cons_zero, List.set_cons_succ])))
        have h0 : RmI B R p t ⟨0, none, [], 0⟩ _ := ⟨[], Nat.zero_le _, rfl, Nat.le_refl _, OwnSl.nothing, hS⟩
        clear hS l1 l2 l3
        refine wp_loopS [8, 9] [25, 26, 27, 28, 29, 30, 31, 32, 33, 34, 35, 36, 37, 38, 39, 40, 41, 42, 43, 44, 45, 46, 47, 48, 49, 50, 51, 52, 53, 54] (fun x : RsSt => [.slice x.A x.out.length x.cap, .int .i64 x.i]) (RmI B R p t) (fun x => t.length - x.i) (⟨0, none, [], 0⟩) rfl (h0) ?_
        clear h0
        rintro ⟨i, A4, out, cap4⟩ J w ⟨sp4, hi, hou, hlo, hO, hS⟩
        dsimp only at hi hou hlo hO hS
        have Hou := Lib.hid hou
        clear hou
        (simp only [Frm, setsT, junkT, List.setIfInBounds_toArray, List.set_cons_zero, List.set_cons_succ])
        by_cases hlt : i < t.length
        · obtain ⟨x, gx⟩ := Nth.of hlt
          have hxz := (Hsm.out x gx.mem).1
          have Htk := Lib.hid gx.take
          have lb := fun (w : World) (H : HL) (hS : Sh B H w) => BelowR_any hS p x.path hp hxz
          by_cases he : x.path = p
          · have d1 : (x.path.toList == p.toList) = true := by rw [strEq]; simp [he]
            have H1 := Lib.hid (show out = (t.take (i + 1)).filter (leftB p) by rw [Hou.out, Htk.out, List.filter_append]; simp [leftB, he])
            clear he lb
            go_wp2_with (first | (refine wl_isld rfl ?_; ((first | refine wl_value rfl (ex_l0 hS rfl rfl rfl CellAt.out) ?_ | refine wl_value rfl (ex_lf hS rfl rfl rfl CellAt.out) ?_ | refine wl_value rfl (ex_l1 hS rfl rfl rfl CellAt.out) ?_ | refine wl_value rfl (ex_ldC hS rfl rfl CellAt.out) ?_ | refine wl_value rfl (ex_l0 hS rfl rfl rfl rfl) ?_ | refine wl_value rfl (ex_lf hS rfl rfl rfl rfl) ?_ | refine wl_value rfl (ex_l1 hS rfl rfl rfl rfl) ?_ | refine wl_value rfl (ex_ldC hS rfl rfl rfl) ?_ | refine wl_value rfl (ex_l00 hS rfl rfl CellAt.out) ?_ | refine wl_value rfl (ex_l00 hS rfl rfl rfl) ?_ | refine wl_value rfl (ex_l0f hS rfl rfl CellAt.out) ?_ | refine wl_value rfl (ex_l0f hS rfl rfl rfl) ?_ | refine wl_value rfl (ex_lr hS rfl rfl rfl rfl) ?_ | refine wl_value rfl (ex_lr0 hS rfl rfl rfl) ?_ | refine wl_value rfl (ex_lrz hS rfl rfl rfl) ?_ | refine wl_value rfl (ex_lrf hS rfl rfl rfl) ?_ | refine wl_value rfl (ex_ldrC hS rfl rfl) ?_ | refine wl_value rfl (ex_ldr0 hS rfl rfl rfl) ?_); (try simp only [Act.put, List.setIfInBounds_toArray, List.set_cons_zero, List.set_cons_succ]))) | ((first | refine wl_value rfl (ex_ix hS rfl rfl rfl ?_) ?_); (focus (first | rfl | omega | (simp; done))); (try simp only [Act.put, List.setIfInBounds_toArray, List.set_cons_zero, List.set_cons_succ])) | ((first | refine wl_value rfl (ex_eqA rfl rfl rfl) ?_ | refine wl_value rfl (ex_neA rfl rfl rfl) ?_); (try simp only [Act.put, List.setIfInBounds_toArray, List.set_cons_zero, List.set_cons_succ])) | (refine wl_alloc rfl rfl hS ?_; intro _ _ hS; (try simp only [Act.put, List.setIfInBounds_toArray, List.set_cons_zero, List.set_cons_succ])) | (refine wl_box rfl rfl rfl rfl hS ?_; intro _ _ hS; (try simp only [Act.put, List.setIfInBounds_toArray, List.set_cons_zero, List.set_cons_succ])) | (refine wl_st rfl rfl rfl rfl rfl hS (of_decide_eq_true rfl) ?_; intro _ hS; (try simp only [evT, evC, List.getD_cons_succ, List.getD_cons_zero, List.set_cons_zero, List.set_cons_succ] at hS); (try simp only [List.set_cons_zero, List.set_cons_succ] at hS); (try simp only [Act.put, List.setIfInBounds_toArray, List.set_cons_zero, List.set_cons_succ])) | (refine wl_strC rfl rfl rfl rfl hS rfl rfl ?_; intro _ hS; (try simp only [evT, evC, List.getD_cons_succ, List.getD_cons_zero, List.set_cons_zero, List.set_cons_succ] at hS); (try simp only [Act.put, List.setIfInBounds_toArray, List.set_cons_zero, List.set_cons_succ])))
            exact ⟨(⟨i + 1, A4, out, cap4⟩ : RsSt), ⟨_, hlt, H1.out, (by dsimp only; omega), hO, hS.to⟩, (by dsimp only; omega), rfl, (by (simp only [blankT, junkT, List.cons_append, List.nil_append, List.setIfInBounds_toArray, List.set_cons_zero, List.set_cons_succ])), rfl⟩
          · have d1 : (x.path.toList == p.toList) = false := by rw [strEq]; simp [he]
            cases hb : belowT p x.path with
            | true =>
              rw [hb] at lb
              have H1 := Lib.hid (show out = (t.take (i + 1)).filter (leftB p) by rw [Hou.out, Htk.out, List.filter_append]; simp [leftB, hb])
              clear hb he
              go_wp2_with (first | (go_at_call 35; refine ((lb _ _ hS)).mono ?_; rintro e w' (⟨rfl, hS⟩)) | (refine wl_isld rfl ?_; ((first | refine wl_value rfl (ex_l0 hS rfl rfl rfl CellAt.out) ?_ | refine wl_value rfl (ex_lf hS rfl rfl rfl CellAt.out) ?_ | refine wl_value rfl (ex_l1 hS rfl rfl rfl CellAt.out) ?_ | refine wl_value rfl (ex_ldC hS rfl rfl CellAt.out) ?_ | refine wl_value rfl (ex_l0 hS rfl rfl rfl rfl) ?_ | refine wl_value rfl (ex_lf hS rfl rfl rfl rfl) ?_ | refine wl_value rfl (ex_l1 hS rfl rfl rfl rfl) ?_ | refine wl_value rfl (ex_ldC hS rfl rfl rfl) ?_ | refine wl_value rfl (ex_l00 hS rfl rfl CellAt.out) ?_ | refine wl_value rfl (ex_l00 hS rfl rfl rfl) ?_ | refine wl_value rfl (ex_l0f hS rfl rfl CellAt.out) ?_ | refine wl_value rfl (ex_l0f hS rfl rfl rfl) ?_ | refine wl_value rfl (ex_lr hS rfl rfl rfl rfl) ?_ | refine wl_value rfl (ex_lr0 hS rfl rfl rfl) ?_ | refine wl_value rfl (ex_lrz hS rfl rfl rfl) ?_ | refine wl_value rfl (ex_lrf hS rfl rfl rfl) ?_ | refine wl_value rfl (ex_ldrC hS rfl rfl) ?_ | refine wl_value rfl (ex_ldr0 hS rfl rfl rfl) ?_); (try simp only [Act.put, List.setIfInBounds_toArray, List.set_cons_zero, List.set_cons_succ]))) | ((first | refine wl_value rfl (ex_ix hS rfl rfl rfl ?_) ?_); (focus (first | rfl | omega | (simp; done))); (try simp only [Act.put, List.setIfInBounds_toArray, List.set_cons_zero, List.set_cons_succ])) | ((first | refine wl_value rfl (ex_eqA rfl rfl rfl) ?_ | refine wl_value rfl (ex_neA rfl rfl rfl) ?_); (try simp only [Act.put, List.setIfInBounds_toArray, List.set_cons_zero, List.set_cons_succ])) | (refine wl_alloc rfl rfl hS ?_; intro _ _ hS; (try simp only [Act.put, List.setIfInBounds_toArray, List.set_cons_zero, List.set_cons_succ])) | (refine wl_box rfl rfl rfl rfl hS ?_; intro _ _ hS; (try simp only [Act.put, List.setIfInBounds_toArray, List.set_cons_zero, List.set_cons_succ])) | (refine wl_st rfl rfl rfl rfl rfl hS (of_decide_eq_true rfl) ?_; intro _ hS; (try simp only [evT, evC, List.getD_cons_succ, List.getD_cons_zero, List.set_cons_zero, List.set_cons_succ] at hS); (try simp only [List.set_cons_zero, List.set_cons_succ] at hS); (try simp only [Act.put, List.setIfInBounds_toArray, List.set_cons_zero, List.set_cons_succ])) | (refine wl_strC rfl rfl rfl rfl hS rfl rfl ?_; intro _ hS; (try simp only [evT, evC, List.getD_cons_succ, List.getD_cons_zero, List.set_cons_zero, List.set_cons_succ] at hS); (try simp only [Act.put, List.setIfInBounds_toArray, List.set_cons_zero, List.set_cons_succ])))
              exact ⟨(⟨i + 1, A4, out, cap4⟩ : RsSt), ⟨_, hlt, H1.out, (by dsimp only; omega), hO, hS.to⟩, (by dsimp only; omega), rfl, (by (simp only [blankT, junkT, List.cons_append, List.nil_append, List.setIfInBounds_toArray, List.set_cons_zero, List.set_cons_succ])), rfl⟩
            | false =>
              rw [hb] at lb
              have H1 := Lib.hid (show out ++ [x] = (t.take (i + 1)).filter (leftB p) by rw [Hou.out, Htk.out, List.filter_append]; simp [leftB, hb, he])
              clear hb he
              go_wp2_with (first | (go_at_call 35; refine ((lb _ _ hS)).mono ?_; rintro e w' (⟨rfl, hS⟩)) | (refine wl_buildSlice (E := enE) [x] rfl rfl (by simp only [List.map_toArray, List.map_cons, List.map_nil]; rfl) rfl (by decide) (by decide) hS ?_; intro _ _ hS hN; (try simp only [Act.put, List.setIfInBounds_toArray, List.set_cons_zero, List.set_cons_succ])) | (refine wl_ap (E := enE) rfl rfl rfl rfl hS ?_ ?_ ?_ ?_ ?_; (focus (first | rfl | omega)); (focus (first | rfl | omega)); (focus ((simp only [List.length_cons, List.length_nil]; omega))); (focus decide); intro _ _ _ _ hO6 hS; (try simp only [Act.put, List.setIfInBounds_toArray, List.set_cons_zero, List.set_cons_succ])) | (refine wl_isld rfl ?_; ((first | refine wl_value rfl (ex_l0 hS rfl rfl rfl CellAt.out) ?_ | refine wl_value rfl (ex_lf hS rfl rfl rfl CellAt.out) ?_ | refine wl_value rfl (ex_l1 hS rfl rfl rfl CellAt.out) ?_ | refine wl_value rfl (ex_ldC hS rfl rfl CellAt.out) ?_ | refine wl_value rfl (ex_l0 hS rfl rfl rfl rfl) ?_ | refine wl_value rfl (ex_lf hS rfl rfl rfl rfl) ?_ | refine wl_value rfl (ex_l1 hS rfl rfl rfl rfl) ?_ | refine wl_value rfl (ex_ldC hS rfl rfl rfl) ?_ | refine wl_value rfl (ex_l00 hS rfl rfl CellAt.out) ?_ | refine wl_value rfl (ex_l00 hS rfl rfl rfl) ?_ | refine wl_value rfl (ex_l0f hS rfl rfl CellAt.out) ?_ | refine wl_value rfl (ex_l0f hS rfl rfl rfl) ?_ | refine wl_value rfl (ex_lr hS rfl rfl rfl rfl) ?_ | refine wl_value rfl (ex_lr0 hS rfl rfl rfl) ?_ | refine wl_value rfl (ex_lrz hS rfl rfl rfl) ?_ | refine wl_value rfl (ex_lrf hS rfl rfl rfl) ?_ | refine wl_value rfl (ex_ldrC hS rfl rfl) ?_ | refine wl_value rfl (ex_ldr0 hS rfl rfl rfl) ?_); (try simp only [Act.put, List.setIfInBounds_toArray, List.set_cons_zero, List.set_cons_succ]))) | ((first | refine wl_value rfl (ex_ix hS rfl rfl rfl ?_) ?_); (focus (first | rfl | omega | (simp; done))); (try simp only [Act.put, List.setIfInBounds_toArray, List.set_cons_zero, List.set_cons_succ])) | ((first | refine wl_value rfl (ex_eqA rfl rfl rfl) ?_ | refine wl_value rfl (ex_neA rfl rfl rfl) ?_); (try simp only [Act.put, List.setIfInBounds_toArray, List.set_cons_zero, List.set_cons_succ])) | (refine wl_alloc rfl rfl hS ?_; intro _ _ hS; (try simp only [Act.put, List.setIfInBounds_toArray, List.set_cons_zero, List.set_cons_succ])) | (refine wl_box rfl rfl rfl rfl hS ?_; intro _ _ hS; (try simp only [Act.put, List.setIfInBounds_toArray, List.set_cons_zero, List.set_cons_succ])) | (refine wl_st rfl rfl rfl rfl rfl hS (of_decide_eq_true rfl) ?_; intro _ hS; (try simp only [evT, evC, List.getD_cons_succ, List.getD_cons_zero, List.set_cons_zero, List.set_cons_succ] at hS); (try simp only [List.set_cons_zero, List.set_cons_succ] at hS); (try simp only [Act.put, List.setIfInBounds_toArray, List.set_cons_zero, List.set_cons_succ])) | (refine wl_strC rfl rfl rfl rfl hS rfl rfl ?_; intro _ hS; (try simp only [evT, evC, List.getD_cons_succ, List.getD_cons_zero, List.set_cons_zero, List.set_cons_succ] at hS); (try simp only [Act.put, List.setIfInBounds_toArray, List.set_cons_zero, List.set_cons_succ])))
              exact ⟨(⟨i + 1, _, out ++ [x], _⟩ : RsSt), ⟨_, hlt, H1.out, (by dsimp only; rw [List.length_append]; simp; omega), hO6, hS.to⟩, (by dsimp only; omega), (by dsimp only; rw [List.length_append]; rfl), (by (simp only [blankT, junkT, List.cons_append, List.nil_append, List.setIfInBounds_toArray, List.set_cons_zero, List.set_cons_succ])), rfl⟩
        · have H1 := Lib.hid (show removeR t p = (out, 0) by rw [Hr.out, Hou.out, List.take_of_length_le (by omega)])
          go_wp2_with (first | (refine wl_isld rfl ?_; ((first | refine wl_value rfl (ex_l0 hS rfl rfl rfl CellAt.out) ?_ | refine wl_value rfl (ex_lf hS rfl rfl rfl CellAt.out) ?_ | refine wl_value rfl (ex_l1 hS rfl rfl rfl CellAt.out) ?_ | refine wl_value rfl (ex_ldC hS rfl rfl CellAt.out) ?_ | refine wl_value rfl (ex_l0 hS rfl rfl rfl rfl) ?_ | refine wl_value rfl (ex_lf hS rfl rfl rfl rfl) ?_ | refine wl_value rfl (ex_l1 hS rfl rfl rfl rfl) ?_ | refine wl_value rfl (ex_ldC hS rfl rfl rfl) ?_ | refine wl_value rfl (ex_l00 hS rfl rfl CellAt.out) ?_ | refine wl_value rfl (ex_l00 hS rfl rfl rfl) ?_ | refine wl_value rfl (ex_l0f hS rfl rfl CellAt.out) ?_ | refine wl_value rfl (ex_l0f hS rfl rfl rfl) ?_ | refine wl_value rfl (ex_lr hS rfl rfl rfl rfl) ?_ | refine wl_value rfl (ex_lr0 hS rfl rfl rfl) ?_ | refine wl_value rfl (ex_lrz hS rfl rfl rfl) ?_ | refine wl_value rfl (ex_lrf hS rfl rfl rfl) ?_ | refine wl_value rfl (ex_ldrC hS rfl rfl) ?_ | refine wl_value rfl (ex_ldr0 hS rfl rfl rfl) ?_); (try simp only [Act.put, List.setIfInBounds_toArray, List.set_cons_zero, List.set_cons_succ]))) | ((first | refine wl_value rfl (ex_ix hS rfl rfl rfl ?_) ?_); (focus (first | rfl | omega | (simp; done))); (try simp only [Act.put, List.setIfInBounds_toArray, List.set_cons_zero, List.set_cons_succ])) | ((first | refine wl_value rfl (ex_eqA rfl rfl rfl) ?_ | refine wl_value rfl (ex_neA rfl rfl rfl) ?_); (try simp only [Act.put, List.setIfInBounds_toArray, List.set_cons_zero, List.set_cons_succ])) | (refine wl_alloc rfl rfl hS ?_; intro _ _ hS; (try simp only [Act.put, List.setIfInBounds_toArray, List.set_cons_zero, List.set_cons_succ])) | (refine wl_box rfl rfl rfl rfl hS ?_; intro _ _ hS; (try simp only [Act.put, List.setIfInBounds_toArray, List.set_cons_zero, List.set_cons_succ])) | (refine wl_st rfl rfl rfl rfl rfl hS (of_decide_eq_true rfl) ?_; intro _ hS; (try simp only [evT, evC, List.getD_cons_succ, List.getD_cons_zero, List.set_cons_zero, List.set_cons_succ] at hS); (try simp only [List.set_cons_zero, List.set_cons_succ] at hS); (try simp only [Act.put, List.setIfInBounds_toArray, List.set_cons_zero, List.set_cons_succ])) | (refine wl_strC rfl rfl rfl rfl hS rfl rfl ?_; intro _ hS; (try simp only [evT, evC, List.getD_cons_succ, List.getD_cons_zero, List.set_cons_zero, List.set_cons_succ] at hS); (try simp only [Act.put, List.setIfInBounds_toArray, List.set_cons_zero, List.set_cons_succ])))
          go_ret2
          rw [H1.out]
          exact ⟨_, _, _, rfl, hO, hS.to⟩
  · have Hr := Lib.hid (show removeR t p = ([], (checkA t).2) by unfold removeR; rw [if_neg ha])
    obtain ⟨v, hv⟩ : ∃ v, checkA t = v := ⟨_, rfl⟩
    rw [hv] at l1 ha Hr
    have d2 : (v.2 == 0) = false := beq_no ha
    have d3 : (v.2 != 0) = true := bne_no ha
    clear ha hv
    go_enter Tryz.func15, Tryz.ntmps15
    go_wp2_with (first | (go_at_call 31; refine ((l1 _ _ hS inferInstance)).mono ?_; rintro e w' (⟨rfl, hS⟩)) | (refine wl_isld rfl ?_; ((first | refine wl_value rfl (ex_l0 hS rfl rfl rfl CellAt.out) ?_ | refine wl_value rfl (ex_lf hS rfl rfl rfl CellAt.out) ?_ | refine wl_value rfl (ex_l1 hS rfl rfl rfl CellAt.out) ?_ | refine wl_value rfl (ex_ldC hS rfl rfl CellAt.out) ?_ | refine wl_value rfl (ex_l0 hS rfl rfl rfl rfl) ?_ | refine wl_value rfl (ex_lf hS rfl rfl rfl rfl) ?_ | refine wl_value rfl (ex_l1 hS rfl rfl rfl rfl) ?_ | refine wl_value rfl (ex_ldC hS rfl rfl rfl) ?_ | refine wl_value rfl (ex_l00 hS rfl rfl CellAt.out) ?_ | refine wl_value rfl (ex_l00 hS rfl rfl rfl) ?_ | refine wl_value rfl (ex_l0f hS rfl rfl CellAt.out) ?_ | refine wl_value rfl (ex_l0f hS rfl rfl rfl) ?_ | refine wl_value rfl (ex_lr hS rfl rfl rfl rfl) ?_ | refine wl_value rfl (ex_lr0 hS rfl rfl rfl) ?_ | refine wl_value rfl (ex_lrz hS rfl rfl rfl) ?_ | refine wl_value rfl (ex_lrf hS rfl rfl rfl) ?_ | refine wl_value rfl (ex_ldrC hS rfl rfl) ?_ | refine wl_value rfl (ex_ldr0 hS rfl rfl rfl) ?_); (try simp only [Act.put, List.setIfInBounds_toArray, List.set_cons_zero, List.set_cons_succ]))) | ((first | refine wl_value rfl (ex_ix hS rfl rfl rfl ?_) ?_); (focus (first | rfl | omega | (simp; done))); (try simp only [Act.put, List.setIfInBounds_toArray, List.set_cons_zero, List.set_cons_succ])) | ((first | refine wl_value rfl (ex_eqA rfl rfl rfl) ?_ | refine wl_value rfl (ex_neA rfl rfl rfl) ?_); (try simp only [Act.put, List.setIfInBounds_toArray, List.set_cons_zero, List.set_cons_succ])) | (refine wl_alloc rfl rfl hS ?_; intro _ _ hS; (try simp only [Act.put, List.setIfInBounds_toArray, List.set_cons_zero, List.set_cons_succ])) | (refine wl_box rfl rfl rfl rfl hS ?_; intro _ _ hS; (try simp only [Act.put, List.setIfInBounds_toArray, List.set_cons_zero, List.set_cons_succ])) | (refine wl_st rfl rfl rfl rfl rfl hS (of_decide_eq_true rfl) ?_; intro _ hS; (try simp only [evT, evC, List.getD_cons_succ, List.getD_cons_zero, List.set_cons_zero, List.set_cons_succ] at hS); (try simp only [List.set_cons_zero, List.set_cons_succ] at hS); (try simp only [Act.put, List.setIfInBounds_toArray, List.set_cons_zero, List.set_cons_succ])) | (refine wl_strC rfl rfl rfl rfl hS rfl rfl ?_; intro _ hS; (try simp only [evT, evC, List.getD_cons_succ, List.getD_cons_zero, List.set_cons_zero, List.set_cons_succ] at hS); (try simp only [Act.put, List.setIfInBounds_toArray, List.set_cons_zero, List.set_cons_succ])))
    go_ret2
    rw [Hr.out]
    exact .bad hS.to
end
end Go.Tk

set_option linter.unusedSectionVars false
set_option linter.unusedSimpArgs false
set_option linter.unusedVariables false
namespace Go.Tk
open Go.RowKit Go.Proofs
section
variable {B : Base} {R H H1 : HL} {w w' : World}
def keepB (dir : ByteArray) (x : En) : Bool := !belowT dir x.path
def KpI (B : Base) (R : HL) (dir : ByteArray) (t : List En) (x : RsSt) (w : World) : Prop :=
  ∃ sp, x.i ≤ t.length ∧ x.out = ((t.take x.i).filter (keepB dir)) ∧ x.out.length ≤ x.i ∧ OwnSl enE x.A x.out sp x.cap ∧ Sh B (rowA x.A (flat enE x.out ++ sp) 24 ++ R) w
set_option maxRecDepth 100000 in
set_option maxHeartbeats 6400000 in
theorem RGraft_any [HasML B] [NoDraw B] (hS : Sh B R w) {A A' : Option Addr} {cap cap' : Nat} {t s : List En} [r : RdAt enE B R A t] [r' : RdAt enE B R A' s] (hc : t.length ≤ cap) (hc' : s.length ≤ cap') (hl : t.length ≤ 2000000) (hl' : s.length ≤ 2000000) (hsm : SmallE t) (hss : SmallE s) (dir : ByteArray) (hdir : dir.size ≤ 1048576) (hsp : ∀ e ∈ s, e.path.size ≤ 1048576) :
    Calls Tryz.prog 11 #[.slice A t.length cap, .string dir, .slice A' s.length cap'] w (ApplyP B R (graftR t dir s)) := by
  have l1 := fun (w : World) (H : HL) (hS : Sh B H w) (r : RdAt enE B H A t) => CheckR_any hS (A := A) (cap := cap) (t := t) (r := r) hc (by omega) hsm
  rw [← checks_same] at l1
  have l2 := fun (w : World) (H : HL) (hS : Sh B H w) (r : RdAt enE B H A' s) => CheckR_any hS (A := A') (cap := cap') (t := s) (r := r) hc' (by omega) hss
  rw [← checks_same] at l2
  have l3 := fun (w : World) (H : HL) (hS : Sh B H w) (r : RdAt enE B H A t) => WhereR_any hS (cap := cap) (r := r) (by omega) dir (by omega)
  by_cases ha : (checkA t).2 = 0
  · obtain ⟨hca, hT⟩ := right_of ha
    rw [hca] at l1
    by_cases hb : (checkA s).2 = 0
    · obtain ⟨hcb, hT2⟩ := right_of hb
      rw [hcb] at l2
      by_cases hw : whereI t dir = 0
      · rw [hw] at l3
        have hfew := hT.few
        have hfew2 := hT2.few
        have hd := whereI_ok hw
        obtain ⟨X, hX⟩ : ∃ X, graftR t dir s = X := ⟨_, rfl⟩
        rw [hX]
        unfold graftR at hX
        rw [if_pos ha, if_pos hb, if_pos hw] at hX
        obtain ⟨k, hk⟩ : ∃ k, keptL dir t = k := ⟨_, rfl⟩
        have hkl : k.length ≤ t.length := by rw [← hk]; exact List.length_filter_le ..
        have hkok : ∀ e ∈ k, okP e.path = true ∧ e.path.size ≤ 16777216 ∧ e.data.size ≤ 16777216 := fun e he => by
          rw [← hk] at he
          have h1 := (List.mem_filter.1 he).1
          exact ⟨(mayB_ok (hT.may e h1)).1, hsm e h1⟩
        have hu2 := fun out (h1 : out = keptL dir t ++ s.map (putE dir)) h2 ys h3 h4 => graft_hu hd out h1 h2 ys h3 h4 ha hb
        rw [hk] at hX hu2
        have hk' : t.filter (keepB dir) = k := by rw [← hk, kept_ref hT hd]; rfl
        have HX := Lib.hid hX
        have Hu := Lib.hid hu2
        have Hk := Lib.hid hk'
        have Hkok := Lib.hid hkok
        have Hsp := Lib.hid hsp
        have Hss := Lib.hid hss
        have Hsm := Lib.hid hsm
        clear ha hb hw hT hT2 hX hk hk' hu2 hkok hsp hss hsm hca hcb
        go_enter Tryz.func11, Tryz.ntmps11
        go_upto_region 3 with ((go_at_call 31; refine ((l1 _ _ hS inferInstance)).mono ?_; rintro e w' (⟨rfl, hS⟩)))
        clear l1
        go_upto_region 8 with (first | (go_at_call 31; refine ((l2 _ _ hS inferInstance)).mono ?_; rintro e w' (⟨rfl, hS⟩)) | (go_at_call 34; refine ((l3 _ _ hS inferInstance)).mono ?_; rintro e w' (⟨rfl, hS⟩)))
        clear l2 l3
        go_upto_region 10 with (fail)
        have h0 : KpI B R dir t ⟨0, none, [], 0⟩ _ := ⟨[], Nat.zero_le _, rfl, Nat.le_refl _, OwnSl.nothing, hS⟩
        clear hS
        refine wp_loopS [10, 11] [34, 35, 36, 37, 38, 39, 40, 41, 42, 43, 44, 45, 46, 47, 48, 49, 50, 51, 52, 53, 54] (fun x : RsSt => [.slice x.A x.out.length x.cap, .int .i64 x.i]) (KpI B R dir t) (fun x => t.length - x.i) (⟨0, none, [], 0⟩) rfl (h0) ?_
        clear h0
        rintro ⟨i, A4, out, cap4⟩ J w ⟨sp4, hi, hou, hlo, hO, hS⟩
        dsimp only at hi hou hlo hO hS
        have Hou := Lib.hid hou
        clear hou
        (simp only [Frm, setsT, junkT, List.setIfInBounds_toArray, List.set_cons_zero, List.set_cons_succ])
        by_cases hlt : i < t.length
        · obtain ⟨x, gx⟩ := Nth.of hlt
          have hxz := (Hsm.out x gx.mem).1
          have Htk := Lib.hid gx.take
          have lb := fun (w : World) (H : HL) (hS : Sh B H w) => BelowR_any hS dir x.path (by omega) hxz
          cases hb : belowT dir x.path with
          | true =>
            rw [hb] at lb
            have H1 := Lib.hid (show out = (t.take (i + 1)).filter (keepB dir) by rw [Hou.out, Htk.out, List.filter_append]; simp [keepB, hb])
            clear hb
            go_wp2_with (first | (go_at_call 35; refine ((lb _ _ hS)).mono ?_; rintro e w' (⟨rfl, hS⟩)) | (refine wl_isld rfl ?_; ((refine wl_value rfl (ex_l0 hS rfl rfl rfl CellAt.out) ?_); (try simp only [Act.put, List.setIfInBounds_toArray, List.set_cons_zero, List.set_cons_succ]))) | ((refine wl_value rfl (ex_ix hS rfl rfl rfl ?_) ?_); (focus (rfl)); (try simp only [Act.put, List.setIfInBounds_toArray, List.set_cons_zero, List.set_cons_succ])))
            exact ⟨(⟨i + 1, A4, out, cap4⟩ : RsSt), ⟨_, hlt, H1.out, (by dsimp only; omega), hO, hS.to⟩, (by dsimp only; omega), rfl, (by (simp only [blankT, junkT, List.cons_append, List.nil_append, List.setIfInBounds_toArray, List.set_cons_zero, List.set_cons_succ])), rfl⟩
          | false =>
            rw [hb] at lb
            have H1 := Lib.hid (show out ++ [x] = (t.take (i + 1)).filter (keepB dir) by rw [Hou.out, Htk.out, List.filter_append]; simp [keepB, hb])
            clear hb
            go_wp2_with (first | (go_at_call 35; refine ((lb _ _ hS)).mono ?_; rintro e w' (⟨rfl, hS⟩)) | (refine wl_buildSlice (E := enE) [x] rfl rfl (by simp only [List.map_toArray, List.map_cons, List.map_nil]; rfl) rfl (by decide) (by decide) hS ?_; intro _ _ hS hN; (try simp only [Act.put, List.setIfInBounds_toArray, List.set_cons_zero, List.set_cons_succ])) | (refine wl_ap (E := enE) rfl rfl rfl rfl hS ?_ ?_ ?_ ?_ ?_; (focus (rfl)); (focus (rfl)); (focus ((simp only [List.length_cons, List.length_nil]; omega))); (focus decide); intro _ _ _ _ hO6 hS; (try simp only [Act.put, List.setIfInBounds_toArray, List.set_cons_zero, List.set_cons_succ])) | (refine wl_isld rfl ?_; ((first | refine wl_value rfl (ex_l0 hS rfl rfl rfl CellAt.out) ?_ | refine wl_value rfl (ex_lr hS rfl rfl rfl rfl) ?_); (try simp only [Act.put, List.setIfInBounds_toArray, List.set_cons_zero, List.set_cons_succ]))) | ((refine wl_value rfl (ex_ix hS rfl rfl rfl ?_) ?_); (focus (rfl)); (try simp only [Act.put, List.setIfInBounds_toArray, List.set_cons_zero, List.set_cons_succ])))
            exact ⟨(⟨i + 1, _, out ++ [x], _⟩ : RsSt), ⟨_, hlt, H1.out, (by dsimp only; rw [List.length_append]; simp; omega), hO6, hS.to⟩, (by dsimp only; omega), (by dsimp only; rw [List.length_append]; rfl), (by (simp only [blankT, junkT, List.cons_append, List.nil_append, List.setIfInBounds_toArray, List.set_cons_zero, List.set_cons_succ])), rfl⟩
        · have H1 := Lib.hid (show out = k by rw [Hou.out, List.take_of_length_le (by omega), Hk.out])
          clear Hou
          have h1 := H1.out
          clear H1
          subst h1
          go_upto_region 15 with (fail)
          have h0 : GrI B R dir out s ⟨0, A4, out, cap4⟩ _ := ⟨sp4, Nat.zero_le _, by simp, by simp, hO, hS⟩
          clear hS hO
          refine wp_loopS [10, 12] [6, 7, 13, 55, 56, 57, 58, 59, 60, 61, 62, 63, 64, 65, 66, 67, 68, 69, 70, 71, 72, 73, 74, 75, 76, 77, 78, 79, 80] (fun x : GrSt => [.slice x.A x.out.length x.cap, .int .i64 x.i]) (GrI B R dir out s) (fun x => s.length - x.i) (⟨0, A4, out, cap4⟩) rfl (h0) ?_
          clear h0
          rintro ⟨j, A5, o2, cap5⟩ J5 w ⟨sp5, hj, hou, hall, hO, hS⟩
          dsimp only at hj hou hall hO hS
          have hol : o2.length ≤ 2048 := by rw [hou, List.length_append, List.length_map, List.length_take]; omega
          have Hou := Lib.hid hou
          have Hall := Lib.hid hall
          clear hou hall
          (simp only [Frm, setsT, junkT, List.setIfInBounds_toArray, List.set_cons_zero, List.set_cons_succ])
          by_cases hlt2 : j < s.length
          · obtain ⟨x, gx⟩ := Nth.of hlt2
            have Htk := Lib.hid gx.take
            have hxz := Hsp.out x gx.mem
            by_cases hz : dir.size = 0
            · have hde : dir.toList = [] := (empty_prop dir).2 hz
              have d1 : dir.toList.isEmpty = true := by rw [hde]; rfl
              have hpe : putE dir x = x := by unfold putE putP; rw [if_pos hz]
              have lc := fun (w : World) (H : HL) (hS : Sh B H w) => PathR_any hS x.path (by omega)
              by_cases hok : okP x.path = true
              · rw [hok] at lc
                have H1 := Lib.hid (show o2 ++ [x] = out ++ (s.take (j + 1)).map (putE dir) by rw [Hou.out, Htk.out, List.map_append, List.append_assoc]; simp [hpe])
                have H2 := Lib.hid (show ((s.take (j + 1)).map (putE dir)).all (fun e => okP e.path) = true by
                  rw [Htk.out, List.map_append, List.all_append, Hall.out]; simp [hpe, hok])
                clear hz hpe hok
                go_wp2_with (first | (refine wl_alloc rfl rfl hS ?_; intro eb _ hS; (try simp only [Act.put, List.setIfInBounds_toArray, List.set_cons_zero, List.set_cons_succ])) | (go_at_call 36; refine ((lc _ _ hS)).mono ?_; rintro e w' (⟨rfl, hS⟩)) | (refine wl_buildSlice (E := enE) [x] rfl rfl (by simp only [List.map_toArray, List.map_cons, List.map_nil]; rfl) rfl (by decide) (by decide) hS ?_; intro _ _ hS hN; (try simp only [Act.put, List.setIfInBounds_toArray, List.set_cons_zero, List.set_cons_succ])) | (refine wl_ap (E := enE) rfl rfl rfl rfl hS ?_ ?_ ?_ ?_ ?_; (focus (rfl)); (focus (rfl)); (focus ((simp only [List.length_cons, List.length_nil]; omega))); (focus decide); intro _ _ _ _ hO6 hS; (try simp only [Act.put, List.setIfInBounds_toArray, List.set_cons_zero, List.set_cons_succ])) | (refine wl_isld rfl ?_; ((first | refine wl_value rfl (ex_ldC hS rfl rfl CellAt.out) ?_ | refine wl_value rfl (ex_lr hS rfl rfl rfl rfl) ?_ | refine wl_value rfl (ex_ldr0 hS rfl rfl rfl) ?_); (try simp only [Act.put, List.setIfInBounds_toArray, List.set_cons_zero, List.set_cons_succ]))) | ((refine wl_value rfl (ex_ix hS rfl rfl rfl ?_) ?_); (focus (rfl)); (try simp only [Act.put, List.setIfInBounds_toArray, List.set_cons_zero, List.set_cons_succ])) | (refine wl_strC rfl rfl rfl rfl hS rfl rfl ?_; intro _ hS; (try simp only [evT, evC, List.getD_cons_succ, List.getD_cons_zero, List.set_cons_zero, List.set_cons_succ] at hS); (try simp only [Act.put, List.setIfInBounds_toArray, List.set_cons_zero, List.set_cons_succ])))
                exact ⟨(⟨j + 1, _, o2 ++ [x], _⟩ : GrSt), ⟨_, hlt2, H1.out, H2.out, hO6, hS.to⟩, (by dsimp only; omega), (by dsimp only; rw [List.length_append]; rfl), (by (simp only [blankT, junkT, List.cons_append, List.nil_append, List.setIfInBounds_toArray, List.set_cons_zero, List.set_cons_succ])), rfl⟩
              · have Hx := Lib.hid (show X = ([], 44) by
                  rw [← HX.out, if_neg]
                  intro h
                  rw [List.all_eq_true] at h
                  have h1 := h (putE dir x) (List.mem_map_of_mem gx.mem)
                  rw [hpe] at h1
                  exact hok h1)
                rw [Bool.not_eq_true] at hok
                rw [hok] at lc
                clear hz hpe hok
                go_wp2_with (first | (refine wl_alloc rfl rfl hS ?_; intro eb _ hS; (try simp only [Act.put, List.setIfInBounds_toArray, List.set_cons_zero, List.set_cons_succ])) | (go_at_call 36; refine ((lc _ _ hS)).mono ?_; rintro e w' (⟨rfl, hS⟩)) | (refine wl_isld rfl ?_; ((first | refine wl_value rfl (ex_ldC hS rfl rfl CellAt.out) ?_ | refine wl_value rfl (ex_lr hS rfl rfl rfl rfl) ?_); (try simp only [Act.put, List.setIfInBounds_toArray, List.set_cons_zero, List.set_cons_succ]))) | ((refine wl_value rfl (ex_ix hS rfl rfl rfl ?_) ?_); (focus (rfl)); (try simp only [Act.put, List.setIfInBounds_toArray, List.set_cons_zero, List.set_cons_succ])) | (refine wl_strC rfl rfl rfl rfl hS rfl rfl ?_; intro _ hS; (try simp only [evT, evC, List.getD_cons_succ, List.getD_cons_zero, List.set_cons_zero, List.set_cons_succ] at hS); (try simp only [Act.put, List.setIfInBounds_toArray, List.set_cons_zero, List.set_cons_succ])))
                go_ret2
                rw [Hx.out]
                exact .bad hS.to
            · have hde : ¬ dir.toList = [] := fun h => hz ((empty_prop dir).1 h)
              have d1 : dir.toList.isEmpty = false := by rw [empty_iff]; exact decide_eq_false hz
              have hpe : putE dir x = (⟨dir ++ slash ++ x.path, x.kind, x.data⟩ : En) := by unfold putE putP; rw [if_neg hz]
              have hps : (dir ++ slash ++ x.path).size ≤ 16777216 := by
                rw [ByteArray.size_append, ByteArray.size_append]
                have : slash.size = 1 := rfl
                omega
              have lc := fun (w : World) (H : HL) (hS : Sh B H w) => PathR_any hS (dir ++ slash ++ x.path) hps
              by_cases hok : okP (⟨dir ++ slash ++ x.path, x.kind, x.data⟩ : En).path = true
              · rw [hok] at lc
                have H1 := Lib.hid (show o2 ++ [(⟨dir ++ slash ++ x.path, x.kind, x.data⟩ : En)] = out ++ (s.take (j + 1)).map (putE dir) by rw [Hou.out, Htk.out, List.map_append, List.append_assoc]; simp [hpe])
                have H2 := Lib.hid (show ((s.take (j + 1)).map (putE dir)).all (fun e => okP e.path) = true by
                  rw [Htk.out, List.map_append, List.all_append, Hall.out]; simp [hpe, hok])
                clear hz hpe hok
                go_upto_region 18 with (first | (refine wl_alloc rfl rfl hS ?_; intro eb _ hS; (try simp only [Act.put, List.setIfInBounds_toArray, List.set_cons_zero, List.set_cons_succ])) | (refine wl_isld rfl ?_; ((refine wl_value rfl (ex_lr hS rfl rfl rfl rfl) ?_); (try simp only [Act.put, List.setIfInBounds_toArray, List.set_cons_zero, List.set_cons_succ]))) | ((refine wl_value rfl (ex_ix hS rfl rfl rfl ?_) ?_); (focus (rfl)); (try simp only [Act.put, List.setIfInBounds_toArray, List.set_cons_zero, List.set_cons_succ])) | (refine wl_strC rfl rfl rfl rfl hS rfl rfl ?_; intro _ hS; (try simp only [evT, evC, List.getD_cons_succ, List.getD_cons_zero, List.set_cons_zero, List.set_cons_succ] at hS); (try simp only [Act.put, List.setIfInBounds_toArray, List.set_cons_zero, List.set_cons_succ])))
                go_upto_region 20 with (first | (refine wl_isld rfl ?_; ((refine wl_value rfl (ex_ldC hS rfl rfl CellAt.out) ?_); (try simp only [Act.put, List.setIfInBounds_toArray, List.set_cons_zero, List.set_cons_succ]))) | (refine wl_st rfl rfl rfl rfl rfl hS (of_decide_eq_true rfl) ?_; intro _ hS; (try simp only [evT, evC, List.getD_cons_succ, List.getD_cons_zero, List.set_cons_zero, List.set_cons_succ] at hS); (try simp only [List.set_cons_zero, List.set_cons_succ] at hS); (try simp only [Act.put, List.setIfInBounds_toArray, List.set_cons_zero, List.set_cons_succ])))
                have hS : Sh B (cellB eb (⟨dir ++ slash ++ x.path, x.kind, x.data⟩ : En).cells 24 ++ (rowA A5 (flat enE o2 ++ sp5) 24 ++ R)) _ := hS
                go_wp2_with (first | (go_at_call 36; refine ((lc _ _ hS)).mono ?_; rintro e w' (⟨rfl, hS⟩)) | (refine wl_buildSlice (E := enE) ([(⟨dir ++ slash ++ x.path, x.kind, x.data⟩ : En)]) rfl rfl (by simp only [List.map_toArray, List.map_cons, List.map_nil]; rfl) rfl (by decide) (by decide) hS ?_; intro _ _ hS hN; (try simp only [Act.put, List.setIfInBounds_toArray, List.set_cons_zero, List.set_cons_succ])) | (refine wl_ap (E := enE) rfl rfl rfl rfl hS ?_ ?_ ?_ ?_ ?_; (focus (rfl)); (focus (rfl)); (focus ((simp only [List.length_cons, List.length_nil]; omega))); (focus decide); intro _ _ _ _ hO6 hS; (try simp only [Act.put, List.setIfInBounds_toArray, List.set_cons_zero, List.set_cons_succ])) | (refine wl_isld rfl ?_; ((first | refine wl_value rfl (ex_ldC hS rfl rfl CellAt.out) ?_ | refine wl_value rfl (ex_ldr0 hS rfl rfl rfl) ?_); (try simp only [Act.put, List.setIfInBounds_toArray, List.set_cons_zero, List.set_cons_succ]))))
                exact ⟨(⟨j + 1, _, o2 ++ [(⟨dir ++ slash ++ x.path, x.kind, x.data⟩ : En)], _⟩ : GrSt), ⟨_, hlt2, H1.out, H2.out, hO6, hS.to⟩, (by dsimp only; omega), (by dsimp only; rw [List.length_append]; rfl), (by (simp only [blankT, junkT, List.cons_append, List.nil_append, List.setIfInBounds_toArray, List.set_cons_zero, List.set_cons_succ])), rfl⟩
              · have Hx := Lib.hid (show X = ([], 44) by
                  rw [← HX.out, if_neg]
                  intro h
                  rw [List.all_eq_true] at h
                  have h1 := h (putE dir x) (List.mem_map_of_mem gx.mem)
                  rw [hpe] at h1
                  exact hok h1)
                rw [Bool.not_eq_true] at hok
                rw [hok] at lc
                clear hz hpe hok
                go_upto_region 18 with (first | (refine wl_alloc rfl rfl hS ?_; intro eb _ hS; (try simp only [Act.put, List.setIfInBounds_toArray, List.set_cons_zero, List.set_cons_succ])) | (refine wl_isld rfl ?_; ((refine wl_value rfl (ex_lr hS rfl rfl rfl rfl) ?_); (try simp only [Act.put, List.setIfInBounds_toArray, List.set_cons_zero, List.set_cons_succ]))) | ((refine wl_value rfl (ex_ix hS rfl rfl rfl ?_) ?_); (focus (rfl)); (try simp only [Act.put, List.setIfInBounds_toArray, List.set_cons_zero, List.set_cons_succ])) | (refine wl_strC rfl rfl rfl rfl hS rfl rfl ?_; intro _ hS; (try simp only [evT, evC, List.getD_cons_succ, List.getD_cons_zero, List.set_cons_zero, List.set_cons_succ] at hS); (try simp only [Act.put, List.setIfInBounds_toArray, List.set_cons_zero, List.set_cons_succ])))
                go_upto_region 20 with (first | (refine wl_isld rfl ?_; ((refine wl_value rfl (ex_ldC hS rfl rfl CellAt.out) ?_); (try simp only [Act.put, List.setIfInBounds_toArray, List.set_cons_zero, List.set_cons_succ]))) | (refine wl_st rfl rfl rfl rfl rfl hS (of_decide_eq_true rfl) ?_; intro _ hS; (try simp only [evT, evC, List.getD_cons_succ, List.getD_cons_zero, List.set_cons_zero, List.set_cons_succ] at hS); (try simp only [List.set_cons_zero, List.set_cons_succ] at hS); (try simp only [Act.put, List.setIfInBounds_toArray, List.set_cons_zero, List.set_cons_succ])))
                have hS : Sh B (cellB eb (⟨dir ++ slash ++ x.path, x.kind, x.data⟩ : En).cells 24 ++ (rowA A5 (flat enE o2 ++ sp5) 24 ++ R)) _ := hS
                go_wp2_with (first | (go_at_call 36; refine ((lc _ _ hS)).mono ?_; rintro e w' (⟨rfl, hS⟩)) | (refine wl_isld rfl ?_; ((refine wl_value rfl (ex_ldC hS rfl rfl CellAt.out) ?_); (try simp only [Act.put, List.setIfInBounds_toArray, List.set_cons_zero, List.set_cons_succ]))))
                go_ret2
                rw [Hx.out]
                exact .bad hS.to
          · have hs0 : s.take j = s := List.take_of_length_le (by omega)
            rw [hs0] at Hou Hall
            have Hxo := Lib.hid (show X = fitR o2 by rw [← HX.out, if_pos Hall.out, Hou.out])
            have hsm2 : ∀ e ∈ o2, okP e.path = true ∧ e.path.size ≤ 16777216 ∧ e.data.size ≤ 16777216 := fun e he => by
              rw [Hou.out] at he
              rcases List.mem_append.1 he with h | h
              · exact Hkok.out e h
              · refine ⟨List.all_eq_true.1 Hall.out e h, ?_⟩
                obtain ⟨y, hy, rfl⟩ := List.mem_map.1 h
                have h1 := Hsp.out y hy
                refine ⟨?_, (Hss.out y hy).2⟩
                unfold putE putP
                dsimp only
                split
                · omega
                · rw [ByteArray.size_append, ByteArray.size_append]
                  have : slash.size = 1 := rfl
                  omega
            have hun := Hu.out o2 Hou.out (fun e he => (hsm2 e he).1)
            have hfi : fitsI (srt o2) = fitsI o2 := fits_perm (srt_perm _)
            have hsz : SmallE (srt o2) := fun y hy => (hsm2 y ((srt_perm _).subset hy)).2
            have hlx : (srt o2).length = o2.length := (srt_perm _).length_eq
            have hcap := hO.len_le
            obtain ⟨Y, hY⟩ : ∃ Y, srt o2 = Y := ⟨_, rfl⟩
            have Hr := Lib.hid (show X = if fitsI Y = 0 then (Y, 0) else ([], fitsI Y) by rw [Hxo.out]; unfold fitR; rw [← hY, hfi])
            rw [hY] at hun hsz hlx
            have l6 := fun (w : World) (H : HL) (hS : Sh B H w) (r : RdAt enE B H A5 o2) => SortR_to hS (A := A5) (cap := cap5) (t := o2) r hcap (by omega) (fun e he => ⟨(hsm2 e he).1, (hsm2 e he).2.1⟩) hun
            clear hsm2 hs0 hun hfi hY Hxo
            by_cases hf : fitsI Y = 0
            · have l7 := fun (w : World) (H : HL) (hS : Sh B H w) (A3 : Option Addr) (cap3 : Nat) (r : RdAt enE B H A3 Y) => SizedR_ok hS (A := A3) (cap := cap3) r (by omega) hsz hf
              rw [if_pos hf] at Hr
              clear hf hsz hlx
              go_wp2_with (first | (go_at_call 29; refine ((l6 _ _ hS inferInstance)).mono ?_; rintro e w' (⟨A6, sp6, cap6, rfl, hO6, hS⟩)) | (go_at_call 33; refine ((l7 _ _ hS _ _ inferInstance)).mono ?_; rintro e w' (⟨rfl, hS⟩)))
              go_ret2
              rw [Hr.out]
              exact ⟨A6, sp6, cap6, rfl, hO6, hS.to⟩
            · rw [if_neg hf] at Hr
              obtain ⟨v, hv⟩ : ∃ v, fitsI Y = v := ⟨_, rfl⟩
              have l7 := fun (w : World) (H : HL) (hS : Sh B H w) (A3 : Option Addr) (cap3 : Nat) (r : RdAt enE B H A3 Y) => SizedR_bad hS (A := A3) (cap := cap3) r (by omega) hsz hv (by rw [← hv]; exact hf)
              rw [hv] at Hr
              clear hf hsz hlx hv
              go_wp2_with (first | (go_at_call 29; refine ((l6 _ _ hS inferInstance)).mono ?_; rintro e w' (⟨A6, sp6, cap6, rfl, hO6, hS⟩)) | (go_at_call 33; refine ((l7 _ _ hS _ _ inferInstance)).mono ?_; rintro e w' (⟨rfl, hS⟩)))
              go_ret2
              rw [Hr.out]
              exact .bad hS.to
      · have Hr := Lib.hid (show graftR t dir s = ([], whereI t dir) by unfold graftR; rw [if_pos ha, if_pos hb, if_neg hw])
        obtain ⟨v, hv⟩ : ∃ v, whereI t dir = v := ⟨_, rfl⟩
        rw [hv] at l3 hw Hr
        have d2 : (v == 0) = false := beq_no hw
        have d3 : (v != 0) = true := bne_no hw
        clear ha hb hw hv hT hT2 hca hcb
        go_enter Tryz.func11, Tryz.ntmps11
        go_upto_region 3 with ((go_at_call 31; refine ((l1 _ _ hS inferInstance)).mono ?_; rintro e w' (⟨rfl, hS⟩)))
        clear l1
        go_wp2_with (first | (go_at_call 31; refine ((l2 _ _ hS inferInstance)).mono ?_; rintro e w' (⟨rfl, hS⟩)) | (go_at_call 34; refine ((l3 _ _ hS inferInstance)).mono ?_; rintro e w' (⟨rfl, hS⟩)))
        go_ret2
        rw [Hr.out]
        exact .bad hS.to
    · have Hr := Lib.hid (show graftR t dir s = ([], (checkA s).2) by unfold graftR; rw [if_pos ha, if_neg hb])
      obtain ⟨v, hv⟩ : ∃ v, checkA s = v := ⟨_, rfl⟩
      rw [hv] at l2 hb Hr
      have d2 : (v.2 == 0) = false := beq_no hb
      have d3 : (v.2 != 0) = true := bne_no hb
      clear ha hb hv hT hca
      go_enter Tryz.func11, Tryz.ntmps11
      go_upto_region 3 with ((go_at_call 31; refine ((l1 _ _ hS inferInstance)).mono ?_; rintro e w' (⟨rfl, hS⟩)))
      clear l1
      go_wp2_with ((go_at_call 31; refine ((l2 _ _ hS inferInstance)).mono ?_; rintro e w' (⟨rfl, hS⟩)))
      go_ret2
      rw [Hr.out]
      exact .bad hS.to
  · have Hr := Lib.hid (show graftR t dir s = ([], (checkA t).2) by unfold graftR; rw [if_neg ha])
    obtain ⟨v, hv⟩ : ∃ v, checkA t = v := ⟨_, rfl⟩
    rw [hv] at l1 ha Hr
    have d2 : (v.2 == 0) = false := beq_no ha
    have d3 : (v.2 != 0) = true := bne_no ha
    clear ha hv
    go_enter Tryz.func11, Tryz.ntmps11
    go_wp2_with ((go_at_call 31; refine ((l1 _ _ hS inferInstance)).mono ?_; rintro e w' (⟨rfl, hS⟩)))
    go_ret2
    rw [Hr.out]
    exact .bad hS.to
end
end Go.Tk

set_option linter.unusedSectionVars false
set_option linter.unusedSimpArgs false
set_option linter.unusedVariables false
namespace Go.Tk
open Go.RowKit Go.Proofs
theorem join_le : ∀ (ls : List (List UInt8)), (∀ x ∈ ls, x.length ≤ 64) → (Lib.join ls [47]).length ≤ 65 * ls.length
  | [], _ => by simp [Lib.join]
  | [a], h => by
    have := h a (by simp)
    have h2 : Lib.join [a] [47] = a := by simp [Lib.join]
    rw [h2, List.length_singleton]; omega
  | a :: b :: r, h => by
    have h1 := h a (by simp)
    have h2 := join_le (b :: r) (fun x hx => h x (List.mem_cons_of_mem _ hx))
    have h4 := join_app [a] (b :: r) (by simp) (by simp)
    have h5 : Lib.join [a] [47] = a := by simp [Lib.join]
    rw [h5] at h4
    have h3 : Lib.join (a :: b :: r) [47] = a ++ 47 :: Lib.join (b :: r) [47] := h4
    rw [h3, List.length_append, List.length_cons, List.length_cons]
    rw [List.length_cons] at h2 ⊢
    omega
theorem okP_size {p : ByteArray} (h : okP p = true) : p.size ≤ 2080 := by
  obtain ⟨l, hl⟩ := okP_some h
  obtain ⟨h1, h2⟩ := names_all hl
  have h3 := (namesL_join hl).1
  rw [← h3]
  unfold joinB
  rw [ba_size, data_mkB]
  refine Nat.le_trans (join_le _ ?_) ?_
  · intro x hx
    obtain ⟨y, hy, rfl⟩ := List.mem_map.1 hx
    have := h1 y hy
    unfold nameB at this
    simp only [Bool.and_eq_true, decide_eq_true_eq] at this
    have h4 := this.1.1.1.2
    rw [ba_size] at h4
    exact h4
  · rw [List.length_map]; omega
theorem RightT.small {t : List En} (hT : RightT t) : SmallE t := by
  intro e he
  have h1 := hT.may e he
  refine ⟨by have := okP_size (mayB_ok h1).1; omega, ?_⟩
  unfold mayB at h1
  simp only [Bool.and_eq_true] at h1
  have h2 := h1.2
  split at h2
  · have := of_decide_eq_true h2; omega
  · split at h2
    · have := of_decide_eq_true h2; omega
    · split at h2
      · rw [Bool.and_eq_true] at h2
        have := of_decide_eq_true h2.2; omega
      · cases h2
theorem put_dir {dir p : ByteArray} (hz : dir.size ≠ 0) (h : okP (putP dir p) = true) : okP dir = true := by
  obtain ⟨l, hl⟩ := okP_some h
  have hsz : (putP dir p).size ≠ 0 := by
    rw [ba_size, putP_data hz]; simp
  obtain ⟨h1, h2⟩ := names_all hl
  have h3 : l = piecesB dir ++ piecesB p := by
    rw [names_pieces hl hsz]
    unfold piecesB
    rw [putP_data hz, splitL_append, List.map_append]
  have h4 : namesB dir = some (piecesB dir) := by
    unfold namesB
    rw [if_neg hz, if_neg, if_pos]
    · rw [List.all_eq_true]
      intro x hx
      exact h1 x (by rw [h3]; exact List.mem_append_left _ hx)
    · rw [h3, List.length_append] at h2; omega
  unfold okP
  rw [h4]
  rfl
theorem graft_hu0 {t s : List En} {dir : ByteArray} : ∀ out : List En, out = keptL dir t ++ s.map (putE dir) → (∀ e ∈ out, okP e.path = true) → ∀ ys : List En, ys.Perm out → (ys.Pairwise fun x y => 0 ≤ lessI y.path x.path) → (checkA t).2 = 0 → (checkA s).2 = 0 → ys = srt out := by
  intro out ho hok ys hp hs ht2 hs2
  cases hd : okP dir with
  | true => exact graft_hu hd out ho hok ys hp hs ht2 hs2
  | false =>
    have hT := (right_of ht2).2
    have hz : dir.size ≠ 0 := by
      intro h
      have : okP dir = true := by unfold okP namesB; rw [if_pos h]; rfl
      rw [hd] at this; cases this
    cases s with
    | nil =>
      have hdd : Dist out := by
        rw [ho, List.map_nil, List.append_nil]
        exact hT.sorted.dist.filter _
      exact sorted_uniq (hp.trans (srt_perm out).symm) hs (srt_sorted out hok) (fun e he => hok e ((srt_perm out).subset he)) (hdd.perm (srt_perm out))
    | cons e r =>
      have h1 := hok (putE dir e) (by rw [ho]; exact List.mem_append_right _ (by simp))
      have h2 := put_dir (p := e.path) hz h1
      rw [hd] at h2; cases h2
structure Ed where
  kind : Int
  ent : En
  path : ByteArray
  A : Option Addr
  cap : Nat
  tree : List En
def Ed.cells (x : Ed) : List Value := [.int .i64 x.kind, .string x.ent.path, .int .i64 x.ent.kind, .string x.ent.data, .string x.path, .slice x.A x.tree.length x.cap]
def edE : Enc Ed := {
  val x := .agg x.cells.toArray
  cells x := x.cells
  valc _ := rfl
  k := 6
  pos := by decide
  len _ := rfl
  one x := by intro v hv; simp only [Ed.cells, List.mem_cons, List.not_mem_nil, or_false] at hv; rcases hv with rfl | rfl | rfl | rfl | rfl | rfl <;> rfl }
instance (x : Ed) : CellAt x.cells 0 (.int .i64 x.kind) := ⟨rfl⟩
instance (x : Ed) : CellAt x.cells 4 (.string x.path) := ⟨rfl⟩
instance (x : Ed) : CellAt x.cells 5 (.slice x.A x.tree.length x.cap) := ⟨rfl⟩
instance (x : Ed) : RowOk x.cells 6 := ⟨rfl, edE.one x⟩
instance (x : Ed) : RowOk (edE.cells x) 6 := ⟨rfl, edE.one x⟩
instance (x : Ed) : RowAt x.cells 1 3 x.ent.cells := ⟨rfl, rfl⟩
instance (x : Ed) : CellAt (edE.cells x) 0 (.int .i64 x.kind) := ⟨rfl⟩
instance (x : Ed) : CellAt (edE.cells x) 4 (.string x.path) := ⟨rfl⟩
instance (x : Ed) : CellAt (edE.cells x) 5 (.slice x.A x.tree.length x.cap) := ⟨rfl⟩
instance (x : Ed) : RowAt (edE.cells x) 1 3 x.ent.cells := ⟨rfl, rfl⟩
/-- What an edit answers. -/
def edR (m : Int) (t : List En) (x : Ed) : List En × Int :=
  if m = 0 then putR t x.ent else if m = 1 then removeR t x.path else if m = 2 then subR t x.path else graftR t x.path x.tree
theorem edR_right {m : Int} {t : List En} {x : Ed} (h : (edR m t x).2 = 0) : RightT (edR m t x).1 := by
  unfold edR at h ⊢
  by_cases h0 : m = 0
  · rw [if_pos h0] at h ⊢
    obtain ⟨out, h1, h2, h3, h4, h5, h6⟩ := putR_ok h
    rw [h6]
    exact (put_right (right_of h1).2 h2 h3 h4 h5).1
  · rw [if_neg h0] at h ⊢
    by_cases h1 : m = 1
    · rw [if_pos h1] at h ⊢
      obtain ⟨h2, h3, _, h4⟩ := removeR_ok h
      rw [h4]
      exact remove_right (right_of h2).2 h3
    · rw [if_neg h1] at h ⊢
      by_cases h2 : m = 2
      · rw [if_pos h2] at h ⊢
        obtain ⟨h3, h4, h5⟩ := subR_ok h
        rw [h5]
        exact sub_right (right_of h3).2 (where_ok h4)
      · rw [if_neg h2] at h ⊢
        have ht : (checkA t).2 = 0 ∧ whereI t x.path = 0 := by
          unfold graftR at h
          by_cases h3 : (checkA t).2 = 0
          · rw [if_pos h3] at h
            refine ⟨h3, ?_⟩
            by_cases h4 : (checkA x.tree).2 = 0
            · rw [if_pos h4] at h
              by_cases h5 : whereI t x.path = 0
              · exact h5
              · rw [if_neg h5] at h; exact absurd h h5
            · rw [if_neg h4] at h; exact absurd h h4
          · rw [if_neg h3] at h; exact absurd h h3
        obtain ⟨g1, g2, g3, g4⟩ := graftR_ok h
        rw [g4]
        exact (graft_right (right_of ht.1).2 (right_of g1).2 ht.2 g2 g3).1
end Go.Tk

set_option linter.unusedSectionVars false
set_option linter.unusedSimpArgs false
set_option linter.unusedVariables false
namespace Go.Tk
open Go.RowKit Go.Proofs
theorem kind4 (k : Int) : (wrap64 (k.tmod 4 + 4)).tmod 4 = 0 ∨ (wrap64 (k.tmod 4 + 4)).tmod 4 = 1 ∨ (wrap64 (k.tmod 4 + 4)).tmod 4 = 2 ∨ (wrap64 (k.tmod 4 + 4)).tmod 4 = 3 := by
  have h1 : k.tmod 4 < 4 := Int.tmod_lt_of_pos k (by decide)
  have h2 : -4 < k.tmod 4 := by
    have h3 := Int.tmod_lt_of_pos (-k) (show (0 : Int) < 4 by decide)
    rw [Int.neg_tmod] at h3
    omega
  generalize k.tmod 4 = a at h1 h2
  rw [IntWalk.wrap64_in _ (by omega), Int.tmod_eq_emod_of_nonneg (by omega)]
  omega
structure EdSt where
  i : Nat
  A : Option Addr
  cap : Nat
  t : List En
section
variable {B : Base} {R H H1 : HL} {w w' : World}
/-- What is known of an edit of a script. -/
def EdOk (B : Base) (x : Ed) : Prop :=
  RdB enE B x.A x.tree ∧ x.tree.length ≤ x.cap ∧ x.tree.length ≤ 2000000 ∧ x.path.size ≤ 1048576 ∧ x.ent.path.size ≤ 16777216 ∧ x.ent.data.size ≤ 16777216 ∧ ∀ e ∈ x.tree, e.path.size ≤ 1048576 ∧ e.data.size ≤ 16777216
def EdI (B : Base) (R : HL) (n : Nat) (x : EdSt) (w : World) : Prop :=
  ∃ d, x.i ≤ n ∧ SmallE x.t ∧ x.t.length ≤ 2000000 ∧ x.t.length ≤ x.cap ∧ RdAt enE B (d ++ R) x.A x.t ∧ Sh B (d ++ R) w
set_option maxRecDepth 100000 in
set_option maxHeartbeats 6400000 in
theorem Edits_any [HasML B] [NoDraw B] (hS : Sh B R w) {A A' : Option Addr} {cap cap' : Nat} {t : List En} {os : List Ed} [r : RdAt enE B R A t] [r' : RdB edE B A' os] (hc : t.length ≤ cap) (hl : t.length ≤ 2000000) (hsm : SmallE t) (hol : os.length ≤ 16777216) (hos : ∀ x ∈ os, EdOk B x) :
    Calls Tryz.prog 4 #[.slice A t.length cap, .slice A' os.length cap'] w fun e w' => e = .returned (.bool true) ∧ Sh B R w' := by
  have Hos := Lib.hid hos
  clear hos
  go_enter Tryz.func4, Tryz.ntmps4
  go_upto_region 2 with (fail)
  have h0 : EdI B R os.length ⟨0, A, cap, t⟩ _ := ⟨[], Nat.zero_le _, hsm, hl, hc, r, hS⟩
  clear hS hsm hl hc
  refine wp_loopS [0, 13] [4, 6, 7, 8, 9, 10, 14, 15, 16, 17, 18, 19, 20, 21, 22, 23, 24, 25, 26, 27, 28, 29, 30, 31, 32, 33, 34, 35, 36, 37, 38, 39, 40, 41, 42, 43, 44, 45, 46, 47, 48, 49, 50, 51, 52, 53, 54, 55, 56, 57, 58, 59, 60, 61, 62, 63, 64, 65, 66, 67, 68, 69, 70, 71, 72, 73, 74, 75, 76, 77, 78, 79, 80, 81, 82, 83, 84, 85, 86, 87, 88, 89, 90, 91, 92, 93, 94, 95, 96, 97, 98, 99, 100, 101, 102] (fun x : EdSt => [.slice x.A x.t.length x.cap, .int .i64 x.i]) (EdI B R os.length) (fun x => os.length - x.i) (⟨0, A, cap, t⟩) rfl (h0) ?_
  clear h0
  rintro ⟨i, A2, cap2, u⟩ J w ⟨d, hi, hsm, hl, hc, r2, hS⟩
  dsimp only at hi hsm hl hc r2 hS
  (simp only [Frm, setsT, junkT, List.setIfInBounds_toArray, List.set_cons_zero, List.set_cons_succ])
  by_cases hlt : i < os.length
  · obtain ⟨x, gx⟩ := Nth.of hlt
    obtain ⟨x1, x2, x3, x4, x5, x6, x7⟩ := Hos.out x gx.mem
    go_upto_region 8 with (first | (refine wl_alloc rfl rfl hS ?_; intro xb _ hS; (try simp only [Act.put, List.setIfInBounds_toArray, List.set_cons_zero, List.set_cons_succ])) | (refine wl_isld rfl ?_; ((first | refine wl_value rfl (ex_ldC hS rfl rfl CellAt.out) ?_ | refine wl_value rfl (ex_lr hS rfl rfl rfl rfl) ?_); (try simp only [Act.put, List.setIfInBounds_toArray, List.set_cons_zero, List.set_cons_succ]))) | ((refine wl_value rfl (ex_ix hS rfl rfl rfl ?_) ?_); (focus (rfl)); (try simp only [Act.put, List.setIfInBounds_toArray, List.set_cons_zero, List.set_cons_succ])) | (refine wl_strC rfl rfl rfl rfl hS rfl rfl ?_; intro _ hS; (try simp only [evT, evC, List.getD_cons_succ, List.getD_cons_zero, List.set_cons_zero, List.set_cons_succ] at hS); (try simp only [Act.put, List.setIfInBounds_toArray, List.set_cons_zero, List.set_cons_succ])))
    have hk4 := kind4 x.kind
    obtain ⟨m, hm⟩ : ∃ m, (wrap64 (x.kind.tmod 4 + 4)).tmod 4 = m := ⟨_, rfl⟩
    rw [hm] at hk4 ⊢
    clear hm
    have HE := Lib.hid (fun h => edR_right (m := m) (t := u) (x := x) h)
    rcases hk4 with rfl | rfl | rfl | rfl
    · obtain ⟨X, hX⟩ : ∃ X, putR u x.ent = X := ⟨_, rfl⟩
      have l1 := fun (w : World) (H : HL) (hS : Sh B H w) (r : RdAt enE B H A2 u) => TPut_any hS (A := A2) (cap := cap2) (t := u) (r := r) (by omega) hsm x.ent x5 x6
      have l2 := fun (w : World) (H : HL) (hS : Sh B H w) (r : RdAt enE B H A2 u) => RPut_any hS (A := A2) (cap := cap2) (t := u) (r := r) hc (by omega) hsm x.ent x5 x6
      rw [hX] at l1 l2
      have he : edR 0 u x = X := by unfold edR; rw [if_pos rfl, hX]
      have hRi := Lib.hid (fun (h : X.2 = 0) => HE.out (by rw [he]; exact h))
      rw [he] at hRi
      clear HE he hX
      obtain ⟨X1, v⟩ := X
      have l3 := fun (w : World) (H : HL) (hS : Sh B H w) (A3 A4 : Option Addr) (cap3 cap4 : Nat) (r3 : RdAt enE B H A3 X1) (r4 : RdAt enE B H A4 X1) => Same_any hS (A := A3) (A' := A4) (c := cap3) (c' := cap4) (xs := X1) (ys := X1) (rA := r3) (rB := r4)
      rw [decide_eq_true rfl] at l3
      dsimp only at hRi
      by_cases hf : v = 0
      · have hR := hRi.out hf
        have hsz := hR.small
        have hfw := hR.few
        subst hf
        clear hRi hR
        go_upto_region 10 with (first | (go_at_call 13; refine ((l1 _ _ hS inferInstance)).mono ?_; rintro e w' (⟨A3, sp3, cap3, rfl, hO3, hS⟩)) | (refine wl_isld rfl ?_; ((refine wl_value rfl (ex_ldrC hS rfl rfl) ?_); (try simp only [Act.put, List.setIfInBounds_toArray, List.set_cons_zero, List.set_cons_succ]))))
        go_upto_region 20 with (first | (go_at_call 9; refine ((l2 _ _ hS inferInstance)).mono ?_; rintro e w' (⟨A4, sp4, cap4, rfl, hO4, hS⟩)) | (refine wl_isld rfl ?_; ((refine wl_value rfl (ex_ldrC hS rfl rfl) ?_); (try simp only [Act.put, List.setIfInBounds_toArray, List.set_cons_zero, List.set_cons_succ]))))
        clear l1 l2
        have hcap4 := hO4.len_le
        go_wp2_with ((go_at_call 12; refine ((l3 _ _ hS _ _ _ _ inferInstance inferInstance)).mono ?_; rintro e w' (⟨rfl, hS⟩)))
        exact ⟨(⟨i + 1, A4, cap4, X1⟩ : EdSt), ⟨rowA A4 (flat enE X1 ++ sp4) 24 ++ d, hlt, hsz, (by dsimp only; omega), hcap4, (by rw [List.append_assoc]; exact inferInstance), (by rw [List.append_assoc]; exact hS.to)⟩, (by dsimp only; omega), rfl, (by (simp only [blankT, junkT, List.cons_append, List.nil_append, List.setIfInBounds_toArray, List.set_cons_zero, List.set_cons_succ])), rfl⟩
      · have d2 : (v == 0) = false := beq_no hf
        have d3 : (v != 0) = true := bne_no hf
        have d4 : (v == v) = true := by simp
        clear hRi hf
        go_upto_region 10 with (first | (go_at_call 13; refine ((l1 _ _ hS inferInstance)).mono ?_; rintro e w' (⟨A3, sp3, cap3, rfl, hO3, hS⟩)) | (refine wl_isld rfl ?_; ((refine wl_value rfl (ex_ldrC hS rfl rfl) ?_); (try simp only [Act.put, List.setIfInBounds_toArray, List.set_cons_zero, List.set_cons_succ]))))
        go_upto_region 20 with (first | (go_at_call 9; refine ((l2 _ _ hS inferInstance)).mono ?_; rintro e w' (⟨A4, sp4, cap4, rfl, hO4, hS⟩)) | (refine wl_isld rfl ?_; ((refine wl_value rfl (ex_ldrC hS rfl rfl) ?_); (try simp only [Act.put, List.setIfInBounds_toArray, List.set_cons_zero, List.set_cons_succ]))))
        clear l1 l2
        have hcap4 := hO4.len_le
        go_wp2_with ((go_at_call 12; refine ((l3 _ _ hS _ _ _ _ inferInstance inferInstance)).mono ?_; rintro e w' (⟨rfl, hS⟩)))
        exact ⟨(⟨i + 1, A2, cap2, u⟩ : EdSt), ⟨d, hlt, hsm, hl, hc, r2, hS.to⟩, (by dsimp only; omega), rfl, (by (simp only [blankT, junkT, List.cons_append, List.nil_append, List.setIfInBounds_toArray, List.set_cons_zero, List.set_cons_succ])), rfl⟩
    · obtain ⟨X, hX⟩ : ∃ X, removeR u x.path = X := ⟨_, rfl⟩
      have l1 := fun (w : World) (H : HL) (hS : Sh B H w) (r : RdAt enE B H A2 u) => TRemove_any hS (A := A2) (cap := cap2) (t := u) (r := r) (by omega) hsm x.path (by omega)
      have l2 := fun (w : World) (H : HL) (hS : Sh B H w) (r : RdAt enE B H A2 u) => RRemove_any hS (A := A2) (cap := cap2) (t := u) (r := r) hc (by omega) hsm x.path (by omega)
      rw [hX] at l1 l2
      have he : edR 1 u x = X := by unfold edR; rw [if_neg (by decide), if_pos rfl, hX]
      have hRi := Lib.hid (fun (h : X.2 = 0) => HE.out (by rw [he]; exact h))
      rw [he] at hRi
      clear HE he hX
      obtain ⟨X1, v⟩ := X
      have l3 := fun (w : World) (H : HL) (hS : Sh B H w) (A3 A4 : Option Addr) (cap3 cap4 : Nat) (r3 : RdAt enE B H A3 X1) (r4 : RdAt enE B H A4 X1) => Same_any hS (A := A3) (A' := A4) (c := cap3) (c' := cap4) (xs := X1) (ys := X1) (rA := r3) (rB := r4)
      rw [decide_eq_true rfl] at l3
      dsimp only at hRi
      by_cases hf : v = 0
      · have hR := hRi.out hf
        have hsz := hR.small
        have hfw := hR.few
        subst hf
        clear hRi hR
        go_upto_region 13 with (first | (go_at_call 14; refine ((l1 _ _ hS inferInstance)).mono ?_; rintro e w' (⟨A3, sp3, cap3, rfl, hO3, hS⟩)) | (refine wl_isld rfl ?_; ((refine wl_value rfl (ex_ldC hS rfl rfl CellAt.out) ?_); (try simp only [Act.put, List.setIfInBounds_toArray, List.set_cons_zero, List.set_cons_succ]))))
        go_upto_region 20 with (first | (go_at_call 15; refine ((l2 _ _ hS inferInstance)).mono ?_; rintro e w' (⟨A4, sp4, cap4, rfl, hO4, hS⟩)) | (refine wl_isld rfl ?_; ((refine wl_value rfl (ex_ldC hS rfl rfl CellAt.out) ?_); (try simp only [Act.put, List.setIfInBounds_toArray, List.set_cons_zero, List.set_cons_succ]))))
        clear l1 l2
        have hcap4 := hO4.len_le
        go_wp2_with ((go_at_call 12; refine ((l3 _ _ hS _ _ _ _ inferInstance inferInstance)).mono ?_; rintro e w' (⟨rfl, hS⟩)))
        exact ⟨(⟨i + 1, A4, cap4, X1⟩ : EdSt), ⟨rowA A4 (flat enE X1 ++ sp4) 24 ++ d, hlt, hsz, (by dsimp only; omega), hcap4, (by rw [List.append_assoc]; exact inferInstance), (by rw [List.append_assoc]; exact hS.to)⟩, (by dsimp only; omega), rfl, (by (simp only [blankT, junkT, List.cons_append, List.nil_append, List.setIfInBounds_toArray, List.set_cons_zero, List.set_cons_succ])), rfl⟩
      · have d2 : (v == 0) = false := beq_no hf
        have d3 : (v != 0) = true := bne_no hf
        have d4 : (v == v) = true := by simp
        clear hRi hf
        go_upto_region 13 with (first | (go_at_call 14; refine ((l1 _ _ hS inferInstance)).mono ?_; rintro e w' (⟨A3, sp3, cap3, rfl, hO3, hS⟩)) | (refine wl_isld rfl ?_; ((refine wl_value rfl (ex_ldC hS rfl rfl CellAt.out) ?_); (try simp only [Act.put, List.setIfInBounds_toArray, List.set_cons_zero, List.set_cons_succ]))))
        go_upto_region 20 with (first | (go_at_call 15; refine ((l2 _ _ hS inferInstance)).mono ?_; rintro e w' (⟨A4, sp4, cap4, rfl, hO4, hS⟩)) | (refine wl_isld rfl ?_; ((refine wl_value rfl (ex_ldC hS rfl rfl CellAt.out) ?_); (try simp only [Act.put, List.setIfInBounds_toArray, List.set_cons_zero, List.set_cons_succ]))))
        clear l1 l2
        have hcap4 := hO4.len_le
        go_wp2_with ((go_at_call 12; refine ((l3 _ _ hS _ _ _ _ inferInstance inferInstance)).mono ?_; rintro e w' (⟨rfl, hS⟩)))
        exact ⟨(⟨i + 1, A2, cap2, u⟩ : EdSt), ⟨d, hlt, hsm, hl, hc, r2, hS.to⟩, (by dsimp only; omega), rfl, (by (simp only [blankT, junkT, List.cons_append, List.nil_append, List.setIfInBounds_toArray, List.set_cons_zero, List.set_cons_succ])), rfl⟩
    · obtain ⟨X, hX⟩ : ∃ X, subR u x.path = X := ⟨_, rfl⟩
      have l1 := fun (w : World) (H : HL) (hS : Sh B H w) (r : RdAt enE B H A2 u) => TSub_any hS (A := A2) (cap := cap2) (t := u) (r := r) (by omega) hsm x.path (by omega)
      have l2 := fun (w : World) (H : HL) (hS : Sh B H w) (r : RdAt enE B H A2 u) => RSub_any hS (A := A2) (cap := cap2) (t := u) (r := r) hc (by omega) hsm x.path (by omega)
      rw [hX] at l1 l2
      have he : edR 2 u x = X := by unfold edR; rw [if_neg (by decide), if_neg (by decide), if_pos rfl, hX]
      have hRi := Lib.hid (fun (h : X.2 = 0) => HE.out (by rw [he]; exact h))
      rw [he] at hRi
      clear HE he hX
      obtain ⟨X1, v⟩ := X
      have l3 := fun (w : World) (H : HL) (hS : Sh B H w) (A3 A4 : Option Addr) (cap3 cap4 : Nat) (r3 : RdAt enE B H A3 X1) (r4 : RdAt enE B H A4 X1) => Same_any hS (A := A3) (A' := A4) (c := cap3) (c' := cap4) (xs := X1) (ys := X1) (rA := r3) (rB := r4)
      rw [decide_eq_true rfl] at l3
      dsimp only at hRi
      by_cases hf : v = 0
      · have hR := hRi.out hf
        have hsz := hR.small
        have hfw := hR.few
        subst hf
        clear hRi hR
        go_upto_region 16 with (first | (go_at_call 16; refine ((l1 _ _ hS inferInstance)).mono ?_; rintro e w' (⟨A3, sp3, cap3, rfl, hO3, hS⟩)) | (refine wl_isld rfl ?_; ((refine wl_value rfl (ex_ldC hS rfl rfl CellAt.out) ?_); (try simp only [Act.put, List.setIfInBounds_toArray, List.set_cons_zero, List.set_cons_succ]))))
        go_upto_region 20 with (first | (go_at_call 10; refine ((l2 _ _ hS inferInstance)).mono ?_; rintro e w' (⟨A4, sp4, cap4, rfl, hO4, hS⟩)) | (refine wl_isld rfl ?_; ((refine wl_value rfl (ex_ldC hS rfl rfl CellAt.out) ?_); (try simp only [Act.put, List.setIfInBounds_toArray, List.set_cons_zero, List.set_cons_succ]))))
        clear l1 l2
        have hcap4 := hO4.len_le
        go_wp2_with ((go_at_call 12; refine ((l3 _ _ hS _ _ _ _ inferInstance inferInstance)).mono ?_; rintro e w' (⟨rfl, hS⟩)))
        exact ⟨(⟨i + 1, A4, cap4, X1⟩ : EdSt), ⟨rowA A4 (flat enE X1 ++ sp4) 24 ++ d, hlt, hsz, (by dsimp only; omega), hcap4, (by rw [List.append_assoc]; exact inferInstance), (by rw [List.append_assoc]; exact hS.to)⟩, (by dsimp only; omega), rfl, (by (simp only [blankT, junkT, List.cons_append, List.nil_append, List.setIfInBounds_toArray, List.set_cons_zero, List.set_cons_succ])), rfl⟩
      · have d2 : (v == 0) = false := beq_no hf
        have d3 : (v != 0) = true := bne_no hf
        have d4 : (v == v) = true := by simp
        clear hRi hf
        go_upto_region 16 with (first | (go_at_call 16; refine ((l1 _ _ hS inferInstance)).mono ?_; rintro e w' (⟨A3, sp3, cap3, rfl, hO3, hS⟩)) | (refine wl_isld rfl ?_; ((refine wl_value rfl (ex_ldC hS rfl rfl CellAt.out) ?_); (try simp only [Act.put, List.setIfInBounds_toArray, List.set_cons_zero, List.set_cons_succ]))))
        go_upto_region 20 with (first | (go_at_call 10; refine ((l2 _ _ hS inferInstance)).mono ?_; rintro e w' (⟨A4, sp4, cap4, rfl, hO4, hS⟩)) | (refine wl_isld rfl ?_; ((refine wl_value rfl (ex_ldC hS rfl rfl CellAt.out) ?_); (try simp only [Act.put, List.setIfInBounds_toArray, List.set_cons_zero, List.set_cons_succ]))))
        clear l1 l2
        have hcap4 := hO4.len_le
        go_wp2_with ((go_at_call 12; refine ((l3 _ _ hS _ _ _ _ inferInstance inferInstance)).mono ?_; rintro e w' (⟨rfl, hS⟩)))
        exact ⟨(⟨i + 1, A2, cap2, u⟩ : EdSt), ⟨d, hlt, hsm, hl, hc, r2, hS.to⟩, (by dsimp only; omega), rfl, (by (simp only [blankT, junkT, List.cons_append, List.nil_append, List.setIfInBounds_toArray, List.set_cons_zero, List.set_cons_succ])), rfl⟩
    · obtain ⟨X, hX⟩ : ∃ X, graftR u x.path x.tree = X := ⟨_, rfl⟩
      have l1 := fun (w : World) (H : HL) (hS : Sh B H w) (r : RdAt enE B H A2 u) => TGraft_any hS (A := A2) (A' := x.A) (cap := cap2) (cap' := x.cap) (t := u) (s := x.tree) (r := r) (r' := x1.at_ H) (by omega) (by omega) hsm (fun e he => ⟨by have := (x7 e he).1; omega, (x7 e he).2⟩) x.path x4 (fun e he => (x7 e he).1) graft_hu0
      have l2 := fun (w : World) (H : HL) (hS : Sh B H w) (r : RdAt enE B H A2 u) => RGraft_any hS (A := A2) (A' := x.A) (cap := cap2) (cap' := x.cap) (t := u) (s := x.tree) (r := r) (r' := x1.at_ H) hc x2 hl x3 hsm (fun e he => ⟨by have := (x7 e he).1; omega, (x7 e he).2⟩) x.path x4 (fun e he => (x7 e he).1)
      rw [hX] at l1 l2
      have he : edR 3 u x = X := by unfold edR; rw [if_neg (by decide), if_neg (by decide), if_neg (by decide), hX]
      have hRi := Lib.hid (fun (h : X.2 = 0) => HE.out (by rw [he]; exact h))
      rw [he] at hRi
      clear HE he hX
      obtain ⟨X1, v⟩ := X
      have l3 := fun (w : World) (H : HL) (hS : Sh B H w) (A3 A4 : Option Addr) (cap3 cap4 : Nat) (r3 : RdAt enE B H A3 X1) (r4 : RdAt enE B H A4 X1) => Same_any hS (A := A3) (A' := A4) (c := cap3) (c' := cap4) (xs := X1) (ys := X1) (rA := r3) (rB := r4)
      rw [decide_eq_true rfl] at l3
      dsimp only at hRi
      by_cases hf : v = 0
      · have hR := hRi.out hf
        have hsz := hR.small
        have hfw := hR.few
        subst hf
        clear hRi hR
        go_upto_region 19 with (first | (go_at_call 17; refine ((l1 _ _ hS inferInstance)).mono ?_; rintro e w' (⟨A3, sp3, cap3, rfl, hO3, hS⟩)) | (refine wl_isld rfl ?_; ((refine wl_value rfl (ex_ldC hS rfl rfl CellAt.out) ?_); (try simp only [Act.put, List.setIfInBounds_toArray, List.set_cons_zero, List.set_cons_succ]))))
        go_upto_region 20 with (first | (go_at_call 11; refine ((l2 _ _ hS inferInstance)).mono ?_; rintro e w' (⟨A4, sp4, cap4, rfl, hO4, hS⟩)) | (refine wl_isld rfl ?_; ((refine wl_value rfl (ex_ldC hS rfl rfl CellAt.out) ?_); (try simp only [Act.put, List.setIfInBounds_toArray, List.set_cons_zero, List.set_cons_succ]))))
        clear l1 l2
        have hcap4 := hO4.len_le
        go_wp2_with ((go_at_call 12; refine ((l3 _ _ hS _ _ _ _ inferInstance inferInstance)).mono ?_; rintro e w' (⟨rfl, hS⟩)))
        exact ⟨(⟨i + 1, A4, cap4, X1⟩ : EdSt), ⟨rowA A4 (flat enE X1 ++ sp4) 24 ++ d, hlt, hsz, (by dsimp only; omega), hcap4, (by rw [List.append_assoc]; exact inferInstance), (by rw [List.append_assoc]; exact hS.to)⟩, (by dsimp only; omega), rfl, (by (simp only [blankT, junkT, List.cons_append, List.nil_append, List.setIfInBounds_toArray, List.set_cons_zero, List.set_cons_succ])), rfl⟩
      · have d2 : (v == 0) = false := beq_no hf
        have d3 : (v != 0) = true := bne_no hf
        have d4 : (v == v) = true := by simp
        clear hRi hf
        go_upto_region 19 with (first | (go_at_call 17; refine ((l1 _ _ hS inferInstance)).mono ?_; rintro e w' (⟨A3, sp3, cap3, rfl, hO3, hS⟩)) | (refine wl_isld rfl ?_; ((refine wl_value rfl (ex_ldC hS rfl rfl CellAt.out) ?_); (try simp only [Act.put, List.setIfInBounds_toArray, List.set_cons_zero, List.set_cons_succ]))))
        go_upto_region 20 with (first | (go_at_call 11; refine ((l2 _ _ hS inferInstance)).mono ?_; rintro e w' (⟨A4, sp4, cap4, rfl, hO4, hS⟩)) | (refine wl_isld rfl ?_; ((refine wl_value rfl (ex_ldC hS rfl rfl CellAt.out) ?_); (try simp only [Act.put, List.setIfInBounds_toArray, List.set_cons_zero, List.set_cons_succ]))))
        clear l1 l2
        have hcap4 := hO4.len_le
        go_wp2_with ((go_at_call 12; refine ((l3 _ _ hS _ _ _ _ inferInstance inferInstance)).mono ?_; rintro e w' (⟨rfl, hS⟩)))
        exact ⟨(⟨i + 1, A2, cap2, u⟩ : EdSt), ⟨d, hlt, hsm, hl, hc, r2, hS.to⟩, (by dsimp only; omega), rfl, (by (simp only [blankT, junkT, List.cons_append, List.nil_append, List.setIfInBounds_toArray, List.set_cons_zero, List.set_cons_succ])), rfl⟩
  · go_wp2_with ((go_at_call 6; refine ((alive_any hS)).mono ?_; rintro e w' (⟨rfl, hS⟩)))
    go_ret
    exact ⟨rfl, hS.to⟩
end
end Go.Tk

set_option linter.unusedSectionVars false
set_option linter.unusedSimpArgs false
set_option linter.unusedVariables false
namespace Go.Tk
open Go.Proofs.YtclmemhginekbaaGreatDoor
open Go.RowKit Go.Proofs Go.ChangeShapes Go.WideShapes Go.ChangeAt
def edOk (B : Base) (x : Ed) : Prop := RdB enE B x.A x.tree ∧ x.tree.length ≤ x.cap
def edBulk (x : Ed) : Nat := enBulk x.ent + x.path.size + (x.tree.map enBulk).sum + 1
set_option maxRecDepth 100000 in
theorem opens_ed : OpensAt Tryz.prog 38 edE edOk edBulk := by
  intro H enc W fuel cs x h
  obtain ⟨ys, n, _, rfl, hl, hlen, hf⟩ := DataW.trod_struct Tryz.underlying38 h
  have hc : Tryz.prog.cellsOf 38 = 6 := by kernel_rfl
  have hl5 : cs.length = 6 := by rw [hl, hc]
  match cs, hl5, ys, hlen with
  | [c0, c1, c2, c3, c4, c5], _, [y0, y1, y2, y3], _ =>
    obtain ⟨k0, h0, o0, b0⟩ := opens_int (P := Tryz.prog) (t := 3) Tryz.underlying3 enc W n _ _ (hf 0 _ rfl)
    obtain ⟨k1, h1, o1, b1⟩ := opens_en enc W n _ _ (hf 1 _ rfl)
    obtain ⟨k2, h2, o2, b2⟩ := opens_str (P := Tryz.prog) (t := 9) Tryz.underlying9 enc W n _ _ (hf 2 _ rfl)
    have hsl := Go.Deep.open_slice Tryz.underlying22 (hf 3 _ rfl)
    obtain ⟨s, h3, o3, b3⟩ := opens_slice (P := Tryz.prog) (E := enE) (ok := fun _ _ => True) (bulk := enBulk) Tryz.underlying22 (by kernel_rfl) opens_en enc W n _ _ (hf 3 _ rfl)
    have e0 : [c0] = [Value.int .i64 k0] := h0
    have e1 : [c1, c2, c3] = [Value.string k1.path, Value.int .i64 k1.kind, Value.string k1.data] := h1
    have e2 : [c4] = [Value.string k2] := h2
    have e3 : [c5] = [Value.slice s.A s.n s.cap] := h3
    have hsl' : ([c5] = [Value.slice none 0 0] ∧ True) ∨ ∃ (a : Addr) (len cap : Nat), [c5] = [Value.slice (some a) len cap] ∧ len ≤ cap := by
      rcases hsl with ⟨h, _⟩ | ⟨a, len, cap, m, n2, D, Pl, h, _, hl, _⟩
      · exact .inl ⟨h, trivial⟩
      · exact .inr ⟨a, len, cap, h, hl⟩
    obtain ⟨hn, hR, _⟩ := o3
    have hcap : s.n ≤ s.cap := by
      rw [e3] at hsl'
      rcases hsl' with ⟨h, _⟩ | ⟨a, len, cap, h, hle⟩
      · simp only [List.cons.injEq, Value.slice.injEq, and_true] at h; omega
      · simp only [List.cons.injEq, Value.slice.injEq, and_true] at h; omega
    clear hsl hsl'
    simp only [List.cons.injEq, and_true] at e0 e1 e2 e3
    obtain ⟨rfl, rfl, rfl⟩ := e1
    subst e0 e2 e3
    refine ⟨⟨k0, k1, k2, s.A, s.cap, s.xs⟩, by rw [hn]; rfl, ⟨hR, by rw [← hn]; exact hcap⟩, ?_⟩
    have b1' : enBulk k1 ≤ Rows.uptoBulk y1.1 := b1
    have b2' : k2.size + 1 ≤ Rows.uptoBulk y2.1 := b2
    have b3' : (s.xs.map enBulk).sum + 1 ≤ Rows.uptoBulk y3.1 := b3
    simp only [Rows.uptoBulk, Rows.uptoBulkAll, edBulk, List.map_cons, List.map_nil]
    omega
theorem edBulk_le {xs : List Ed} {n : Nat} (h : (xs.map edBulk).sum ≤ n) : xs.length ≤ n ∧ ∀ x ∈ xs, x.path.size ≤ n ∧ (x.ent.path.size ≤ n ∧ x.ent.data.size ≤ n) ∧ x.tree.length ≤ n ∧ ∀ e ∈ x.tree, e.path.size ≤ n ∧ e.data.size ≤ n := by
  induction xs generalizing n with
  | nil => exact ⟨Nat.zero_le _, fun e he => nomatch he⟩
  | cons x r ih =>
    rw [List.map_cons, List.sum_cons] at h
    have hx : edBulk x = (x.ent.path.size + x.ent.data.size + 1) + x.path.size + (x.tree.map enBulk).sum + 1 := rfl
    obtain ⟨h1, h2⟩ := ih (n := n - edBulk x) (by omega)
    obtain ⟨h3, h4⟩ := enBulk_le (n := n) (xs := x.tree) (by omega)
    refine ⟨by rw [List.length_cons]; omega, fun e he => ?_⟩
    rcases List.mem_cons.1 he with rfl | he
    · exact ⟨by omega, by omega, h3, h4⟩
    · obtain ⟨g1, g2, g3, g4⟩ := h2 e he
      exact ⟨by omega, by omega, by omega, fun y hy => by have := g4 y hy; omega⟩
end Go.Tk
