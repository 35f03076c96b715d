/- What follows an event, what may come late, and the table of rules. -/
import Derived.Test.YtlfnajpgfapegaaB13
import Derived.Test.YtlfnajpgfapegaaB14
set_option linter.unusedSectionVars false
set_option linter.unusedSimpArgs false
set_option linter.unusedVariables false
namespace Go.Tk
open Go.RowKit Go.Proofs

instance {f : Fn} {x : Array Value} {y : Array Value} : OneV (.func f x y) := ⟨rfl⟩
instance : OneV .nilFunc := ⟨rfl⟩
abbrev funV (f : Nat) : Value := .agg #[.func (.func f) #[] #[]]
abbrev ruleT : List (Int × Nat) := mput (mput (mput (mput (mput (mput (mput (mput (mput (mput (mput (mput (mput (mput (mput (mput (mput [] 1 57) 2 58) 3 59) 8 60) 16 61) 15 61) 4 62) 5 63) 12 64) 9 65) 10 65) 14 66) 17 67) 11 68) 6 69) 7 70) 13 71
section
variable {B : Base} {R H R1 R2 X : HL} {w : World} {b mi mw : Nat} {p : Bk}
set_option maxRecDepth 100000 in
set_option maxHeartbeats 1600000 in
theorem rules_any (hS : Sh B R w) {k : Int} {f : Nat} (hk : mget ruleT k = some f) : Calls Try.prog 43 #[.int .i64 k] w fun e w' => e = .returned (.agg #[.func (.func f) #[] #[]]) ∧ Sh B R w' := by
  have Hk := Lib.hid hk
  clear hk
  go_enter Try.func43, Try.ntmps43
  go_upto_region 1 with (refine wl_alloc rfl rfl hS ?_; intro _ _ hS; (try simp only [Act.put, List.setIfInBounds_toArray, List.set_cons_zero, List.set_cons_succ]))
  have hm : MapIs (fun n : Int => Value.int .i64 n) funV #[] 0 ([] : List (Int × Nat)) := MapIs.empty
  go_wp2_with (first | (refine wl_makeMap rfl rfl hS ?_; intro _ _ hS; (try simp only [Act.put, List.setIfInBounds_toArray, List.set_cons_zero, List.set_cons_succ])) | (refine wl_insert (k := _) (v := _) hm rfl rfl rfl rfl rfl hS ?_; clear hm; intro _ _ _ hS hm; (try simp only [evT, evC, List.getD_cons_succ, List.getD_cons_zero, List.set_cons_zero, List.set_cons_succ] at hS); (try simp only [Act.put, List.setIfInBounds_toArray, List.set_cons_zero, List.set_cons_succ])) | (refine wl_lookup hm rfl rfl rfl rfl hS ((msome Hk.out)) ?_; (try simp only [Act.put, List.setIfInBounds_toArray, List.set_cons_zero, List.set_cons_succ])) | (refine wl_strC rfl rfl rfl rfl hS rfl rfl ?_; intro _ hS; (try simp only [evT, evC, List.getD_cons_succ, List.getD_cons_zero, List.set_cons_zero, List.set_cons_succ] at hS); (try simp only [Act.put, List.setIfInBounds_toArray, List.set_cons_zero, List.set_cons_succ])))
  refine bodyPost_res (rs := ([.cell 2 89])) rfl (.cell rfl (ldv_all hS rfl) .nil) rfl ?_
  exact ⟨rfl, hS.to⟩
set_option maxRecDepth 100000 in
theorem close_any {blk : Nat} {r : Rq} (hS : Sh B H w) [h : HasCell H blk (rqC r) 83 X] : Calls Try.prog 41 #[.pointer (some ⟨blk, 0, none⟩)] w fun e w' => e = .returned (.tuple #[]) ∧ Sh B (cellB blk (rqC r.close) 83 ++ X) w' := by
  replace hS := hS.pick h.out
  go_enter Try.func41, Try.ntmps41
  go_wp2_with ((refine wl_st rfl rfl rfl rfl rfl hS (of_decide_eq_true rfl) ?_; intro _ hS; (try simp only [evT, evC, List.getD_cons_succ, List.getD_cons_zero, List.set_cons_zero, List.set_cons_succ] at hS); (try simp only [List.set_cons_zero, List.set_cons_succ] at hS); (try simp only [Act.put, List.setIfInBounds_toArray, List.set_cons_zero, List.set_cons_succ])))
  refine bodyPost_normal ?_
  refine bodyPost_res (rs := []) rfl .nil rfl ?_
  exact ⟨rfl, hS⟩
set_option maxRecDepth 100000 in
set_option maxHeartbeats 1600000 in
theorem broken_any {MA : Option Addr} {mcap : Nat} {m : Ev} {t : List Ev} (hmu : p.must = m :: t) (hS : Sh B H w) [h : HasCell H b (bkC p mi mw MA mcap) 58 R1] [r : RdAt evE B H MA p.must] :
    Calls Try.prog 21 #[.pointer (some ⟨b, 0, none⟩)] w fun e w' => e = .returned (.int .i64 (brokenI p.must)) ∧ Sh B H w' := by
  have gx : Nth p.must 0 m := ⟨by rw [hmu]; rfl⟩
  have Hmu := Lib.hid hmu
  clear hmu
  by_cases hk : m.kind = 11
  · have d1 : (m.kind == 11) = true := by simp [hk]
    have Hk := Lib.hid hk
    clear hk
    go_enter Try.func21, Try.ntmps21
    go_wp2_with (first | (refine wl_isld rfl ?_; ((first | refine wl_value rfl (ex_ldC hS rfl rfl CellAt.out) ?_ | refine wl_value rfl (ex_l00 hS rfl rfl CellAt.out) ?_); (try simp only [Act.put, List.setIfInBounds_toArray, List.set_cons_zero, List.set_cons_succ]))) | ((refine wl_value rfl (ex_ix hS rfl rfl rfl ?_) ?_); (focus (rfl)); (try simp only [Act.put, List.setIfInBounds_toArray, List.set_cons_zero, List.set_cons_succ])))
    go_ret
    have hbk := Lib.hid (show brokenI (m :: t) = 7 by show (if m.kind = 11 then (7 : Int) else 4) = 7; rw [if_pos Hk.out])
    exact ⟨by rw [Hmu.out, hbk.out]; rfl, hS⟩
  · have d1 : (m.kind == 11) = false := beq_no hk
    have Hk := Lib.hid hk
    clear hk
    go_enter Try.func21, Try.ntmps21
    go_wp2_with (first | (refine wl_isld rfl ?_; ((first | refine wl_value rfl (ex_ldC hS rfl rfl CellAt.out) ?_ | refine wl_value rfl (ex_l00 hS rfl rfl CellAt.out) ?_); (try simp only [Act.put, List.setIfInBounds_toArray, List.set_cons_zero, List.set_cons_succ]))) | ((refine wl_value rfl (ex_ix hS rfl rfl rfl ?_) ?_); (focus (rfl)); (try simp only [Act.put, List.setIfInBounds_toArray, List.set_cons_zero, List.set_cons_succ])))
    go_ret
    have hbk := Lib.hid (show brokenI (m :: t) = 4 by show (if m.kind = 11 then (7 : Int) else 4) = 4; rw [if_neg Hk.out])
    exact ⟨by rw [Hmu.out, hbk.out]; rfl, hS⟩
set_option maxRecDepth 100000 in
set_option maxHeartbeats 1600000 in
theorem follows_any (hQ : BAt B p b mi mw R w) (e : Ev) (hd : e.kind = 11 → ∃ v, mget p.wks e.worker = some v ∧ p.must.length + v.owes.length ≤ 4194304) :
    Calls Try.prog 42 #[.pointer (some ⟨b, 0, none⟩), .agg e.cells.toArray] w fun e' w' => e' = .returned (.tuple #[]) ∧ BAt B (p.follows e) b mi mw R w' := by
  by_cases h8 : e.kind = 8
  · have d1 : (e.kind == 8) = true := by simp [h8]
    have hf : p.follows e = (p.id e.id).setR e.id ((p.id e.id).rq e.id).close := by unfold Bk.follows; rw [if_pos h8]
    obtain ⟨q, hq⟩ : ∃ q, p.id e.id = q := ⟨_, rfl⟩
    have hid := fun (w : World) (R : HL) (hQ : BAt B p b mi mw R w) => id_any hQ e.id
    rw [hq] at hid hf
    have Hf := Lib.hid hf
    clear hf hq h8 hd
    obtain ⟨ids, wks, es1, es2, c1, c2, MA, md, msp, mcap, hS, hb⟩ := hQ.out
    go_enter Try.func42, Try.ntmps42
    go_wp2_with (first | (refine wl_box rfl rfl rfl rfl hS ?_; intro eb _ hS; (try simp only [Act.put, List.setIfInBounds_toArray, List.set_cons_zero, List.set_cons_succ])) | (go_at_call 40; refine ((hid _ (cellB eb e.cells 48 ++ R) ⟨_, _, _, _, _, _, _, _, _, _, hS.to, hb⟩)).mono ?_; rintro e w' (⟨blk, rfl, ⟨l1, l2, wks, es1, es2, c1, c2, MA, md, msp, mcap, hS, hb, hn1⟩⟩)) | (go_at_call 41; refine ((close_any (r := q.rq e.id) hS)).mono ?_; rintro e w' (⟨rfl, hS⟩)) | (refine wl_isld rfl ?_; ((refine wl_value rfl (ex_ldC hS rfl rfl CellAt.out) ?_); (try simp only [Act.put, List.setIfInBounds_toArray, List.set_cons_zero, List.set_cons_succ]))))
    refine bodyPost_normal ?_
    refine bodyPost_res (rs := []) rfl .nil rfl ?_
    refine ⟨rfl, ?_⟩
    rw [Hf.out]
    have hS2 : Sh B (bkH q b mi mw MA md msp mcap es1 es2 c1 c2 (cellB blk (rqC (q.rq e.id).close) 83 ++ (rqH l1 ++ (rqH l2 ++ (wksH wks ++ R))))) hS.world := hS.to
    exact RAt.close hS2 hb hn1 rfl rfl rfl
  have d1 : (e.kind == 8) = false := beq_no h8
  by_cases h16 : e.kind = 16
  · have d2 : (e.kind == 16) = true := by simp [h16]
    have hf : p.follows e = (p.id e.id).setR e.id { (p.id e.id).rq e.id with waits := true } := by unfold Bk.follows; rw [if_neg h8, if_pos h16]
    obtain ⟨q, hq⟩ : ∃ q, p.id e.id = q := ⟨_, rfl⟩
    have hid := fun (w : World) (R : HL) (hQ : BAt B p b mi mw R w) => id_any hQ e.id
    rw [hq] at hid hf
    have Hf := Lib.hid hf
    clear hf hq h8 h16 hd
    obtain ⟨ids, wks, es1, es2, c1, c2, MA, md, msp, mcap, hS, hb⟩ := hQ.out
    go_enter Try.func42, Try.ntmps42
    go_wp2_with (first | (refine wl_box rfl rfl rfl rfl hS ?_; intro eb _ hS; (try simp only [Act.put, List.setIfInBounds_toArray, List.set_cons_zero, List.set_cons_succ])) | (go_at_call 40; refine ((hid _ (cellB eb e.cells 48 ++ R) ⟨_, _, _, _, _, _, _, _, _, _, hS.to, hb⟩)).mono ?_; rintro e w' (⟨blk, rfl, ⟨l1, l2, wks, es1, es2, c1, c2, MA, md, msp, mcap, hS, hb, hn1⟩⟩)) | (refine wl_isld rfl ?_; ((refine wl_value rfl (ex_ldC hS rfl rfl CellAt.out) ?_); (try simp only [Act.put, List.setIfInBounds_toArray, List.set_cons_zero, List.set_cons_succ]))) | (refine wl_st rfl rfl rfl rfl rfl hS (of_decide_eq_true rfl) ?_; intro _ hS; (try simp only [evT, evC, List.getD_cons_succ, List.getD_cons_zero, List.set_cons_zero, List.set_cons_succ] at hS); (try simp only [List.set_cons_zero, List.set_cons_succ] at hS); (try simp only [Act.put, List.setIfInBounds_toArray, List.set_cons_zero, List.set_cons_succ])))
    refine bodyPost_normal ?_
    refine bodyPost_res (rs := []) rfl .nil rfl ?_
    refine ⟨rfl, ?_⟩
    rw [Hf.out]
    have hS2 : Sh B (bkH q b mi mw MA md msp mcap es1 es2 c1 c2 (cellB blk (rqC { q.rq e.id with waits := true }) 83 ++ (rqH l1 ++ (rqH l2 ++ (wksH wks ++ R))))) hS.world := hS.to
    exact RAt.close hS2 hb hn1 rfl rfl rfl
  have d2 : (e.kind == 16) = false := beq_no h16
  by_cases h11 : e.kind = 11
  · have d3 : (e.kind == 11) = true := by simp [h11]
    have Hf := Lib.hid (show p.follows e = p.gone e.worker false by unfold Bk.follows; rw [if_neg h8, if_neg h16, if_pos h11])
    obtain ⟨v, hv, hmu⟩ := hd h11
    have Hv := Lib.hid hv
    clear h8 h16 h11 hd hv
    obtain ⟨ids, wks, es1, es2, c1, c2, MA, md, msp, mcap, hS, hb⟩ := hQ.out
    go_enter Try.func42, Try.ntmps42
    go_wp2_with (first | (refine wl_box rfl rfl rfl rfl hS ?_; intro eb _ hS; (try simp only [Act.put, List.setIfInBounds_toArray, List.set_cons_zero, List.set_cons_succ])) | (go_at_call 56; refine ((gone_any (b := b) (mi := mi) (mw := mw) (R := (cellB eb e.cells 48 ++ R)) ⟨_, _, _, _, _, _, _, _, _, _, hS.to, hb⟩ e.worker false Hv.out hmu)).mono ?_; rintro e w' (⟨rfl, hQ⟩)) | (refine wl_isld rfl ?_; ((refine wl_value rfl (ex_ldC hS rfl rfl CellAt.out) ?_); (try simp only [Act.put, List.setIfInBounds_toArray, List.set_cons_zero, List.set_cons_succ]))))
    refine bodyPost_normal ?_
    refine bodyPost_res (rs := []) rfl .nil rfl ?_
    refine ⟨rfl, ?_⟩
    rw [Hf.out]
    exact hQ.less
  have d3 : (e.kind == 11) = false := beq_no h11
  have Hf := Lib.hid (show p.follows e = p by unfold Bk.follows; rw [if_neg h8, if_neg h16, if_neg h11])
  clear h8 h16 h11 hd
  obtain ⟨ids, wks, es1, es2, c1, c2, MA, md, msp, mcap, hS, hb⟩ := hQ.out
  go_enter Try.func42, Try.ntmps42
  go_wp2_with (first | (refine wl_box rfl rfl rfl rfl hS ?_; intro eb _ hS; (try simp only [Act.put, List.setIfInBounds_toArray, List.set_cons_zero, List.set_cons_succ])) | (refine wl_isld rfl ?_; ((refine wl_value rfl (ex_ldC hS rfl rfl CellAt.out) ?_); (try simp only [Act.put, List.setIfInBounds_toArray, List.set_cons_zero, List.set_cons_succ]))))
  refine bodyPost_normal ?_
  refine bodyPost_res (rs := []) rfl .nil rfl ?_
  refine ⟨rfl, ?_⟩
  rw [Hf.out]
  exact ⟨_, _, _, _, _, _, _, _, _, _, hS.to, hb⟩
set_option maxRecDepth 100000 in
set_option maxHeartbeats 1600000 in
theorem may_any (hQ : BAt B p b mi mw R w) (e : Ev) :
    Calls Try.prog 39 #[.pointer (some ⟨b, 0, none⟩), .agg e.cells.toArray] w fun e' w' => e' = .returned (.bool (p.may e).1) ∧ BAt B (p.may e).2 b mi mw R w' := by
  by_cases hno : p.late = false ∨ e.kind ≠ 8 ∨ e.n ≠ 3
  · have Hm := Lib.hid (show p.may e = (false, p) by unfold Bk.may; rw [if_pos hno])
    have hcs : p.late = false ∨ (p.late = true ∧ (e.kind != 8) = true) ∨ (p.late = true ∧ (e.kind != 8) = false ∧ (e.n != 3) = true) := by
      cases hl : p.late
      · exact .inl rfl
      · by_cases h8 : e.kind = 8
        · refine .inr (.inr ⟨rfl, by simp [h8], bne_no ?_⟩)
          rcases hno with h | h | h
          · rw [hl] at h; cases h
          · exact absurd h8 h
          · exact h
        · exact .inr (.inl ⟨rfl, bne_no h8⟩)
    clear hno
    obtain ⟨ids, wks, es1, es2, c1, c2, MA, md, msp, mcap, hS, hb⟩ := hQ.out
    rcases hcs with d1 | ⟨d1, d2⟩ | ⟨d1, d2, d3⟩
    all_goals
      go_enter Try.func39, Try.ntmps39
      go_wp2_with (first | (refine wl_box rfl rfl rfl rfl hS ?_; intro eb _ hS; (try simp only [Act.put, List.setIfInBounds_toArray, List.set_cons_zero, List.set_cons_succ])) | (refine wl_isld rfl ?_; ((refine wl_value rfl (ex_ldC hS rfl rfl CellAt.out) ?_); (try simp only [Act.put, List.setIfInBounds_toArray, List.set_cons_zero, List.set_cons_succ]))))
      go_ret
      rw [Hm.out]
      exact ⟨rfl, _, _, _, _, _, _, _, _, _, _, hS.to, hb⟩
  · have hl : p.late = true := by cases h : p.late; exact absurd (.inl h) hno; rfl
    have h8 : e.kind = 8 := Classical.byContradiction fun h => hno (.inr (.inl h))
    have h3 : e.n = 3 := Classical.byContradiction fun h => hno (.inr (.inr h))
    have d2 : (e.kind != 8) = false := by simp [h8]
    have d3 : (e.n != 3) = false := by simp [h3]
    have hm : p.may e = ((((p.id e.id).rq e.id).waits || decide (0 < ((p.id e.id).rq e.id).with_)) && decide (p.last < ((p.id e.id).rq e.id).born), p.id e.id) := by unfold Bk.may; rw [if_neg hno]
    obtain ⟨q, hq⟩ : ∃ q, p.id e.id = q := ⟨_, rfl⟩
    have hid := fun (w : World) (R : HL) (hQ : BAt B p b mi mw R w) => id_any hQ e.id
    have hql : p.last = q.last := by rw [← hq]; unfold Bk.id; split <;> rfl
    rw [hq] at hid hm
    obtain ⟨r, hr⟩ : ∃ r, q.rq e.id = r := ⟨_, rfl⟩
    rw [hr, hql] at hm
    have Hm := Lib.hid hm
    have Hr := Lib.hid hr
    clear hno h8 h3 hm hq hr hql
    obtain ⟨ids, wks, es1, es2, c1, c2, MA, md, msp, mcap, hS, hb⟩ := hQ.out
    go_enter Try.func39, Try.ntmps39
    go_wp2_with (first | (refine wl_box rfl rfl rfl rfl hS ?_; intro eb _ hS; (try simp only [Act.put, List.setIfInBounds_toArray, List.set_cons_zero, List.set_cons_succ])) | (go_at_call 40; refine ((hid _ (cellB eb e.cells 48 ++ R) ⟨_, _, _, _, _, _, _, _, _, _, hS.to, hb⟩)).mono ?_; rintro e w' (⟨blk, rfl, ⟨l1, l2, wks, es1, es2, c1, c2, MA, md, msp, mcap, hS, hb, hn1⟩⟩)) | (refine wl_isld rfl ?_; ((refine wl_value rfl (ex_ldC hS rfl rfl CellAt.out) ?_); (try simp only [Act.put, List.setIfInBounds_toArray, List.set_cons_zero, List.set_cons_succ]))))
    rw [Hr.out] at hS hb
    cases hw : r.waits with
    | true =>
      (refine wp_drawnF (H := (cellB b (bkC q mi mw MA mcap) 58 ++ (cellB blk (rqC r) 83 ++ []))) (Sh.to hS) [(0, true), (1, true), (2, true), (3, true), (4, true), (5, true), (6, true), (7, true), (8, true), (9, true), (10, true), (11, true), (12, true), (13, true), (14, true), (15, true), (16, true), (17, true), (18, true), (19, true), (20, true), (21, true), (22, true)] (by kernel_rfl) (by kernel_rfl) (by intro d _ _ _ _ h; cases d <;> exact h) ?_; have hS := hS.drew; simp only [picks_cons, picks_nil, opAt, List.toList_toArray]; (refine wpF_U (v := ?_) rfl ?_ (Sh.to hS) ?_; rotate_left; (focus (intro _ _; go_simp; (try (rw [wrap_i64]; (rotate_left; omega))); (try with_reducible rfl))); (try simp only [Act.put, List.setIfInBounds_toArray, List.set_cons_zero, List.set_cons_succ])); (refine wpF_U (v := ?_) rfl ?_ (Sh.to hS) ?_; rotate_left; (focus (intro _ _; go_simp; (try (rw [wrap_i64]; (rotate_left; omega))); (try with_reducible rfl))); (try simp only [Act.put, List.setIfInBounds_toArray, List.set_cons_zero, List.set_cons_succ])); (refine wpF_U (v := ?_) rfl ?_ (Sh.to hS) ?_; rotate_left; (focus (intro _ _; go_simp; (try (rw [wrap_i64]; (rotate_left; omega))); (try with_reducible rfl))); (try simp only [Act.put, List.setIfInBounds_toArray, List.set_cons_zero, List.set_cons_succ])); ((refine wpF_U rfl (fun _ hT => ex_ldC hT rfl rfl CellAt.out) (Sh.to hS) ?_); (try simp only [Act.put, List.setIfInBounds_toArray, List.set_cons_zero, List.set_cons_succ])); (refine wpF_U (v := ?_) rfl ?_ (Sh.to hS) ?_; rotate_left; (focus (intro _ _; go_simp; (try (rw [wrap_i64]; (rotate_left; omega))); (try with_reducible rfl))); (try simp only [Act.put, List.setIfInBounds_toArray, List.set_cons_zero, List.set_cons_succ])); ((refine wpF_not rfl (Sh.to hS) ?_; (try simp only [Act.put, List.setIfInBounds_toArray, List.set_cons_zero, List.set_cons_succ]))); ((refine wpF_not rfl (Sh.to hS) ?_; (try simp only [Act.put, List.setIfInBounds_toArray, List.set_cons_zero, List.set_cons_succ]))); ((refine wpF_not rfl (Sh.to hS) ?_; (try simp only [Act.put, List.setIfInBounds_toArray, List.set_cons_zero, List.set_cons_succ]))); ((refine wpF_not rfl (Sh.to hS) ?_; (try simp only [Act.put, List.setIfInBounds_toArray, List.set_cons_zero, List.set_cons_succ]))); ((refine wpF_not rfl (Sh.to hS) ?_; (try simp only [Act.put, List.setIfInBounds_toArray, List.set_cons_zero, List.set_cons_succ]))); (refine wpF_U (v := ?_) rfl ?_ (Sh.to hS) ?_; rotate_left; (focus (intro _ _; go_simp; (try (rw [wrap_i64]; (rotate_left; omega))); (try with_reducible rfl))); (try simp only [Act.put, List.setIfInBounds_toArray, List.set_cons_zero, List.set_cons_succ])); (refine wpF_U (v := ?_) rfl ?_ (Sh.to hS) ?_; rotate_left; (focus (intro _ _; go_simp; (try (rw [wrap_i64]; (rotate_left; omega))); (try with_reducible rfl))); (try simp only [Act.put, List.setIfInBounds_toArray, List.set_cons_zero, List.set_cons_succ])); ((refine wpF_U (v := ?_) rfl ?_ (Sh.to hS) ?_; rotate_left; (focus (intro _ _; go_simp; (try (rw [wrap_i64]; (rotate_left; omega))); (try with_reducible rfl))); (try simp only [Act.put, List.setIfInBounds_toArray, List.set_cons_zero, List.set_cons_succ]))); ((refine wpF_U (v := ?_) rfl ?_ (Sh.to hS) ?_; rotate_left; (focus (intro _ _; go_simp; (try (rw [wrap_i64]; (rotate_left; omega))); (try with_reducible rfl))); (try simp only [Act.put, List.setIfInBounds_toArray, List.set_cons_zero, List.set_cons_succ]))); ((refine wpF_U (v := ?_) rfl ?_ (Sh.to hS) ?_; rotate_left; (focus (intro _ _; go_simp; (try (rw [wrap_i64]; (rotate_left; omega))); (try with_reducible rfl))); (try simp only [Act.put, List.setIfInBounds_toArray, List.set_cons_zero, List.set_cons_succ]))); (((refine wpF_U rfl (fun _ hT => ex_ldC hT rfl rfl CellAt.out) (Sh.to hS) ?_); (try simp only [Act.put, List.setIfInBounds_toArray, List.set_cons_zero, List.set_cons_succ]))); ((refine wpF_U (v := ?_) rfl ?_ (Sh.to hS) ?_; rotate_left; (focus (intro _ _; go_simp; (try (rw [wrap_i64]; (rotate_left; omega))); (try with_reducible rfl))); (try simp only [Act.put, List.setIfInBounds_toArray, List.set_cons_zero, List.set_cons_succ]))); ((refine wpF_U (v := ?_) rfl ?_ (Sh.to hS) ?_; rotate_left; (focus (intro _ _; go_simp; (try (rw [wrap_i64]; (rotate_left; omega))); (try with_reducible rfl))); (try simp only [Act.put, List.setIfInBounds_toArray, List.set_cons_zero, List.set_cons_succ]))); ((refine wpF_U (v := ?_) rfl ?_ (Sh.to hS) ?_; rotate_left; (focus (intro _ _; go_simp; (try (rw [wrap_i64]; (rotate_left; omega))); (try with_reducible rfl))); (try simp only [Act.put, List.setIfInBounds_toArray, List.set_cons_zero, List.set_cons_succ]))); (((refine wpF_U rfl (fun _ hT => ex_ldC hT rfl rfl CellAt.out) (Sh.to hS) ?_); (try simp only [Act.put, List.setIfInBounds_toArray, List.set_cons_zero, List.set_cons_succ]))); ((refine wpF_U (v := ?_) rfl ?_ (Sh.to hS) ?_; rotate_left; (focus (intro _ _; go_simp; (try (rw [wrap_i64]; (rotate_left; omega))); (try with_reducible rfl))); (try simp only [Act.put, List.setIfInBounds_toArray, List.set_cons_zero, List.set_cons_succ]))); (refine wpF_U (v := ?_) rfl ?_ (Sh.to hS) ?_; rotate_left; (focus (intro _ _; go_simp; (try (rw [wrap_i64]; (rotate_left; omega))); (try with_reducible rfl))); (try simp only [Act.put, List.setIfInBounds_toArray, List.set_cons_zero, List.set_cons_succ])); (refine wpF_U (v := ?_) rfl ?_ (Sh.to hS) ?_; rotate_left; (focus (intro _ _; go_simp; (try (rw [wrap_i64]; (rotate_left; omega))); (try with_reducible rfl))); (try simp only [Act.put, List.setIfInBounds_toArray, List.set_cons_zero, List.set_cons_succ])); ((refine wpF_done (by assumption) ?_)))
      go_wp2
      go_ret
      rw [Hm.out, hw]
      exact ⟨by simp, shut_to hb hS⟩
    | false =>
      by_cases hwt : 0 < r.with_
      · have d4 : decide (0 < r.with_) = true := decide_eq_true hwt
        (refine wp_drawnF (H := (cellB b (bkC q mi mw MA mcap) 58 ++ (cellB blk (rqC r) 83 ++ []))) (Sh.to hS) [(0, true), (1, true), (2, true), (3, true), (4, true), (5, true), (6, true), (7, true), (8, true), (9, true), (10, true), (11, true), (12, true), (13, true), (14, true), (15, true), (16, true), (17, true), (18, true), (19, true), (20, true), (21, true), (22, true)] (by kernel_rfl) (by kernel_rfl) (by intro d _ _ _ _ h; cases d <;> exact h) ?_; have hS := hS.drew; simp only [picks_cons, picks_nil, opAt, List.toList_toArray]; (refine wpF_U (v := ?_) rfl ?_ (Sh.to hS) ?_; rotate_left; (focus (intro _ _; go_simp; (try (rw [wrap_i64]; (rotate_left; omega))); (try with_reducible rfl))); (try simp only [Act.put, List.setIfInBounds_toArray, List.set_cons_zero, List.set_cons_succ])); (refine wpF_U (v := ?_) rfl ?_ (Sh.to hS) ?_; rotate_left; (focus (intro _ _; go_simp; (try (rw [wrap_i64]; (rotate_left; omega))); (try with_reducible rfl))); (try simp only [Act.put, List.setIfInBounds_toArray, List.set_cons_zero, List.set_cons_succ])); (refine wpF_U (v := ?_) rfl ?_ (Sh.to hS) ?_; rotate_left; (focus (intro _ _; go_simp; (try (rw [wrap_i64]; (rotate_left; omega))); (try with_reducible rfl))); (try simp only [Act.put, List.setIfInBounds_toArray, List.set_cons_zero, List.set_cons_succ])); ((refine wpF_U rfl (fun _ hT => ex_ldC hT rfl rfl CellAt.out) (Sh.to hS) ?_); (try simp only [Act.put, List.setIfInBounds_toArray, List.set_cons_zero, List.set_cons_succ])); (refine wpF_U (v := ?_) rfl ?_ (Sh.to hS) ?_; rotate_left; (focus (intro _ _; go_simp; (try (rw [wrap_i64]; (rotate_left; omega))); (try with_reducible rfl))); (try simp only [Act.put, List.setIfInBounds_toArray, List.set_cons_zero, List.set_cons_succ])); ((refine wpF_U (v := ?_) rfl ?_ (Sh.to hS) ?_; rotate_left; (focus (intro _ _; go_simp; (try (rw [wrap_i64]; (rotate_left; omega))); (try with_reducible rfl))); (try simp only [Act.put, List.setIfInBounds_toArray, List.set_cons_zero, List.set_cons_succ]))); ((refine wpF_U (v := ?_) rfl ?_ (Sh.to hS) ?_; rotate_left; (focus (intro _ _; go_simp; (try (rw [wrap_i64]; (rotate_left; omega))); (try with_reducible rfl))); (try simp only [Act.put, List.setIfInBounds_toArray, List.set_cons_zero, List.set_cons_succ]))); ((refine wpF_U (v := ?_) rfl ?_ (Sh.to hS) ?_; rotate_left; (focus (intro _ _; go_simp; (try (rw [wrap_i64]; (rotate_left; omega))); (try with_reducible rfl))); (try simp only [Act.put, List.setIfInBounds_toArray, List.set_cons_zero, List.set_cons_succ]))); (((refine wpF_U rfl (fun _ hT => ex_ldC hT rfl rfl CellAt.out) (Sh.to hS) ?_); (try simp only [Act.put, List.setIfInBounds_toArray, List.set_cons_zero, List.set_cons_succ]))); ((refine wpF_U (v := ?_) rfl ?_ (Sh.to hS) ?_; rotate_left; (focus (intro _ _; go_simp; (try (rw [wrap_i64]; (rotate_left; omega))); (try with_reducible rfl))); (try simp only [Act.put, List.setIfInBounds_toArray, List.set_cons_zero, List.set_cons_succ]))); (refine wpF_U (v := ?_) rfl ?_ (Sh.to hS) ?_; rotate_left; (focus (intro _ _; go_simp; (try (rw [wrap_i64]; (rotate_left; omega))); (try with_reducible rfl))); (try simp only [Act.put, List.setIfInBounds_toArray, List.set_cons_zero, List.set_cons_succ])); (refine wpF_U (v := ?_) rfl ?_ (Sh.to hS) ?_; rotate_left; (focus (intro _ _; go_simp; (try (rw [wrap_i64]; (rotate_left; omega))); (try with_reducible rfl))); (try simp only [Act.put, List.setIfInBounds_toArray, List.set_cons_zero, List.set_cons_succ])); ((refine wpF_U (v := ?_) rfl ?_ (Sh.to hS) ?_; rotate_left; (focus (intro _ _; go_simp; (try (rw [wrap_i64]; (rotate_left; omega))); (try with_reducible rfl))); (try simp only [Act.put, List.setIfInBounds_toArray, List.set_cons_zero, List.set_cons_succ]))); ((refine wpF_U (v := ?_) rfl ?_ (Sh.to hS) ?_; rotate_left; (focus (intro _ _; go_simp; (try (rw [wrap_i64]; (rotate_left; omega))); (try with_reducible rfl))); (try simp only [Act.put, List.setIfInBounds_toArray, List.set_cons_zero, List.set_cons_succ]))); ((refine wpF_U (v := ?_) rfl ?_ (Sh.to hS) ?_; rotate_left; (focus (intro _ _; go_simp; (try (rw [wrap_i64]; (rotate_left; omega))); (try with_reducible rfl))); (try simp only [Act.put, List.setIfInBounds_toArray, List.set_cons_zero, List.set_cons_succ]))); (((refine wpF_U rfl (fun _ hT => ex_ldC hT rfl rfl CellAt.out) (Sh.to hS) ?_); (try simp only [Act.put, List.setIfInBounds_toArray, List.set_cons_zero, List.set_cons_succ]))); ((refine wpF_U (v := ?_) rfl ?_ (Sh.to hS) ?_; rotate_left; (focus (intro _ _; go_simp; (try (rw [wrap_i64]; (rotate_left; omega))); (try with_reducible rfl))); (try simp only [Act.put, List.setIfInBounds_toArray, List.set_cons_zero, List.set_cons_succ]))); ((refine wpF_U (v := ?_) rfl ?_ (Sh.to hS) ?_; rotate_left; (focus (intro _ _; go_simp; (try (rw [wrap_i64]; (rotate_left; omega))); (try with_reducible rfl))); (try simp only [Act.put, List.setIfInBounds_toArray, List.set_cons_zero, List.set_cons_succ]))); ((refine wpF_U (v := ?_) rfl ?_ (Sh.to hS) ?_; rotate_left; (focus (intro _ _; go_simp; (try (rw [wrap_i64]; (rotate_left; omega))); (try with_reducible rfl))); (try simp only [Act.put, List.setIfInBounds_toArray, List.set_cons_zero, List.set_cons_succ]))); (((refine wpF_U rfl (fun _ hT => ex_ldC hT rfl rfl CellAt.out) (Sh.to hS) ?_); (try simp only [Act.put, List.setIfInBounds_toArray, List.set_cons_zero, List.set_cons_succ]))); ((refine wpF_U (v := ?_) rfl ?_ (Sh.to hS) ?_; rotate_left; (focus (intro _ _; go_simp; (try (rw [wrap_i64]; (rotate_left; omega))); (try with_reducible rfl))); (try simp only [Act.put, List.setIfInBounds_toArray, List.set_cons_zero, List.set_cons_succ]))); (refine wpF_U (v := ?_) rfl ?_ (Sh.to hS) ?_; rotate_left; (focus (intro _ _; go_simp; (try (rw [wrap_i64]; (rotate_left; omega))); (try with_reducible rfl))); (try simp only [Act.put, List.setIfInBounds_toArray, List.set_cons_zero, List.set_cons_succ])); (refine wpF_U (v := ?_) rfl ?_ (Sh.to hS) ?_; rotate_left; (focus (intro _ _; go_simp; (try (rw [wrap_i64]; (rotate_left; omega))); (try with_reducible rfl))); (try simp only [Act.put, List.setIfInBounds_toArray, List.set_cons_zero, List.set_cons_succ])); ((refine wpF_done (by assumption) ?_)))
        go_wp2
        go_ret
        rw [Hm.out, hw, d4]
        exact ⟨by simp, shut_to hb hS⟩
      · have d4 : decide (0 < r.with_) = false := decide_eq_false hwt
        (refine wp_drawnF (H := (cellB b (bkC q mi mw MA mcap) 58 ++ (cellB blk (rqC r) 83 ++ []))) (Sh.to hS) [(0, true), (1, true), (2, true), (3, true), (4, true), (5, true), (6, true), (7, true), (8, true), (9, true), (10, true), (11, true), (12, true), (13, true), (14, true), (15, true), (16, true), (17, true), (18, true), (19, true), (20, true), (21, true), (22, true)] (by kernel_rfl) (by kernel_rfl) (by intro d _ _ _ _ h; cases d <;> exact h) ?_; have hS := hS.drew; simp only [picks_cons, picks_nil, opAt, List.toList_toArray]; (refine wpF_U (v := ?_) rfl ?_ (Sh.to hS) ?_; rotate_left; (focus (intro _ _; go_simp; (try (rw [wrap_i64]; (rotate_left; omega))); (try with_reducible rfl))); (try simp only [Act.put, List.setIfInBounds_toArray, List.set_cons_zero, List.set_cons_succ])); (refine wpF_U (v := ?_) rfl ?_ (Sh.to hS) ?_; rotate_left; (focus (intro _ _; go_simp; (try (rw [wrap_i64]; (rotate_left; omega))); (try with_reducible rfl))); (try simp only [Act.put, List.setIfInBounds_toArray, List.set_cons_zero, List.set_cons_succ])); (refine wpF_U (v := ?_) rfl ?_ (Sh.to hS) ?_; rotate_left; (focus (intro _ _; go_simp; (try (rw [wrap_i64]; (rotate_left; omega))); (try with_reducible rfl))); (try simp only [Act.put, List.setIfInBounds_toArray, List.set_cons_zero, List.set_cons_succ])); ((refine wpF_U rfl (fun _ hT => ex_ldC hT rfl rfl CellAt.out) (Sh.to hS) ?_); (try simp only [Act.put, List.setIfInBounds_toArray, List.set_cons_zero, List.set_cons_succ])); (refine wpF_U (v := ?_) rfl ?_ (Sh.to hS) ?_; rotate_left; (focus (intro _ _; go_simp; (try (rw [wrap_i64]; (rotate_left; omega))); (try with_reducible rfl))); (try simp only [Act.put, List.setIfInBounds_toArray, List.set_cons_zero, List.set_cons_succ])); ((refine wpF_U (v := ?_) rfl ?_ (Sh.to hS) ?_; rotate_left; (focus (intro _ _; go_simp; (try (rw [wrap_i64]; (rotate_left; omega))); (try with_reducible rfl))); (try simp only [Act.put, List.setIfInBounds_toArray, List.set_cons_zero, List.set_cons_succ]))); ((refine wpF_U (v := ?_) rfl ?_ (Sh.to hS) ?_; rotate_left; (focus (intro _ _; go_simp; (try (rw [wrap_i64]; (rotate_left; omega))); (try with_reducible rfl))); (try simp only [Act.put, List.setIfInBounds_toArray, List.set_cons_zero, List.set_cons_succ]))); ((refine wpF_U (v := ?_) rfl ?_ (Sh.to hS) ?_; rotate_left; (focus (intro _ _; go_simp; (try (rw [wrap_i64]; (rotate_left; omega))); (try with_reducible rfl))); (try simp only [Act.put, List.setIfInBounds_toArray, List.set_cons_zero, List.set_cons_succ]))); (((refine wpF_U rfl (fun _ hT => ex_ldC hT rfl rfl CellAt.out) (Sh.to hS) ?_); (try simp only [Act.put, List.setIfInBounds_toArray, List.set_cons_zero, List.set_cons_succ]))); ((refine wpF_U (v := ?_) rfl ?_ (Sh.to hS) ?_; rotate_left; (focus (intro _ _; go_simp; (try (rw [wrap_i64]; (rotate_left; omega))); (try with_reducible rfl))); (try simp only [Act.put, List.setIfInBounds_toArray, List.set_cons_zero, List.set_cons_succ]))); (refine wpF_U (v := ?_) rfl ?_ (Sh.to hS) ?_; rotate_left; (focus (intro _ _; go_simp; (try (rw [wrap_i64]; (rotate_left; omega))); (try with_reducible rfl))); (try simp only [Act.put, List.setIfInBounds_toArray, List.set_cons_zero, List.set_cons_succ])); (refine wpF_U (v := ?_) rfl ?_ (Sh.to hS) ?_; rotate_left; (focus (intro _ _; go_simp; (try (rw [wrap_i64]; (rotate_left; omega))); (try with_reducible rfl))); (try simp only [Act.put, List.setIfInBounds_toArray, List.set_cons_zero, List.set_cons_succ])); ((refine wpF_not rfl (Sh.to hS) ?_; (try simp only [Act.put, List.setIfInBounds_toArray, List.set_cons_zero, List.set_cons_succ]))); ((refine wpF_not rfl (Sh.to hS) ?_; (try simp only [Act.put, List.setIfInBounds_toArray, List.set_cons_zero, List.set_cons_succ]))); ((refine wpF_not rfl (Sh.to hS) ?_; (try simp only [Act.put, List.setIfInBounds_toArray, List.set_cons_zero, List.set_cons_succ]))); ((refine wpF_not rfl (Sh.to hS) ?_; (try simp only [Act.put, List.setIfInBounds_toArray, List.set_cons_zero, List.set_cons_succ]))); ((refine wpF_not rfl (Sh.to hS) ?_; (try simp only [Act.put, List.setIfInBounds_toArray, List.set_cons_zero, List.set_cons_succ]))); ((refine wpF_not rfl (Sh.to hS) ?_; (try simp only [Act.put, List.setIfInBounds_toArray, List.set_cons_zero, List.set_cons_succ]))); ((refine wpF_not rfl (Sh.to hS) ?_; (try simp only [Act.put, List.setIfInBounds_toArray, List.set_cons_zero, List.set_cons_succ]))); ((refine wpF_not rfl (Sh.to hS) ?_; (try simp only [Act.put, List.setIfInBounds_toArray, List.set_cons_zero, List.set_cons_succ]))); ((refine wpF_not rfl (Sh.to hS) ?_; (try simp only [Act.put, List.setIfInBounds_toArray, List.set_cons_zero, List.set_cons_succ]))); (refine wpF_U (v := ?_) rfl ?_ (Sh.to hS) ?_; rotate_left; (focus (intro _ _; go_simp; (try (rw [wrap_i64]; (rotate_left; omega))); (try with_reducible rfl))); (try simp only [Act.put, List.setIfInBounds_toArray, List.set_cons_zero, List.set_cons_succ])); (refine wpF_U (v := ?_) rfl ?_ (Sh.to hS) ?_; rotate_left; (focus (intro _ _; go_simp; (try (rw [wrap_i64]; (rotate_left; omega))); (try with_reducible rfl))); (try simp only [Act.put, List.setIfInBounds_toArray, List.set_cons_zero, List.set_cons_succ])); ((refine wpF_done (by assumption) ?_)))
        go_wp2
        go_ret
        rw [Hm.out, hw, d4]
        exact ⟨by simp, shut_to hb hS⟩
end
end Go.Tk
