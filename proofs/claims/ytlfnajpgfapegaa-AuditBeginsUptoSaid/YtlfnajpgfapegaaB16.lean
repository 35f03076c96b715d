/- One event: what the book answers, and what becomes of it. -/
import Derived.Test.YtlfnajpgfapegaaB15
set_option linter.unusedSectionVars false
set_option linter.unusedSimpArgs false
set_option linter.unusedVariables false
namespace Go.Tk
open Go.RowKit Go.Proofs

section
variable {P : Program} {ops : Array Oper} {Q : Exit → Act → World → Prop} {rest : List Oper} {o : Oper} {a : Act} {w : World}
/-- A call of a function's value. -/
theorem wl_callV {f : FuncId} {x : Operand} {args : Array Operand} {ats : Array TypeId} {ar : List Value} (he : ∀ ar w, (callFunc f ar).run P w = .ok (.enter f ar) w) (hw : Region.wanted o (yielded ops a.tmps) = true) (ho : o.op = .call { callee := .value x, args := args, argTypes := ats })
    (hx : a.eval x = .func (.func f) #[] #[]) (ha : args.toList.map a.eval = ar) (h : Calls P f ar.toArray w fun e w' => ∃ v, e = .returned v ∧ wpList P ops Q rest (a.put o.dst v) w') : wpList P ops Q (o :: rest) a w := by
  refine wpList_step fun K hK => ?_
  rw [if_pos hw]
  have ha' : args.map a.eval = ar.toArray := by rw [← ha]; apply Array.ext'; simp
  have hrun : (execOp a.eval o).run P w = .ok (.enter f ar.toArray) w := by
    have := he ar.toArray w
    simp [execOp, ho, resolve, hx, Deferred.ofValue, invoke, ha', this]
  unfold Oper.wp
  rw [hrun]
  refine h.mono fun e w' he => ?_
  obtain ⟨v, rfl, hv⟩ := he
  exact hK _ _ hv
end
theorem right_kind {e : Ev} (h : rightI e = true) : 1 ≤ e.kind ∧ e.kind ≤ 17 := by
  unfold rightI at h
  split at h
  · cases h
  · omega
section
variable {B : Base} {R H R1 R2 X : HL} {w : World} {b mi mw N M : Nat} {p : Bk}
set_option maxRecDepth 100000 in
theorem loose_any (hQ : BAt B p b mi mw R w) (e : Ev) : Calls Try.prog 61 #[.pointer (some ⟨b, 0, none⟩), .agg e.cells.toArray] w (codeP B b mi mw R (4, p)) := by
  obtain ⟨ids, wks, es1, es2, c1, c2, MA, md, msp, mcap, hS, hb⟩ := hQ.out
  go_enter Try.func61, Try.ntmps61
  go_wp2_with (first | (refine wl_isld rfl ?_; ((first | refine wl_value rfl (ex_l0 hS rfl rfl rfl CellAt.out) ?_ | refine wl_value rfl (ex_lf hS rfl rfl rfl CellAt.out) ?_ | refine wl_value rfl (ex_l1 hS rfl rfl rfl CellAt.out) ?_ | refine wl_value rfl (ex_ldC hS rfl rfl CellAt.out) ?_ | refine wl_value rfl (ex_l0 hS rfl rfl rfl rfl) ?_ | refine wl_value rfl (ex_lf hS rfl rfl rfl rfl) ?_ | refine wl_value rfl (ex_l1 hS rfl rfl rfl rfl) ?_ | refine wl_value rfl (ex_ldC hS rfl rfl rfl) ?_ | refine wl_value rfl (ex_l00 hS rfl rfl CellAt.out) ?_ | refine wl_value rfl (ex_l00 hS rfl rfl rfl) ?_ | refine wl_value rfl (ex_l0f hS rfl rfl CellAt.out) ?_ | refine wl_value rfl (ex_l0f hS rfl rfl rfl) ?_ | refine wl_value rfl (ex_lr hS rfl rfl rfl rfl) ?_ | refine wl_value rfl (ex_lr0 hS rfl rfl rfl) ?_ | refine wl_value rfl (ex_lrz hS rfl rfl rfl) ?_ | refine wl_value rfl (ex_lrf hS rfl rfl rfl) ?_ | refine wl_value rfl (ex_ldrC hS rfl rfl) ?_ | refine wl_value rfl (ex_ldr0 hS rfl rfl rfl) ?_); (try simp only [Act.put, List.setIfInBounds_toArray, List.set_cons_zero, List.set_cons_succ]))) | ((first | refine wl_value rfl (ex_ix hS rfl rfl rfl ?_) ?_); (focus (first | rfl | omega | (simp; done))); (try simp only [Act.put, List.setIfInBounds_toArray, List.set_cons_zero, List.set_cons_succ])) | ((first | refine wl_value rfl (ex_eqA rfl rfl rfl) ?_ | refine wl_value rfl (ex_neA rfl rfl rfl) ?_); (try simp only [Act.put, List.setIfInBounds_toArray, List.set_cons_zero, List.set_cons_succ])) | (refine wl_alloc rfl rfl hS ?_; intro _ _ hS; (try simp only [Act.put, List.setIfInBounds_toArray, List.set_cons_zero, List.set_cons_succ])) | (refine wl_box rfl rfl rfl rfl hS ?_; intro _ _ hS; (try simp only [Act.put, List.setIfInBounds_toArray, List.set_cons_zero, List.set_cons_succ])) | (refine wl_st rfl rfl rfl rfl rfl hS (of_decide_eq_true rfl) ?_; intro _ hS; (try simp only [evT, evC, List.getD_cons_succ, List.getD_cons_zero, List.set_cons_zero, List.set_cons_succ] at hS); (try simp only [List.set_cons_zero, List.set_cons_succ] at hS); (try simp only [Act.put, List.setIfInBounds_toArray, List.set_cons_zero, List.set_cons_succ])) | (refine wl_strC rfl rfl rfl rfl hS rfl rfl ?_; intro _ hS; (try simp only [evT, evC, List.getD_cons_succ, List.getD_cons_zero, List.set_cons_zero, List.set_cons_succ] at hS); (try simp only [Act.put, List.setIfInBounds_toArray, List.set_cons_zero, List.set_cons_succ])))
  go_ret
  exact ⟨rfl, _, _, _, _, _, _, _, _, _, _, hS.to, hb⟩
set_option maxRecDepth 100000 in
theorem stray_any (hQ : BAt B p b mi mw R w) (e : Ev) : Calls Try.prog 68 #[.pointer (some ⟨b, 0, none⟩), .agg e.cells.toArray] w (codeP B b mi mw R (5, p)) := by
  obtain ⟨ids, wks, es1, es2, c1, c2, MA, md, msp, mcap, hS, hb⟩ := hQ.out
  go_enter Try.func68, Try.ntmps68
  go_wp2_with (first | (refine wl_isld rfl ?_; ((first | refine wl_value rfl (ex_l0 hS rfl rfl rfl CellAt.out) ?_ | refine wl_value rfl (ex_lf hS rfl rfl rfl CellAt.out) ?_ | refine wl_value rfl (ex_l1 hS rfl rfl rfl CellAt.out) ?_ | refine wl_value rfl (ex_ldC hS rfl rfl CellAt.out) ?_ | refine wl_value rfl (ex_l0 hS rfl rfl rfl rfl) ?_ | refine wl_value rfl (ex_lf hS rfl rfl rfl rfl) ?_ | refine wl_value rfl (ex_l1 hS rfl rfl rfl rfl) ?_ | refine wl_value rfl (ex_ldC hS rfl rfl rfl) ?_ | refine wl_value rfl (ex_l00 hS rfl rfl CellAt.out) ?_ | refine wl_value rfl (ex_l00 hS rfl rfl rfl) ?_ | refine wl_value rfl (ex_l0f hS rfl rfl CellAt.out) ?_ | refine wl_value rfl (ex_l0f hS rfl rfl rfl) ?_ | refine wl_value rfl (ex_lr hS rfl rfl rfl rfl) ?_ | refine wl_value rfl (ex_lr0 hS rfl rfl rfl) ?_ | refine wl_value rfl (ex_lrz hS rfl rfl rfl) ?_ | refine wl_value rfl (ex_lrf hS rfl rfl rfl) ?_ | refine wl_value rfl (ex_ldrC hS rfl rfl) ?_ | refine wl_value rfl (ex_ldr0 hS rfl rfl rfl) ?_); (try simp only [Act.put, List.setIfInBounds_toArray, List.set_cons_zero, List.set_cons_succ]))) | ((first | refine wl_value rfl (ex_ix hS rfl rfl rfl ?_) ?_); (focus (first | rfl | omega | (simp; done))); (try simp only [Act.put, List.setIfInBounds_toArray, List.set_cons_zero, List.set_cons_succ])) | ((first | refine wl_value rfl (ex_eqA rfl rfl rfl) ?_ | refine wl_value rfl (ex_neA rfl rfl rfl) ?_); (try simp only [Act.put, List.setIfInBounds_toArray, List.set_cons_zero, List.set_cons_succ])) | (refine wl_alloc rfl rfl hS ?_; intro _ _ hS; (try simp only [Act.put, List.setIfInBounds_toArray, List.set_cons_zero, List.set_cons_succ])) | (refine wl_box rfl rfl rfl rfl hS ?_; intro _ _ hS; (try simp only [Act.put, List.setIfInBounds_toArray, List.set_cons_zero, List.set_cons_succ])) | (refine wl_st rfl rfl rfl rfl rfl hS (of_decide_eq_true rfl) ?_; intro _ hS; (try simp only [evT, evC, List.getD_cons_succ, List.getD_cons_zero, List.set_cons_zero, List.set_cons_succ] at hS); (try simp only [List.set_cons_zero, List.set_cons_succ] at hS); (try simp only [Act.put, List.setIfInBounds_toArray, List.set_cons_zero, List.set_cons_succ])) | (refine wl_strC rfl rfl rfl rfl hS rfl rfl ?_; intro _ hS; (try simp only [evT, evC, List.getD_cons_succ, List.getD_cons_zero, List.set_cons_zero, List.set_cons_succ] at hS); (try simp only [Act.put, List.setIfInBounds_toArray, List.set_cons_zero, List.set_cons_succ])))
  go_ret
  exact ⟨rfl, _, _, _, _, _, _, _, _, _, _, hS.to, hb⟩
def LooksBy (p : Bk) (e : Ev) (f : Nat) : Prop :=
  (∀ ar w, (callFunc f ar).run Try.prog w = .ok (.enter f ar) w) ∧ mget ruleT e.kind = some f ∧ ∀ (B : Base) (b mi mw : Nat) (R : HL) (w : World), BAt B p b mi mw R w → Calls Try.prog f #[.pointer (some ⟨b, 0, none⟩), .agg e.cells.toArray] w (codeP B b mi mw R (p.look e))
theorem looks_mk {e : Ev} {k : Int} (f : Nat) [he : EntersC Try.prog f] (hk : e.kind = k) (hm : mget ruleT k = some f) {x : Int × Bk} (hl : p.look e = x) (h : ∀ (B : Base) (b mi mw : Nat) (R : HL) (w : World), BAt B p b mi mw R w → Calls Try.prog f #[.pointer (some ⟨b, 0, none⟩), .agg e.cells.toArray] w (codeP B b mi mw R x)) : LooksBy p e f := by
  subst hk; subst hl
  exact ⟨he.out, hm, h⟩
theorem looks (hF : Fit N M 0 p) (hN : N ≤ 1048576) (hM : M + 1 ≤ 4398046511104) (e : Ev) (hk : 1 ≤ e.kind ∧ e.kind ≤ 17) : ∃ f, LooksBy p e f := by
  have hI := hF.id e.id
  have hm0 := hI.must
  have hm1 := hF.must
  have hb := hI.born
  have hi := hI.ids
  have hs := hI.rq e.id
  have hst := hF.started
  have hwk := hF.wks
  have hmu : ∀ v, mget p.wks e.worker = some v → p.must.length + v.owes.length ≤ 4194304 := fun v hv => by have := (hF.wk hv).1; omega
  have how : ∀ v, p.lives e.worker = some v → v.owes.length ≤ 4194304 := fun v hv => by have := (hF.wk (lives_mget hv)).1; omega
  have hid : ∀ x ∈ p.wks, 0 ≤ x.2.idle ∧ x.2.idle ≤ 4194304 := fun x hx => by have := hF.idle x hx; omega
  have hc : e.kind = 1 ∨ e.kind = 2 ∨ e.kind = 3 ∨ e.kind = 8 ∨ e.kind = 16 ∨ e.kind = 15 ∨ e.kind = 4 ∨ e.kind = 5 ∨ e.kind = 12 ∨ e.kind = 9 ∨ e.kind = 10 ∨ e.kind = 14 ∨ e.kind = 17 ∨ e.kind = 11 ∨ e.kind = 6 ∨ e.kind = 7 ∨ e.kind = 13 := by omega
  rcases hc with h | h | h | h | h | h | h | h | h | h | h | h | h | h | h | h | h
  · exact ⟨_, looks_mk 57 h rfl (x := p.submit e) (by unfold Bk.look; rw [h]; rfl) fun B b mi mw R w hQ => submit_any hQ e (by omega) (by omega) (by omega)⟩
  · exact ⟨_, looks_mk 58 h rfl (x := p.refuse e) (by unfold Bk.look; rw [h]; rfl) fun B b mi mw R w hQ => refuse_any hQ e (by omega) (by omega)⟩
  · exact ⟨_, looks_mk 59 h rfl (x := p.cancel e) (by unfold Bk.look; rw [h]; rfl) fun B b mi mw R w hQ => cancel_any hQ e (by omega)⟩
  · exact ⟨_, looks_mk 60 h rfl (x := p.outcome e) (by unfold Bk.look; rw [h]; rfl) fun B b mi mw R w hQ => outcome_any hQ e⟩
  · exact ⟨_, looks_mk 61 h rfl (x := (4, p)) (by unfold Bk.look; rw [h]; rfl) fun B b mi mw R w hQ => loose_any hQ e⟩
  · exact ⟨_, looks_mk 61 h rfl (x := (4, p)) (by unfold Bk.look; rw [h]; rfl) fun B b mi mw R w hQ => loose_any hQ e⟩
  · exact ⟨_, looks_mk 62 h rfl (x := p.start e) (by unfold Bk.look; rw [h]; rfl) fun B b mi mw R w hQ => start_any hQ e (by omega) (by omega) (by omega)⟩
  · exact ⟨_, looks_mk 63 h rfl (x := p.hello e) (by unfold Bk.look; rw [h]; rfl) fun B b mi mw R w hQ => hello_any hQ e⟩
  · exact ⟨_, looks_mk 64 h rfl (x := p.reap e) (by unfold Bk.look; rw [h]; rfl) fun B b mi mw R w hQ => reap_any hQ e hmu⟩
  · exact ⟨_, looks_mk 65 h rfl (x := p.ended e) (by unfold Bk.look; rw [h]; rfl) fun B b mi mw R w hQ => ended_any hQ e hmu⟩
  · exact ⟨_, looks_mk 65 h rfl (x := p.ended e) (by unfold Bk.look; rw [h]; rfl) fun B b mi mw R w hQ => ended_any hQ e hmu⟩
  · exact ⟨_, looks_mk 66 h rfl (x := p.turn e) (by unfold Bk.look; rw [h]; rfl) fun B b mi mw R w hQ => turn_any hQ e⟩
  · exact ⟨_, looks_mk 67 h rfl (x := p.drain e) (by unfold Bk.look; rw [h]; rfl) fun B b mi mw R w hQ => drain_any hQ e (by omega)⟩
  · exact ⟨_, looks_mk 68 h rfl (x := (5, p)) (by unfold Bk.look; rw [h]; rfl) fun B b mi mw R w hQ => stray_any hQ e⟩
  · exact ⟨_, looks_mk 69 h rfl (x := p.send e) (by unfold Bk.look; rw [h]; rfl) fun B b mi mw R w hQ => send_any hQ e ⟨hs.1, by have := hs.2; omega⟩ how⟩
  · exact ⟨_, looks_mk 70 h rfl (x := p.done e) (by unfold Bk.look; rw [h]; rfl) fun B b mi mw R w hQ => done_any hQ e (by omega) how⟩
  · exact ⟨_, looks_mk 71 h rfl (x := p.tickE e) (by unfold Bk.look; rw [h]; rfl) fun B b mi mw R w hQ => tick_any hQ e (by omega) (by omega) hid⟩

theorem id_id (p : Bk) (n : Int) : (p.id n).id n = p.id n := by
  have h : mget (p.id n).ids n ≠ none := by
    unfold Bk.id
    split
    · rw [mget_mput, if_pos rfl]; simp
    · assumption
  obtain ⟨q, hq⟩ : ∃ q, p.id n = q := ⟨_, rfl⟩
  rw [hq] at h ⊢
  unfold Bk.id
  rw [if_neg h]
theorem Fit.may {U : Nat} (h : Fit N M U p) (e : Ev) : Fit N (M + 1) U (p.may e).2 := by
  unfold Bk.may
  refine iteP (P := fun x : Bool × Bk => Fit N (M + 1) U x.2) (fun _ => ?_) (fun _ => ?_)
  · exact h.mono (Nat.le_refl _) (by omega) (Nat.le_refl _)
  · exact h.id e.id
theorem may_id (p : Bk) (e : Ev) (h : (p.may e).1 = true) : (p.may e).2.id e.id = (p.may e).2 := by
  unfold Bk.may at h ⊢
  by_cases hc : p.late = false ∨ e.kind ≠ 8 ∨ e.n ≠ 3
  · rw [if_pos hc] at h; cases h
  · rw [if_neg hc]; exact id_id p e.id
theorem Fit.late {U : Nat} (h : Fit N M U p) (l : Bool) : Fit N M U ({ p with late := l } : Bk) := ⟨h.ids, h.must, h.wks, h.owes, h.idle, h.sent, h.born, h.started, h.tick, h.deads⟩
theorem Fit.cut {U : Nat} (h : Fit N M U p) {m : Ev} {t : List Ev} (hm : p.must = m :: t) : Fit N M U ({ p with must := t } : Bk) := ⟨h.ids, by have := h.must; rw [hm] at this; simp only [List.length_cons] at this; dsimp only; omega, h.wks, h.owes, h.idle, h.sent, h.born, h.started, h.tick, fun x hx => h.deads x (by rw [hm]; exact List.mem_cons_of_mem _ hx)⟩
def Bk.after (q : Bk) (e : Ev) : Int × Bk :=
  match q.must with
  | [] => q.look e
  | m :: t => if e ≠ m then (brokenI q.must, q) else (0, ({ q with must := t } : Bk).follows e)
theorem event_eq (p : Bk) (e : Ev) : p.event e = if rightI e = false ∨ (e.kind = 13 ∧ e.n ≠ p.tick + 1) then (1, p) else
  if (p.may e).1 = true then (0, ({ (p.may e).2 with last := ((p.may e).2.rq e.id).born } : Bk).setR e.id ((p.may e).2.rq e.id).close) else ({ (p.may e).2 with late := false } : Bk).after e := rfl
theorem Fit.event (h : Fit N M (N + 4) p) (e : Ev) : Fit (N + 1) (M + (2 * N + 8)) (N + 4 + 1) (p.event e).2 := by
  have up : ∀ {q : Bk} {M' U' : Nat}, Fit N M' U' q → M' ≤ M + (2 * N + 8) → U' ≤ N + 4 + 1 → Fit (N + 1) (M + (2 * N + 8)) (N + 4 + 1) q := fun h a b => h.mono (by omega) a b
  have hm := h.may e
  have hl := hm.late false
  rw [event_eq]
  refine iteP (P := fun x : Int × Bk => Fit (N + 1) (M + (2 * N + 8)) (N + 4 + 1) x.2) (fun _ => ?_) (fun c1 => ?_)
  · exact up h (by omega) (by omega)
  refine iteP (P := fun x : Int × Bk => Fit (N + 1) (M + (2 * N + 8)) (N + 4 + 1) x.2) (fun _ => ?_) (fun c2 => ?_)
  · have h2 : Fit N (M + 1) (N + 4) ({ (p.may e).2 with last := ((p.may e).2.rq e.id).born } : Bk) := ⟨hm.ids, hm.must, hm.wks, hm.owes, hm.idle, hm.sent, hm.born, hm.started, hm.tick, hm.deads⟩
    exact up (h2.setR e.id (r := ((p.may e).2.rq e.id).close) (hm.rq e.id)) (by omega) (by omega)
  · have hr : rightI e = true := by
      cases hr : rightI e
      · exact absurd (.inl hr) c1
      · rfl
    obtain ⟨q, hq⟩ : ∃ q : Bk, ({ (p.may e).2 with late := false } : Bk) = q := ⟨_, rfl⟩
    have htk : e.kind = 13 → 0 ≤ e.n ∧ e.n ≤ (N : Int) + 1 := fun hk => by
      have h2 : e.n = p.tick + 1 := Classical.byContradiction fun h => c1 (.inr ⟨hk, h⟩)
      have := h.tick
      omega
    rw [hq] at hl ⊢
    unfold Bk.after
    cases hmu : q.must with
    | nil =>
      have h0 : Fit N (M + 1) 0 q := ⟨hl.ids, by rw [hmu]; simp, hl.wks, hl.owes, hl.idle, hl.sent, hl.born, hl.started, hl.tick, hl.deads⟩
      exact (h0.look e (right_kind hr) htk).mono (Nat.le_refl _) (by omega) (by omega)
    | cons m t =>
      refine iteP (P := fun x : Int × Bk => Fit (N + 1) (M + (2 * N + 8)) (N + 4 + 1) x.2) (fun _ => ?_) (fun c3 => ?_)
      · exact up hl (by omega) (by omega)
      · have hc := hl.cut hmu
        unfold Bk.follows
        refine iteP (P := fun x : Bk => Fit (N + 1) (M + (2 * N + 8)) (N + 4 + 1) x) (fun _ => ?_) (fun _ => ?_)
        · exact up ((hc.id e.id).setR e.id (r := ((({ q with must := t } : Bk).id e.id).rq e.id).close) ((hc.id e.id).rq e.id)) (by omega) (by omega)
        refine iteP (P := fun x : Bk => Fit (N + 1) (M + (2 * N + 8)) (N + 4 + 1) x) (fun _ => ?_) (fun _ => ?_)
        · exact up ((hc.id e.id).setR e.id (r := { (({ q with must := t } : Bk).id e.id).rq e.id with waits := true }) ((hc.id e.id).rq e.id)) (by omega) (by omega)
        refine iteP (P := fun x : Bk => Fit (N + 1) (M + (2 * N + 8)) (N + 4 + 1) x) (fun _ => ?_) (fun _ => ?_)
        · exact up (hc.gone0 e.worker) (by omega) (by omega)
        · exact up hc (by omega) (by omega)
end
end Go.Tk
