/- The audit's book in memory; what is known of an id. -/
import Derived.Test.YtlfnajpgfapegaaB0
import Derived.Test.YtlfnajpgfapegaaTkV
set_option linter.unusedSectionVars false
set_option linter.unusedSimpArgs false
set_option linter.unusedVariables false
namespace Go.Tk
open Go.RowKit Go.Proofs

abbrev ukv : Int → Value := fun n => .int .u64 n
abbrev nkv : Int → Value := fun n => .int .i64 n
abbrev rqC (r : Rq) : List Value := [.int .i64 r.born, .bool r.waits, .int .i64 r.with_, .bool r.over, .int .i64 r.sent]
abbrev rqV : Nat × Rq → Value := fun x => .pointer (some ⟨x.1, 0, none⟩)
def rqH (l : List (Int × (Nat × Rq))) : HL := l.flatMap fun p => cellB p.2.1 (rqC p.2.2) 83
abbrev MapIs.es_ {κ ν : Type} {kv : κ → Value} {vv : ν → Value} {es : Array MapEntry} {c : Nat} {m : List (κ × ν)} (_ : MapIs kv vv es c m) : Array MapEntry := es
abbrev MapIs.clk {κ ν : Type} {kv : κ → Value} {vv : ν → Value} {es : Array MapEntry} {c : Nat} {m : List (κ × ν)} (_ : MapIs kv vv es c m) : Nat := c
structure WkB where
  blk : Nat
  w : Wk
  A : Option Addr
  dead : List Value
  sp : List Value
  cap : Nat
abbrev wkB (x : WkB) : List Value := [.int .i64 x.w.state, .slice x.A x.w.owes.length x.cap, .int .i64 x.w.idle]
abbrev wkV : WkB → Value := fun x => .pointer (some ⟨x.blk, 0, none⟩)
def oneW (x : WkB) : HL := cellB x.blk (wkB x) 132 ++ rowA x.A (x.dead ++ (flat (intE .u64) x.w.owes ++ x.sp)) 46
def wksH (l : List (Int × WkB)) : HL := l.flatMap fun p => oneW p.2
theorem rqH_append (a b : List (Int × (Nat × Rq))) : rqH (a ++ b) = rqH a ++ rqH b := by simp [rqH]
theorem rqH_cons (p : Int × (Nat × Rq)) (l : List (Int × (Nat × Rq))) : rqH (p :: l) = cellB p.2.1 (rqC p.2.2) 83 ++ rqH l := rfl
theorem rqH_nil : rqH [] = [] := rfl
theorem wksH_append (a b : List (Int × WkB)) : wksH (a ++ b) = wksH a ++ wksH b := by simp [wksH]
theorem wksH_cons (p : Int × WkB) (l : List (Int × WkB)) : wksH (p :: l) = oneW p.2 ++ wksH l := rfl
abbrev bkC (p : Bk) (mi mw : Nat) (MA : Option Addr) (mcap : Nat) : List Value := [.int .i64 p.c.workers, .int .i64 p.c.slots, .int .i64 p.c.queue, .int .i64 p.c.memo, .int .i64 p.c.room, .int .i64 p.c.idle, .int .i64 p.c.retries, .map (some mi), .map (some mw), .int .i64 p.born, .int .i64 p.started, .int .i64 p.tick, .slice MA p.must.length mcap, .bool p.late, .int .i64 p.last]
abbrev bkH (p : Bk) (b mi mw : Nat) (MA : Option Addr) (md msp : List Value) (mcap : Nat) (es1 es2 : Array MapEntry) (c1 c2 : Nat) (X : HL) : HL :=
  cellB b (bkC p mi mw MA mcap) 58 ++ (mapB mi es1 c1 ++ (mapB mw es2 c2 ++ (rowA MA (md ++ (flat evE p.must ++ msp)) 48 ++ X)))
/-- All but the memory itself. -/
structure BkIs (p : Bk) (ids : List (Int × (Nat × Rq))) (wks : List (Int × WkB)) (es1 es2 : Array MapEntry) (c1 c2 : Nat) (MA : Option Addr) (md msp : List Value) (mcap : Nat) : Prop where
  m1 : MapIs ukv rqV es1 c1 ids
  e1 : ids.map (fun x => (x.1, x.2.2)) = p.ids
  m2 : MapIs nkv wkV es2 c2 wks
  e2 : wks.map (fun x => (x.1, x.2.w)) = p.wks
  mu : OwnD evE MA md p.must msp mcap
  ow : ∀ x ∈ wks, OwnD (intE .u64) x.2.A x.2.dead x.2.w.owes x.2.sp x.2.cap
structure BAt (B : Base) (p : Bk) (b mi mw : Nat) (R : HL) (w : World) : Prop where
  out : ∃ ids wks es1 es2 c1 c2 MA md msp mcap, Sh B (bkH p b mi mw MA md msp mcap es1 es2 c1 c2 (rqH ids ++ (wksH wks ++ R))) w ∧ BkIs p ids wks es1 es2 c1 c2 MA md msp mcap
/-- .. with one id's block taken out. -/
structure RAt (B : Base) (p : Bk) (n : Int) (blk : Nat) (b mi mw : Nat) (R : HL) (w : World) : Prop where
  out : ∃ l1 l2 wks es1 es2 c1 c2 MA md msp mcap, Sh B (bkH p b mi mw MA md msp mcap es1 es2 c1 c2 (cellB blk (rqC (p.rq n)) 83 ++ (rqH l1 ++ (rqH l2 ++ (wksH wks ++ R))))) w ∧
    BkIs p (l1 ++ (n, (blk, p.rq n)) :: l2) wks es1 es2 c1 c2 MA md msp mcap ∧ mget l1 n = none
theorem mget_map {κ ν μ : Type} [DecidableEq κ] (f : ν → μ) (l : List (κ × ν)) (k : κ) : mget (l.map (fun x => (x.1, f x.2))) k = (mget l k).map f := by
  induction l with
  | nil => rfl
  | cons p l ih =>
    rw [List.map_cons, mget_cons, mget_cons]
    by_cases h : k = p.1 <;> simp [h, ih]
theorem mget_split2 {κ ν : Type} [DecidableEq κ] {m : List (κ × ν)} {k : κ} {v : ν} (h : mget m k = some v) : ∃ l1 l2, m = l1 ++ (k, v) :: l2 ∧ mget l1 k = none := by
  induction m with
  | nil => simp at h
  | cons p m ih =>
    rw [mget_cons] at h
    by_cases hk : k = p.1
    · simp only [hk, if_true, Option.some.injEq] at h
      subst h; subst hk
      exact ⟨[], m, rfl, rfl⟩
    · simp only [hk, if_false] at h
      obtain ⟨l1, l2, rfl, h1⟩ := ih h
      exact ⟨p :: l1, l2, rfl, by rw [mget_cons]; simp [hk, h1]⟩
theorem mput_split2 {κ ν : Type} [DecidableEq κ] {l1 l2 : List (κ × ν)} {k : κ} {v u : ν} (h : mget l1 k = none) : mput (l1 ++ (k, v) :: l2) k u = l1 ++ (k, u) :: l2 := by
  induction l1 with
  | nil => simp [mput]
  | cons p l1 ih =>
    rw [mget_cons] at h
    by_cases hk : k = p.1
    · simp [hk] at h
    · simp only [hk, if_false] at h
      simp [mput, hk, ih h]

section
variable {B : Base} {R H : HL} {w : World} {b mi mw : Nat} {p : Bk}
/-- Behind a write to the id's block. -/
theorem RAt.close {n : Int} {blk : Nat} {l1 l2 : List (Int × (Nat × Rq))} {wks : List (Int × WkB)} {es1 es2 : Array MapEntry} {c1 c2 : Nat} {MA : Option Addr} {md msp : List Value} {mcap : Nat} {r r0 : Rq} {q : Bk}
    (hS : Sh B (bkH q b mi mw MA md msp mcap es1 es2 c1 c2 (cellB blk (rqC r) 83 ++ (rqH l1 ++ (rqH l2 ++ (wksH wks ++ R))))) w) (hb : BkIs p (l1 ++ (n, (blk, r0)) :: l2) wks es1 es2 c1 c2 MA md msp mcap) (h1 : mget l1 n = none)
    (hq1 : q.ids = p.ids) (hq2 : q.wks = p.wks) (hq3 : q.must = p.must) : BAt B (q.setR n r) b mi mw R w := by
  refine ⟨l1 ++ (n, (blk, r)) :: l2, wks, es1, es2, c1, c2, MA, md, msp, mcap, ?_, hb.m1.same (by simp), ?_, hb.m2, ?_, ?_, hb.ow⟩
  · rw [rqH_append, rqH_cons, List.append_assoc, List.append_assoc]
    have hS2 : Sh B (bkH q b mi mw MA md msp mcap es1 es2 c1 c2 (rqH l1 ++ (cellB blk (rqC r) 83 ++ (rqH l2 ++ (wksH wks ++ R))))) w := hS.to
    exact hS2
  · show _ = mput q.ids n r
    rw [hq1, ← hb.e1]
    simp only [List.map_append, List.map_cons]
    rw [mput_split2 (by rw [mget_map (fun x : Nat × Rq => x.2)]; rw [h1]; rfl)]
  · show _ = q.wks
    rw [hq2]; exact hb.e2
  · show OwnD evE MA md q.must msp mcap
    rw [hq3]; exact hb.mu
set_option maxRecDepth 100000 in
set_option maxHeartbeats 1600000 in
theorem id_raw {ids : List (Int × (Nat × Rq))} {wks : List (Int × WkB)} {es1 es2 : Array MapEntry} {c1 c2 : Nat} {MA : Option Addr} {md msp : List Value} {mcap : Nat} {X : HL} (hS : Sh B (bkH p b mi mw MA md msp mcap es1 es2 c1 c2 (rqH ids ++ X)) w) (hb : BkIs p ids wks es1 es2 c1 c2 MA md msp mcap) (n : Int) :
    Calls Try.prog 40 #[.pointer (some ⟨b, 0, none⟩), .int .u64 n] w fun e w' => ∃ blk l1 l2 es1' c1', e = .returned (.pointer (some ⟨blk, 0, none⟩)) ∧ Sh B (bkH (p.id n) b mi mw MA md msp mcap es1' es2 c1' c2 (cellB blk (rqC ((p.id n).rq n)) 83 ++ (rqH l1 ++ (rqH l2 ++ X)))) w' ∧
      BkIs (p.id n) (l1 ++ (n, (blk, (p.id n).rq n)) :: l2) wks es1' es2 c1' c2 MA md msp mcap ∧ mget l1 n = none := by
  have hm1 := hb.m1
  cases hg : mget ids n with
  | none =>
    have Hn := Lib.hid (show (mget ids n).elim (.pointer none) rqV = .pointer none by rw [hg]; rfl)
    have hm0 : mget p.ids n = none := by rw [← hb.e1, mget_map (fun x : Nat × Rq => x.2), hg]; rfl
    have hid : p.id n = { p with ids := mput p.ids n Rq.zero } := by unfold Bk.id; rw [if_pos hm0]
    have hrq : (p.id n).rq n = Rq.zero := by rw [hid]; unfold Bk.rq; simp [mget_mput]
    have Hg := Lib.hid hg
    have Hi := Lib.hid hid
    have Hr := Lib.hid hrq
    have Hn2 := Lib.hid (show ∀ nb, (mget (mput ids n ((nb, Rq.zero) : Nat × Rq)) n).elim (.pointer none) rqV = .pointer (some ⟨nb, 0, none⟩) from fun nb => by rw [mget_mput]; simp)
    have He := Lib.hid hb.e1
    clear hg hid hrq hm0
    go_enter Try.func40, Try.ntmps40
    go_wp2_with (first | (refine wl_lookup hm1 rfl rfl rfl rfl hS Hn.out ?_; (try simp only [Act.put, List.setIfInBounds_toArray, List.set_cons_zero, List.set_cons_succ])) | (refine wl_box rfl rfl rfl rfl hS ?_; intro nb _ hS; (try simp only [Act.put, List.setIfInBounds_toArray, List.set_cons_zero, List.set_cons_succ])) | (refine wl_mapUpdate (v := (((nb, Rq.zero) : Nat × Rq))) hm1 rfl rfl rfl rfl rfl hS ?_; intro _ _ _ hS hm2; (try simp only [evT, evC, List.getD_cons_succ, List.getD_cons_zero, List.set_cons_zero, List.set_cons_succ] at hS); (try simp only [Act.put, List.setIfInBounds_toArray, List.set_cons_zero, List.set_cons_succ])) | (refine wl_lookup hm2 rfl rfl rfl rfl hS ((Hn2.out nb)) ?_; (try simp only [Act.put, List.setIfInBounds_toArray, List.set_cons_zero, List.set_cons_succ])) | (refine wl_isld rfl ?_; ((first | refine wl_value rfl (ex_l0 hS rfl rfl rfl CellAt.out) ?_ | refine wl_value rfl (ex_lf hS rfl rfl rfl CellAt.out) ?_ | refine wl_value rfl (ex_l1 hS rfl rfl rfl CellAt.out) ?_ | refine wl_value rfl (ex_ldC hS rfl rfl CellAt.out) ?_ | refine wl_value rfl (ex_l0 hS rfl rfl rfl rfl) ?_ | refine wl_value rfl (ex_lf hS rfl rfl rfl rfl) ?_ | refine wl_value rfl (ex_l1 hS rfl rfl rfl rfl) ?_ | refine wl_value rfl (ex_ldC hS rfl rfl rfl) ?_ | refine wl_value rfl (ex_l00 hS rfl rfl CellAt.out) ?_ | refine wl_value rfl (ex_l00 hS rfl rfl rfl) ?_ | refine wl_value rfl (ex_l0f hS rfl rfl CellAt.out) ?_ | refine wl_value rfl (ex_l0f hS rfl rfl rfl) ?_ | refine wl_value rfl (ex_lr hS rfl rfl rfl rfl) ?_ | refine wl_value rfl (ex_lr0 hS rfl rfl rfl) ?_ | refine wl_value rfl (ex_lrz hS rfl rfl rfl) ?_ | refine wl_value rfl (ex_lrf hS rfl rfl rfl) ?_ | refine wl_value rfl (ex_ldrC hS rfl rfl) ?_ | refine wl_value rfl (ex_ldr0 hS rfl rfl rfl) ?_); (try simp only [Act.put, List.setIfInBounds_toArray, List.set_cons_zero, List.set_cons_succ]))) | ((first | refine wl_value rfl (ex_ix hS rfl rfl rfl ?_) ?_); (focus (first | rfl | omega | (simp; done))); (try simp only [Act.put, List.setIfInBounds_toArray, List.set_cons_zero, List.set_cons_succ])) | ((first | refine wl_value rfl (ex_eqA rfl rfl rfl) ?_ | refine wl_value rfl (ex_neA rfl rfl rfl) ?_); (try simp only [Act.put, List.setIfInBounds_toArray, List.set_cons_zero, List.set_cons_succ])) | (refine wl_alloc rfl rfl hS ?_; intro _ _ hS; (try simp only [Act.put, List.setIfInBounds_toArray, List.set_cons_zero, List.set_cons_succ])) | (refine wl_box rfl rfl rfl rfl hS ?_; intro _ _ hS; (try simp only [Act.put, List.setIfInBounds_toArray, List.set_cons_zero, List.set_cons_succ])) | (refine wl_st rfl rfl rfl rfl rfl hS (of_decide_eq_true rfl) ?_; intro _ hS; (try simp only [evT, evC, List.getD_cons_succ, List.getD_cons_zero, List.set_cons_zero, List.set_cons_succ] at hS); (try simp only [List.set_cons_zero, List.set_cons_succ] at hS); (try simp only [Act.put, List.setIfInBounds_toArray, List.set_cons_zero, List.set_cons_succ])) | (refine wl_strC rfl rfl rfl rfl hS rfl rfl ?_; intro _ hS; (try simp only [evT, evC, List.getD_cons_succ, List.getD_cons_zero, List.set_cons_zero, List.set_cons_succ] at hS); (try simp only [Act.put, List.setIfInBounds_toArray, List.set_cons_zero, List.set_cons_succ])))
    go_ret
    rw [mput_new Hg.out] at hm2
    have hb2 : BkIs (p.id n) (ids ++ (n, (nb, (p.id n).rq n)) :: []) wks hm2.es_ es2 hm2.clk c2 MA md msp mcap := by
      refine ⟨?_, ?_, hb.m2, ?_, ?_, hb.ow⟩
      · rw [Hr.out]; exact hm2
      · rw [Hr.out, Hi.out]
        show _ = mput p.ids n Rq.zero
        rw [mput_new (by rw [← He.out, mget_map (fun x : Nat × Rq => x.2), Hg.out]; rfl), ← He.out]
        simp
      · rw [Hi.out]; exact hb.e2
      · rw [Hi.out]; exact hb.mu
    refine ⟨nb, ids, [], _, _, rfl, ?_, hb2, Hg.out⟩
    rw [Hr.out, Hi.out, rqH_nil, List.nil_append]
    have hS2 : Sh B (bkH p b mi mw MA md msp mcap hm2.es_ es2 hm2.clk c2 (cellB nb [.int .i64 0, .bool false, .int .i64 0, .bool false, .int .i64 0] 83 ++ (rqH ids ++ X))) hS.world := hS.to
    exact hS2
  | some x =>
    obtain ⟨l1, l2, hl, h1⟩ := mget_split2 hg
    have hm0 : mget p.ids n = some x.2 := by rw [← hb.e1, mget_map (fun x : Nat × Rq => x.2), hg]; rfl
    have hid : p.id n = p := by unfold Bk.id; rw [if_neg (by rw [hm0]; simp)]
    have hrq : p.rq n = x.2 := by unfold Bk.rq; rw [hm0]; rfl
    have Hn := Lib.hid (show (mget ids n).elim (.pointer none) rqV = .pointer (some ⟨x.1, 0, none⟩) by rw [hg]; rfl)
    have Hi := Lib.hid hid
    have Hr := Lib.hid hrq
    have Hl := Lib.hid hl
    clear hg hid hrq hm0 hl
    go_enter Try.func40, Try.ntmps40
    go_wp2_with (first | (refine wl_lookup hm1 rfl rfl rfl rfl hS Hn.out ?_; (try simp only [Act.put, List.setIfInBounds_toArray, List.set_cons_zero, List.set_cons_succ])) | (refine wl_isld rfl ?_; ((first | refine wl_value rfl (ex_l0 hS rfl rfl rfl CellAt.out) ?_ | refine wl_value rfl (ex_lf hS rfl rfl rfl CellAt.out) ?_ | refine wl_value rfl (ex_l1 hS rfl rfl rfl CellAt.out) ?_ | refine wl_value rfl (ex_ldC hS rfl rfl CellAt.out) ?_ | refine wl_value rfl (ex_l0 hS rfl rfl rfl rfl) ?_ | refine wl_value rfl (ex_lf hS rfl rfl rfl rfl) ?_ | refine wl_value rfl (ex_l1 hS rfl rfl rfl rfl) ?_ | refine wl_value rfl (ex_ldC hS rfl rfl rfl) ?_ | refine wl_value rfl (ex_l00 hS rfl rfl CellAt.out) ?_ | refine wl_value rfl (ex_l00 hS rfl rfl rfl) ?_ | refine wl_value rfl (ex_l0f hS rfl rfl CellAt.out) ?_ | refine wl_value rfl (ex_l0f hS rfl rfl rfl) ?_ | refine wl_value rfl (ex_lr hS rfl rfl rfl rfl) ?_ | refine wl_value rfl (ex_lr0 hS rfl rfl rfl) ?_ | refine wl_value rfl (ex_lrz hS rfl rfl rfl) ?_ | refine wl_value rfl (ex_lrf hS rfl rfl rfl) ?_ | refine wl_value rfl (ex_ldrC hS rfl rfl) ?_ | refine wl_value rfl (ex_ldr0 hS rfl rfl rfl) ?_); (try simp only [Act.put, List.setIfInBounds_toArray, List.set_cons_zero, List.set_cons_succ]))) | ((first | refine wl_value rfl (ex_ix hS rfl rfl rfl ?_) ?_); (focus (first | rfl | omega | (simp; done))); (try simp only [Act.put, List.setIfInBounds_toArray, List.set_cons_zero, List.set_cons_succ])) | ((first | refine wl_value rfl (ex_eqA rfl rfl rfl) ?_ | refine wl_value rfl (ex_neA rfl rfl rfl) ?_); (try simp only [Act.put, List.setIfInBounds_toArray, List.set_cons_zero, List.set_cons_succ])) | (refine wl_alloc rfl rfl hS ?_; intro _ _ hS; (try simp only [Act.put, List.setIfInBounds_toArray, List.set_cons_zero, List.set_cons_succ])) | (refine wl_box rfl rfl rfl rfl hS ?_; intro _ _ hS; (try simp only [Act.put, List.setIfInBounds_toArray, List.set_cons_zero, List.set_cons_succ])) | (refine wl_st rfl rfl rfl rfl rfl hS (of_decide_eq_true rfl) ?_; intro _ hS; (try simp only [evT, evC, List.getD_cons_succ, List.getD_cons_zero, List.set_cons_zero, List.set_cons_succ] at hS); (try simp only [List.set_cons_zero, List.set_cons_succ] at hS); (try simp only [Act.put, List.setIfInBounds_toArray, List.set_cons_zero, List.set_cons_succ])) | (refine wl_strC rfl rfl rfl rfl hS rfl rfl ?_; intro _ hS; (try simp only [evT, evC, List.getD_cons_succ, List.getD_cons_zero, List.set_cons_zero, List.set_cons_succ] at hS); (try simp only [Act.put, List.setIfInBounds_toArray, List.set_cons_zero, List.set_cons_succ])))
    go_ret
    rw [Hi.out]
    have hx : (x.1, p.rq n) = x := by rw [Hr.out]
    refine ⟨x.1, l1, l2, es1, c1, rfl, ?_, ?_, h1⟩
    · rw [Hl.out, rqH_append, rqH_cons, List.append_assoc, List.append_assoc] at hS
      rw [Hr.out]
      exact hS.to
    · rw [hx, ← Hl.out]; exact hb
theorem id_any (hQ : BAt B p b mi mw R w) (n : Int) : Calls Try.prog 40 #[.pointer (some ⟨b, 0, none⟩), .int .u64 n] w fun e w' => ∃ blk, e = .returned (.pointer (some ⟨blk, 0, none⟩)) ∧ RAt B (p.id n) n blk b mi mw R w' := by
  obtain ⟨ids, wks, es1, es2, c1, c2, MA, md, msp, mcap, hS, hb⟩ := hQ.out
  exact (id_raw hS hb n).mono fun _ _ ⟨blk, l1, l2, es1', c1', h1, h2, h3, h4⟩ => ⟨blk, h1, ⟨l1, l2, wks, es1', es2, c1', c2, MA, md, msp, mcap, h2, h3, h4⟩⟩
end
end Go.Tk
