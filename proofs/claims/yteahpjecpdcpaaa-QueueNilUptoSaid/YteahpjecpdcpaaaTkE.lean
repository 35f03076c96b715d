/- Laws on operations at maps; slices written out. -/
import Derived.Test.YteahpjecpdcpaaaTkD
set_option linter.unusedSectionVars false
set_option linter.unusedSimpArgs false
set_option linter.unusedVariables false
namespace Go.Tk
open Go.RowKit

theorem mnone {α β : Type} {o : Option α} {z : β} {f : α → β} (h : o = none) : o.elim z f = z := by rw [h]; rfl
theorem msome {α β : Type} {o : Option α} {z : β} {f : α → β} {x : α} (h : o = some x) : o.elim z f = f x := by rw [h]; rfl
theorem isnone {α : Type} {o : Option α} (h : o = none) : o.isSome = false := by rw [h]; rfl
theorem issome {α : Type} {o : Option α} {x : α} (h : o = some x) : o.isSome = true := by rw [h]; rfl

class ZeroV (P : Program) (T : TypeId) (z : outParam Value) : Prop where out : (P.info? T).bind (·.zero) = some z

section
variable {κ ν : Type} [DecidableEq κ] {kv : κ → Value} {vv : ν → Value} {P : Program} {K : TypeId}

theorem mdel_at : ∀ {m : List (κ × ν)} {k : κ} {j : Nat}, (m.map (·.1)).Nodup → m.findIdx? (fun p => decide (k = p.1)) = some j → mdel m k = m.eraseIdx j
  | [], k, j, _, hj => by simp at hj
  | p :: m, k, j, hn, hj => by
    simp only [List.map_cons, List.nodup_cons] at hn
    rw [List.findIdx?_cons] at hj
    by_cases hk : k = p.1
    · simp only [hk, decide_true, if_true, Option.some.injEq] at hj
      subst hj
      have : ∀ q, q ∈ m → ¬ k = q.1 := fun q hq e => hn.1 (hk ▸ List.mem_map.2 ⟨q, hq, e.symm⟩)
      simp only [mdel, List.filter_cons, hk, ne_eq, not_true_eq_false, decide_false, Bool.false_eq_true, if_false, List.eraseIdx_cons_zero]
      rw [List.filter_eq_self]
      intro q hq
      have := this q hq
      simpa [hk] using this
    · simp only [hk, decide_false, Bool.false_eq_true, if_false, Option.map_eq_some_iff] at hj
      obtain ⟨i, hi, rfl⟩ := hj
      have := mdel_at hn.2 hi
      simp only [mdel, ne_eq, decide_not] at this ⊢
      simp [hk, this]

theorem eraseIdx_map {β γ : Type} (f : β → γ) : ∀ (l : List β) (j : Nat), (l.eraseIdx j).map f = (l.map f).eraseIdx j
  | [], _ => rfl
  | _ :: _, 0 => rfl
  | x :: l, j + 1 => by simp [eraseIdx_map f l j]

theorem mdel_none {m : List (κ × ν)} {k : κ} (h : mget m k = none) : mdel m k = m := by
  rw [mget_none] at h
  simp only [mdel, List.filter_eq_self]
  intro q hq
  have : ¬ k = q.1 := fun e => h (List.mem_map.2 ⟨q, hq, e.symm⟩)
  simp [this]

theorem ents_erase {es : Array MapEntry} {clock : Nat} {m : List (κ × ν)} (h : MapIs kv vv es clock m) {k : κ} {j : Nat} (hj : m.findIdx? (fun p => decide (k = p.1)) = some j) :
    MapIs kv vv (es.eraseIdxIfInBounds j) clock (mdel m k) := by
  have hlen : es.toList.length = m.length := by simpa using congrArg List.length h.ents
  obtain ⟨hjl, hjk, hjb⟩ := List.findIdx?_eq_some_iff_getElem.1 hj
  have hes : (es.eraseIdxIfInBounds j).toList = es.toList.eraseIdx j := by
    have hlt : j < es.size := by have : es.toList.length = es.size := by simp
                                 omega
    unfold Array.eraseIdxIfInBounds
    simp [hlt]
  rw [mdel_at h.nodup hj]
  have hsub : (es.toList.eraseIdx j).Sublist es.toList := List.eraseIdx_sublist _ _
  refine ⟨?_, ?_, ?_, ?_⟩
  · rw [hes, eraseIdx_map, eraseIdx_map, h.ents]
  · exact ((List.eraseIdx_sublist m j).map _).nodup h.nodup
  · rw [hes]; exact h.born.sublist (hsub.map _)
  · intro e he; rw [hes] at he; exact h.clock e (hsub.subset he)

theorem run_delete {t V b : Nat} {ty kt : TypeId} [hK : KeyTy P K kv] [hM : MapTy P t K V] {B : Base} {R : HL} {es : Array MapEntry} {clock : Nat} {m : List (κ × ν)} {w : World} (h : MapIs kv vv es clock m)
    (hS : Sh B (mapB b es clock ++ R) w) (k : κ) :
    ∃ es' clock' w', (Builtin.delete_ #[t, kt] ty #[.map (some b), kv k]).run P w = .ok (.tuple #[]) w' ∧ Sh B (mapB b es' clock' ++ R) w' ∧ MapIs kv vv es' clock' (mdel m k) := by
  have hb : w.heap[b]? = some (.map es clock) := hS.own (b, .map es clock) (by simp [mapB])
  have hg : (getObj b).run P w = .ok (.map es clock) w := by simp [getObj, Sem.run, hb]
  cases hf : m.findIdx? (fun p => decide (k = p.1)) with
  | none =>
    have hk : mget m k = none := by rw [mget_findIdx, hf]; rfl
    refine ⟨_, _, _, ?_, Sh.setB (H := R) (b := b) hS (.map es clock), by rw [mdel_none hk]; exact h⟩
    simp [Builtin.delete_, Sem.run_bind, run_underlying hM.under, hg, hK.check, run_findKey h, hf, setObj_run hb]
  | some j =>
    obtain ⟨hjl, _, _⟩ := List.findIdx?_eq_some_iff_getElem.1 hf
    refine ⟨_, _, _, ?_, Sh.setB (H := R) (b := b) hS (.map (es.eraseIdxIfInBounds j) clock), ents_erase h hf⟩
    simp [Builtin.delete_, Sem.run_bind, run_underlying hM.under, hg, hK.check, run_findKey h, hf, List.getElem?_eq_getElem hjl, setObj_run hb]

omit [DecidableEq κ] in
theorem MapIs.size {es : Array MapEntry} {clock : Nat} {m : List (κ × ν)} (h : MapIs kv vv es clock m) : es.size = m.length := by
  simpa using congrArg List.length h.ents
end

section
variable {P : Program} {ops : Array Oper} {Q : Exit → Act → World → Prop} {rest : List Oper} {o : Oper} {a : Act} {B : Base} {H R : HL} {w : World}
variable {κ ν : Type} [DecidableEq κ] {kv : κ → Value} {vv : ν → Value}

theorem wl_makeMap {t : TypeId} (hw : Region.wanted o (yielded ops a.tmps) = true) (ho : o.op = .makeMap t none) (hS : Sh B H w)
    (h : ∀ b w', Sh B (mapB b #[] 0 ++ H) w' → wpList P ops Q rest (a.put o.dst (.map (some b))) w') : wpList P ops Q (o :: rest) a w :=
  wl_to (w' := w.alloc (.map #[] 0)) hw (by simp [execOp, ho, Instr.makeMap, newObj, Sem.run]) (h _ _ (hS.alloc _))

/-- m[k], without ok. -/
theorem wl_lookup {t K V b : Nat} {x y : Operand} [KeyTy P K kv] [MapTy P t K V] {z : Value} [hz : ZeroV P V z] {es : Array MapEntry} {clock : Nat} {m : List (κ × ν)} {k : κ} {v : Value} (hm : MapIs kv vv es clock m) (hw : Region.wanted o (yielded ops a.tmps) = true) (ho : o.op = .lookup t x y false)
    (hx : a.eval x = .map (some b)) (hy : a.eval y = kv k) (hS : Sh B H w) [hp : HasMap H b es clock R]  (hv : (mget m k).elim z vv = v)
    (h : wpList P ops Q rest (a.put o.dst v) w) : wpList P ops Q (o :: rest) a w := by
  have hb : w.heap[b]? = some (.map es clock) := (hS.pick hp.out).own (b, .map es clock) (by simp [mapB])
  have := run_lookup (P := P) (t := t) hm hb hz.out k false
  exact wl_value hw (by simp [execOp, ho, hx, hy, this, hv]) h

/-- v, ok := m[k]. -/
theorem wl_lookup2 {t K V b : Nat} {x y : Operand} [KeyTy P K kv] [MapTy P t K V] {z : Value} [hz : ZeroV P V z] {es : Array MapEntry} {clock : Nat} {m : List (κ × ν)} {k : κ} {v : Value} {ok : Bool} (hm : MapIs kv vv es clock m) (hw : Region.wanted o (yielded ops a.tmps) = true) (ho : o.op = .lookup t x y true)
    (hx : a.eval x = .map (some b)) (hy : a.eval y = kv k) (hS : Sh B H w) [hp : HasMap H b es clock R]  (hv : (mget m k).elim z vv = v) (hok : (mget m k).isSome = ok)
    (h : wpList P ops Q rest (a.put o.dst (.tuple #[v, .bool ok])) w) : wpList P ops Q (o :: rest) a w := by
  have hb : w.heap[b]? = some (.map es clock) := (hS.pick hp.out).own (b, .map es clock) (by simp [mapB])
  have := run_lookup (P := P) (t := t) hm hb hz.out k true
  exact wl_value hw (by simp [execOp, ho, hx, hy, this, hv, hok]) h

theorem wl_mapUpdate {t K V b : Nat} {x y z : Operand} [KeyTy P K kv] [MapTy P t K V] {es : Array MapEntry} {clock : Nat} {m : List (κ × ν)} {k : κ} {v : ν} (hm : MapIs kv vv es clock m) (hw : Region.wanted o (yielded ops a.tmps) = true) (ho : o.op = .mapUpdate t x y z)
    (hx : a.eval x = .map (some b)) (hy : a.eval y = kv k) (hz : a.eval z = vv v) (hS : Sh B H w) {C : HL → HL} [hp : CtxMap H b es clock C] 
    (h : ∀ es' clock' w', Sh B (C (mapB b es' clock')) w' → MapIs kv vv es' clock' (mput m k v) → wpList P ops Q rest (a.put o.dst undef) w') : wpList P ops Q (o :: rest) a w := by
  obtain ⟨R, hS0, back⟩ := Sh.out (hp.eq ▸ hS) hp.ctx
  obtain ⟨es', clock', w', hr, hS', hm'⟩ := run_mapUpdate (P := P) (t := t) hm hS0 k v
  exact wl_skip' hw (by simp [execOp, ho, hx, hy, hz, hr]) (h _ _ _ (back _ _ hS') hm')

theorem wl_delete {t kt K V b : Nat} {x y : Operand} [KeyTy P K kv] [MapTy P t K V] {es : Array MapEntry} {clock : Nat} {m : List (κ × ν)} {k : κ} (hm : MapIs kv vv es clock m) (hw : Region.wanted o (yielded ops a.tmps) = true)
    (ho : o.op = .call { callee := .builtin .delete, args := #[x, y], argTypes := #[t, kt] })
    (hx : a.eval x = .map (some b)) (hy : a.eval y = kv k) (hS : Sh B H w) {C : HL → HL} [hp : CtxMap H b es clock C] 
    (h : ∀ es' clock' w', Sh B (C (mapB b es' clock')) w' → MapIs kv vv es' clock' (mdel m k) → wpList P ops Q rest (a.put o.dst (.tuple #[])) w') : wpList P ops Q (o :: rest) a w := by
  obtain ⟨R, hS0, back⟩ := Sh.out (hp.eq ▸ hS) hp.ctx
  obtain ⟨es', clock', w', hr, hS', hm'⟩ := run_delete (P := P) (t := t) (kt := kt) (ty := o.type) hm hS0 k
  exact wl_to hw (by simp [execOp, ho, resolve, invoke, builtin, hx, hy, hr]) (h _ _ _ (back _ _ hS') hm')

theorem wl_lenMap {t K V b : Nat} {x : Operand} [hM : MapTy P t K V] {es : Array MapEntry} {clock : Nat} {m : List (κ × ν)} (hm : MapIs kv vv es clock m) (hw : Region.wanted o (yielded ops a.tmps) = true)
    (ho : o.op = .call { callee := .builtin .len, args := #[x], argTypes := #[t] })
    (hx : a.eval x = .map (some b)) (hS : Sh B H w) [hp : HasMap H b es clock R] 
    (h : wpList P ops Q rest (a.put o.dst (.int .i64 m.length)) w) : wpList P ops Q (o :: rest) a w := by
  have hb : w.heap[b]? = some (.map es clock) := (hS.pick hp.out).own (b, .map es clock) (by simp [mapB])
  have hg : (getObj b).run P w = .ok (.map es clock) w := by simp [getObj, Sem.run, hb]
  refine wl_value hw ?_ h
  simp [execOp, ho, resolve, invoke, builtin, hx, Builtin.len_, Sem.run_bind, run_underlying hM.under, hg, hm.size, goInt]
end
end Go.Tk
