/- Laws on operations at maps; slices written out. -/
import Derived.Test.YtclmemhginekbaaDoorTkD
set_option linter.unusedSectionVars false
set_option linter.unusedSimpArgs false
set_option linter.unusedVariables false
namespace Go.Tk
open Go.RowKit

theorem mnone {α β : Type} {o : Option α} {z : β} {f : α → β} (h : o = none) : o.elim z f = z := by rw [h]; rfl
theorem msome {α β : Type} {o : Option α} {z : β} {f : α → β} {x : α} (h : o = some x) : o.elim z f = f x := by rw [h]; rfl
theorem isnone {α : Type} {o : Option α} (h : o = none) : o.isSome = false := by rw [h]; rfl
theorem issome {α : Type} {o : Option α} {x : α} (h : o = some x) : o.isSome = true := by rw [h]; rfl

class ZeroV (P : Program) (T : TypeId) (z : outParam Value) : Prop where out : (P.info? T).bind (·.zero) = some z

section
variable {κ ν : Type} [DecidableEq κ] {kv : κ → Value} {vv : ν → Value} {P : Program} {K : TypeId}

theorem mdel_at : ∀ {m : List (κ × ν)} {k : κ} {j : Nat}, (m.map (·.1)).Nodup → m.findIdx? (fun p => decide (k = p.1)) = some j → mdel m k = m.eraseIdx j
  | [], k, j, _, hj => by simp at hj
  | p :: m, k, j, hn, hj => by
    simp only [List.map_cons, List.nodup_cons] at hn
    rw [List.findIdx?_cons] at hj
    by_cases hk : k = p.1
    · simp only [hk, decide_true, if_true, Option.some.injEq] at hj
      subst hj
      have : ∀ q, q ∈ m → ¬ k = q.1 := fun q hq e => hn.1 (hk ▸ List.mem_map.2 ⟨q, hq, e.symm⟩)
      simp only [mdel, List.filter_cons, hk, ne_eq, not_true_eq_false, decide_false, Bool.false_eq_true, if_false, List.eraseIdx_cons_zero]
      rw [List.filter_eq_self]
      intro q hq
      have := this q hq
      simpa [hk] using this
    · simp only [hk, decide_false, Bool.false_eq_true, if_false, Option.map_eq_some_iff] at hj
      obtain ⟨i, hi, rfl⟩ := hj
      have := mdel_at hn.2 hi
      simp only [mdel, ne_eq, decide_not] at this ⊢
      simp [hk, this]

theorem eraseIdx_map {β γ : Type} (f : β → γ) : ∀ (l : List β) (j : Nat), (l.eraseIdx j).map f = (l.map f).eraseIdx j
  | [], _ => rfl
  | _ :: _, 0 => rfl
  | x :: l, j + 1 => by simp [eraseIdx_map f l j]

theorem mdel_none {m : List (κ × ν)} {k : κ} (h : mget m k = none) : mdel m k = m := by
  rw [mget_none] at h
  simp only [mdel, List.filter_eq_self]
  intro q hq
  have : ¬ k = q.1 := fun e => h (List.mem_map.2 ⟨q, hq, e.symm⟩)
  simp [this]

theorem ents_erase {es : Array MapEntry} {clock : Nat} {m : List (κ × ν)} (h : MapIs0 kv vv es clock m) {k : κ} {j : Nat} (hj : m.findIdx? (fun p => decide (k = p.1)) = some j) :
    MapIs0 kv vv (es.eraseIdxIfInBounds j) clock (mdel m k) := by
  have hlen : es.toList.length = m.length := by simpa using congrArg List.length h.ents
  obtain ⟨hjl, hjk, hjb⟩ := List.findIdx?_eq_some_iff_getElem.1 hj
  have hes : (es.eraseIdxIfInBounds j).toList = es.toList.eraseIdx j := by
    have hlt : j < es.size := by have : es.toList.length = es.size := by simp
                                 omega
    unfold Array.eraseIdxIfInBounds
    simp [hlt]
  rw [mdel_at h.nodup hj]
  have hsub : (es.toList.eraseIdx j).Sublist es.toList := List.eraseIdx_sublist _ _
  refine ⟨?_, ?_, ?_, ?_⟩
  · rw [hes, eraseIdx_map, eraseIdx_map, h.ents]
  · exact ((List.eraseIdx_sublist m j).map _).nodup h.nodup
  · rw [hes]; exact h.born.sublist (hsub.map _)
  · intro e he; rw [hes] at he; exact h.clock e (hsub.subset he)

theorem run_delete {t V b : Nat} {ty kt : TypeId} [hK : KeyTy P K kv] [hM : MapTy P t K V] {B : Base} {R : HL} {es : Array MapEntry} {clock : Nat} {m : List (κ × ν)} {w : World} (h : MapIs0 kv vv es clock m)
    (hS : Sh B (mapB b es clock ++ R) w) (k : κ) :
    ∃ es' clock' w', (Builtin.delete_ #[t, kt] ty #[.map (some b), kv k]).run P w = .ok (.tuple #[]) w' ∧ Sh B (mapB b es' clock' ++ R) w' ∧ MapIs0 kv vv es' clock' (mdel m k) := by
  have hb : w.heap[b]? = some (.map es clock) := hS.own (b, .map es clock) (by simp [mapB])
  have hg : (getObj b).run P w = .ok (.map es clock) w := by simp [getObj, Sem.run, hb]
  cases hf : m.findIdx? (fun p => decide (k = p.1)) with
  | none =>
    have hk : mget m k = none := by rw [mget_findIdx, hf]; rfl
    refine ⟨_, _, _, ?_, Sh.setB (H := R) (b := b) hS (.map es clock), by rw [mdel_none hk]; exact h⟩
    simp [Builtin.delete_, Sem.run_bind, run_underlying hM.under, hg, hK.check, run_findKey h, hf, setObj_run hb]
  | some j =>
    obtain ⟨hjl, _, _⟩ := List.findIdx?_eq_some_iff_getElem.1 hf
    refine ⟨_, _, _, ?_, Sh.setB (H := R) (b := b) hS (.map (es.eraseIdxIfInBounds j) clock), ents_erase h hf⟩
    simp [Builtin.delete_, Sem.run_bind, run_underlying hM.under, hg, hK.check, run_findKey h, hf, List.getElem?_eq_getElem hjl, setObj_run hb]

omit [DecidableEq κ] in
theorem MapIs0.size {es : Array MapEntry} {clock : Nat} {m : List (κ × ν)} (h : MapIs0 kv vv es clock m) : es.size = m.length := by
  simpa using congrArg List.length h.ents
end

/-- A map's block, as a list of pairs, in whatever order. -/
structure MapIs {κ ν : Type} (kv : κ → Value) (vv : ν → Value) (es : Array MapEntry) (clock : Nat) (m : List (κ × ν)) : Prop where
  out : ∃ m', m'.Perm m ∧ MapIs0 kv vv es clock m'
section
variable {κ ν : Type} {kv : κ → Value} {vv : ν → Value} {es : Array MapEntry} {clock : Nat} {m : List (κ × ν)}
theorem MapIs.empty : MapIs kv vv #[] 0 [] := ⟨[], .refl _, .empty⟩
theorem MapIs.size (h : MapIs kv vv es clock m) : es.size = m.length := by
  obtain ⟨m', hp, h0⟩ := h.out
  rw [h0.size, hp.length_eq]
theorem MapIs.nodup (h : MapIs kv vv es clock m) : (m.map (·.1)).Nodup := by
  obtain ⟨m', hp, h0⟩ := h.out
  exact (hp.map _).nodup_iff.1 h0.nodup
theorem MapIs.perm {m2 : List (κ × ν)} (h : MapIs kv vv es clock m) (hp : m.Perm m2) : MapIs kv vv es clock m2 := by
  obtain ⟨m', hp', h0⟩ := h.out
  exact ⟨m', hp'.trans hp, h0⟩
theorem perm_map_inv {α β : Type} (f : α → β) : ∀ {l : List β} {m : List α}, l.Perm (m.map f) → ∃ m' : List α, m'.Perm m ∧ m'.map f = l := by
  intro l m h
  generalize hk : m.map f = k at h
  induction h generalizing m with
  | nil => exact ⟨m, .refl _, hk⟩
  | cons x h ih =>
    obtain ⟨a, m2, rfl, rfl, hm2⟩ := List.map_eq_cons_iff.1 hk
    obtain ⟨m', h1, h2⟩ := ih hm2
    exact ⟨a :: m', h1.cons a, by simp [h2]⟩
  | swap x y l =>
    obtain ⟨a, m2, rfl, rfl, hm2⟩ := List.map_eq_cons_iff.1 hk
    obtain ⟨c, m3, rfl, rfl, hm3⟩ := List.map_eq_cons_iff.1 hm2
    exact ⟨c :: a :: m3, .swap a c m3, by simp [hm3]⟩
  | trans _ _ ih1 ih2 =>
    obtain ⟨m', h1, h2⟩ := ih2 hk
    obtain ⟨m2, h3, h4⟩ := ih1 h2
    exact ⟨m2, h3.trans h1, h4⟩
/-- The same values, of other things. -/
theorem MapIs.same {ν' : Type} {vv' : ν' → Value} {m2 : List (κ × ν')} (h : MapIs kv vv es clock m) (he : m2.map (fun p => (p.1, vv' p.2)) = m.map (fun p => (p.1, vv p.2))) : MapIs kv vv' es clock m2 := by
  obtain ⟨m', hp, h0⟩ := h.out
  have hp2 := hp.map (fun p : κ × ν => (p.1, vv p.2))
  rw [← he] at hp2
  obtain ⟨m3, h3, h4⟩ := perm_map_inv _ hp2
  refine ⟨m3, h3, ?_, ?_, h0.born, h0.clock⟩
  · rw [h0.ents]
    have := congrArg (List.map (fun q : κ × Value => (kv q.1, q.2))) h4
    simpa [Function.comp_def] using this.symm
  · have := congrArg (List.map (fun q : κ × Value => q.1)) h4
    have h5 : m3.map (·.1) = m'.map (·.1) := by simpa [Function.comp_def] using this
    rw [h5]; exact h0.nodup
end
section
variable {κ ν : Type} [DecidableEq κ] {m m' : List (κ × ν)}
theorem mget_mem_some {k : κ} {v : ν} (hn : (m.map (·.1)).Nodup) (h : (k, v) ∈ m) : mget m k = some v := by
  induction m with
  | nil => simp at h
  | cons p m ih =>
    rw [mget_cons]
    simp only [List.map_cons, List.nodup_cons] at hn
    rcases List.mem_cons.1 h with rfl | h
    · simp
    · have : ¬ k = p.1 := fun e => hn.1 (e ▸ List.mem_map.2 ⟨_, h, rfl⟩)
      simp only [this, if_false]
      exact ih hn.2 h
theorem mget_perm (hn : (m'.map (·.1)).Nodup) (hp : m'.Perm m) (k : κ) : mget m' k = mget m k := by
  cases h : mget m k with
  | none =>
    rw [mget_none] at h ⊢
    exact fun hm => h ((hp.map _).mem_iff.1 hm)
  | some v => exact mget_mem_some hn (hp.mem_iff.2 (mget_some_mem h))
theorem mput_mdel (k : κ) (v : ν) : ∀ {m : List (κ × ν)}, (m.map (·.1)).Nodup → (mput m k v).Perm ((k, v) :: mdel m k)
  | [], _ => by simp [mput, mdel]
  | p :: m, hn => by
    simp only [List.map_cons, List.nodup_cons] at hn
    unfold mput
    by_cases hk : k = p.1
    · have h1 : mdel (p :: m) k = m := by
        unfold mdel
        rw [List.filter_cons]
        simp only [hk, ne_eq, not_true_eq_false, decide_false, Bool.false_eq_true, if_false]
        refine List.filter_eq_self.2 fun q hq => ?_
        have : ¬ p.1 = q.1 := fun e => hn.1 (e ▸ List.mem_map.2 ⟨_, hq, rfl⟩)
        simp [this]
      rw [h1]
      simp [hk]
    · have h1 : mdel (p :: m) k = p :: mdel m k := by
        unfold mdel
        rw [List.filter_cons]
        simp [hk]
      rw [h1]
      simp only [hk, if_false]
      exact ((mput_mdel k v hn.2).cons p).trans (.swap _ _ _)
theorem mput_perm (hn : (m'.map (·.1)).Nodup) (hp : m'.Perm m) (k : κ) (v : ν) : (mput m' k v).Perm (mput m k v) :=
  (mput_mdel k v hn).trans (((hp.filter _).cons _).trans (mput_mdel k v ((hp.map _).nodup_iff.1 hn)).symm)
theorem mdel_perm (hp : m'.Perm m) (k : κ) : (mdel m' k).Perm (mdel m k) := hp.filter _
end

section
variable {P : Program} {ops : Array Oper} {Q : Exit → Act → World → Prop} {rest : List Oper} {o : Oper} {a : Act} {B : Base} {H R : HL} {w : World}
variable {κ ν : Type} [DecidableEq κ] {kv : κ → Value} {vv : ν → Value}

theorem wl_makeMap {t : TypeId} (hw : Region.wanted o (yielded ops a.tmps) = true) (ho : o.op = .makeMap t none) (hS : Sh B H w)
    (h : ∀ b w', Sh B (mapB b #[] 0 ++ H) w' → wpList P ops Q rest (a.put o.dst (.map (some b))) w') : wpList P ops Q (o :: rest) a w :=
  wl_to (w' := w.alloc (.map #[] 0)) hw (by simp [execOp, ho, Instr.makeMap, newObj, Sem.run]) (h _ _ (hS.alloc _))

/-- m[k], without ok. -/
theorem wl_lookup {t K V b : Nat} {x y : Operand} [KeyTy P K kv] [MapTy P t K V] {z : Value} [hz : ZeroV P V z] {es : Array MapEntry} {clock : Nat} {m : List (κ × ν)} {k : κ} {v : Value} (hm : MapIs kv vv es clock m) (hw : Region.wanted o (yielded ops a.tmps) = true) (ho : o.op = .lookup t x y false)
    (hx : a.eval x = .map (some b)) (hy : a.eval y = kv k) (hS : Sh B H w) [hp : HasMap H b es clock R]  (hv : (mget m k).elim z vv = v)
    (h : wpList P ops Q rest (a.put o.dst v) w) : wpList P ops Q (o :: rest) a w := by
  have hb : w.heap[b]? = some (.map es clock) := (hS.pick hp.out).own (b, .map es clock) (by simp [mapB])
  obtain ⟨m', hpm, hm0⟩ := hm.out
  have := run_lookup (P := P) (t := t) hm0 hb hz.out k false
  rw [mget_perm hm0.nodup hpm] at this
  exact wl_value hw (by simp [execOp, ho, hx, hy, this, hv]) h

/-- v, ok := m[k]. -/
theorem wl_lookup2 {t K V b : Nat} {x y : Operand} [KeyTy P K kv] [MapTy P t K V] {z : Value} [hz : ZeroV P V z] {es : Array MapEntry} {clock : Nat} {m : List (κ × ν)} {k : κ} {v : Value} {ok : Bool} (hm : MapIs kv vv es clock m) (hw : Region.wanted o (yielded ops a.tmps) = true) (ho : o.op = .lookup t x y true)
    (hx : a.eval x = .map (some b)) (hy : a.eval y = kv k) (hS : Sh B H w) [hp : HasMap H b es clock R]  (hv : (mget m k).elim z vv = v) (hok : (mget m k).isSome = ok)
    (h : wpList P ops Q rest (a.put o.dst (.tuple #[v, .bool ok])) w) : wpList P ops Q (o :: rest) a w := by
  have hb : w.heap[b]? = some (.map es clock) := (hS.pick hp.out).own (b, .map es clock) (by simp [mapB])
  obtain ⟨m', hpm, hm0⟩ := hm.out
  have := run_lookup (P := P) (t := t) hm0 hb hz.out k true
  rw [mget_perm hm0.nodup hpm] at this
  exact wl_value hw (by simp [execOp, ho, hx, hy, this, hv, hok]) h

theorem wl_mapUpdate {t K V b : Nat} {x y z : Operand} [KeyTy P K kv] [MapTy P t K V] {es : Array MapEntry} {clock : Nat} {m : List (κ × ν)} {k : κ} {v : ν} (hm : MapIs kv vv es clock m) (hw : Region.wanted o (yielded ops a.tmps) = true) (ho : o.op = .mapUpdate t x y z)
    (hx : a.eval x = .map (some b)) (hy : a.eval y = kv k) (hz : a.eval z = vv v) (hS : Sh B H w) {C : HL → HL} [hp : CtxMap H b es clock C] 
    (h : ∀ es' clock' w', Sh B (C (mapB b es' clock')) w' → MapIs kv vv es' clock' (mput m k v) → wpList P ops Q rest (a.put o.dst undef) w') : wpList P ops Q (o :: rest) a w := by
  obtain ⟨R, hS0, back⟩ := Sh.out (hp.eq ▸ hS) hp.ctx
  obtain ⟨m', hpm, hm0⟩ := hm.out
  obtain ⟨es', clock', w', hr, hS', hm'⟩ := run_mapUpdate (P := P) (t := t) hm0 hS0 k v
  exact wl_skip' hw (by simp [execOp, ho, hx, hy, hz, hr]) (h _ _ _ (back _ _ hS') ⟨_, mput_perm hm0.nodup hpm k v, hm'⟩)

theorem wl_delete {t kt K V b : Nat} {x y : Operand} [KeyTy P K kv] [MapTy P t K V] {es : Array MapEntry} {clock : Nat} {m : List (κ × ν)} {k : κ} (hm : MapIs kv vv es clock m) (hw : Region.wanted o (yielded ops a.tmps) = true)
    (ho : o.op = .call { callee := .builtin .delete, args := #[x, y], argTypes := #[t, kt] })
    (hx : a.eval x = .map (some b)) (hy : a.eval y = kv k) (hS : Sh B H w) {C : HL → HL} [hp : CtxMap H b es clock C] 
    (h : ∀ es' clock' w', Sh B (C (mapB b es' clock')) w' → MapIs kv vv es' clock' (mdel m k) → wpList P ops Q rest (a.put o.dst (.tuple #[])) w') : wpList P ops Q (o :: rest) a w := by
  obtain ⟨R, hS0, back⟩ := Sh.out (hp.eq ▸ hS) hp.ctx
  obtain ⟨m', hpm, hm0⟩ := hm.out
  obtain ⟨es', clock', w', hr, hS', hm'⟩ := run_delete (P := P) (t := t) (kt := kt) (ty := o.type) hm0 hS0 k
  exact wl_to hw (by simp [execOp, ho, resolve, invoke, builtin, hx, hy, hr]) (h _ _ _ (back _ _ hS') ⟨_, mdel_perm hpm k, hm'⟩)

theorem wl_lenMap {t K V b : Nat} {x : Operand} [hM : MapTy P t K V] {es : Array MapEntry} {clock : Nat} {m : List (κ × ν)} (hm : MapIs kv vv es clock m) (hw : Region.wanted o (yielded ops a.tmps) = true)
    (ho : o.op = .call { callee := .builtin .len, args := #[x], argTypes := #[t] })
    (hx : a.eval x = .map (some b)) (hS : Sh B H w) [hp : HasMap H b es clock R] 
    (h : wpList P ops Q rest (a.put o.dst (.int .i64 m.length)) w) : wpList P ops Q (o :: rest) a w := by
  have hb : w.heap[b]? = some (.map es clock) := (hS.pick hp.out).own (b, .map es clock) (by simp [mapB])
  have hg : (getObj b).run P w = .ok (.map es clock) w := by simp [getObj, Sem.run, hb]
  refine wl_value hw ?_ h
  simp [execOp, ho, resolve, invoke, builtin, hx, Builtin.len_, Sem.run_bind, run_underlying hM.under, hg, hm.size, goInt]
end
end Go.Tk
