/- Laws on operations that write: alloc, box, store, buildSlice, append. -/
import Derived.Test.YtclmemhginekbaaDoorTkB
import Derived.Maps.AppendAt
import Derived.Laws.AppendOwnNone
set_option linter.unusedSectionVars false
set_option linter.unusedSimpArgs false
set_option linter.unusedVariables false
namespace Go.Tk
open Go.RowKit

class Zero (P : Program) (T : TypeId) (l : outParam (List Value)) : Prop where out : ∃ z, (P.info? T).bind (·.zero) = some z ∧ z.cells = l.toArray

section
variable {P : Program} {B : Base} {H R : HL} {w : World}

theorem run_zeroValue {T : TypeId} {z : Value} (h : (P.info? T).bind (·.zero) = some z) (w : World) : (zeroValue T).run P w = .ok z w := by
  cases hq : P.info? T with
  | none => simp [hq] at h
  | some i =>
    have hs : i.zero = some z := by simpa [hq] using h
    simp [zeroValue, typeInfo, hq, Sem.run_bind, program, Sem.run, hs]

theorem run_alloc {T : TypeId} {l : List Value} [h : Zero P T l] (w : World) :
    (Instr.alloc T true (.tuple #[])).run P w = .ok (.pointer (some ⟨w.heap.size, 0, none⟩)) (w.alloc (.cells l.toArray T)) := by
  obtain ⟨z, hz, hc⟩ := h.out
  simp [Instr.alloc, Sem.run_bind, run_zeroValue hz, newVar, newRow, newObj, Sem.run, hc]

theorem Sh.setCell {b off : Nat} {l : List Value} {T : TypeId} (h : Sh B (cellB b l T ++ R) w) (v : Value) : Sh B (cellB b (l.set off v) T ++ R) (w.setCell ⟨b, off, none⟩ v) := by
  have h1 := Sh.setB (H := R) (b := b) h (.cells (l.set off v).toArray T (0, 0))
  have hb := h.own (b, .cells l.toArray T (0, 0)) (by simp [cellB])
  have e : w.setCell ⟨b, off, none⟩ v = Tk.setB w b (.cells (l.set off v).toArray T (0, 0)) := by
    unfold World.setCell Tk.setB
    have hb' : w.heap[b]? = some (.cells l.toArray T (0, 0)) := hb
    congr 1
    apply Array.ext_getElem?
    intro i
    rw [Array.getElem?_modify, Array.getElem?_setIfInBounds]
    by_cases hi : b = i
    · subst hi
      obtain ⟨hlt, he⟩ := Array.getElem?_eq_some_iff.1 hb'
      simp [hlt, he]
    · simp [hi]
  rw [e]
  exact h1

theorem run_store_sh {b off : Nat} {l : List Value} {T : TypeId} {v : Value} (h : Sh B (cellB b l T ++ R) w) (hv : v.oneCell' = true) (ho : off < l.length) :
    (store ⟨b, off, none⟩ v).run P w = .ok () (w.setCell ⟨b, off, none⟩ v) := by
  rw [run_store P w _ v _ hv]
  have hc := h.ldB (R := R) PickL.hd (List.getElem?_eq_getElem ho)
  have hb : w.heap[b]? = some (.cells l.toArray T (0, 0)) := h.own (b, .cells l.toArray T (0, 0)) (by simp [cellB])
  rw [hc]
  have hf : w.frozen? ⟨b, off, none⟩ = false := by simp [World.frozen?, hb]
  simp [hf]

/-- l with vs from off on. -/
def splice (l : List Value) (off : Nat) : List Value → List Value
  | [] => l
  | v :: vs => splice (l.set off v) (off + 1) vs
theorem splice_length : ∀ (vs l : List Value) (off : Nat), (splice l off vs).length = l.length
  | [], _, _ => rfl
  | v :: vs, l, off => by rw [splice, splice_length vs]; simp
theorem splice_eq : ∀ (vs l : List Value) (off : Nat), off + vs.length ≤ l.length → splice l off vs = l.take off ++ vs ++ l.drop (off + vs.length)
  | [], l, off, h => by simp [splice]
  | v :: vs, l, off, h => by
    simp only [List.length_cons] at h
    rw [splice, splice_eq vs _ _ (by simp; omega)]
    have h1 : (l.set off v).take (off + 1) = l.take off ++ [v] := by
      rw [List.take_succ_eq_append_getElem (by simp; omega), List.take_set_of_le (by omega)]
      simp
    have h2 : (l.set off v).drop (off + 1 + vs.length) = l.drop (off + 1 + vs.length) := by
      rw [List.drop_set]
      simp
      omega
    rw [h1, h2]
    simp [Nat.add_assoc, Nat.add_comm 1]
theorem splice_all (l vs : List Value) (h : vs.length = l.length) : splice l 0 vs = vs := by
  rw [splice_eq _ _ _ (by omega)]
  simp [h]

theorem run_storeCells_sh {b off : Nat} {T : TypeId} : ∀ (vs : List Value) (i : Nat) (l : List Value) (w : World), Sh B (cellB b l T ++ R) w → off + i + vs.length ≤ l.length → (∀ v ∈ vs, v.oneCell' = true) →
    ∃ w', (storeCells ⟨b, off, none⟩ vs i).run P w = .ok () w' ∧ Sh B (cellB b (splice l (off + i) vs) T ++ R) w'
  | [], i, l, w, h, _, _ => ⟨w, by simp [storeCells], h⟩
  | v :: vs, i, l, w, h, hl, h1 => by
    simp only [List.length_cons] at hl
    obtain ⟨w', hr, hS⟩ := run_storeCells_sh (off := off) vs (i + 1) (l.set (off + i) v) _ (h.setCell (off := off + i) v) (by simp; omega) (fun u hu => h1 u (List.mem_cons_of_mem _ hu))
    refine ⟨w', ?_, by rw [splice]; exact hS⟩
    rw [storeCells, Sem.run_bind, Addr.add_mid, run_store_sh h (h1 v (List.mem_cons_self ..)) (by omega)]
    exact hr

theorem run_storeAt_sh {b off T Tb : Nat} {l vs : List Value} {v : Value} (hn : (P.info? T).map (·.size) = some vs.length) (hv : v.cells = vs.toArray) (h : Sh B (cellB b l Tb ++ R) w) (hl : off + vs.length ≤ l.length) (h1 : ∀ u ∈ vs, u.oneCell' = true) :
    ∃ w', (Instr.storeAt T (.pointer (some ⟨b, off, none⟩)) v).run P w = .ok () w' ∧ Sh B (cellB b (splice l off vs) Tb ++ R) w' := by
  obtain ⟨w', hr, hS⟩ := run_storeCells_sh (P := P) (off := off) vs 0 l w h hl h1
  refine ⟨w', ?_, hS⟩
  simp [Instr.storeAt, Instr.sureAddr, Sem.run_bind, storeVar, run_sizeOf hn, hv, hr]
end

section
variable {P : Program} {ops : Array Oper} {Q : Exit → Act → World → Prop} {rest : List Oper} {o : Oper} {a : Act} {B : Base} {H R : HL} {w : World}

/-- A new variable. -/
theorem wl_alloc {T : TypeId} {l : List Value} (hw : Region.wanted o (yielded ops a.tmps) = true) (ho : o.op = .alloc T) [Zero P T l] (hS : Sh B H w)
    (h : ∀ b w', Sh B (cellB b l T ++ H) w' → wpList P ops Q rest (a.put o.dst (.pointer (some ⟨b, 0, none⟩))) w') : wpList P ops Q (o :: rest) a w :=
  wl_to hw (by simp [execOp, ho, run_alloc]) (h _ _ (hS.alloc _))

theorem wl_box {T : TypeId} {x : Operand} {v : Value} {l : List Value} (hw : Region.wanted o (yielded ops a.tmps) = true) (ho : o.op = .box T x) (hx : a.eval x = v) (hv : v.cells = l.toArray) (hS : Sh B H w)
    (h : ∀ b w', Sh B (cellB b l T ++ H) w' → wpList P ops Q rest (a.put o.dst (.pointer (some ⟨b, 0, none⟩))) w') : wpList P ops Q (o :: rest) a w :=
  wl_to (w' := w.alloc (.cells l.toArray T)) hw (by simp [execOp, ho, hx, Instr.box, newVar, newRow, newObj, Sem.run, hv]) (h _ _ (hS.alloc _))

/-- A store of one cell. -/
theorem wl_st {T : TypeId} {x y : Operand} {b off Tb : Nat} {l : List Value} {v : Value} (hw : Region.wanted o (yielded ops a.tmps) = true) (ho : o.op = .store T x y) [hT : Size1 P T]
    (hx : a.eval x = .pointer (some ⟨b, off, none⟩)) (hy : a.eval y = v) (h1 : v.oneCell' = true) (hS : Sh B H w) {C : HL → HL} [hp : CtxCell H b l Tb C] (hl : off < l.length)
    (h : ∀ w', Sh B (C (cellB b (l.set off v) Tb)) w' → wpList P ops Q rest (a.put o.dst undef) w') : wpList P ops Q (o :: rest) a w := by
  have hv : v.cells = [v].toArray := by cases v <;> simp_all [Value.cells, Value.oneCell']
  obtain ⟨R, hS0, back⟩ := Sh.out (hp.eq ▸ hS) hp.ctx
  obtain ⟨w', hr, hS'⟩ := run_storeAt_sh (P := P) (T := T) (b := b) (off := off) (v := v) (vs := [v]) (by simpa using hT.size) hv hS0 (by simp; omega) (by simpa using h1)
  exact wl_skip' hw (by simp [execOp, ho, hx, hy, hr]) (h w' (back _ _ hS'))

/-- A store of a struct or an array. -/
theorem wl_str {T n : Nat} {x y : Operand} {b off Tb : Nat} {l vs : List Value} (hw : Region.wanted o (yielded ops a.tmps) = true) (ho : o.op = .store T x y) [hT : IsRow P T n]
    (hx : a.eval x = .pointer (some ⟨b, off, none⟩)) (hy : a.eval y = .agg vs.toArray) (hn : vs.length = n) (h1 : ∀ u ∈ vs, u.oneCell' = true) (hS : Sh B H w) {C : HL → HL} [hp : CtxCell H b l Tb C] (hl : off + n ≤ l.length)
    (h : ∀ w', Sh B (C (cellB b (splice l off vs) Tb)) w' → wpList P ops Q rest (a.put o.dst undef) w') : wpList P ops Q (o :: rest) a w := by
  obtain ⟨R, hS0, back⟩ := Sh.out (hp.eq ▸ hS) hp.ctx
  obtain ⟨w', hr, hS'⟩ := run_storeAt_sh (P := P) (T := T) (b := b) (off := off) (v := .agg vs.toArray) (vs := vs) (by rw [hn]; exact hT.size) rfl hS0 (by omega) h1
  exact wl_skip' hw (by simp [execOp, ho, hx, hy, hr]) (h w' (back _ _ hS'))

/-- .. of the whole block. -/
theorem wl_str0 {T n : Nat} {x y : Operand} {b Tb : Nat} {l vs : List Value} (hw : Region.wanted o (yielded ops a.tmps) = true) (ho : o.op = .store T x y) [hT : IsRow P T n]
    (hx : a.eval x = .pointer (some ⟨b, 0, none⟩)) (hy : a.eval y = .agg vs.toArray) (hn : vs.length = n) (h1 : ∀ u ∈ vs, u.oneCell' = true) (hS : Sh B H w) {C : HL → HL} [hp : CtxCell H b l Tb C] (hl : l.length = n)
    (h : ∀ w', Sh B (C (cellB b vs Tb)) w' → wpList P ops Q rest (a.put o.dst undef) w') : wpList P ops Q (o :: rest) a w :=
  wl_str hw ho hx hy hn h1 hS (by omega) fun w' hS' => h w' (by rwa [splice_all _ _ (by omega)] at hS')
end

theorem find_append {c R : HL} {p : Nat × Obj} (h : p ∈ c) : p ∈ c ++ R := List.mem_append_left _ h

section
variable {P : Program} {ops : Array Oper} {Q : Exit → Act → World → Prop} {rest : List Oper} {o : Oper} {a : Act} {B : Base} {H R : HL} {w : World}
variable {α : Type} {E : Enc α}

theorem OwnSl.owns {A : Option Addr} {xs : List α} {sp : List Value} {cap : Nat} {T : TypeId} (hO : OwnSl E A xs sp cap) (hS : Sh B (rowA A (flat E xs ++ sp) T ++ R) w) :
    w.ownsRow 0 T E.k (.slice A xs.length cap) xs.length (flat E xs) := by
  refine ⟨flat_length xs, ?_⟩
  cases hA : A with
  | none =>
    obtain ⟨h1, _, h3⟩ := hO.nil hA
    subst h1; subst h3
    exact .inl ⟨rfl, rfl⟩
  | some ad =>
    subst hA
    have hf := hO.form ad rfl
    have hb := hS.own (ad.block, .cells (flat E xs ++ sp).toArray T (0, 0)) (by simp [rowA])
    refine .inr ⟨ad.block, cap, _, by rw [hf], Nat.zero_le _, hb, hO.len_le, hO.max, ?_, ?_⟩
    · simp [flat_length, hO.capEq]
    · simp [← flat_length (E := E) xs]

/-- What append and make leave. -/
theorem OwnSl.of_owns {xs : List α} {v : Value} {T : TypeId} {w : World} (h : w.ownsRow 0 T E.k v xs.length (flat E xs)) :
    ∃ A sp cap, v = .slice A xs.length cap ∧ OwnSl E A xs sp cap ∧ (∀ p, p ∈ rowA A (flat E xs ++ sp) T → w.heap[p.1]? = some p.2) ∧ (∀ p, p ∈ rowA A (flat E xs ++ sp) T → v.ownBlock = some p.1) ∧ ((rowA A (flat E xs ++ sp) T).map (·.1)).Nodup := by
  rcases h.2 with ⟨rfl, h0⟩ | ⟨g, cap, cur, rfl, _, hb, hle, hm, hsz, htk⟩
  · have : xs = [] := List.eq_nil_of_length_eq_zero h0
    subst this
    exact ⟨none, [], 0, rfl, ⟨fun _ => ⟨rfl, rfl, rfl⟩, fun _ h => (by cases h), by simp, by simp⟩, by simp [rowA], by simp [rowA], by simp [rowA]⟩
  · have hcur : cur.toList = flat E xs ++ cur.toList.drop (xs.length * E.k) := by
      rw [← htk, List.take_append_drop]
    refine ⟨some ⟨g, 0, none⟩, cur.toList.drop (xs.length * E.k), cap, rfl, ⟨fun h => (by cases h), fun ad h => (by cases h; rfl), ?_, hm⟩, ?_, ?_, by simp [rowA]⟩
    · have h2 : xs.length * E.k ≤ cap * E.k := Nat.mul_le_mul_right _ hle
      simp [hsz]
      omega
    · intro p hp
      simp only [rowA, List.mem_singleton] at hp
      subst hp
      simp only
      rw [hb, ← hcur]
    · intro p hp
      simp only [rowA, List.mem_singleton] at hp
      subst hp
      rfl

theorem sh_of_grown {c : HL} {w' : World} {A : Option Addr} {l : List Value} {T : TypeId} {v : Value} (hS : Sh B (c ++ R) w) (hg : w.grownBy w' v.ownBlock) (hd : w.drawn ≤ w'.drawn) (hcv : ∀ b, v.ownBlock = some b → ∃ p, p ∈ c ∧ p.1 = b)
    (hown : ∀ p, p ∈ rowA A l T → w'.heap[p.1]? = some p.2) (hat : ∀ p, p ∈ rowA A l T → v.ownBlock = some p.1 ∨ w.heap.size ≤ p.1) : Sh B (rowA A l T ++ R) w' := by
  refine Sh.grown hS hg hd ?_ ?_ hown ?_ (by cases A <;> simp [rowA])
  · intro p hp he
    obtain ⟨q, hq, e⟩ := hcv p.1 he.symm
    have hnd := hS.nodup
    rcases List.mem_append.1 hp with h | h
    · exact h
    · rw [List.map_append, List.nodup_append] at hnd
      exact (hnd.2.2 q.1 (List.mem_map.2 ⟨q, hq, rfl⟩) p.1 (List.mem_map.2 ⟨p, h, rfl⟩) e).elim
  · intro b hb
    obtain ⟨q, hq, e⟩ := hcv b hb.symm
    rw [← e]
    exact hS.apart q (List.mem_append_left _ hq)
  · intro p hp
    rcases hat p hp with h | h
    · obtain ⟨q, hq, e⟩ := hcv p.1 h
      exact .inl ⟨q, hq, e⟩
    · exact .inr h

theorem rowA_own {A : Option Addr} {l : List Value} {T : TypeId} {n cap : Nat} : ∀ p, p ∈ rowA A l T → (Value.slice A n cap).ownBlock = some p.1 := by
  intro p hp
  cases A with
  | none => simp [rowA] at hp
  | some ad =>
    simp only [rowA, List.mem_singleton] at hp
    subst hp
    rfl
theorem rowA_block {A : Option Addr} {l : List Value} {T : TypeId} {n cap : Nat} : ∀ b, (Value.slice A n cap).ownBlock = some b → ∃ p, p ∈ rowA A l T ∧ p.1 = b := by
  intro b hb
  cases A with
  | none => simp [Value.ownBlock] at hb
  | some ad =>
    simp only [Value.ownBlock, Option.some.injEq] at hb
    exact ⟨_, List.mem_singleton.2 rfl, hb⟩

/-- append(xs, ys...), xs an own slice (or nil). -/
theorem run_append_sh {t ty e bytes cap cap' : Nat} {A A' : Option Addr} {xs ys : List α} {sp : List Value} [hsl : SlTy P t e E.k] [hel : ElTy P e E.k bytes]
    (hO : OwnSl E A xs sp cap) (hS' : Sh B (rowA A (flat E xs ++ sp) e ++ R) w) (hr : RdAt E B (rowA A (flat E xs ++ sp) e ++ R) A' ys)
    (hb : (xs.length + ys.length) * bytes ≤ 140737488355328) (hb0 : 0 < bytes) :
    ∃ A2 sp2 cap2 w2, (Builtin.append_ #[t, t] ty #[.slice A xs.length cap, .slice A' ys.length cap']).run P w = .ok (.slice A2 (xs ++ ys).length cap2) w2 ∧
      OwnSl E A2 (xs ++ ys) sp2 cap2 ∧ Sh B (rowA A2 (flat E (xs ++ ys) ++ sp2) e ++ R) w2 := by
  obtain ⟨i, z, hi, hz, hsz, hby, hzs⟩ := hel.out
  have hown := hO.owns hS'
  have h63 : xs.length + ys.length ≤ maxLen := by
    have : xs.length + ys.length ≤ (xs.length + ys.length) * bytes := Nat.le_mul_of_pos_right _ hb0
    simp only [maxLen]; omega
  by_cases hy : 0 < ys.length
  · have hA' := hr.ok.form hy
    have hnews : ∀ j u, (flat E ys)[j]? = some u → w.cell? ((⟨blkA A', offA A', none⟩ : Addr).add j) = some u := by
      intro j u hu
      rw [Addr.add_mid]
      have hj : j < ys.length * E.k := by
        have := (List.getElem?_eq_some_iff.1 hu).1
        rwa [flat_length] at this
      have hk := E.pos
      have hdiv : j / E.k < ys.length := Nat.div_lt_of_lt_mul (by rw [Nat.mul_comm]; exact hj)
      have hmod : j % E.k < E.k := Nat.mod_lt _ hk
      have hdm : j / E.k * E.k + j % E.k = j := by rw [Nat.mul_comm]; exact Nat.div_add_mod j E.k
      have hx1 : ys[j / E.k]? = some ys[j / E.k] := List.getElem?_eq_getElem hdiv
      have hf : (E.cells ys[j / E.k])[j % E.k]? = some ((E.cells ys[j / E.k])[j % E.k]'(by rw [E.len]; exact hmod)) := List.getElem?_eq_getElem _
      have h1 := flat_get hx1 [] hf
      rw [List.append_nil, hdm, hu] at h1
      have h2 := hr.get (j / E.k) _ hx1 (j % E.k) _ hf w hS'
      rw [h1, ← h2, Nat.add_assoc, hdm]
    obtain ⟨v1, w1, hrun, hown1, hg, _, hat⟩ := run_append_own_at (P := P) w 0 t ty e i z E.k bytes hsl.under hi hz hsz hby hzs E.pos (.slice A xs.length cap) xs.length (flat E xs) hown ⟨blkA A', offA A', none⟩ ys.length cap' (flat E ys)
      (flat_length ys) hnews (flat_one ys) h63 hb (Nat.zero_le _)
    rw [← flat_append, ← List.length_append] at hown1
    obtain ⟨A2, sp2, cap2, rfl, hO2, ho2, hb2, _⟩ := OwnSl.of_owns hown1
    refine ⟨A2, sp2, cap2, w1, by rw [hA']; exact hrun, hO2, sh_of_grown hS' hg (run_drawn _ hrun) rowA_block ho2 ?_⟩
    intro p hp
    have hpb := hb2 p hp
    rcases hat with hat | hat
    · left; rw [← hat]; exact hpb
    · right
      rw [hat] at hpb
      have := Option.some.inj hpb
      omega
  · have hy0 : ys = [] := List.eq_nil_of_length_eq_zero (by omega)
    subst hy0
    have hrun : (Builtin.append_ #[t, t] ty #[.slice A xs.length cap, .slice A' 0 cap']).run P w = .ok (.slice A xs.length cap) w := by
      cases hA : A with
      | none =>
        obtain ⟨h1, h2, h3⟩ := hO.nil hA
        subst h1; subst h3
        cases hA' : A' <;> simp [Builtin.append_, Sem.run_bind, run_underlying hsl.under, sizeOf, typeInfo, program, Sem.run, hi, Builtin.lenOf, Builtin.firstCells, loadCells, loadCellsFrom]
      | some ad =>
        have hle := hO.len_le
        cases hA' : A' <;> simp [Builtin.append_, Sem.run_bind, run_underlying hsl.under, sizeOf, typeInfo, program, Sem.run, hi, Builtin.lenOf, Builtin.firstCells, loadCells, loadCellsFrom, hle, storeCells]
    exact ⟨A, sp, cap, w, by simpa using hrun, by simpa using hO, by simpa using hS'⟩

theorem RdAt.perm {H H' : HL} {a : Option Addr} {xs : List α} (h : RdAt E B H a xs) (p : H'.Perm H) : RdAt E B H' a xs := ⟨h.ok, h.max, fun j x hj f v hv w hS => h.get j x hj f v hv w (hS.perm p)⟩

theorem wl_append {t e bytes cap cap' : Nat} {s x : Operand} {A A' : Option Addr} {xs ys : List α} {sp : List Value} (hw : Region.wanted o (yielded ops a.tmps) = true)
    (ho : o.op = .call { callee := .builtin .append, args := #[s, x], argTypes := #[t, t] }) [hsl : SlTy P t e E.k] [hel : ElTy P e E.k bytes]
    (hs : a.eval s = .slice A xs.length cap) (hx : a.eval x = .slice A' ys.length cap') (hS : Sh B H w) (hO : OwnSl E A xs sp cap) {C : HL → HL} [hp : CtxRow H A (flat E xs ++ sp) e C] (hr : RdAt E B H A' ys)
    (hb : (xs.length + ys.length) * bytes ≤ 140737488355328) (hb0 : 0 < bytes)
    (h : ∀ A2 sp2 cap2 w2, OwnSl E A2 (xs ++ ys) sp2 cap2 → Sh B (C (rowA A2 (flat E (xs ++ ys) ++ sp2) e)) w2 → wpList P ops Q rest (a.put o.dst (.slice A2 (xs ++ ys).length cap2)) w2) : wpList P ops Q (o :: rest) a w := by
  have hctx := hp.ctx
  have hpk := hctx.choose_spec (rowA A (flat E xs ++ sp) e)
  have hS0 : Sh B (rowA A (flat E xs ++ sp) e ++ hctx.choose) w := (hp.eq ▸ hS).pick hpk
  obtain ⟨A2, sp2, cap2, w2, hrun, hO2, hS2⟩ := run_append_sh (P := P) (ty := o.type) (t := t) (cap' := cap') hO hS0 (hr.perm (by rw [hp.eq]; exact hpk.symm)) hb hb0
  refine wl_to hw ?_ (h A2 sp2 cap2 w2 hO2 (hS2.perm (hctx.choose_spec (rowA A2 (flat E (xs ++ ys) ++ sp2) e)).symm))
  simp only [execOp, ho, resolve, invoke, builtin, Sem.run_bind, Sem.run_pure, Result.andThen_ok, List.map_toArray, List.map_cons, List.map_nil, hs, hx, hrun]
end
end Go.Tk
