/- Own slices that begin inside their block, parts of slices, and append to them. -/
import Derived.Test.YtclmemhginekbaaDoorTkM
set_option linter.unusedSectionVars false
set_option linter.unusedSimpArgs false
set_option linter.unusedVariables false
namespace Go.Tk
open Go.RowKit

/-- An own slice with dead cells ahead of it. -/
class OwnD {α : outParam Type} (E : outParam (Enc α)) (a : Option Addr) (dead : outParam (List Value)) (xs : outParam (List α)) (sp : outParam (List Value)) (cap : outParam Nat) : Prop where
  nil : a = none → dead = [] ∧ xs = [] ∧ sp = [] ∧ cap = 0
  form : ∀ ad, a = some ad → ad = ⟨ad.block, dead.length, none⟩
  le : xs.length ≤ cap
  room : cap * E.k ≤ xs.length * E.k + sp.length
  max : cap ≤ maxLen
abbrev rowD {α : Type} (E : Enc α) (A : Option Addr) (dead : List Value) (xs : List α) (sp : List Value) (T : TypeId) : HL := rowA A (dead ++ (flat E xs ++ sp)) T

section
variable {α : Type} {E : Enc α} {B : Base} {H R : HL} {w : World} {A : Option Addr} {xs : List α} {dead sp : List Value} {cap : Nat}
theorem OwnD.nothing : OwnD E none [] [] [] 0 := ⟨fun _ => ⟨rfl, rfl, rfl, rfl⟩, (fun _ h => nomatch h), Nat.le_refl _, by simp, Nat.zero_le _⟩
theorem OwnD.of (h : OwnSl E A xs sp cap) : OwnD E A [] xs sp cap := ⟨fun e => by obtain ⟨h1, h2, h3⟩ := h.nil e; exact ⟨rfl, h1, h2, h3⟩, h.form, h.len_le, Nat.le_of_eq h.capEq.symm, h.max⟩
theorem OwnD.ok (h : OwnD E A dead xs sp cap) : SlOk A xs.length := by
  intro hn
  cases A with
  | none => have := (h.nil rfl).2.1; subst this; simp at hn
  | some ad => rw [h.form ad rfl]; exact ⟨_, _, rfl⟩
theorem OwnD.at_ {T : TypeId} (h : OwnD E A dead xs sp cap) [hp : HasRow H A (dead ++ (flat E xs ++ sp)) T R] : RdAt E B H A xs := {
  ok := h.ok
  max := by have := h.le; have := h.max; unfold maxLen at this; omega
  get j x hj f v hv w hS := by
    have hS' := hS.pick hp.out
    cases ha : A with
    | none => have := (h.nil ha).2.1; subst this; simp at hj
    | some ad =>
      subst ha
      have hf := h.form ad rfl
      have ho := hS'.own (ad.block, .cells (dead ++ (flat E xs ++ sp)).toArray T (0, 0)) (by simp [rowA])
      rw [hf]
      simp only [blkA, offA, World.cell?]
      rw [ho]
      have hg := flat_get hj sp hv
      simp only [List.getElem?_toArray]
      rw [List.getElem?_append_right (by omega), show dead.length + j * E.k + f - dead.length = j * E.k + f by omega]
      exact hg }
instance RdAt.ofOwnD {T : TypeId} [h : OwnD E A dead xs sp cap] [hp : HasRow H A (dead ++ (flat E xs ++ sp)) T R] : RdAt E B H A xs := h.at_

/-- The front of it; the rest of it. -/
theorem OwnD.take (h : OwnD E A dead xs sp cap) (k : Nat) (hk : k ≤ xs.length) : OwnD E A dead (xs.take k) (flat E (xs.drop k) ++ sp) cap ∧ dead ++ (flat E (xs.take k) ++ (flat E (xs.drop k) ++ sp)) = dead ++ (flat E xs ++ sp) := by
  have hl : (xs.take k).length = k := by rw [List.length_take]; omega
  refine ⟨⟨fun e => ?_, h.form, ?_, ?_, h.max⟩, ?_⟩
  · obtain ⟨h1, h2, h3, h4⟩ := h.nil e
    subst h2; subst h3
    exact ⟨h1, by simp, by simp [flat], h4⟩
  · rw [hl]; have := h.le; omega
  · have := h.room
    have e1 : xs.length * E.k = k * E.k + (xs.length - k) * E.k := by rw [← Nat.add_mul]; congr 1; omega
    rw [hl, List.length_append, flat_length, List.length_drop]
    omega
  · rw [← List.append_assoc (flat E (xs.take k)), ← flat_append, List.take_append_drop]
theorem OwnD.drop (h : OwnD E A dead xs sp cap) (k : Nat) (hk : k ≤ xs.length) : ∃ d2 sp2, OwnD E (if cap = k then A else A.map (·.add (k * E.k))) d2 (xs.drop k) sp2 (cap - k) ∧ d2 ++ (flat E (xs.drop k) ++ sp2) = dead ++ (flat E xs ++ sp) ∧
    ∀ l T, rowA (if cap = k then A else A.map (·.add (k * E.k))) l T = rowA A l T := by
  have hle := h.le
  by_cases hc : cap = k
  · have hx : xs.drop k = [] := List.drop_eq_nil_of_le (by omega)
    rw [if_pos hc, hx]
    refine ⟨dead, flat E xs ++ sp, ⟨fun e => ?_, h.form, by simp, by simp [hc], by have := h.max; omega⟩, by simp [flat], fun _ _ => rfl⟩
    obtain ⟨h1, h2, h3, h4⟩ := h.nil e
    subst h1; subst h2; subst h3
    exact ⟨rfl, rfl, rfl, by omega⟩
  · rw [if_neg hc]
    have hl : (xs.drop k).length = xs.length - k := List.length_drop ..
    have hcat : flat E (xs.take k) ++ flat E (xs.drop k) = flat E xs := by rw [← flat_append, List.take_append_drop]
    refine ⟨dead ++ flat E (xs.take k), sp, ⟨fun e => ?_, fun ad e => ?_, by rw [hl]; omega, ?_, by have := h.max; omega⟩, ?_, fun l T => ?_⟩
    · cases A with
      | none => have := (h.nil rfl).2.2.2; omega
      | some ad => cases e
    · cases A with
      | none => cases e
      | some a0 =>
        have hf := h.form a0 rfl
        have hlt : (xs.take k).length = k := by rw [List.length_take]; omega
        simp only [Option.map_some, Option.some.injEq] at e
        subst e
        rw [hf, Addr.add_mid, List.length_append, flat_length, hlt]
    · have h1 := h.room
      rw [hl]
      have e1 : xs.length * E.k = k * E.k + (xs.length - k) * E.k := by rw [← Nat.add_mul]; congr 1; omega
      have e2 : cap * E.k = k * E.k + (cap - k) * E.k := by rw [← Nat.add_mul]; congr 1; omega
      omega
    · rw [← hcat]; simp
    · cases A with
      | none => rfl
      | some a0 =>
        have hf := h.form a0 rfl
        rw [hf]
        simp [rowA, Addr.add_mid]
end

section
variable {P : Program} {ops : Array Oper} {Q : Exit → Act → World → Prop} {rest : List Oper} {o : Oper} {a : Act} {B : Base} {H R : HL} {w : World} {α : Type} {E : Enc α}
theorem flat_cells_at {A' : Option Addr} {ys : List α} (hr : RdAt E B H A' ys) (hS : Sh B H w) : ∀ j u, (flat E ys)[j]? = some u → w.cell? ((⟨blkA A', offA A', none⟩ : Addr).add j) = some u := by
  intro j u hu
  rw [Addr.add_mid]
  have hj : j < ys.length * E.k := by
    have := (List.getElem?_eq_some_iff.1 hu).1
    rwa [flat_length] at this
  have hk := E.pos
  have hdiv : j / E.k < ys.length := Nat.div_lt_of_lt_mul (by rw [Nat.mul_comm]; exact hj)
  have hmod : j % E.k < E.k := Nat.mod_lt _ hk
  have hdm : j / E.k * E.k + j % E.k = j := by rw [Nat.mul_comm]; exact Nat.div_add_mod j E.k
  have hx1 : ys[j / E.k]? = some ys[j / E.k] := List.getElem?_eq_getElem hdiv
  have hf : (E.cells ys[j / E.k])[j % E.k]? = some ((E.cells ys[j / E.k])[j % E.k]'(by rw [E.len]; exact hmod)) := List.getElem?_eq_getElem _
  have h1 := flat_get hx1 [] hf
  rw [List.append_nil, hdm, hu] at h1
  have h2 := hr.get (j / E.k) _ hx1 (j % E.k) _ hf w hS
  rw [h1, ← h2, Nat.add_assoc, hdm]

/-- append(xs, ys...), xs an own slice that may begin inside its block. -/
theorem run_append_D {t ty e bytes cap cap' : Nat} {A A' : Option Addr} {dead : List Value} {xs ys : List α} {sp : List Value} [hsl : SlTy P t e E.k] [hel : ElTy P e E.k bytes]
    (hO : OwnD E A dead xs sp cap) (hS' : Sh B (rowD E A dead xs sp e ++ R) w) (hr : RdAt E B (rowD E A dead xs sp e ++ R) A' ys) (hy : 0 < ys.length)
    (hb : (xs.length + ys.length) * bytes ≤ 140737488355328) (hb0 : 0 < bytes) :
    ∃ A2 dead2 sp2 cap2 w2, (Builtin.append_ #[t, t] ty #[.slice A xs.length cap, .slice A' ys.length cap']).run P w = .ok (.slice A2 (xs ++ ys).length cap2) w2 ∧
      OwnD E A2 dead2 (xs ++ ys) sp2 cap2 ∧ Sh B (rowD E A2 dead2 (xs ++ ys) sp2 e ++ R) w2 := by
  cases hA : A with
  | none =>
    subst hA
    obtain ⟨h1, h2, h3, h4⟩ := hO.nil rfl
    subst h1; subst h2; subst h3; subst h4
    obtain ⟨A2, sp2, cap2, w2, hrun, hO2, hS2⟩ := run_append_sh (P := P) (t := t) (ty := ty) (cap' := cap') (OwnSl.nothing (E := E)) hS' hr hb hb0
    exact ⟨A2, [], sp2, cap2, w2, hrun, OwnD.of hO2, hS2⟩
  | some ad =>
    subst hA
    obtain ⟨i, z, hi, hz, hsz, hby, hzs⟩ := hel.out
    have hform := hO.form ad rfl
    have hA' := hr.ok.form hy
    have hnews := flat_cells_at hr hS'
    have h63 : xs.length + ys.length ≤ maxLen := by
      have : xs.length + ys.length ≤ (xs.length + ys.length) * bytes := Nat.le_mul_of_pos_right _ hb0
      simp only [maxLen]; omega
    by_cases hroom : xs.length + ys.length ≤ cap
    · have hrm := hO.room
      have hmul : (xs.length + ys.length) * E.k ≤ cap * E.k := Nat.mul_le_mul_right _ hroom
      rw [Nat.add_mul] at hmul
      have hS0 : Sh B (cellB ad.block (dead ++ (flat E xs ++ sp)) e ++ R) w := hS'
      obtain ⟨w2, hst, hS2⟩ := run_storeCells_sh (P := P) (off := dead.length + xs.length * E.k) (flat E ys) 0 _ w hS0 (by simp [flat_length]; omega) (flat_one ys)
      have hf := run_firstCells_some (P := P) w E.k ys.length ⟨blkA A', offA A', none⟩ ys.length cap' (flat E ys) (flat_length ys) hnews
      refine ⟨some ad, dead, sp.drop (ys.length * E.k), cap, w2, ?_, ⟨(fun h => by cases h), hO.form, by simpa using hroom, by simp [Nat.add_mul]; omega, hO.max⟩, ?_⟩
      · rw [hform, hA']
        simp [Builtin.append_, run_underlying hsl.under, sizeOf, typeInfo, hi, hsz, Builtin.lenOf, hroom, hf, Addr.add_lit, hst]
      · rw [Nat.add_zero, splice_eq _ _ _ (by simp [flat_length]; omega)] at hS2
        have e1 : (dead ++ (flat E xs ++ sp)).take (dead.length + xs.length * E.k) = dead ++ flat E xs := by
          rw [← List.append_assoc, List.take_append_of_le_length (by simp [flat_length])]
          exact List.take_of_length_le (by simp [flat_length])
        have e2 : (dead ++ (flat E xs ++ sp)).drop (dead.length + xs.length * E.k + (flat E ys).length) = sp.drop (ys.length * E.k) := by
          rw [← List.append_assoc, List.drop_append, List.drop_of_length_le (by simp [flat_length])]
          simp [flat_length]
        rw [e1, e2] at hS2
        show Sh B (rowA (some ad) (dead ++ (flat E (xs ++ ys) ++ sp.drop (ys.length * E.k))) e ++ R) w2
        rw [flat_append]
        have e3 : dead ++ (flat E xs ++ flat E ys ++ sp.drop (ys.length * E.k)) = dead ++ flat E xs ++ flat E ys ++ sp.drop (ys.length * E.k) := by simp
        rw [e3]
        exact hS2
    · have holds := flat_cells_at (hO.at_ (B := B) (H := rowD E (some ad) dead xs sp e ++ R) (T := e) (R := R) (hp := ⟨PickL.hd⟩)) hS'
      have hb1 : blkA (some ad) = ad.block := rfl
      have hb2 : offA (some ad) = dead.length := by rw [hform]; rfl
      rw [hb1, hb2] at holds
      have hb' : (xs.length + ys.length) * i.bytes ≤ 140737488355328 := by rw [hby]; exact hb
      have hrun := run_append_grow (P := P) w t ty e i z hsl.under hi hz ⟨ad.block, dead.length, none⟩ xs.length cap (flat E xs) (by rw [hsz]; exact flat_length xs) holds ⟨blkA A', offA A', none⟩ ys.length cap' (flat E ys) (by rw [hsz]; exact flat_length ys) hnews (by omega) (by simp only [maxLen] at h63; omega) (growslice_fits (by omega) hb')
      have hge := grownCap_ge w (xs.length + ys.length) cap e
      have hcm : grownCap w (xs.length + ys.length) cap e ≤ maxLen := grownCap_le_maxLen w _ cap e h63
      refine ⟨some ⟨w.heap.size, 0, none⟩, [], (Builtin.zeroCells z.cells (grownCap w (xs.length + ys.length) cap e - (xs.length + ys.length))).toList, grownCap w (xs.length + ys.length) cap e, w.drew.alloc (.cells ((flat E xs).toArray ++ (flat E ys).toArray ++ Builtin.zeroCells z.cells (grownCap w (xs.length + ys.length) cap e - (xs.length + ys.length))) e), ?_, ⟨(fun h => by cases h), fun ad h => by cases h; rfl, by simpa using hge, ?_, hcm⟩, ?_⟩
      · rw [hform, hA', hrun, List.length_append]
      · simp only [Array.length_toList, size_zeroCells, hzs, List.length_append, ← Nat.add_mul]
        exact Nat.mul_le_mul_right _ (by omega)
      · have hS1 := hS'.drew
        have hS2 := hS1.alloc (.cells ((flat E xs).toArray ++ (flat E ys).toArray ++ Builtin.zeroCells z.cells (grownCap w (xs.length + ys.length) cap e - (xs.length + ys.length))) e)
        have hsz2 : w.drew.heap.size = w.heap.size := rfl
        refine hS2.sub ?_
        have e1 : (flat E xs).toArray ++ (flat E ys).toArray ++ Builtin.zeroCells z.cells (grownCap w (xs.length + ys.length) cap e - (xs.length + ys.length)) = ([] ++ (flat E (xs ++ ys) ++ (Builtin.zeroCells z.cells (grownCap w (xs.length + ys.length) cap e - (xs.length + ys.length))).toList)).toArray := by
          apply Array.ext'
          simp [flat_append]
        rw [e1]
        exact List.Sublist.cons_cons _ (List.sublist_append_right _ _)
theorem wl_apD {t e bytes cap cap' nx ny : Nat} {s x : Operand} {A A' : Option Addr} {dead : List Value} {xs ys : List α} {sp : List Value} (hw : Region.wanted o (yielded ops a.tmps) = true)
    (ho : o.op = .call { callee := .builtin .append, args := #[s, x], argTypes := #[t, t] }) [hsl : SlTy P t e E.k] [hel : ElTy P e E.k bytes]
    (hs : a.eval s = .slice A nx cap) (hx : a.eval x = .slice A' ny cap') (hS : Sh B H w) [hO : OwnD E A dead xs sp cap] {C : HL → HL} [hp : CtxRow H A (dead ++ (flat E xs ++ sp)) e C] [hr : RdAt E B H A' ys] (hnx : nx = xs.length) (hny : ny = ys.length) (hy : 0 < ys.length)
    (hb : (xs.length + ys.length) * bytes ≤ 140737488355328) (hb0 : 0 < bytes)
    (h : ∀ A2 dead2 sp2 cap2 w2, OwnD E A2 dead2 (xs ++ ys) sp2 cap2 → Sh B (C (rowA A2 (dead2 ++ (flat E (xs ++ ys) ++ sp2)) e)) w2 → wpList P ops Q rest (a.put o.dst (.slice A2 (xs ++ ys).length cap2)) w2) : wpList P ops Q (o :: rest) a w := by
  subst hnx; subst hny
  have hctx := hp.ctx
  have hpk := hctx.choose_spec (rowA A (dead ++ (flat E xs ++ sp)) e)
  have hS0 : Sh B (rowA A (dead ++ (flat E xs ++ sp)) e ++ hctx.choose) w := (hp.eq ▸ hS).pick hpk
  obtain ⟨A2, dead2, sp2, cap2, w2, hrun, hO2, hS2⟩ := run_append_D (P := P) (ty := o.type) (t := t) (cap' := cap') hO hS0 (hr.perm (by rw [hp.eq]; exact hpk.symm)) hy hb hb0
  refine wl_to hw ?_ (h A2 dead2 sp2 cap2 w2 hO2 (hS2.perm (hctx.choose_spec (rowA A2 (dead2 ++ (flat E (xs ++ ys) ++ sp2)) e)).symm))
  simp only [execOp, ho, resolve, invoke, builtin, Sem.run_bind, Sem.run_pure, Result.andThen_ok, List.map_toArray, List.map_cons, List.map_nil, hs, hx, hrun]

/-- x[:h], x[l:]. -/
theorem elem_of {t e k : Nat} (h : SlTy P t e k) : P.underlying t = some (.slice (P.elem t)) ∧ (P.info? (P.elem t)).map (·.size) = some k := by
  have : P.elem t = e := by simp [Program.elem, h.under]
  rw [this]
  exact ⟨h.under, h.size⟩
theorem ex_cutH {t e k n cap h : Nat} {x hi : Operand} {kk : IntKind} {A : Option Addr} [hsl : SlTy P t e k] (ho : o.op = .slice t x none (some hi) none) (hx : a.eval x = .slice A n cap) (hh : a.eval hi = .int kk (h : Int)) (hle : h ≤ cap) :
    (execOp a.eval o).run P w = .ok (.value (.slice A h cap)) w := by
  obtain ⟨h1, h2⟩ := elem_of hsl
  have hr := run_slice_h (P := P) (w := w) t A n cap h1 kk (h : Int) (by omega) (by omega)
  rw [run_sizeOf h2] at hr
  have e0 : A.map (fun x => x.add 0) = A := by
    cases A with
    | none => rfl
    | some ad => simp [Addr.add]
  simp only [execOp, ho, Option.map, hx, hh]
  simp [run_sliceAt_slice w t _ _ _ _ h1, hr, sliced, Result.andThen]
  exact fun _ => e0
theorem ex_cutL {t e k n cap l : Nat} {x lo : Operand} {kk : IntKind} {A : Option Addr} [hsl : SlTy P t e k] (ho : o.op = .slice t x (some lo) none none) (hx : a.eval x = .slice A n cap) (hh : a.eval lo = .int kk (l : Int)) (hle : l ≤ n) :
    (execOp a.eval o).run P w = .ok (.value (.slice (if cap = l then A else A.map (·.add (l * k))) (n - l) (cap - l))) w := by
  obtain ⟨h1, h2⟩ := elem_of hsl
  have hr := run_slice_l (P := P) (w := w) t A n cap h1 kk (l : Int) (by omega) (by omega)
  rw [run_sizeOf h2] at hr
  simp only [execOp, ho, Option.map, hx, hh]
  simp [run_sliceAt_slice w t _ _ _ _ h1, hr, sliced, Result.andThen]
  cases A <;> rfl
/-- x[l:], of an own slice, from there on by its rest. -/
theorem wl_cutL {t e n cap l T : Nat} {x lo : Operand} {kk : IntKind} {A : Option Addr} {dead : List Value} {xs : List α} {sp : List Value} (hw : Region.wanted o (yielded ops a.tmps) = true) [hsl : SlTy P t e E.k] (ho : o.op = .slice t x (some lo) none none) (hx : a.eval x = .slice A n cap) (hh : a.eval lo = .int kk (l : Int))
    (hS : Sh B H w) (hO : OwnD E A dead xs sp cap) {C : HL → HL} [hp : CtxRow H A (dead ++ (flat E xs ++ sp)) T C] (hn : n = xs.length) (hle : l ≤ xs.length)
    (h : ∀ A2 d2 sp2, OwnD E A2 d2 (xs.drop l) sp2 (cap - l) → Sh B (C (rowA A2 (d2 ++ (flat E (xs.drop l) ++ sp2)) T)) w → wpList P ops Q rest (a.put o.dst (.slice A2 (xs.drop l).length (cap - l))) w) : wpList P ops Q (o :: rest) a w := by
  subst hn
  obtain ⟨d2, sp2, hO2, he, hrow⟩ := hO.drop l hle
  refine wl_value hw (ex_cutL ho hx hh hle) ?_
  rw [← List.length_drop]
  refine h _ d2 sp2 hO2 ?_
  rw [he, hrow]
  exact hp.eq ▸ hS
end
end Go.Tk
