/- Ranging over a map; slices written out; parts of structs. -/
import Derived.Test.YtclmemhginekbaaDoorTkE
import Derived.Maps.RangeRun
set_option linter.unusedSectionVars false
set_option linter.unusedSimpArgs false
set_option linter.unusedVariables false
namespace Go.Tk
open Go.RowKit


structure IterIs {κ ν : Type} (kv : κ → Value) (vv : ν → Value) (es : Array MapEntry) (seen : Array Nat) (left : List (κ × ν)) : Prop where
  left : ∃ left' : List (κ × ν), left'.Perm left ∧ (leftOf es seen).toList.map (fun e => (e.key, e.val)) = left'.map (fun p => (kv p.1, vv p.2))

/-- The entry that the last step handed out. -/
structure CurIs {κ ν : Type} (kv : κ → Value) (vv : ν → Value) (es : Array MapEntry) (seen : Array Nat) (p : κ × ν) : Prop where
  out : ∃ (e : MapEntry) (s0 : Array Nat), e ∈ es.toList ∧ seen = s0.push e.born ∧ e.key = kv p.1 ∧ e.val = vv p.2

section
variable {P : Program} {ops : Array Oper} {Q : Exit → Act → World → Prop} {rest : List Oper} {o : Oper} {a : Act} {B : Base} {H R : HL} {w : World}
variable {κ ν : Type} {kv : κ → Value} {vv : ν → Value}

theorem leftOf_nil (es : Array MapEntry) : leftOf es #[] = es := by
  unfold leftOf
  simp

theorem wl_range {t K V b : Nat} {x : Operand} [hM : MapTy P t K V] {es : Array MapEntry} {clock : Nat} {m : List (κ × ν)} (hm : MapIs kv vv es clock m) (hw : Region.wanted o (yielded ops a.tmps) = true) (ho : o.op = .range t x)
    (hx : a.eval x = .map (some b)) (hS : Sh B H w) [hp : HasMap H b es clock R] 
    (h : ∀ r w', Sh B (iterB r b clock #[] clock ++ H) w' → IterIs kv vv es #[] m → wpList P ops Q rest (a.put o.dst (.pointer (some ⟨r, 0, none⟩))) w') : wpList P ops Q (o :: rest) a w := by
  have hb : w.heap[b]? = some (.map es clock) := (hS.pick hp.out).own (b, .map es clock) (by simp [mapB])
  have hg : (getObj b).run P w = .ok (.map es clock) w := by simp [getObj, Sem.run, hb]
  refine wl_to (w' := w.alloc (.mapIter (some b) clock #[] clock)) hw ?_ (h _ _ (hS.alloc _) (by obtain ⟨m', hpm, hm0⟩ := hm.out; exact ⟨m', hpm, by rw [leftOf_nil]; exact hm0.ents⟩))
  simp [execOp, ho, hx, Instr.range, Sem.run_bind, run_underlying hM.under, hg, newObj, Sem.run]

theorem leftOf_push (es : Array MapEntry) (seen : Array Nat) (b : Nat) : leftOf es (seen.push b) = (leftOf es seen).filter (fun e => !(e.born == b)) := by
  unfold leftOf
  rw [Array.filter_filter]
  congr 1
  funext e
  by_cases h1 : e.born = b <;> by_cases h2 : e.born ∈ seen <;> simp [h1, h2]

theorem filter_born : ∀ (l1 : List MapEntry) (e : MapEntry) (l2 : List MapEntry), ((l1 ++ e :: l2).map (·.born)).Pairwise (· < ·) → (l1 ++ e :: l2).filter (fun x => !(x.born == e.born)) = l1 ++ l2 := by
  intro l1 e l2 h
  simp only [List.map_append, List.map_cons, List.pairwise_append, List.pairwise_cons] at h
  obtain ⟨_, ⟨h2, _⟩, h3⟩ := h
  rw [List.filter_append, List.filter_cons]
  have e1 : l1.filter (fun x => !(x.born == e.born)) = l1 := by
    rw [List.filter_eq_self]
    intro x hx
    have := h3 x.born (List.mem_map.2 ⟨x, hx, rfl⟩) e.born (List.mem_cons_self ..)
    simp; omega
  have e2 : l2.filter (fun x => !(x.born == e.born)) = l2 := by
    rw [List.filter_eq_self]
    intro x hx
    have := h2 x.born (List.mem_map.2 ⟨x, hx, rfl⟩)
    simp; omega
  simp [e1, e2]

theorem wl_next {b r clock : Nat} {x : Operand} {es : Array MapEntry} {seen : Array Nat} {m left : List (κ × ν)} (hm : MapIs kv vv es clock m) (hw : Region.wanted o (yielded ops a.tmps) = true) (ho : o.op = .next x false)
    (hx : a.eval x = .pointer (some ⟨r, 0, none⟩)) (hS : Sh B H w) {C : HL → HL} [hpi : CtxIter H r b clock seen clock C] [hp : HasMap H b es clock R]  (hi : IterIs kv vv es seen left)
    (h0 : left = [] → wpList P ops Q rest (a.put o.dst (.tuple #[.bool false])) w)
    (h1 : ∀ l1 p l2, left = l1 ++ p :: l2 → ∀ seen' w', Sh B (C (iterB r b clock seen' clock)) w' → IterIs kv vv es seen' (l1 ++ l2) → CurIs kv vv es seen' p →
      wpList P ops Q rest (a.put o.dst (.tuple #[.bool true, kv p.1, vv p.2])) w') : wpList P ops Q (o :: rest) a w := by
  obtain ⟨R0, hS', back⟩ := Sh.out (hpi.eq ▸ hS) hpi.ctx
  have hr : w.heap[r]? = some (.mapIter (some b) clock seen clock) := hS'.own (r, .mapIter (some b) clock seen clock) (by simp [iterB])
  have hb : w.heap[b]? = some (.map es clock) := hS.own (b, .map es clock) (PickL.mem hp.out (by simp [mapB]))
  obtain ⟨m', hpm, hm⟩ := hm.out
  obtain ⟨left', hpl, hi⟩ := hi.left
  rcases run_next_at (P := P) w o.type r b clock clock seen es clock hr hb hm.clock (Nat.le_refl _) with ⟨hz, hrun⟩ | ⟨e, he, w1, hw1, hrun⟩
  · have hl : left = [] := by
      have := congrArg List.length hi
      simp only [List.length_map, Array.length_toList, hz] at this
      exact List.eq_nil_of_length_eq_zero (by rw [← hpl.length_eq]; exact this.symm)
    exact wl_value hw (by simp [execOp, ho, hx, hrun]) (h0 hl)
  · obtain ⟨L1, L2, hL⟩ := List.append_of_mem he
    have hl := hi
    rw [hL, List.map_append, List.map_cons] at hl
    obtain ⟨l1, l2', hll, hl1, hl2⟩ := List.map_eq_append_iff.1 hl.symm
    obtain ⟨p, l2, rfl, hpe, hl2⟩ := List.map_eq_cons_iff.1 hl2
    simp only [Prod.mk.injEq] at hpe
    refine wl_to (w' := setB w1 r (.mapIter (some b) clock (seen.push e.born) clock)) (v := .tuple #[.bool true, e.key, e.val]) hw (by simp only [execOp, ho, hx, Sem.run_bind, hrun]; rfl) ?_
    rw [← hpe.1, ← hpe.2]
    have hpin : p ∈ left := hpl.mem_iff.1 (by rw [hll]; simp)
    obtain ⟨k1, k2, hk⟩ := List.append_of_mem hpin
    have hkp : (l1 ++ l2).Perm (k1 ++ k2) := by
      rw [hll, hk] at hpl
      exact (List.perm_cons p).1 (List.perm_middle.symm.trans (hpl.trans List.perm_middle))
    refine h1 k1 p k2 hk (seen.push e.born) _ ?_ ⟨_, hkp, ?_⟩ ⟨e, seen, ?_, rfl, hpe.1.symm, hpe.2.symm⟩
    · have hS1 : Sh B (iterB r b clock seen clock ++ R0) w1 := by
        rcases hw1 with rfl | rfl
        · exact hS'
        · exact hS'.drew
      exact back _ _ (Sh.setB (H := R0) (b := r) hS1 _)
    · have hpw : ((leftOf es seen).toList.map (·.born)).Pairwise (· < ·) := by
        have hsub : (leftOf es seen).toList.Sublist es.toList := by
          unfold leftOf
          rw [Array.toList_filter]
          exact List.filter_sublist
        exact hm.born.sublist (hsub.map _)
      rw [leftOf_push, Array.toList_filter, hL, filter_born L1 e L2 (by rw [← hL]; exact hpw)]
      simp [hl1, hl2]
    · have : e ∈ (leftOf es seen).toList := he
      unfold leftOf at this
      rw [Array.toList_filter] at this
      exact (List.mem_filter.1 this).1

theorem wl_entry {b r clock : Nat} {x : Operand} {es : Array MapEntry} {seen : Array Nat} {m : List (κ × ν)} {p : κ × ν} (hm : MapIs kv vv es clock m) (hw : Region.wanted o (yielded ops a.tmps) = true) (ho : o.op = .entry x)
    (hx : a.eval x = .pointer (some ⟨r, 0, none⟩)) (hS : Sh B H w) {R' : HL} [hpi : HasIter H r b clock seen clock R] [hp : HasMap H b es clock R']  (hc : CurIs kv vv es seen p)
    (h : wpList P ops Q rest (a.put o.dst (.tuple #[kv p.1, vv p.2])) w) : wpList P ops Q (o :: rest) a w := by
  have hS' := hS.pick hpi.out
  obtain ⟨e, s0, he, rfl, hk, hv⟩ := hc.out
  have hr : w.heap[r]? = some (.mapIter (some b) clock (s0.push e.born) clock) := hS'.own (r, .mapIter (some b) clock (s0.push e.born) clock) (by simp [iterB])
  have hb : w.heap[b]? = some (.map es clock) := hS.own (b, .map es clock) (PickL.mem hp.out (by simp [mapB]))
  have hn : (es.toList.map (·.born)).Nodup := by
    obtain ⟨m', hpm, hm⟩ := hm.out
    refine hm.born.imp ?_
    intro a b h e; omega
  have := run_entry_at (P := P) w r b clock s0 es clock e hr hb he hn
  rw [hk, hv] at this
  exact wl_value hw (by simp [execOp, ho, hx, this]) h
end

/-! ### Slices written out -/
theorem fill_all {k : Nat} : ∀ (vss : List (List Value)) (i : Nat) (pre post : List Value), (∀ vs ∈ vss, vs.length = k) → pre.length = i * k → post.length = vss.length * k →
    ∀ vals : List Value, vals.map (·.cells) = vss.map (·.toArray) →
    Instr.fill (fun j => some (j * k, k)) (pre ++ post).toArray ((vals.zipIdx i).map fun p => (p.2, p.1)) = some (pre ++ vss.flatten).toArray
  | [], i, pre, post, _, _, hpost, vals, hv => by
    have h0 : vals = [] := by simpa using hv
    have h1 : post = [] := List.eq_nil_of_length_eq_zero (by simpa using hpost)
    subst h0; subst h1
    simp [Instr.fill]
  | vs :: vss, i, pre, post, hk, hpre, hpost, vals, hv => by
    match vals, hv with
    | v :: vals, hv =>
      simp only [List.map_cons, List.cons.injEq] at hv
      obtain ⟨hv1, hv2⟩ := hv
      have hvs := hk vs (List.mem_cons_self ..)
      simp only [List.length_cons, Nat.succ_mul] at hpost
      simp only [List.zipIdx_cons, List.map_cons, Instr.fill, hv1]
      have hc1 : vs.toArray.size = k := by simpa using hvs
      have hfold : ∀ (us : List Value) (n : Nat) (cs : List Value), (us.zipIdx n).foldl (fun (cs : Array Value) (x : Value × Nat) => cs.setIfInBounds (i * k + x.2) x.1) cs.toArray = (splice cs (i * k + n) us).toArray := by
        intro us
        induction us with
        | nil => intro n cs; simp [splice]
        | cons u us ih =>
          intro n cs
          have := ih (n + 1) (cs.set (i * k + n) u)
          rw [splice]
          simp only [List.zipIdx_cons, List.foldl_cons, List.setIfInBounds_toArray]
          rw [show i * k + n + 1 = i * k + (n + 1) from by omega, ← this]
      have hsp := hfold vs 0 (pre ++ post)
      simp only [Nat.add_zero] at hsp
      rw [if_neg (by simp [hc1, hpre]; omega)]
      have e2 : splice (pre ++ post) (i * k) vs = (pre ++ vs) ++ post.drop k := by
        rw [splice_eq _ _ _ (by simp; omega), ← hpre, ← hvs]
        simp
      have hsp' : vs.toArray.zipIdx.foldl (fun (cs : Array Value) (x : Value × Nat) => cs.setIfInBounds (i * k + x.2) x.1) (pre ++ post).toArray = ((pre ++ vs) ++ post.drop k).toArray := by
        rw [← e2, ← hsp, ← Array.foldl_toList, Array.toList_zipIdx]
      rw [hsp']
      rw [fill_all vss (i + 1) (pre ++ vs) (post.drop k) (fun u hu => hk u (List.mem_cons_of_mem _ hu)) (by simp [hpre, hvs, Nat.succ_mul]) (by simp; omega) vals hv2]
      simp

section
variable {P : Program} {ops : Array Oper} {Q : Exit → Act → World → Prop} {rest : List Oper} {o : Oper} {a : Act} {B : Base} {H R : HL} {w : World}
variable {α : Type} {E : Enc α}

theorem run_buildSlice {t e : Nat} [hsl : SlTy P t e E.k] {z : List Value} [hz : Zero P e z] (xs : List α) (hx : xs.length * E.k ≤ 16777216) (hn : 0 < xs.length) (w : World) :
    (Instr.buildSlice t xs.length ((xs.zipIdx.map fun p => (p.2, E.val p.1)).toArray)).run P w = .ok (.slice (some ⟨w.heap.size, 0, none⟩) xs.length xs.length) (w.alloc (.cells (flat E xs).toArray e)) := by
  obtain ⟨zv, hz1, hz2⟩ := hz.out
  have hk := E.pos
  have hne : ¬ xs.length * E.k = 0 := by
    have := Nat.mul_pos hn hk; omega
  have hfill := fill_all (k := E.k) (xs.map E.cells) 0 [] ((List.range (xs.length * E.k)).map fun j => zv.cells[j % zv.cells.size]!) (by intro vs hvs; obtain ⟨x, _, rfl⟩ := List.mem_map.1 hvs; exact E.len x) (by simp) (by simp) (xs.map E.val) (by simp [E.valc])
  have e1 : (((xs.map E.val).zipIdx 0).map fun (x : Value × Nat) => (x.2, x.1)) = xs.zipIdx.map fun (x : α × Nat) => (x.2, E.val x.1) := by
    rw [List.zipIdx_map, List.map_map]
    rfl
  simp only [List.nil_append] at hfill
  have hfill' : Instr.fill (fun j => some (j * E.k, E.k)) ((Array.range (xs.length * E.k)).map (zv.cells[· % zv.cells.size]!)) ((xs.zipIdx.map fun p => (p.2, E.val p.1)).toArray).toList = some (flat E xs).toArray := by
    rw [show ((Array.range (xs.length * E.k)).map (zv.cells[· % zv.cells.size]!)) = ((List.range (xs.length * E.k)).map fun j => zv.cells[j % zv.cells.size]!).toArray from by
      apply Array.ext' ; simp]
    rw [show (((xs.zipIdx.map fun p => (p.2, E.val p.1)).toArray).toList) = (((xs.map E.val).zipIdx 0).map fun p => (p.2, p.1)) from by rw [List.toList_toArray]; exact e1.symm]
    rw [hfill]
    simp [flat, List.flatMap]
  simp only [Instr.buildSlice, Sem.run_bind, run_underlying hsl.under, Result.andThen_ok, run_sizeOf hsl.size, gt_iff_lt, show ¬ (2 ^ 24 < xs.length * E.k) from by omega, if_false, hne, run_zeroValue hz1, Sem.run_pure]
  rw [hfill']
  simp [newRow, newObj, Sem.run]

/-- []T{x, ..}, and what is handed on to '...'. -/
theorem wl_buildSlice {t e n : Nat} [hsl : SlTy P t e E.k] {z : List Value} [hz : Zero P e z] (xs : List α) {parts : Array (Nat × Operand)} (hw : Region.wanted o (yielded ops a.tmps) = true) (ho : o.op = .buildSlice t n parts)
    (hparts : (parts.map fun p => (p.1, a.eval p.2)) = (xs.zipIdx.map fun p => (p.2, E.val p.1)).toArray) (hl : xs.length = n) (hn : 0 < n) (hx : n * E.k ≤ 16777216) (hS : Sh B H w)
    (h : ∀ b w', Sh B (rowA (some ⟨b, 0, none⟩) (flat E xs ++ []) e ++ H) w' → OwnSl E (some ⟨b, 0, none⟩) xs [] n → wpList P ops Q rest (a.put o.dst (.slice (some ⟨b, 0, none⟩) n n)) w') : wpList P ops Q (o :: rest) a w := by
  subst hl
  have hparts' : (parts.map fun (i, x) => (i, a.eval x)) = (xs.zipIdx.map fun p => (p.2, E.val p.1)).toArray := hparts
  refine wl_to hw (by simp only [execOp, ho, Sem.run_bind, hparts', run_buildSlice xs hx hn w]; rfl) (h w.heap.size _ ?_ ⟨fun e => (by cases e), fun ad e => (by cases e; rfl), by simp, ?_⟩)
  · rw [List.append_nil]; exact hS.alloc _
  · have := E.pos
    have : xs.length ≤ xs.length * E.k := Nat.le_mul_of_pos_right _ E.pos
    simp only [maxLen]; omega
end

theorem ElTy.of {P : Program} {e k bytes : Nat} {z : Value} (h : (P.info? e).map (fun i => (i.zero, i.size, i.bytes)) = some (some z, k, bytes)) (hz : z.cells.size = k) : ElTy P e k bytes := by
  obtain ⟨i, h1, h2, h3, h4⟩ := info_parts h
  exact ⟨i, z, h1, h2, h3, h4, hz⟩

/-! ### Parts of structs -/
class Fld (P : Program) (S : TypeId) (f : Nat) (off T : outParam Nat) : Prop where
  out : ∃ fs fd, P.underlying S = some (.struct fs) ∧ fs[f]? = some fd ∧ fd.offset = off ∧ fd.type = T

section
variable {P : Program} {ops : Array Oper} {Q : Exit → Act → World → Prop} {rest : List Oper} {o : Oper} {a : Act} {w : World}

theorem run_field {S f off T : Nat} [h : Fld P S f off T] [IsScalar P T] {cs : List Value} {v : Value} (hv : cs[off]? = some v) (w : World) : (Instr.field S (.agg cs.toArray) f).run P w = .ok v w := by
  obtain ⟨fs, fd, hu, hf, ho, ht⟩ := h.out
  subst ho; subst ht
  simp [Instr.field, Sem.run_bind, run_underlying hu, hf, asAgg, part, run_isAgg_scalar, hv]
theorem run_isAgg_row {P : Program} {T n : TypeId} [h : IsRow P T n] (w : World) : (isAgg T).run P w = .ok true w := by
  obtain ⟨d, hu, hd⟩ := h.out
  unfold isAgg
  rw [Sem.run_bind, run_underlying hu w]
  cases d <;> simp_all
theorem run_fieldr {S f off T n : Nat} [h : Fld P S f off T] [hT : IsRow P T n] (cs : List Value) (w : World) : (Instr.field S (.agg cs.toArray) f).run P w = .ok (.agg ((cs.drop off).take n).toArray) w := by
  obtain ⟨fs, fd, hu, hf, ho, ht⟩ := h.out
  subst ho; subst ht
  simp [Instr.field, Sem.run_bind, run_underlying hu, hf, asAgg, part, run_isAgg_row, run_sizeOf hT.size]

/-- x.f, one cell. -/
theorem wl_fld {S f off T : Nat} {x : Operand} {cs : List Value} {v : Value} [Fld P S f off T] [IsScalar P T] (hw : Region.wanted o (yielded ops a.tmps) = true) (ho : o.op = .field S x f)
    (hx : a.eval x = .agg cs.toArray) (hv : cs[off]? = some v) (h : wpList P ops Q rest (a.put o.dst v) w) : wpList P ops Q (o :: rest) a w :=
  wl_value hw (by simp [execOp, ho, hx, run_field hv]) h
/-- x.f, a struct or an array. -/
theorem wl_fldr {S f off T n : Nat} {x : Operand} {cs vs : List Value} [Fld P S f off T] [IsRow P T n] (hw : Region.wanted o (yielded ops a.tmps) = true) (ho : o.op = .field S x f)
    (hx : a.eval x = .agg cs.toArray) (hv : (cs.drop off).take n = vs) (h : wpList P ops Q rest (a.put o.dst (.agg vs.toArray)) w) : wpList P ops Q (o :: rest) a w :=
  wl_value hw (by simp [execOp, ho, hx, run_fieldr, hv]) h
end
end Go.Tk
