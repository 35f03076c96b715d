/- Laws on operations that write: makeSlice and copy, of one-cell elements. -/
import Derived.Test.YtclmemhginekbaaDoorTkT
import Derived.Laws.MakeOwn
import Derived.Laws.CopyRow
import Derived.Laws.IdiomCopy
set_option linter.unusedSectionVars false
set_option linter.unusedSimpArgs false
set_option linter.unusedVariables false
namespace Go.Tk
open Go.RowKit

section
variable {P : Program} {ops : Array Oper} {Q : Exit → Act → World → Prop} {rest : List Oper} {o : Oper} {a : Act} {B : Base} {H R : HL} {w : World} {α : Type} {E : Enc α}
theorem Sh.setRowC {b : Nat} {l l' : List Value} {T : TypeId} (h : Sh B (cellB b l T ++ R) w) : Sh B (cellB b l' T ++ R) (w.setRow b l'.toArray) := by
  have h1 := Sh.setB (H := R) (b := b) h (.cells l'.toArray T (0, 0))
  have hb' : w.heap[b]? = some (.cells l.toArray T (0, 0)) := h.own (b, .cells l.toArray T (0, 0)) (by simp [cellB])
  have e : w.setRow b l'.toArray = Tk.setB w b (.cells l'.toArray T (0, 0)) := by
    unfold World.setRow Tk.setB
    congr 1
    apply Array.ext_getElem?
    intro i
    rw [Array.getElem?_modify, Array.getElem?_setIfInBounds]
    by_cases hi : b = i
    · subst hi
      obtain ⟨hlt, he⟩ := Array.getElem?_eq_some_iff.1 hb'
      simp [hlt, he]
    · simp [hi]
  rw [e]
  exact h1

/-- copy over a whole own slice. -/
theorem wl_copy {t t2 e n m cap cap0 cap' : Nat} {d s : Operand} {A A' : Option Addr} {xs ys : List α} {sp : List Value} (hw : Region.wanted o (yielded ops a.tmps) = true)
    (ho : o.op = .call { callee := .builtin .copy, args := #[d, s], argTypes := #[t, t2] }) [hsl : SlTy P t e E.k]
    (hd : a.eval d = .slice A n cap) (hs : a.eval s = .slice A' m cap') (hS : Sh B H w) (hO : OwnSl E A xs sp cap0) {C : HL → HL} [hp : CtxRow H A (flat E xs ++ sp) e C] [hr : RdAt E B H A' ys] (hk : E.k = 1) (hn : n = xs.length) (hm : m = ys.length) (hl : ys.length = xs.length)
    (h : ∀ w', OwnSl E A ys sp cap0 → Sh B (C (rowA A (flat E ys ++ sp) e)) w' → wpList P ops Q rest (a.put o.dst (.int .i64 n)) w') : wpList P ops Q (o :: rest) a w := by
  subst hm
  have hsz : (P.info? e).map (·.size) = some 1 := by rw [← hk]; exact hsl.size
  have hO' : OwnSl E A ys sp cap0 := ⟨fun e => by
    obtain ⟨h1, h2⟩ := hO.nil e
    subst h1
    exact ⟨List.eq_nil_of_length_eq_zero hl, h2⟩, hO.form, by rw [hl]; exact hO.capEq, hO.max⟩
  by_cases h0 : ys.length = 0
  · have hy : ys = [] := List.eq_nil_of_length_eq_zero h0
    have hx : xs = [] := List.eq_nil_of_length_eq_zero (by omega)
    subst hy; subst hx
    have hrun := run_copy_none (P := P) w t t2 o.type e A A' n cap 0 cap' hsl.under hsz (by simp)
    have hn0 : n = 0 := hn
    subst hn0
    refine wl_to hw ?_ (h w hO' (hp.eq ▸ hS))
    simp only [List.length_nil] at hs
    simp [execOp, ho, resolve, invoke, builtin, hd, hs, hrun, goInt]
  · have hok := hr.ok (by omega)
    obtain ⟨gb, go, hA'⟩ := hok
    obtain ⟨R, hS0, back⟩ := Sh.out (hp.eq ▸ hS) hp.ctx
    cases hA : A with
    | none => have := (hO.nil hA).1; subst this; simp at hl; exact absurd hl (by simpa using h0)
    | some ad =>
      subst hA
      have hform := hO.form ad rfl
      have hg := hS0.own (ad.block, .cells (flat E xs ++ sp).toArray e (0, 0)) (by simp [rowA])
      have hfl : ∀ zs : List α, (flat E zs).length = zs.length := by intro zs; rw [flat_length, hk, Nat.mul_one]
      have hsrc : ∀ j v, (flat E ys)[j]? = some v → w.cell? ((Addr.mk gb go none).add j) = some v := by
        intro j v hj
        have hlt : j < ys.length := by rw [← hfl ys]; exact (List.getElem?_eq_some_iff.1 hj).1
        have hx := List.getElem?_eq_getElem hlt
        have hc : (E.cells ys[j])[0]? = some v := by
          have h1 : (E.cells ys[j]).length = 1 := by rw [E.len, hk]
          have h2 := flat_get (E := E) hx [] (f := 0) (v := (E.cells ys[j])[0]'(by omega)) (List.getElem?_eq_getElem (by omega))
          rw [hk] at h2
          simp only [List.append_nil, Nat.mul_one, Nat.add_zero] at h2
          rw [List.getElem?_eq_getElem (by omega), ← h2, hj]
        have h3 := hr.f1 hS hk hx hc
        rw [hA'] at h3
        simp only [blkA, offA] at h3
        by_cases hj0 : j = 0
        · subst hj0; simpa [Addr.add] using h3
        · simpa [Addr.add, hj0] using h3
      rw [hform] at hd
      have hrun := run_copy_row (P := P) w t t2 o.type e ad.block 0 n cap ⟨gb, go, none⟩ ys.length cap' (flat E xs ++ sp).toArray e (flat E ys) hsl.under hsz hg (by rw [hfl]; exact (Nat.min_eq_left (by omega)).symm) hsrc (by simp [hfl]; omega) (flat_one ys)
      rw [hA'] at hs
      have hcells : ((flat E xs ++ sp).toArray.toList.take 0 ++ flat E ys ++ (flat E xs ++ sp).toArray.toList.drop (0 + (flat E ys).length)) = flat E ys ++ sp := by
        simp only [List.take_zero, List.nil_append, Nat.zero_add]
        congr 1
        rw [show (flat E ys).length = (flat E xs).length from by rw [hfl, hfl, hl]]
        simp
      rw [hcells] at hrun
      have hS1 : Sh B (rowA (some ad) (flat E ys ++ sp) e ++ R) (w.setRow ad.block (flat E ys ++ sp).toArray) := Sh.setRowC (T := e) hS0
      refine wl_to hw ?_ (h _ hO' (back _ _ hS1))
      rw [show (flat E ys).length = n from by rw [hfl]; omega] at hrun
      simp [execOp, ho, resolve, invoke, builtin, hd, hs, hrun, goInt]

/-- make. -/
theorem wl_make {t e bytes : Nat} {l c : Operand} {kl kc : IntKind} {n m : Nat} {z : α} {zc : List Value} (hw : Region.wanted o (yielded ops a.tmps) = true) (ho : o.op = .makeSlice t l c)
    [hsl : SlTy P t e E.k] [hel : ElTy P e E.k bytes] [hz : Zero P e zc] (hk : E.k = 1) (hzc : zc = E.cells z) (hl : a.eval l = .int kl n) (hc : a.eval c = .int kc m) (hnm : n ≤ m) (hb : m * bytes ≤ 281474976710656) (hm : m ≤ 9223372036854775807) (hS : Sh B H w)
    (h : ∀ b w', OwnSl E (some ⟨b, 0, none⟩) (List.replicate n z) (List.replicate (m - n) (zc.headD undef)) m → Sh B (rowA (some ⟨b, 0, none⟩) (flat E (List.replicate n z) ++ List.replicate (m - n) (zc.headD undef)) e ++ H) w' → wpList P ops Q rest (a.put o.dst (.slice (some ⟨b, 0, none⟩) n m)) w') : wpList P ops Q (o :: rest) a w := by
  obtain ⟨i, z', h1, h2, h3, h4, h5⟩ := hel.out
  have hzz : z'.cells = zc.toArray := by
    obtain ⟨z2, hz1, hz2⟩ := hz.out
    simp only [h1, Option.bind_some, h2, Option.some.injEq] at hz1
    rw [hz1]; exact hz2
  have hlen : zc.length = 1 := by rw [hzc, E.len, hk]
  obtain ⟨v, hv⟩ : ∃ v, zc = [v] := List.length_eq_one_iff.1 hlen
  have hbb : (bytes : Int) * m ≤ 281474976710656 := by
    have h : ((bytes * m : Nat) : Int) ≤ 281474976710656 := by rw [Nat.mul_comm]; omega
    rwa [Int.natCast_mul] at h
  have hrun := run_make (P := P) w t e i z' hsl.under h1 h2 kl kc n m (by omega) (by omega) (by rw [h4]; exact hbb) (by omega)
  have hmade : madeCells z'.cells ((m : Int).toNat * i.size) = (flat E (List.replicate n z) ++ List.replicate (m - n) (zc.headD undef)).toArray := by
    have hf : ∀ k, flat E (List.replicate k z) = List.replicate k v := by
      intro k
      induction k with
      | zero => rfl
      | succ k ih => rw [List.replicate_succ, flat_cons, ih, ← hzc, hv]; rfl
    rw [hf, hv, hzz, hv, h3, hk]
    simp only [List.headD_cons, Int.toNat_natCast, Nat.mul_one, List.replicate_append_replicate, show n + (m - n) = m from by omega]
    unfold madeCells
    apply Array.ext
    · simp
    · intro j h1 h2
      simp [Nat.mod_one]
  rw [hmade] at hrun
  simp only [Int.toNat_natCast] at hrun
  refine wl_to hw ?_ (h _ _ ?_ (hS.alloc _))
  · simp only [execOp, ho, hl, hc, Sem.run_bind, hrun]; rfl
  · refine ⟨(fun e => nomatch e), fun ad e => by cases e; rfl, ?_, by unfold maxLen; omega⟩
    simp [hk]; omega
/-- A store of a row over a part of an own block. -/
theorem wl_strO {T n n1 n2 : Nat} {x y : Operand} {b off Tb : Nat} {l vs : List Value} (l' : List Value) (hw : Region.wanted o (yielded ops a.tmps) = true) (ho : o.op = .store T x y) [hT : IsRow P T n]
    (hx : a.eval x = .pointer (some ⟨b, off, none⟩)) (hy : a.eval y = .agg vs.toArray) [hv : RowOk vs n1] (hS : Sh B H w) {C : HL → HL} [hp : CtxCell H b l Tb C] (hl : l.length = n2) (e1 : n1 = n) (e2 : off + n ≤ n2) (hz : splice l off vs = l')
    (h : ∀ w', Sh B (C (cellB b l' Tb)) w' → wpList P ops Q rest (a.put o.dst undef) w') : wpList P ops Q (o :: rest) a w :=
  wl_str hw ho hx hy (hv.len.trans e1) hv.one hS (by omega) fun w' hS' => h w' (hz ▸ hS')
end
section
variable {P : Program} {ops : Array Oper} {Q : Exit → Act → World → Prop} {rest : List Oper} {o : Oper} {a : Act} {w : World}
/-- A guard that holds; one that doesn't. -/
theorem wl_ung {dst : Option Nat} {op : Op} {ty : TypeId} {pos : String} {after : Array Edge} {g : Nat × Bool} (hw : Region.wanted ⟨dst, op, ty, pos, after, some g⟩ (yielded ops a.tmps) = true)
    (h : wpList P ops Q (⟨dst, op, ty, pos, after, none⟩ :: rest) a w) : wpList P ops Q (⟨dst, op, ty, pos, after, some g⟩ :: rest) a w := by
  unfold wpList at h ⊢
  rw [if_pos hw]
  have h2 : Region.wanted ⟨dst, op, ty, pos, after, none⟩ (yielded ops a.tmps) = true := rfl
  rw [if_pos h2] at h
  exact h
theorem wl_nog {dst : Option Nat} {op : Op} {ty : TypeId} {pos : String} {after : Array Edge} {g : Nat × Bool} (hw : Region.wanted ⟨dst, op, ty, pos, after, some g⟩ (yielded ops a.tmps) = false)
    (h : wpList P ops Q rest (a.put dst undef) w) : wpList P ops Q (⟨dst, op, ty, pos, after, some g⟩ :: rest) a w := by
  unfold wpList
  rw [if_neg (by rw [hw]; decide)]
  exact h
/-- A guard that is known, or told apart. -/
theorem wl_hasg {j : Nat} {want : Bool} (hg : o.guard = some (j, want)) (h : wpList P ops Q (o :: rest) a w) : wpList P ops Q (o :: rest) a w := h
theorem wl_lit {j : Nat} {want : Bool} (b : Bool) (hg : o.guard = some (j, want)) (hy : yielded ops a.tmps j = some b) (h : wpList P ops Q (o :: rest) a w) : wpList P ops Q (o :: rest) a w := h
theorem wl_grd {j : Nat} {want b : Bool} (hg : o.guard = some (j, want)) (hy : yielded ops a.tmps j = some b) (h : ∀ c, b = c → wpList P ops Q (o :: rest) a w) : wpList P ops Q (o :: rest) a w := h b rfl
end
/-- A cut behind a piece of code: what the rest needs of it. -/
theorem wp_cutS {P : Program} {c : Code} {Q' : Exit → Act → World → Prop} {K : Act → World → Prop} {a0 : Act} {w0 : World} {σ : Type} (sig junk : List Nat) (enc : σ → List Value) (I : σ → World → Prop)
    (first : c.wp P (Exit.then (RoundEnd a0 sig junk enc I (fun _ => True)) Q') a0 w0)
    (rest : ∀ s J w, I s w → K (Frm a0 sig junk (enc s) J) w) : c.wp P (Exit.then K Q') a0 w0 := by
  refine Code.wp_mono ?_ first
  intro e a' w' h
  cases e <;> try exact h
  obtain ⟨s', hI', _, hv, hb, hd⟩ := h
  have ha' := frm_of hv hb hd
  show K a' w'
  rw [ha']
  exact rest s' _ w' hI'
section
variable {P : Program} {ops : Array Oper} {Q : Exit → Act → World → Prop} {rest : List Oper} {o : Oper} {a : Act} {B : Base} {H R : HL} {w : World}
variable {κ ν : Type} [DecidableEq κ] {kv : κ → Value} {vv : ν → Value}
/-- An entry of a map that is written out. -/
theorem wl_insert {t K V b : Nat} {x y z : Operand} [KeyTy P K kv] [MapTy P t K V] {es : Array MapEntry} {clock : Nat} {m : List (κ × ν)} {k : κ} {v : ν} (hm : MapIs kv vv es clock m) (hw : Region.wanted o (yielded ops a.tmps) = true) (ho : o.op = .insert t x y z)
    (hx : a.eval x = .map (some b)) (hy : a.eval y = kv k) (hz : a.eval z = vv v) (hS : Sh B H w) {C : HL → HL} [hp : CtxMap H b es clock C]
    (h : ∀ es' clock' w', Sh B (C (mapB b es' clock')) w' → MapIs kv vv es' clock' (mput m k v) → wpList P ops Q rest (a.put o.dst undef) w') : wpList P ops Q (o :: rest) a w := by
  obtain ⟨R, hS0, back⟩ := Sh.out (hp.eq ▸ hS) hp.ctx
  obtain ⟨m', hpm, hm0⟩ := hm.out
  obtain ⟨es', clock', w', hr, hS', hm'⟩ := run_mapUpdate (P := P) (t := t) hm0 hS0 k v
  exact wl_skip' hw (by simp [execOp, ho, hx, hy, hz, hr]) (h _ _ _ (back _ _ hS') ⟨_, mput_perm hm0.nodup hpm k v, hm'⟩)
end
theorem bodyPost_normal {P : Program} {fn : Func} {R : Ending → World → Prop} {a : Act} {w : World} (h : bodyPost P fn R .ret a w) : bodyPost P fn R .normal a w := by
  unfold bodyPost at *
  exact h
instance : IsN 3 3 := ⟨rfl⟩
instance : IsN 4 4 := ⟨rfl⟩
instance : IsN 5 5 := ⟨rfl⟩
instance : IsN 6 6 := ⟨rfl⟩
instance : IsN 7 7 := ⟨rfl⟩
instance : IsN 8 8 := ⟨rfl⟩
instance : IsN 9 9 := ⟨rfl⟩
instance : IsN 10 10 := ⟨rfl⟩
instance : IsN 11 11 := ⟨rfl⟩
instance : IsN 12 12 := ⟨rfl⟩
instance : IsN 13 13 := ⟨rfl⟩
instance : IsN 14 14 := ⟨rfl⟩
instance : IsN 15 15 := ⟨rfl⟩
instance : IsN 16 16 := ⟨rfl⟩
instance : IsN 17 17 := ⟨rfl⟩
instance : IsN 18 18 := ⟨rfl⟩
instance : IsN 19 19 := ⟨rfl⟩
instance : IsN 20 20 := ⟨rfl⟩
instance : IsN 21 21 := ⟨rfl⟩
instance : IsN 22 22 := ⟨rfl⟩
instance : IsN 23 23 := ⟨rfl⟩
instance : IsN 24 24 := ⟨rfl⟩
instance : IsN 25 25 := ⟨rfl⟩
instance : IsN 26 26 := ⟨rfl⟩
instance : IsN 27 27 := ⟨rfl⟩
instance : IsN 28 28 := ⟨rfl⟩
instance : IsN 29 29 := ⟨rfl⟩
instance : IsN 30 30 := ⟨rfl⟩
instance : IsN 31 31 := ⟨rfl⟩
instance : IsN 32 32 := ⟨rfl⟩
instance IsN.add {a b : Int} {i j : Nat} [h1 : IsN a i] [h2 : IsN b j] : IsN (a + b) (i + j) := ⟨by rw [h1.out, h2.out]; rfl⟩
end Go.Tk
