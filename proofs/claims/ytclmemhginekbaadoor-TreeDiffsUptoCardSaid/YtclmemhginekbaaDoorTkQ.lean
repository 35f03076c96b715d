/- Facts that are found by class: elements of slices by their index. -/
import Derived.Test.YtclmemhginekbaaDoorTkP
set_option linter.unusedSectionVars false
set_option linter.unusedSimpArgs false
set_option linter.unusedVariables false
namespace Go.Tk
open Go.RowKit Go.Proofs

/-- A number that is none below nothing. -/
class IsN (i : Int) (j : outParam Nat) : Prop where out : i = j
instance (j : Nat) : IsN (j : Int) j := ⟨rfl⟩
instance : IsN 0 0 := ⟨rfl⟩
instance : IsN 1 1 := ⟨rfl⟩
instance : IsN 2 2 := ⟨rfl⟩
theorem wrap_i64 {i : Int} (h : -9223372036854775808 ≤ i ∧ i ≤ 9223372036854775807) : IntKind.i64.wrap i = i := by
  rw [IntKind.wrap_i64]
  omega
theorem beq_no {α : Type} [BEq α] [LawfulBEq α] {a b : α} (h : ¬ a = b) : (a == b) = false := by simpa using h
theorem bne_no {α : Type} [BEq α] [LawfulBEq α] {a b : α} (h : ¬ a = b) : (a != b) = true := by simpa using h
/-- The element at an index. -/
class Nth {α : Type} (xs : List α) (j : Nat) (x : outParam α) : Prop where get : xs[j]? = some x
section
variable {α : Type} {xs : List α} {i : Int} {x : α} {j : Nat}
theorem Nth.lt (h : Nth xs j x) : j < xs.length := (List.getElem?_eq_some_iff.1 h.get).1
theorem Nth.of (h : j < xs.length) : ∃ x, Nth xs j x := ⟨xs[j], ⟨List.getElem?_eq_getElem h⟩⟩
theorem Nth.mem (h : Nth xs j x) : x ∈ xs := List.mem_of_getElem? h.get
theorem Nth.eq (h : Nth xs j x) : xs[j]'h.lt = x := (List.getElem?_eq_some_iff.1 h.get).2
theorem Nth.take (h : Nth xs j x) : xs.take (j + 1) = xs.take j ++ [x] := by
  have := h.lt
  rw [List.take_succ_eq_append_getElem this, h.eq]
theorem Nth.drop (h : Nth xs j x) : xs.drop j = x :: xs.drop (j + 1) := by
  rw [List.drop_eq_getElem_cons h.lt, h.eq]
end
/-- A cell, by its place. -/
class CellAt (l : List Value) (f : Nat) (v : outParam Value) : Prop where out : l[f]? = some v
instance CellAt.hd {v : Value} {l : List Value} : CellAt (v :: l) 0 v := ⟨rfl⟩
instance CellAt.tl {u v : Value} {l : List Value} {f : Nat} [h : CellAt l f v] : CellAt (u :: l) (f + 1) v := ⟨h.out⟩
/-- Rows of one-cell values, by their form. -/
class OneV (v : Value) : Prop where out : v.oneCell' = true
instance {k : IntKind} {n : Int} : OneV (.int k n) := ⟨rfl⟩
instance {b : Bool} : OneV (.bool b) := ⟨rfl⟩
instance {s : ByteArray} : OneV (.string s) := ⟨rfl⟩
instance {a : Option Addr} {n c : Nat} : OneV (.slice a n c) := ⟨rfl⟩
instance {a : Option Addr} : OneV (.pointer a) := ⟨rfl⟩
instance {a : Option Nat} : OneV (.map a) := ⟨rfl⟩
class RowOk (l : List Value) (n : outParam Nat) : Prop where
  len : l.length = n
  one : ∀ v ∈ l, v.oneCell' = true
instance : RowOk [] 0 := ⟨rfl, by simp⟩
instance {v : Value} {l : List Value} {n : Nat} [h : OneV v] [hl : RowOk l n] : RowOk (v :: l) (n + 1) := ⟨by simp [hl.len], by simpa using ⟨h.out, hl.one⟩⟩
instance {α : Type} {E : Enc α} {x : α} : RowOk (E.cells x) E.k := ⟨E.len x, E.one x⟩
/-- Cells, by their place. -/
class RowAt (l : List Value) (f n : Nat) (vs : outParam (List Value)) : Prop where
  out : (l.drop f).take n = vs
  len : vs.length = n

instance RdAt.ofB {α : Type} {E : Enc α} {B : Base} {H : HL} {a : Option Addr} {xs : List α} [h : RdB E B a xs] : RdAt E B H a xs := h.at_ H
instance RdAt.ofOwn {α : Type} {E : Enc α} {B : Base} {H R : HL} {a : Option Addr} {xs : List α} {sp : List Value} {cap : Nat} {T : TypeId} [h : OwnSl E a xs sp cap] [hp : HasRow H a (flat E xs ++ sp) T R] : RdAt E B H a xs := h.at_
instance (priority := 400) RdAt.tl {α : Type} {E : Enc α} {B : Base} {d H : HL} {a : Option Addr} {xs : List α} [h : RdAt E B H a xs] : RdAt E B (d ++ H) a xs := ⟨h.ok, h.max, fun j x hj f v hv w hS => h.get j x hj f v hv w hS.drop⟩
theorem RdAt.nil {α : Type} {E : Enc α} {B : Base} {H : HL} {A : Option Addr} : RdAt E B H A ([] : List α) := ⟨fun h => absurd h (by simp), by simp, fun j x h => by simp at h⟩

section
variable {P : Program} {o : Oper} {a : Act} {B : Base} {H : HL} {w : World} {α : Type} {E : Enc α} {A : Option Addr} {xs : List α} {x0 : α} {ii : Int} {j : Nat}

theorem ex_ix {t e k n cap : Nat} {x i : Operand} {kk : IntKind} (hS : Sh B H w) (ho : o.op = .indexAddr t x i) [SlTy P t e k] (hx : a.eval x = .slice A n cap) (hi : a.eval i = .int kk ii) [r : RdAt E B H A xs] [hj : IsN ii j] [g : Nth xs j x0] (hn : n = xs.length) :
    (execOp a.eval o).run P w = .ok (.value (.pointer (some ⟨blkA A, offA A + j * k, none⟩))) w := by
  subst hn
  have e := hj.out
  subst e
  have := ex_idx (P := P) (t := t) (w := w) (ho := ho) hx hi (Int.natCast_nonneg j) (by have := g.lt; omega) r.ok
  rwa [Int.toNat_natCast] at this

def LoadsTo (P : Program) (w : World) (T : TypeId) (p v : Value) : Prop := (Instr.loadAt T p).run P w = .ok v w
theorem ex_lo {T : Nat} {x : Operand} {p v : Value} (ho : o.op = .load T x) (hx : a.eval x = p) (h : LoadsTo P w T p v) : (execOp a.eval o).run P w = .ok (.value v) w := exec_load ho hx h
theorem lo_sc {T : TypeId} {ad : Addr} {v : Value} [IsScalar P T] (hc : w.cell? ad = some v) : LoadsTo P w T (.pointer (some ad)) v := run_loadAt_scalar hc
theorem lo_row {T n b off : Nat} {cs : List Value} [IsRow P T n] (hc : w.rangeAt b off cs) (hn : cs.length = n) : LoadsTo P w T (.pointer (some ⟨b, off, none⟩)) (.agg cs.toArray) := run_loadAt_row hc hn
theorem lo_l0 {T k : Nat} {v : Value} (hS : Sh B H w) [IsScalar P T] [r : RdAt E B H A xs] [g : Nth xs j x0] (hk : E.k = k) (hv : (E.cells x0)[0]? = some v) :
    LoadsTo P w T (.pointer (some ⟨blkA A, offA A + j * k, none⟩)) v := by
  subst hk
  exact lo_sc (r.f0 hS g.get hv)
theorem lo_lf {T k f : Nat} {v : Value} (hS : Sh B H w) [IsScalar P T] [r : RdAt E B H A xs] [g : Nth xs j x0] (hk : E.k = k) (hv : (E.cells x0)[f]? = some v) :
    LoadsTo P w T (.pointer (some ⟨blkA A, offA A + j * k + f, none⟩)) v := by
  subst hk
  exact lo_sc (r.ff hS g.get hv)
/-- .. of the first. -/
theorem lo_l00 {T : Nat} {v : Value} (hS : Sh B H w) [IsScalar P T] [r : RdAt E B H A xs] [g : Nth xs 0 x0] (hv : (E.cells x0)[0]? = some v) :
    LoadsTo P w T (.pointer (some ⟨blkA A, offA A, none⟩)) v := by
  have := r.f0 hS g.get hv
  rw [Nat.zero_mul, Nat.add_zero] at this
  exact lo_sc this
theorem lo_l0f {T f : Nat} {v : Value} (hS : Sh B H w) [IsScalar P T] [r : RdAt E B H A xs] [g : Nth xs 0 x0] (hv : (E.cells x0)[f]? = some v) :
    LoadsTo P w T (.pointer (some ⟨blkA A, offA A + f, none⟩)) v := by
  have := r.ff hS g.get hv
  rw [Nat.zero_mul, Nat.add_zero] at this
  exact lo_sc this
theorem lo_lr0 {T n : Nat} (hS : Sh B H w) [IsRow P T n] [r : RdAt E B H A xs] [g : Nth xs 0 x0] (hn : E.k = n) :
    LoadsTo P w T (.pointer (some ⟨blkA A, offA A, none⟩)) (.agg (E.cells x0).toArray) := by
  have := r.range hS g.get
  rw [Nat.zero_mul, Nat.add_zero] at this
  exact lo_row this (by rw [E.len]; exact hn)
theorem lo_l1 {T : Nat} {v : Value} (hS : Sh B H w) [IsScalar P T] [r : RdAt E B H A xs] [g : Nth xs j x0] (hk : E.k = 1) (hv : (E.cells x0)[0]? = some v) :
    LoadsTo P w T (.pointer (some ⟨blkA A, offA A + j, none⟩)) v := lo_sc (r.f1 hS hk g.get hv)
theorem lo_lr {T k n : Nat} (hS : Sh B H w) [IsRow P T n] [r : RdAt E B H A xs] [g : Nth xs j x0] (hk : E.k = k) (hn : E.k = n) :
    LoadsTo P w T (.pointer (some ⟨blkA A, offA A + j * k, none⟩)) (.agg (E.cells x0).toArray) := by
  subst hk
  exact lo_row (r.range hS g.get) (by rw [E.len]; exact hn)
theorem lo_lrf {T k n f : Nat} {vs : List Value} (hS : Sh B H w) [IsRow P T n] [r : RdAt E B H A xs] [g : Nth xs j x0] (hk : E.k = k) [hv : RowAt (E.cells x0) f n vs] :
    LoadsTo P w T (.pointer (some ⟨blkA A, offA A + j * k + f, none⟩)) (.agg vs.toArray) := by
  subst hk
  refine lo_row ?_ hv.len
  intro i v hj
  have h1 := hv.out
  subst h1
  rw [List.getElem?_take] at hj
  split at hj
  · rw [List.getElem?_drop] at hj
    have := r.get j x0 g.get (f + i) v hj w hS
    rwa [← Nat.add_assoc] at this
  · cases hj

/-- .. of the first part. -/
theorem lo_lrz {T k n : Nat} {vs : List Value} (hS : Sh B H w) [IsRow P T n] [r : RdAt E B H A xs] [g : Nth xs j x0] (hk : E.k = k) [hv : RowAt (E.cells x0) 0 n vs] :
    LoadsTo P w T (.pointer (some ⟨blkA A, offA A + j * k, none⟩)) (.agg vs.toArray) := lo_lrf (f := 0) hS hk
theorem lo_ldC {T b off Tb : Nat} {l : List Value} {v : Value} {R : HL} (hS : Sh B H w) [IsScalar P T] [HasCell H b l Tb R] (hv : l[off]? = some v) :
    LoadsTo P w T (.pointer (some ⟨b, off, none⟩)) v := lo_sc (hS.ldC hv)
theorem lo_ldrC {T n b off Tb : Nat} {l vs : List Value} {R : HL} (hS : Sh B H w) [IsRow P T n] [HasCell H b l Tb R] [hv : RowAt l off n vs] :
    LoadsTo P w T (.pointer (some ⟨b, off, none⟩)) (.agg vs.toArray) := by
  refine lo_row ?_ hv.len
  have := hS.rangeC (b := b) off n
  rwa [hv.out] at this
/-- .. the whole block. -/
theorem lo_ldr0 {T n n1 b Tb : Nat} {l : List Value} {R : HL} (hS : Sh B H w) [IsRow P T n] [HasCell H b l Tb R] [hl : RowOk l n1] (e : n1 = n) :
    LoadsTo P w T (.pointer (some ⟨b, 0, none⟩)) (.agg l.toArray) := lo_row (hS.rangeAll (b := b)) (hl.len.trans e)

theorem ex_l0 {T k : Nat} {v : Value} {x : Operand} (hS : Sh B H w) (ho : o.op = .load T x) [IsScalar P T] (hx : a.eval x = .pointer (some ⟨blkA A, offA A + j * k, none⟩)) [r : RdAt E B H A xs] [g : Nth xs j x0] (hk : E.k = k) (hv : (E.cells x0)[0]? = some v) :
    (execOp a.eval o).run P w = .ok (.value v) w := ex_lo ho hx (lo_l0 hS hk hv)
theorem ex_lf {T k f : Nat} {v : Value} {x : Operand} (hS : Sh B H w) (ho : o.op = .load T x) [IsScalar P T] (hx : a.eval x = .pointer (some ⟨blkA A, offA A + j * k + f, none⟩)) [r : RdAt E B H A xs] [g : Nth xs j x0] (hk : E.k = k) (hv : (E.cells x0)[f]? = some v) :
    (execOp a.eval o).run P w = .ok (.value v) w := ex_lo ho hx (lo_lf hS hk hv)
theorem ex_l00 {T : Nat} {v : Value} {x : Operand} (hS : Sh B H w) (ho : o.op = .load T x) [IsScalar P T] (hx : a.eval x = .pointer (some ⟨blkA A, offA A, none⟩)) [r : RdAt E B H A xs] [g : Nth xs 0 x0] (hv : (E.cells x0)[0]? = some v) :
    (execOp a.eval o).run P w = .ok (.value v) w := ex_lo ho hx (lo_l00 hS hv)
theorem ex_l0f {T f : Nat} {v : Value} {x : Operand} (hS : Sh B H w) (ho : o.op = .load T x) [IsScalar P T] (hx : a.eval x = .pointer (some ⟨blkA A, offA A + f, none⟩)) [r : RdAt E B H A xs] [g : Nth xs 0 x0] (hv : (E.cells x0)[f]? = some v) :
    (execOp a.eval o).run P w = .ok (.value v) w := ex_lo ho hx (lo_l0f hS hv)
theorem ex_lr0 {T n : Nat} {x : Operand} (hS : Sh B H w) (ho : o.op = .load T x) [IsRow P T n] (hx : a.eval x = .pointer (some ⟨blkA A, offA A, none⟩)) [r : RdAt E B H A xs] [g : Nth xs 0 x0] (hn : E.k = n) :
    (execOp a.eval o).run P w = .ok (.value (.agg (E.cells x0).toArray)) w := ex_lo ho hx (lo_lr0 hS hn)
theorem ex_l1 {T : Nat} {v : Value} {x : Operand} (hS : Sh B H w) (ho : o.op = .load T x) [IsScalar P T] (hx : a.eval x = .pointer (some ⟨blkA A, offA A + j, none⟩)) [r : RdAt E B H A xs] [g : Nth xs j x0] (hk : E.k = 1) (hv : (E.cells x0)[0]? = some v) :
    (execOp a.eval o).run P w = .ok (.value v) w := ex_lo ho hx (lo_l1 hS hk hv)
theorem ex_lr {T k n : Nat} {x : Operand} (hS : Sh B H w) (ho : o.op = .load T x) [IsRow P T n] (hx : a.eval x = .pointer (some ⟨blkA A, offA A + j * k, none⟩)) [r : RdAt E B H A xs] [g : Nth xs j x0] (hk : E.k = k) (hn : E.k = n) :
    (execOp a.eval o).run P w = .ok (.value (.agg (E.cells x0).toArray)) w := ex_lo ho hx (lo_lr hS hk hn)
theorem ex_lrf {T k n f : Nat} {vs : List Value} {x : Operand} (hS : Sh B H w) (ho : o.op = .load T x) [IsRow P T n] (hx : a.eval x = .pointer (some ⟨blkA A, offA A + j * k + f, none⟩)) [r : RdAt E B H A xs] [g : Nth xs j x0] (hk : E.k = k) [hv : RowAt (E.cells x0) f n vs] :
    (execOp a.eval o).run P w = .ok (.value (.agg vs.toArray)) w := ex_lo ho hx (lo_lrf hS hk)
theorem ex_lrz {T k n : Nat} {vs : List Value} {x : Operand} (hS : Sh B H w) (ho : o.op = .load T x) [IsRow P T n] (hx : a.eval x = .pointer (some ⟨blkA A, offA A + j * k, none⟩)) [r : RdAt E B H A xs] [g : Nth xs j x0] (hk : E.k = k) [hv : RowAt (E.cells x0) 0 n vs] :
    (execOp a.eval o).run P w = .ok (.value (.agg vs.toArray)) w := ex_lo ho hx (lo_lrz hS hk)
theorem ex_ldC {T b off Tb : Nat} {l : List Value} {v : Value} {R : HL} {x : Operand} (hS : Sh B H w) (ho : o.op = .load T x) [IsScalar P T] (hx : a.eval x = .pointer (some ⟨b, off, none⟩)) [HasCell H b l Tb R] (hv : l[off]? = some v) :
    (execOp a.eval o).run P w = .ok (.value v) w := ex_lo ho hx (lo_ldC hS hv)
theorem ex_ldrC {T n b off Tb : Nat} {l vs : List Value} {R : HL} {x : Operand} (hS : Sh B H w) (ho : o.op = .load T x) [IsRow P T n] (hx : a.eval x = .pointer (some ⟨b, off, none⟩)) [HasCell H b l Tb R] [hv : RowAt l off n vs] :
    (execOp a.eval o).run P w = .ok (.value (.agg vs.toArray)) w := ex_lo ho hx (lo_ldrC hS )
theorem ex_ldr0 {T n n1 b Tb : Nat} {l : List Value} {R : HL} {x : Operand} (hS : Sh B H w) (ho : o.op = .load T x) [IsRow P T n] (hx : a.eval x = .pointer (some ⟨b, 0, none⟩)) [HasCell H b l Tb R] [hl : RowOk l n1] (e : n1 = n) :
    (execOp a.eval o).run P w = .ok (.value (.agg l.toArray)) w := ex_lo ho hx (lo_ldr0 hS e)

/-! What is known of a part of a slice. -/
theorem RdAt.drop {α : Type} {E : Enc α} {A : Option Addr} {xs : List α} (r : RdAt E B H A xs) (l : Nat) : RdAt E B H (A.map (·.add (l * E.k))) (xs.drop l) := by
  by_cases hx : 0 < (xs.drop l).length
  · have hA := r.ok.form (by simp at hx; omega)
    have e : A.map (·.add (l * E.k)) = some ⟨blkA A, offA A + l * E.k, none⟩ := by rw [hA]; simp [Addr.add_mid, blkA, offA]
    refine ⟨fun _ => ⟨_, _, e⟩, by have := r.max; simp; omega, fun j x hj f v hv w hS => ?_⟩
    rw [e]
    simp only [blkA, offA]
    rw [List.getElem?_drop] at hj
    have := r.get _ x hj f v hv w hS
    rw [Nat.add_mul, ← Nat.add_assoc] at this
    exact this
  · have : xs.drop l = [] := List.eq_nil_of_length_eq_zero (by omega)
    rw [this]
    exact ⟨fun h => absurd h (by simp), by simp, fun j x h => by simp at h⟩
theorem RdAt.take {α : Type} {E : Enc α} {A : Option Addr} {xs : List α} (r : RdAt E B H A xs) (n : Nat) : RdAt E B H A (xs.take n) := {
  ok := r.ok.le (by simp; omega)
  max := by have := r.max; simp; omega
  get j x hj f v hv w hS := by
    rw [List.getElem?_take] at hj
    split at hj
    · exact r.get j x hj f v hv w hS
    · cases hj }

theorem run_sliceBound {i : Int} {k : IntKind} {y : Nat} {code : BoundsCode} (h0 : 0 ≤ i) (h1 : i ≤ y) (w : World) : (Instr.sliceBound (.int k i) y code).run P w = .ok i.toNat w := by
  simp [Instr.sliceBound, asIntOf, Sem.run_bind, h0, h1]

/-- xs[lo:], what is left at some place. -/
theorem ex_slcL {t e k n cap : Nat} {x lo : Operand} {kk : IntKind} (hS : Sh B H w) (ho : o.op = .slice t x (some lo) none none) [hsl : SlTy P t e k] (hx : a.eval x = .slice A n cap) (hlo : a.eval lo = .int kk ii) [r : RdAt E B H A xs] (hn : n = xs.length) (hk : E.k = k) (h0 : 0 ≤ ii) (h1 : ii ≤ xs.length) (hc : n ≤ cap) :
    ∃ A', (∀ w, (execOp a.eval o).run P w = .ok (.value (.slice A' (n - ii.toNat) (cap - ii.toNat))) w) ∧ RdAt E B H A' (xs.drop ii.toNat) ∧ n - ii.toNat = (xs.drop ii.toNat).length := by
  subst hn; subst hk
  have hlt : ii.toNat ≤ xs.length := by omega
  refine ⟨if cap = ii.toNat then A else A.map (·.add (ii.toNat * E.k)), fun w => ?_, ?_, by simp⟩
  · simp only [execOp, ho, hx, Instr.sliceAt, Instr.slice, Sem.run_bind, run_underlying hsl.under, Result.andThen_ok, Option.map_some, Option.map_none, hlo, Instr.sliceBounds, run_sliceBound h0 h1, Sem.run_pure, run_sizeOf hsl.size]
  · split
    · have : xs.drop ii.toNat = [] := List.drop_eq_nil_of_le (by omega)
      rw [this]
      exact ⟨fun h => absurd h (by simp), by simp, fun j x h => by simp at h⟩
    · exact r.drop _
/-- xs[:hi] -/
theorem ex_slcH {t e k n cap : Nat} {x hi : Operand} {kk : IntKind} (hS : Sh B H w) (ho : o.op = .slice t x none (some hi) none) [hsl : SlTy P t e k] (hx : a.eval x = .slice A n cap) (hhi : a.eval hi = .int kk ii) [r : RdAt E B H A xs] (hn : n = xs.length) (hk : E.k = k) (h0 : 0 ≤ ii) (h1 : ii ≤ xs.length) (hc : n ≤ cap) :
    ∃ A', (∀ w, (execOp a.eval o).run P w = .ok (.value (.slice A' ii.toNat cap)) w) ∧ RdAt E B H A' (xs.take ii.toNat) ∧ ii.toNat = (xs.take ii.toNat).length := by
  subst hn; subst hk
  refine ⟨if cap = 0 then A else A.map (·.add (0 * E.k)), fun w => ?_, ?_, by simp; omega⟩
  · simp only [execOp, ho, hx, Instr.sliceAt, Instr.slice, Sem.run_bind, run_underlying hsl.under, Result.andThen_ok, Option.map_some, Option.map_none, hhi, Instr.sliceBounds, if_true, run_sliceBound h0 (show ii ≤ (cap : Int) by omega), Sem.run_pure, run_sizeOf hsl.size, Nat.sub_zero]
  · split
    · exact r.take _
    · have e : A.map (·.add (0 * E.k)) = A := by
        have : ∀ ad : Addr, ad.add 0 = ad := fun ad => by cases ad; simp [Addr.add]
        cases A <;> simp [this]
      rw [e]; exact r.take _
end

section
variable {P : Program} {ops : Array Oper} {Q : Exit → Act → World → Prop} {B : Base} {H : HL} {id : Nat} {a : Act} {w : World}
/-- A statement that leaves its order open, in the symbolic heap. -/
theorem wp_drawnS (hS : Sh B H w) (l : List (Nat × Bool)) (hm : P.follows .mixedOrders = true)
    (hs : (Region.noSelect ops && okOrder ops l (Array.replicate ops.size false) && decide (l.length ≤ ops.size) && l.all (fun p => decide (p.1 < ops.size))) = true)
    (hQ : ∀ d v c a w, Q (.panic c) (Act.put a d v) w → Q (.panic c) a w) (h : wpG P ops Q (Sh B H) (picks ops.toList l) a w.drew) : (Code.region id ops true).wp P Q a w := wp_drawn l hm hs hQ h
end

section
variable {P : Program} {ops : Array Oper} {Q : Exit → Act → World → Prop} {rest : List Oper} {o : Oper} {a : Act} {B : Base} {H : HL} {w : World} {α : Type} {E : Enc α}
theorem wl_ap {t e bytes cap cap' nx ny : Nat} {s x : Operand} {A A' : Option Addr} {xs ys : List α} {sp : List Value} (hw : Region.wanted o (yielded ops a.tmps) = true)
    (ho : o.op = .call { callee := .builtin .append, args := #[s, x], argTypes := #[t, t] }) [hsl : SlTy P t e E.k] [hel : ElTy P e E.k bytes]
    (hs : a.eval s = .slice A nx cap) (hx : a.eval x = .slice A' ny cap') (hS : Sh B H w) [hO : OwnSl E A xs sp cap] {C : HL → HL} [hp : CtxRow H A (flat E xs ++ sp) e C] [hr : RdAt E B H A' ys] (hnx : nx = xs.length) (hny : ny = ys.length)
    (hb : (xs.length + ys.length) * bytes ≤ 140737488355328) (hb0 : 0 < bytes)
    (h : ∀ A2 sp2 cap2 w2, OwnSl E A2 (xs ++ ys) sp2 cap2 → Sh B (C (rowA A2 (flat E (xs ++ ys) ++ sp2) e)) w2 → wpList P ops Q rest (a.put o.dst (.slice A2 (xs ++ ys).length cap2)) w2) : wpList P ops Q (o :: rest) a w := by
  subst hnx; subst hny
  exact wl_append hw ho hs hx hS hO hr hb hb0 h
end
/-- A store of a row over a whole own block. -/
theorem wl_strC {P : Program} {ops : Array Oper} {Q : Exit → Act → World → Prop} {rest : List Oper} {o : Oper} {a : Act} {B : Base} {H : HL} {w : World} {T n n1 n2 : Nat} {x y : Operand} {b Tb : Nat} {l vs : List Value} (hw : Region.wanted o (yielded ops a.tmps) = true) (ho : o.op = .store T x y) [hT : IsRow P T n]
    (hx : a.eval x = .pointer (some ⟨b, 0, none⟩)) (hy : a.eval y = .agg vs.toArray) [hv : RowOk vs n1] (hS : Sh B H w) {C : HL → HL} [hp : CtxCell H b l Tb C] [hl : RowOk l n2] (e1 : n1 = n) (e2 : n2 = n)
    (h : ∀ w', Sh B (C (cellB b vs Tb)) w' → wpList P ops Q rest (a.put o.dst undef) w') : wpList P ops Q (o :: rest) a w :=
  wl_str0 hw ho hx hy (hv.len.trans e1) hv.one hS (hl.len.trans e2) h
theorem ldv_all {P : Program} {B : Base} {H R : HL} {w : World} {T n n1 b Tb : Nat} {l : List Value} (hS : Sh B H w) [IsRow P T n] [HasCell H b l Tb R] [hl : RowOk l n1] (e : n1 = n) : (loadVar T ⟨b, 0, none⟩).run P w = .ok (.agg l.toArray) w :=
  ldv_row (hS.rangeAll (b := b)) (hl.len.trans e)

/-- Is it a load? -/
theorem wl_isld {P : Program} {ops : Array Oper} {Q : Exit → Act → World → Prop} {rest : List Oper} {o : Oper} {a : Act} {w : World} {T : TypeId} {x : Operand} (ho : o.op = .load T x) (h : wpList P ops Q (o :: rest) a w) : wpList P ops Q (o :: rest) a w := h
theorem wpH_isld {P : Program} {ops : Array Oper} {Q : Exit → Act → World → Prop} {S : World → Prop} {rest : List (Oper × Bool)} {o : Oper} {a : Act} {w : World} {T : TypeId} {x : Operand} (ho : o.op = .load T x) (h : wpG P ops Q S ((o, true) :: rest) a w) : wpG P ops Q S ((o, true) :: rest) a w := h
section
variable {P : Program} {ops : Array Oper} {Q : Exit → Act → World → Prop} {rest : List Oper} {o : Oper} {a : Act} {B : Base} {H : HL} {w : World} {α : Type} {E : Enc α}
/-- .. the whole by a name of its own. -/
theorem wl_apz {t e bytes cap cap' nx ny : Nat} {s x : Operand} {A A' : Option Addr} {xs ys : List α} {sp : List Value} (hw : Region.wanted o (yielded ops a.tmps) = true)
    (ho : o.op = .call { callee := .builtin .append, args := #[s, x], argTypes := #[t, t] }) [hsl : SlTy P t e E.k] [hel : ElTy P e E.k bytes]
    (hs : a.eval s = .slice A nx cap) (hx : a.eval x = .slice A' ny cap') (hS : Sh B H w) [hO : OwnSl E A xs sp cap] {C : HL → HL} [hp : CtxRow H A (flat E xs ++ sp) e C] [hr : RdAt E B H A' ys] (hnx : nx = xs.length) (hny : ny = ys.length)
    (hb : (xs.length + ys.length) * bytes ≤ 140737488355328) (hb0 : 0 < bytes)
    (h : ∀ zs A2 sp2 cap2 w2, zs = xs ++ ys → OwnSl E A2 zs sp2 cap2 → Sh B (C (rowA A2 (flat E zs ++ sp2) e)) w2 → wpList P ops Q rest (a.put o.dst (.slice A2 zs.length cap2)) w2) : wpList P ops Q (o :: rest) a w :=
  wl_ap hw ho hs hx hS hnx hny hb hb0 fun A2 sp2 cap2 w2 hO2 hS2 => h _ A2 sp2 cap2 w2 rfl hO2 hS2
end
theorem Sh.row0 {B : Base} {H : HL} {w : World} {l : List Value} {T : TypeId} (h : Sh B H w) : Sh B (rowA none l T ++ H) w := h
instance (priority := 2800) Sup.row0 {H H' : HL} {l : List Value} {T : TypeId} [hs : Sup H H'] : Sup H (rowA none l T ++ H') := ⟨fun B w h => hs.out B w h⟩
/-- Where a walk is to stand still. -/
structure Stopped (p : Prop) : Prop where out : p
theorem stop_append {P : Program} {ops : Array Oper} {Q : Exit → Act → World → Prop} {rest : List Oper} {o : Oper} {a : Act} {w : World} {args : Array Operand} {ats : Array TypeId} (ho : o.op = .call { callee := .builtin .append, args := args, argTypes := ats }) (h : Stopped (wpList P ops Q (o :: rest) a w)) : wpList P ops Q (o :: rest) a w := h.out
theorem stop_call {P : Program} {ops : Array Oper} {Q : Exit → Act → World → Prop} {rest : List Oper} {o : Oper} {a : Act} {w : World} {f : Operand} {args : Array Operand} {ats : Array TypeId} (ho : o.op = .call { callee := .value f, args := args, argTypes := ats }) (h : Stopped (wpList P ops Q (o :: rest) a w)) : wpList P ops Q (o :: rest) a w := h.out
theorem go_on {G : Prop} (h : G) : Stopped G := ⟨h⟩

/-- Whether two are one, as the program tells it. -/
class EqA (P : Program) (T : TypeId) (l m : List Value) (r : outParam Bool) : Prop where
  guard : P.eqGuardType P.depth T = false
  out : ∀ w, (Op.equalIn 10000 T (.agg l.toArray) (.agg m.toArray)).run P w = .ok r w
theorem ex_eqA {P : Program} {o : Oper} {a : Act} {w : World} {t u : TypeId} {x y : Operand} {l m : List Value} {r : Bool} (ho : o.op = .binOp .eql t x y u) (hx : a.eval x = .agg l.toArray) (hy : a.eval y = .agg m.toArray) [h : EqA P t l m r] : (execOp a.eval o).run P w = .ok (.value (.bool r)) w :=
  ex_eql ho hx hy h.guard (h.out w)
theorem ex_neA {P : Program} {o : Oper} {a : Act} {w : World} {t u : TypeId} {x y : Operand} {l m : List Value} {r : Bool} (ho : o.op = .binOp .neq t x y u) (hx : a.eval x = .agg l.toArray) (hy : a.eval y = .agg m.toArray) [h : EqA P t l m r] : (execOp a.eval o).run P w = .ok (.value (.bool (!r))) w := by
  have h1 : (binOp .neq t (.agg l.toArray) (.agg m.toArray)).run P w = .ok (.bool (!r)) w := by rw [run_neq_struct, h.out w]; rfl
  simp only [execOp, ho, hx, hy]
  simp [Sem.run_bind, run_eqGuard_agg w .neq t x y l.toArray m.toArray h.guard, h1]

section
variable {P : Program} {ops : Array Oper} {Q : Exit → Act → World → Prop} {rest : List Oper} {o : Oper} {a : Act} {B : Base} {H : HL} {w : World} {α : Type} {E : Enc α}
theorem Nth.set {xs : List α} {j : Nat} {x z : α} (h : Nth xs j x) : Nth (xs.set j z) j z := ⟨by rw [List.getElem?_set_self h.lt]⟩
theorem flat_set {xs : List α} {j : Nat} {x z : α} (h : Nth xs j x) (vs : List Value) (f : Nat) (hf : f + vs.length ≤ E.k) (hz : E.cells z = splice (E.cells x) f vs) (sp : List Value) : flat E (xs.set j z) ++ sp = splice (flat E xs ++ sp) (j * E.k + f) vs := by
  have hlt := h.lt
  have hl : (flat E xs ++ sp).length = xs.length * E.k + sp.length := by rw [List.length_append, flat_length]
  have hle : j * E.k + E.k ≤ xs.length * E.k := by
    have := Nat.mul_le_mul_right E.k (show j + 1 ≤ xs.length from hlt)
    rwa [Nat.succ_mul] at this
  rw [splice_eq _ _ _ (by rw [hl]; omega)]
  have hx : xs = xs.take j ++ x :: xs.drop (j + 1) := by rw [← h.drop]; simp
  have e1 : flat E (xs.set j z) = flat E (xs.take j) ++ (E.cells z ++ flat E (xs.drop (j + 1))) := by
    have : xs.set j z = xs.take j ++ z :: xs.drop (j + 1) := by
      rw [List.set_eq_take_append_cons_drop, if_pos hlt]
    rw [this, flat_append, flat_cons]
  have e2 : flat E xs = flat E (xs.take j) ++ (E.cells x ++ flat E (xs.drop (j + 1))) := by
    conv => lhs; rw [hx]
    rw [flat_append, flat_cons]
  have ht : (flat E (xs.take j)).length = j * E.k := by rw [flat_length, List.length_take, Nat.min_eq_left (Nat.le_of_lt hlt)]
  have hxl := E.len x
  rw [e1, e2, hz, splice_eq _ _ _ (by rw [hxl]; omega)]
  clear e1 e2 hx
  generalize flat E (xs.take j) = L1 at *
  simp only [List.append_assoc]
  rw [List.take_append, List.drop_append, ht]
  rw [show L1.take (j * E.k + f) = L1 from List.take_of_length_le (by omega), show L1.drop (j * E.k + f + vs.length) = [] from List.drop_of_length_le (by omega)]
  rw [show j * E.k + f - j * E.k = f by omega, show j * E.k + f + vs.length - j * E.k = f + vs.length by omega]
  rw [List.take_append_of_le_length (by omega), List.drop_append_of_le_length (by omega)]
  simp

/-- A store into an own slice's element. -/
theorem wl_stEr {T n k f : Nat} {x y : Operand} {A : Option Addr} {xs : List α} {sp : List Value} {cap Te j : Nat} {x0 : α} {vs : List Value} {v : Value} (hw : Region.wanted o (yielded ops a.tmps) = true) (ho : o.op = .store T x y) (hT : (P.info? T).map (·.size) = some n)
    (hx : a.eval x = .pointer (some ⟨blkA A, offA A + j * k + f, none⟩)) (hy : a.eval y = v) (hv : v.cells = vs.toArray) (hn : vs.length = n) (h1 : ∀ u ∈ vs, u.oneCell' = true) (hS : Sh B H w) (hO : OwnSl E A xs sp cap) {C : HL → HL} [hp : CtxRow H A (flat E xs ++ sp) Te C] [g : Nth xs j x0] (hk : E.k = k) (z : α) (hz : E.cells z = splice (E.cells x0) f vs) (hf : f + n ≤ E.k)
    (h : ∀ w', Sh B (C (rowA A (flat E (xs.set j z) ++ sp) Te)) w' → OwnSl E A (xs.set j z) sp cap → Nth (xs.set j z) j z → wpList P ops Q rest (a.put o.dst undef) w') : wpList P ops Q (o :: rest) a w := by
  obtain ⟨R, hS0, back⟩ := Sh.out (hp.eq ▸ hS) hp.ctx
  have hlt := g.lt
  cases hA : A with
  | none => have := (hO.nil hA).1; subst this; simp at hlt
  | some ad =>
    subst hA; subst hk; subst hn
    have hform := hO.form ad rfl
    have hoff : offA (some ad) = 0 := hO.off
    rw [hform] at hx hS0
    have hx' : a.eval x = .pointer (some ⟨ad.block, j * E.k + f, none⟩) := by rw [hx]; simp [blkA, offA]
    have hle : j * E.k + E.k ≤ xs.length * E.k := by
      have := Nat.mul_le_mul_right E.k (show j + 1 ≤ xs.length from hlt)
      rwa [Nat.succ_mul] at this
    obtain ⟨w', hr, hS'⟩ := run_storeAt_sh (P := P) (T := T) (b := ad.block) (off := j * E.k + f) (v := v) (vs := vs) (l := flat E xs ++ sp) hT hv hS0 (by rw [List.length_append, flat_length]; omega) h1
    rw [← flat_set g vs f hf hz sp] at hS'
    refine wl_skip' hw (by simp [execOp, ho, hx', hy, hr]) (h w' ?_ ?_ g.set)
    · have := back (rowA (some ad) (flat E (xs.set j z) ++ sp) Te) w' (by rw [hform]; exact hS')
      exact this
    · exact ⟨fun e => (by cases e), hO.form, by rw [List.length_set]; exact hO.capEq, hO.max⟩
theorem wl_stE {T k f : Nat} {x y : Operand} {A : Option Addr} {xs : List α} {sp : List Value} {cap Te j : Nat} {x0 : α} {v : Value} (hw : Region.wanted o (yielded ops a.tmps) = true) (ho : o.op = .store T x y) [hT : Size1 P T]
    (hx : a.eval x = .pointer (some ⟨blkA A, offA A + j * k + f, none⟩)) (hy : a.eval y = v) (h1 : v.oneCell' = true) (hS : Sh B H w) (hO : OwnSl E A xs sp cap) {C : HL → HL} [hp : CtxRow H A (flat E xs ++ sp) Te C] [g : Nth xs j x0] (hk : E.k = k) (z : α) (hz : E.cells z = (E.cells x0).set f v) (hf : f < E.k)
    (h : ∀ w', Sh B (C (rowA A (flat E (xs.set j z) ++ sp) Te)) w' → OwnSl E A (xs.set j z) sp cap → Nth (xs.set j z) j z → wpList P ops Q rest (a.put o.dst undef) w') : wpList P ops Q (o :: rest) a w :=
  wl_stEr (n := 1) (vs := [v]) hw ho hT.size hx hy (by cases v <;> simp_all [Value.cells, Value.oneCell']) rfl (by simpa using h1) hS hO hk z (by simpa [splice] using hz) (by omega) h
theorem wl_stE0 {T k : Nat} {x y : Operand} {A : Option Addr} {xs : List α} {sp : List Value} {cap Te j : Nat} {x0 : α} {v : Value} (hw : Region.wanted o (yielded ops a.tmps) = true) (ho : o.op = .store T x y) [hT : Size1 P T]
    (hx : a.eval x = .pointer (some ⟨blkA A, offA A + j * k, none⟩)) (hy : a.eval y = v) (h1 : v.oneCell' = true) (hS : Sh B H w) (hO : OwnSl E A xs sp cap) {C : HL → HL} [hp : CtxRow H A (flat E xs ++ sp) Te C] [g : Nth xs j x0] (hk : E.k = k) (z : α) (hz : E.cells z = (E.cells x0).set 0 v)
    (h : ∀ w', Sh B (C (rowA A (flat E (xs.set j z) ++ sp) Te)) w' → OwnSl E A (xs.set j z) sp cap → Nth (xs.set j z) j z → wpList P ops Q rest (a.put o.dst undef) w') : wpList P ops Q (o :: rest) a w :=
  wl_stE (f := 0) hw ho hx hy h1 hS hO hk z hz E.pos h
/-- .. of the whole element. -/
theorem wl_stEw {T n k : Nat} {x y : Operand} {A : Option Addr} {xs : List α} {sp : List Value} {cap Te j : Nat} {x0 z : α} (hw : Region.wanted o (yielded ops a.tmps) = true) (ho : o.op = .store T x y) [hT : IsRow P T n]
    (hx : a.eval x = .pointer (some ⟨blkA A, offA A + j * k, none⟩)) (hy : a.eval y = .agg (E.cells z).toArray) (hS : Sh B H w) (hO : OwnSl E A xs sp cap) {C : HL → HL} [hp : CtxRow H A (flat E xs ++ sp) Te C] [g : Nth xs j x0] (hk : E.k = k) (hn : E.k = n)
    (h : ∀ w', Sh B (C (rowA A (flat E (xs.set j z) ++ sp) Te)) w' → OwnSl E A (xs.set j z) sp cap → Nth (xs.set j z) j z → wpList P ops Q rest (a.put o.dst undef) w') : wpList P ops Q (o :: rest) a w :=
  wl_stEr (f := 0) (vs := E.cells z) hw ho hT.size hx hy rfl (by rw [E.len, hn]) (E.one z) hS hO hk z (by rw [splice_all _ _ (by rw [E.len, E.len])]) (by omega) h
end
end Go.Tk
