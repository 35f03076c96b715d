/- Rows of elements: how they lie in a block, and how they are read. -/
import Derived.Test.YtclmemhginekbaaDoorTkA
set_option linter.unusedSectionVars false
set_option linter.unusedSimpArgs false
set_option linter.unusedVariables false
namespace Go.Tk
open Go.RowKit

structure Enc (α : Type) where
  val : α → Value
  cells : α → List Value
  valc : ∀ x, (val x).cells = (cells x).toArray
  k : Nat
  pos : 0 < k
  len : ∀ x, (cells x).length = k
  one : ∀ x v, v ∈ cells x → v.oneCell' = true

def flat {α : Type} (E : Enc α) (xs : List α) : List Value := xs.flatMap E.cells
section
variable {α : Type} {E : Enc α}
@[simp] theorem flat_nil : flat E [] = [] := rfl
theorem flat_cons (x : α) (xs : List α) : flat E (x :: xs) = E.cells x ++ flat E xs := rfl
theorem flat_append (xs ys : List α) : flat E (xs ++ ys) = flat E xs ++ flat E ys := by simp [flat]
theorem flat_length (xs : List α) : (flat E xs).length = xs.length * E.k := by
  induction xs with
  | nil => simp
  | cons x xs ih => rw [flat_cons, List.length_append, E.len, ih, List.length_cons, Nat.succ_mul]; omega
theorem flat_one (xs : List α) : ∀ v ∈ flat E xs, v.oneCell' = true := by
  intro v hv
  obtain ⟨x, _, hx⟩ := List.mem_flatMap.1 hv
  exact E.one x v hx
theorem flat_get {xs : List α} {j : Nat} {x : α} (hj : xs[j]? = some x) (sp : List Value) {f : Nat} {v : Value} (hv : (E.cells x)[f]? = some v) : (flat E xs ++ sp)[j * E.k + f]? = some v := by
  induction xs generalizing j with
  | nil => simp at hj
  | cons y xs ih =>
    rw [flat_cons, List.append_assoc]
    cases j with
    | zero =>
      simp only [List.getElem?_cons_zero, Option.some.injEq] at hj
      subst hj
      have hlt : f < (E.cells y).length := (List.getElem?_eq_some_iff.1 hv).1
      rw [Nat.zero_mul, Nat.zero_add, List.getElem?_append_left hlt]
      exact hv
    | succ j =>
      have h1 : (j + 1) * E.k + f = (E.cells y).length + (j * E.k + f) := by rw [E.len, Nat.succ_mul]; omega
      rw [h1, List.getElem?_append_right (by omega), Nat.add_sub_cancel_left]
      exact ih (by simpa using hj)
end

def blkA : Option Addr → Nat
  | some a => a.block
  | none => 0
def offA : Option Addr → Nat
  | some a => a.off
  | none => 0

def SlOk (a : Option Addr) (n : Nat) : Prop := 0 < n → ∃ b off, a = some ⟨b, off, none⟩
theorem SlOk.form {a : Option Addr} {n : Nat} (h : SlOk a n) (hn : 0 < n) : a = some ⟨blkA a, offA a, none⟩ := by
  obtain ⟨b, off, rfl⟩ := h hn
  rfl
theorem SlOk.le {a : Option Addr} {n m : Nat} (h : SlOk a n) (hm : m ≤ n) : SlOk a m := fun hp => h (by omega)

def Base.cell (B : Base) (b o : Nat) : Option Value :=
  match B.h b with
  | some (.cells c _ _) => c[o]?
  | _ => none

theorem Sh.bcell {B : Base} {H : HL} {w : World} (h : Sh B H w) {b o : Nat} {v : Value} (hc : B.cell b o = some v) : w.cell? ⟨b, o, none⟩ = some v := by
  unfold Base.cell at hc
  split at hc
  · rename_i c t fr hb
    simp [World.cell?, h.base _ _ hb, hc]
  · cases hc

/-- A slice that lies in the base. -/
class RdB {α : outParam Type} (E : outParam (Enc α)) (B : Base) (a : Option Addr) (xs : outParam (List α)) : Prop where
  ok : SlOk a xs.length
  max : xs.length ≤ 9223372036854775807
  get : ∀ j x, xs[j]? = some x → ∀ f v, (E.cells x)[f]? = some v → B.cell (blkA a) (offA a + j * E.k + f) = some v

/-- An own slice: its value. -/
class OwnSl {α : outParam Type} (E : outParam (Enc α)) (a : Option Addr) (xs : outParam (List α)) (sp : outParam (List Value)) (cap : outParam Nat) : Prop where
  nil : a = none → xs = [] ∧ sp = [] ∧ cap = 0
  form : ∀ ad, a = some ad → ad = ⟨ad.block, 0, none⟩
  capEq : xs.length * E.k + sp.length = cap * E.k
  max : cap ≤ maxLen

/-- How a slice reads in every world that the symbolic heap tells. -/
class RdAt {α : outParam Type} (E : outParam (Enc α)) (B : Base) (H : HL) (a : Option Addr) (xs : outParam (List α)) : Prop where
  ok : SlOk a xs.length
  max : xs.length ≤ 9223372036854775807
  get : ∀ j x, xs[j]? = some x → ∀ f v, (E.cells x)[f]? = some v → ∀ w, Sh B H w → w.cell? ⟨blkA a, offA a + j * E.k + f, none⟩ = some v

section
variable {α : Type} {E : Enc α} {B : Base} {H R : HL} {w : World} {a : Option Addr} {xs : List α}

theorem RdB.at_ (h : RdB E B a xs) (H : HL) : RdAt E B H a xs := ⟨h.ok, h.max, fun j x hj f v hv _ hS => hS.bcell (h.get j x hj f v hv)⟩

theorem OwnSl.len_le {sp : List Value} {cap : Nat} (h : OwnSl E a xs sp cap) : xs.length ≤ cap := by
  have := h.capEq
  have hp := E.pos
  have h2 : xs.length * E.k ≤ cap * E.k := by omega
  exact Nat.le_of_mul_le_mul_right h2 hp

theorem OwnSl.ok {sp : List Value} {cap : Nat} (h : OwnSl E a xs sp cap) : SlOk a xs.length := by
  intro hn
  cases a with
  | none => have := (h.nil rfl).1; subst this; simp at hn
  | some ad => rw [h.form ad rfl]; exact ⟨_, _, rfl⟩

theorem OwnSl.off {sp : List Value} {cap : Nat} (h : OwnSl E a xs sp cap) : offA a = 0 := by
  cases a with
  | none => rfl
  | some ad => rw [h.form ad rfl]; rfl

theorem OwnSl.at_ {sp : List Value} {cap : Nat} {T : TypeId} (h : OwnSl E a xs sp cap) [hp : HasRow H a (flat E xs ++ sp) T R] : RdAt E B H a xs := {
  ok := h.ok
  max := by have := h.len_le; have := h.max; unfold maxLen at this; omega
  get j x hj f v hv w hS := by
    have hS' := hS.pick hp.out
    cases ha : a with
    | none => have := (h.nil ha).1; subst this; simp at hj
    | some ad =>
      subst ha
      have hf := h.form ad rfl
      have ho := hS'.own (ad.block, .cells (flat E xs ++ sp).toArray T (0, 0)) (by simp [rowA])
      rw [hf]
      have h0 : 0 + j * E.k + f = j * E.k + f := by omega
      simp only [blkA, offA, h0]
      simp only [World.cell?]
      rw [ho]
      simpa using flat_get hj sp hv }

theorem RdAt.range (h : RdAt E B H a xs) (hS : Sh B H w) {j : Nat} {x : α} (hj : xs[j]? = some x) : w.rangeAt (blkA a) (offA a + j * E.k) (E.cells x) :=
  fun f v hv => h.get j x hj f v hv w hS
theorem RdAt.f0 (h : RdAt E B H a xs) (hS : Sh B H w) {j : Nat} {x : α} (hj : xs[j]? = some x) {v : Value} (hv : (E.cells x)[0]? = some v) : w.cell? ⟨blkA a, offA a + j * E.k, none⟩ = some v := h.get j x hj 0 v hv w hS
theorem RdAt.ff (h : RdAt E B H a xs) (hS : Sh B H w) {j : Nat} {x : α} (hj : xs[j]? = some x) {f : Nat} {v : Value} (hv : (E.cells x)[f]? = some v) : w.cell? ⟨blkA a, offA a + j * E.k + f, none⟩ = some v := h.get j x hj f v hv w hS
theorem RdAt.f1 (h : RdAt E B H a xs) (hS : Sh B H w) (hk : E.k = 1) {j : Nat} {x : α} (hj : xs[j]? = some x) {v : Value} (hv : (E.cells x)[0]? = some v) : w.cell? ⟨blkA a, offA a + j, none⟩ = some v := by
  have := h.get j x hj 0 v hv w hS
  rwa [hk, Nat.mul_one, Nat.add_zero] at this

theorem Sh.ldC {b off : Nat} {l : List Value} {T : TypeId} {v : Value} [hp : HasCell H b l T R] (hS : Sh B H w) (hv : l[off]? = some v) : w.cell? ⟨b, off, none⟩ = some v := by
  have := (hS.pick hp.out).own (b, .cells l.toArray T (0, 0)) (by simp [cellB])
  simp [World.cell?, this, hv]
theorem Sh.ldB {b off : Nat} {l : List Value} {T : TypeId} {v : Value} (hS : Sh B H w) (hp : PickL H (cellB b l T) R) (hv : l[off]? = some v) : w.cell? ⟨b, off, none⟩ = some v := by
  have := (hS.pick hp).own (b, .cells l.toArray T (0, 0)) (by simp [cellB])
  simp [World.cell?, this, hv]
theorem Sh.rangeC {b : Nat} {l : List Value} {T : TypeId} [hp : HasCell H b l T R] (hS : Sh B H w) (off n : Nat) : w.rangeAt b off ((l.drop off).take n) := by
  intro j v hv
  refine hS.ldB hp.out ?_
  rw [List.getElem?_take] at hv
  split at hv
  · rwa [List.getElem?_drop] at hv
  · cases hv
theorem Sh.rangeAll {b : Nat} {l : List Value} {T : TypeId} [hp : HasCell H b l T R] (hS : Sh B H w) : w.rangeAt b 0 l := by
  have := Sh.rangeC (hp := hp) hS 0 l.length
  simpa using this
end

/-! ### Types -/
class IsScalar (P : Program) (T : TypeId) : Prop where out : ∃ d, P.underlying T = some d ∧ d.isRow = false
class IsRow (P : Program) (T : TypeId) (n : outParam Nat) : Prop where
  out : ∃ d, P.underlying T = some d ∧ d.isRow = true
  size : (P.info? T).map (·.size) = some n
class Size1 (P : Program) (T : TypeId) : Prop where size : (P.info? T).map (·.size) = some 1
class SlTy (P : Program) (t : TypeId) (e : outParam TypeId) (k : outParam Nat) : Prop where
  under : P.underlying t = some (.slice e)
  size : (P.info? e).map (·.size) = some k
class ElTy (P : Program) (e : TypeId) (k bytes : outParam Nat) : Prop where
  out : ∃ i z, P.info? e = some i ∧ i.zero = some z ∧ i.size = k ∧ i.bytes = bytes ∧ z.cells.size = k

theorem run_isAgg_scalar {P : Program} {T : TypeId} [h : IsScalar P T] (w : World) : (isAgg T).run P w = .ok false w := by
  obtain ⟨d, hu, hd⟩ := h.out
  unfold isAgg
  rw [Sem.run_bind, run_underlying hu w]
  cases d <;> simp_all

theorem run_loadAt_scalar {P : Program} {T : TypeId} [IsScalar P T] {w : World} {a : Addr} {v : Value} (hc : w.cell? a = some v) :
    (Instr.loadAt T (.pointer (some a))).run P w = .ok v w := by
  simp [Instr.loadAt, Instr.sureAddr, Sem.run_bind, loadVar, run_isAgg_scalar, load, Sem.run, hc]

theorem run_loadAt_row {P : Program} {T n : Nat} [h : IsRow P T n] {w : World} {b o : Nat} {cs : List Value} (hc : w.rangeAt b o cs) (hn : cs.length = n) :
    (Instr.loadAt T (.pointer (some ⟨b, o, none⟩))).run P w = .ok (.agg cs.toArray) w := by
  obtain ⟨d, hu, hd⟩ := h.out
  exact run_loadAt_mid w b o T cs d hc hu hd (by rw [hn]; exact h.size)

section
variable {P : Program} {ops : Array Oper} {Q : Exit → Act → World → Prop} {rest : List Oper} {o : Oper} {a : Act} {w : World}

/-- An operation that yields a value and leaves the world. -/
theorem wl_value {v : Value} (hw : Region.wanted o (yielded ops a.tmps) = true) (hrun : (execOp a.eval o).run P w = .ok (.value v) w)
    (h : wpList P ops Q rest (a.put o.dst v) w) : wpList P ops Q (o :: rest) a w := by
  refine wpList_step fun K hK => ?_
  rw [if_pos hw]
  unfold Oper.wp
  rw [hrun]
  exact hK _ _ h

theorem wl_to {v : Value} {w' : World} (hw : Region.wanted o (yielded ops a.tmps) = true) (hrun : (execOp a.eval o).run P w = .ok (.value v) w')
    (h : wpList P ops Q rest (a.put o.dst v) w') : wpList P ops Q (o :: rest) a w := by
  refine wpList_step fun K hK => ?_
  rw [if_pos hw]
  unfold Oper.wp
  rw [hrun]
  exact hK _ _ h

theorem wl_skip' {w' : World} (hw : Region.wanted o (yielded ops a.tmps) = true) (hrun : (execOp a.eval o).run P w = .ok .skip w')
    (h : wpList P ops Q rest (a.put o.dst undef) w') : wpList P ops Q (o :: rest) a w := by
  refine wpList_step fun K hK => ?_
  rw [if_pos hw]
  unfold Oper.wp
  rw [hrun]
  exact hK _ _ h

theorem exec_load {T : TypeId} {x : Operand} (ho : o.op = .load T x) {p v : Value} (hx : a.eval x = p) (hrun : (Instr.loadAt T p).run P w = .ok v w) :
    (execOp a.eval o).run P w = .ok (.value v) w := by
  subst hx
  simp [execOp, ho, hrun]

/-- A load of one cell. -/
theorem wl_ld {T : TypeId} {x : Operand} {ad : Addr} {v : Value} (hw : Region.wanted o (yielded ops a.tmps) = true) (ho : o.op = .load T x) [IsScalar P T]
    (hx : a.eval x = .pointer (some ad)) (hc : w.cell? ad = some v) (h : wpList P ops Q rest (a.put o.dst v) w) : wpList P ops Q (o :: rest) a w :=
  wl_value hw (exec_load ho hx (run_loadAt_scalar hc)) h

/-- A load of a struct or an array. -/
theorem wl_ldr {T n : Nat} {x : Operand} {b off : Nat} {cs : List Value} (hw : Region.wanted o (yielded ops a.tmps) = true) (ho : o.op = .load T x) [IsRow P T n]
    (hx : a.eval x = .pointer (some ⟨b, off, none⟩)) (hc : w.rangeAt b off cs) (hn : cs.length = n) (h : wpList P ops Q rest (a.put o.dst (.agg cs.toArray)) w) : wpList P ops Q (o :: rest) a w :=
  wl_value hw (exec_load ho hx (run_loadAt_row hc hn)) h

theorem run_sizeOf {T n : Nat} (h : (P.info? T).map (·.size) = some n) (w : World) : (sizeOf T).run P w = .ok n w := by
  cases hq : P.info? T with
  | none => simp [hq] at h
  | some i =>
    have hs : i.size = n := by simpa [hq] using h
    simp [sizeOf, typeInfo, hq, Sem.run_bind, program, Sem.run, hs]

theorem run_indexAt {t e k : Nat} [h : SlTy P t e k] {A : Option Addr} {n cap : Nat} {kk : IntKind} {i : Int} (h0 : 0 ≤ i) (h1 : i < n) (hok : SlOk A n) (w : World) :
    (Instr.indexAt t (.slice A n cap) (.int kk i)).run P w = .ok (.pointer (some ⟨blkA A, offA A + i.toNat * k, none⟩)) w := by
  have hA := hok.form (by omega)
  rw [hA]
  simp [Instr.indexAt, asIntOf, Sem.run_bind, run_underlying h.under, h0, h1, run_sizeOf h.size, blkA, offA, Addr.add_mid]

/-- The address of an element. -/
theorem wl_idx {t e k : Nat} {x i : Operand} {A : Option Addr} {n cap : Nat} {kk : IntKind} {ii : Int} (hw : Region.wanted o (yielded ops a.tmps) = true) (ho : o.op = .indexAddr t x i) [SlTy P t e k]
    (hx : a.eval x = .slice A n cap) (hi : a.eval i = .int kk ii) (h0 : 0 ≤ ii) (h1 : ii < n) (hok : SlOk A n)
    (h : wpList P ops Q rest (a.put o.dst (.pointer (some ⟨blkA A, offA A + ii.toNat * k, none⟩))) w) : wpList P ops Q (o :: rest) a w :=
  wl_value hw (by simp [execOp, ho, hx, hi, run_indexAt h0 h1 hok w]) h
end
end Go.Tk
