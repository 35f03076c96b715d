/- A statement that leaves its order open: one order, looked at once; what only reads is taken ahead. -/
import Derived.Test.YtclmemhginekbaaDoorTkG
import Derived.OrdersHeld
import Derived.RegionTactic
import Derived.Laws.Tables
set_option linter.unusedSectionVars false
set_option linter.unusedSimpArgs false
set_option linter.unusedVariables false
namespace Go.Tk
open Go.RowKit

section
variable {P : Program} {ops : Array Oper} {Q : Exit → Act → World → Prop} {S : World → Prop}

/-- The operations in an order: 'true': it only reads. -/
def wpH (P : Program) (ops : Array Oper) (Q : Exit → Act → World → Prop) (S : World → Prop) : List (Nat × Bool) → Act → World → Prop
  | [], a, w => Q .normal a w
  | (i, true) :: rest, a, w => ∃ o v, ops[i]? = some o ∧ YieldsIf P ops S o v a ∧ S w ∧ wpH P ops Q S rest (a.put o.dst v) w
  | (i, false) :: rest, a, w => wpOp P ops Q i (fun a' w' => S w' ∧ wpH P ops Q S rest a' w') a w

def okOrder (ops : Array Oper) : List (Nat × Bool) → Array Bool → Bool
  | [], listed => (Region.ready .any ops listed).isEmpty
  | (i, true) :: rest, listed => Region.free .any ops listed i && (Region.ready .any ops listed).contains i && okOrder ops rest (listed.setIfInBounds i true)
  | (i, false) :: rest, listed => (Region.ready .any ops listed == [i]) && okOrder ops rest (listed.setIfInBounds i true)

theorem wpH_sound (hs : Region.noSelect ops = true) (hQ : ∀ d v c a w, Q (.panic c) (Act.put a d v) w → Q (.panic c) a w) :
    ∀ (l : List (Nat × Bool)) (listed : Array Bool) (fuel : Nat) (a : Act) (w : World), okOrder ops l listed = true → l.length ≤ fuel → wpH P ops Q S l a w → wpAnyH P .any ops Q S fuel listed a w
  | [], listed, fuel, a, w, ho, _, h => by
    simp only [okOrder, List.isEmpty_iff] at ho
    exact wpAnyH_done ho h fuel
  | (i, true) :: rest, listed, fuel, a, w, ho, hf, h => by
    simp only [okOrder, Bool.and_eq_true] at ho
    obtain ⟨o, v, hi, hy, hS, h⟩ := h
    obtain ⟨fuel, rfl⟩ : ∃ m, fuel = m + 1 := ⟨fuel - 1, by simp at hf; omega⟩
    exact wpAnyH_take hi hs ho.1.1 ho.1.2 (hQ _ _) hy hS (wpH_sound hs hQ rest _ fuel _ w ho.2 (by simp at hf; omega) h)
  | (i, false) :: rest, listed, fuel, a, w, ho, hf, h => by
    simp only [okOrder, Bool.and_eq_true, beq_iff_eq] at ho
    obtain ⟨fuel, rfl⟩ : ∃ m, fuel = m + 1 := ⟨fuel - 1, by simp at hf; omega⟩
    refine wpAnyH_all ho.1 (by simp) ?_
    intro j hj
    simp only [List.mem_singleton] at hj
    subst hj
    exact wpOp_mono (fun a' w' h' => ⟨h'.1, wpH_sound hs hQ rest _ fuel _ _ ho.2 (by simp at hf; omega) h'.2⟩) h

theorem wp_drawn' {id : Nat} {a : Act} {w : World} (l : List (Nat × Bool)) (hm : P.follows .mixedOrders = true) (hs : (Region.noSelect ops && okOrder ops l (Array.replicate ops.size false) && decide (l.length ≤ ops.size)) = true)
    (hQ : ∀ d v c a w, Q (.panic c) (Act.put a d v) w → Q (.panic c) a w) (h : wpH P ops Q S l a w.drew) : (Code.region id ops true).wp P Q a w := by
  simp only [Bool.and_eq_true, decide_eq_true_eq] at hs
  exact wp_region_held (S := S) hm (wpH_sound hs.1.1 hQ l _ _ a _ hs.1.2 hs.2 h)

/-- The operation at a place. -/
def opAt : List Oper → Nat → Oper
  | o :: _, 0 => o
  | _ :: os, n + 1 => opAt os n
  | [], _ => default
def picks (ops : List Oper) (l : List (Nat × Bool)) : List (Oper × Bool) := l.map fun p => (opAt ops p.1, p.2)
theorem picks_nil (ops : List Oper) : picks ops [] = [] := rfl
theorem picks_cons (ops : List Oper) (i : Nat) (b : Bool) (l : List (Nat × Bool)) : picks ops ((i, b) :: l) = (opAt ops i, b) :: picks ops l := rfl
theorem opAt_get : ∀ {ops : List Oper} {i : Nat}, i < ops.length → ops[i]? = some (opAt ops i)
  | _ :: _, 0, _ => by simp [opAt]
  | _ :: os, n + 1, h => by simp only [List.getElem?_cons_succ, opAt]; exact opAt_get (by simpa using h)

/-- The operations themselves in an order. -/
def wpG (P : Program) (ops : Array Oper) (Q : Exit → Act → World → Prop) (S : World → Prop) : List (Oper × Bool) → Act → World → Prop
  | [], a, w => Q .normal a w
  | (o, true) :: rest, a, w => ∃ v, YieldsIf P ops S o v a ∧ S w ∧ wpG P ops Q S rest (a.put o.dst v) w
  | (o, false) :: rest, a, w => wpList P ops (Exit.then (fun a' w' => S w' ∧ wpG P ops Q S rest a' w') Q) [o] a w

theorem uponQ {o : Oper} {a : Act} {K : Act → World → Prop} {Q1 Q2 : Exit → Act → World → Prop} {r : Result Next} (h1 : ∀ c a w, Q1 (.panic c) a w → Q2 (.panic c) a w) (h2 : LetsOut Q1 → LetsOut Q2)
    (h : o.upon P a K Q1 r) : o.upon P a K Q2 r := by
  cases r with
  | ok n w =>
    cases n <;> simp only [Oper.upon] at h ⊢ <;> try exact h
    case enter f args =>
      refine h.mono fun e w' he => ?_
      cases e with
      | returned v => exact he
      | panicked c => exact h1 _ _ _ he
      | outgrown => exact h2 he
  | halt x w =>
    cases x <;> simp only [Oper.upon] at h ⊢ <;> try exact h
    case panic v => exact h1 _ _ _ h

theorem wpH_E {i : Nat} {o : Oper} {K : Act → World → Prop} {a : Act} {w : World} (hi : ops[i]? = some o)
    (h : wpList P ops (Exit.then K Q) [o] a w) : wpOp P ops Q i K a w := by
  unfold wpOp
  rw [hi]
  simp only [wpList] at h
  split at h
  · rename_i hw
    simp only [hw, if_true]
    rcases h with h | ⟨h1, h2⟩
    · left
      unfold Oper.wp at h ⊢
      refine uponQ ?_ ?_ h
      · intro c a w h; exact h
      · rintro ⟨a0, w0, h0⟩; exact ⟨a0, w0, h0⟩
    · right
      obtain ⟨a0, w0, h0⟩ := h2
      exact ⟨h1, a0, w0, h0⟩
  · rename_i hw
    simp only [hw, if_false]
    exact h

theorem wpG_sound : ∀ (l : List (Nat × Bool)) (a : Act) (w : World), (∀ p ∈ l, p.1 < ops.size) → wpG P ops Q S (picks ops.toList l) a w → wpH P ops Q S l a w
  | [], a, w, _, h => h
  | (i, true) :: rest, a, w, hl, h => by
    obtain ⟨v, hy, hS, h⟩ := h
    have hi : ops[i]? = some (opAt ops.toList i) := by have := opAt_get (ops := ops.toList) (i := i) (by simpa using hl (i, true) List.mem_cons_self); simpa using this
    exact ⟨_, v, hi, hy, hS, wpG_sound rest _ w (fun p hp => hl p (List.mem_cons_of_mem _ hp)) h⟩
  | (i, false) :: rest, a, w, hl, h => by
    have hi : ops[i]? = some (opAt ops.toList i) := by have := opAt_get (ops := ops.toList) (i := i) (by simpa using hl (i, false) List.mem_cons_self); simpa using this
    refine wpOp_mono (fun a' w' h' => ⟨h'.1, wpG_sound rest a' w' (fun p hp => hl p (List.mem_cons_of_mem _ hp)) h'.2⟩) (wpH_E hi h)

theorem wp_drawn {id : Nat} {a : Act} {w : World} (l : List (Nat × Bool)) (hm : P.follows .mixedOrders = true)
    (hs : (Region.noSelect ops && okOrder ops l (Array.replicate ops.size false) && decide (l.length ≤ ops.size) && l.all (fun p => decide (p.1 < ops.size))) = true)
    (hQ : ∀ d v c a w, Q (.panic c) (Act.put a d v) w → Q (.panic c) a w) (h : wpG P ops Q S (picks ops.toList l) a w.drew) : (Code.region id ops true).wp P Q a w := by
  simp only [Bool.and_eq_true, decide_eq_true_eq, List.all_eq_true] at hs
  exact wp_drawn' l hm (by simp [hs.1]) hQ (wpG_sound l _ _ (fun p hp => hs.2 p hp) h)

theorem wpH_nil {a : Act} {w : World} (h : Q .normal a w) : wpG P ops Q S [] a w := h
theorem wpH_done {K C : Act → World → Prop} {Q' : Exit → Act → World → Prop} {a : Act} {w : World} (hK : ∀ a w, C a w → K a w) (h : C a w) : wpG P ops (Exit.then K Q') S [] a w := hK _ _ h
/-- One that only reads. -/
theorem wpH_U {o : Oper} {v : Value} {rest : List (Oper × Bool)} {a : Act} {w : World} (hw : Region.wanted o (yielded ops a.tmps) = true)
    (hy : ∀ w, S w → (execOp a.eval o).run P w = .ok (.value v) w) (hS : S w) (h : wpG P ops Q S rest (a.put o.dst v) w) : wpG P ops Q S ((o, true) :: rest) a w := ⟨v, .inl ⟨hw, hy⟩, hS, h⟩
/-- One that is not carried out. -/
theorem wpH_not {o : Oper} {rest : List (Oper × Bool)} {a : Act} {w : World} (hw : Region.wanted o (yielded ops a.tmps) = false)
    (hS : S w) (h : wpG P ops Q S rest (a.put o.dst undef) w) : wpG P ops Q S ((o, true) :: rest) a w := ⟨undef, .inr ⟨hw, rfl⟩, hS, h⟩
theorem wpH_ex {o : Oper} {rest : List (Oper × Bool)} {a : Act} {w : World} 
    (h : wpList P ops (Exit.then (fun a' w' => S w' ∧ wpG P ops Q S rest a' w') Q) [o] a w) : wpG P ops Q S ((o, false) :: rest) a w := h
end

/-- Which order: what only reads first; else the one that may come up. -/
def planGo (ops : Array Oper) (isU : Oper → Bool) : Nat → Array Bool → List (Nat × Bool) → List (Nat × Bool)
  | 0, _, acc => acc.reverse
  | fuel + 1, listed, acc =>
    let rs := Region.ready .any ops listed
    match rs.find? (fun i => ((ops[i]?).map isU).getD false && Region.free .any ops listed i) with
    | some i => planGo ops isU fuel (listed.setIfInBounds i true) ((i, true) :: acc)
    | none => match rs with
      | [i] => planGo ops isU fuel (listed.setIfInBounds i true) ((i, false) :: acc)
      | _ => acc.reverse
def plan (ops : Array Oper) (isU : Oper → Bool) : List (Nat × Bool) := planGo ops isU ops.size (Array.replicate ops.size false) []
def onlyReads (o : Oper) : Bool :=
  match o.op with
  | .move _ | .assign _ | .pick .. | .nilCheck _ | .binOp .. | .unOp .. | .extract .. | .field .. | .fieldAddr .. | .index .. | .indexAddr .. | .slice .. | .build .. | .load .. | .lookup .. => true
  | .call { callee := .builtin .len, .. } | .call { callee := .builtin .cap, .. } => true
  | _ => false

/-- A function with a body. -/
class EntersC (P : Program) (f : FuncId) : Prop where out : ∀ as w, (callFunc f as).run P w = .ok (.enter f as) w

section
variable {P : Program} {ops : Array Oper} {Q : Exit → Act → World → Prop} {rest : List Oper} {o : Oper} {a : Act} {w : World}
/-- A call: the callee by its contract. -/
theorem wl_call {f : FuncId} {args : Array Operand} {ats : Array TypeId} {as : List Value} [he : EntersC P f] (hw : Region.wanted o (yielded ops a.tmps) = true) (ho : o.op = .call { callee := .value (.func f), args := args, argTypes := ats })
    (ha : args.toList.map a.eval = as) (h : Calls P f as.toArray w fun e w' => ∃ v, e = .returned v ∧ wpList P ops Q rest (a.put o.dst v) w') : wpList P ops Q (o :: rest) a w := by
  refine wpList_step fun K hK => ?_
  rw [if_pos hw]
  have ha' : args.map a.eval = as.toArray := by rw [← ha]; apply Array.ext'; simp
  have hrun : (execOp a.eval o).run P w = .ok (.enter f as.toArray) w := by
    have e1 : a.eval (.func f) = .func (.func f) #[] #[] := rfl
    have := he.out as.toArray w
    simp [execOp, ho, resolve, e1, Deferred.ofValue, invoke, ha', this]
  unfold Oper.wp
  rw [hrun]
  refine h.mono fun e w' he => ?_
  obtain ⟨v, rfl, hv⟩ := he
  exact hK _ _ hv
end

section
variable {P : Program} {o : Oper} {a : Act} {w : World}
theorem ex_ld {T : TypeId} {x : Operand} {ad : Addr} {v : Value} (ho : o.op = .load T x) [IsScalar P T] (hx : a.eval x = .pointer (some ad)) (hc : w.cell? ad = some v) : (execOp a.eval o).run P w = .ok (.value v) w :=
  exec_load ho hx (run_loadAt_scalar hc)
theorem ex_ldr {T n : Nat} {x : Operand} {b off : Nat} {cs : List Value} (ho : o.op = .load T x) [IsRow P T n] (hx : a.eval x = .pointer (some ⟨b, off, none⟩)) (hc : w.rangeAt b off cs) (hn : cs.length = n) : (execOp a.eval o).run P w = .ok (.value (.agg cs.toArray)) w :=
  exec_load ho hx (run_loadAt_row hc hn)
theorem ex_idx {t e k : Nat} {x i : Operand} {A : Option Addr} {n cap : Nat} {kk : IntKind} {ii : Int} (ho : o.op = .indexAddr t x i) [SlTy P t e k] (hx : a.eval x = .slice A n cap) (hi : a.eval i = .int kk ii) (h0 : 0 ≤ ii) (h1 : ii < n) (hok : SlOk A n) :
    (execOp a.eval o).run P w = .ok (.value (.pointer (some ⟨blkA A, offA A + ii.toNat * k, none⟩))) w := by simp [execOp, ho, hx, hi, run_indexAt h0 h1 hok w]
end

/-! ### Structs and arrays written out -/
class StructTy (P : Program) (t : TypeId) (z : outParam (List Value)) (ps : outParam (List (Nat × Nat))) : Prop where out : ∀ parts, P.built t parts = Instr.fill (fun i => ps.toArray[i]?) z.toArray parts
class ArrTy (P : Program) (t : TypeId) (z : outParam (List Value)) (k : outParam Nat) : Prop where out : ∀ parts, P.built t parts = Instr.fill (fun i => some (i * k, k)) z.toArray parts

theorem fill_nil (pl : Nat → Option (Nat × Nat)) (z : List Value) : Instr.fill pl z.toArray [] = some z.toArray := rfl
theorem fill_put (l : List Value) : ∀ (off j0 : Nat) (p q r : List Value), p.length = off + j0 → q.length = l.length →
    (l.zipIdx j0).foldl (fun (cs : Array Value) (x : Value × Nat) => cs.setIfInBounds (off + x.2) x.1) (p ++ (q ++ r)).toArray = (p ++ (l ++ r)).toArray := by
  induction l with
  | nil =>
    intro off j0 p q r hp hq
    have : q = [] := List.length_eq_zero_iff.1 hq
    subst this
    rfl
  | cons v l ih =>
    intro off j0 p q r hp hq
    cases q with
    | nil => simp at hq
    | cons y q =>
      rw [List.zipIdx_cons, List.foldl_cons]
      have e : (p ++ (y :: q ++ r)).toArray.setIfInBounds (off + j0) v = ((p ++ [v]) ++ (q ++ r)).toArray := by
        rw [List.setIfInBounds_toArray, List.set_append_right _ _ (by omega), hp, Nat.sub_self]
        simp
      rw [e, ih off (j0 + 1) (p ++ [v]) q r (by simp; omega) (by simpa using hq)]
      simp
theorem fill_cons {pl : Nat → Option (Nat × Nat)} {i off n : Nat} {v : Value} (l : List Value) {rest : List (Nat × Value)} (p q r : List Value) (hp : pl i = some (off, n)) (hv : v.cells = l.toArray) (hl : l.length = n) (hq : q.length = n) (ho : p.length = off) :
    Instr.fill pl (p ++ (q ++ r)).toArray ((i, v) :: rest) = Instr.fill pl (p ++ (l ++ r)).toArray rest := by
  subst hl; subst ho
  have hpos : ¬ (decide (v.cells.size ≠ l.length) || decide (p.length + v.cells.size > (p ++ (q ++ r)).toArray.size)) = true := by simp [hv, hq]
  rw [Instr.fill, hp]
  simp only
  rw [if_neg hpos, hv]
  congr 1
  have := fill_put l p.length 0 p q r (by simp) hq
  rw [← this, ← Array.foldl_toList, Array.toList_zipIdx]

section
variable {P : Program} {ops : Array Oper} {Q : Exit → Act → World → Prop} {rest : List Oper} {o : Oper} {a : Act} {w : World}
theorem ex_build {t : TypeId} {parts : Array (Nat × Operand)} {z : List Value} {ps : List (Nat × Nat)} [h : StructTy P t z ps] (cs : List Value) (l : List (Nat × Value)) (ho : o.op = .build t parts) (hl : (parts.map fun p => (p.1, a.eval p.2)) = l.toArray)
    (hf : Instr.fill (fun i => ps.toArray[i]?) z.toArray l = some cs.toArray) : (execOp a.eval o).run P w = .ok (.value (.agg cs.toArray)) w := by
  have hb := run_build w t l.toArray cs.toArray (by rw [h.out]; exact hf)
  have e : (parts.map fun x => (x.1, a.eval x.2)) = l.toArray := hl
  simp only [execOp, ho]
  simp [Sem.run_bind, e, hb]
theorem ex_buildA {t k : TypeId} {parts : Array (Nat × Operand)} {z : List Value} [h : ArrTy P t z k] (cs : List Value) (l : List (Nat × Value)) (ho : o.op = .build t parts) (hl : (parts.map fun p => (p.1, a.eval p.2)) = l.toArray)
    (hf : Instr.fill (fun i => some (i * k, k)) z.toArray l = some cs.toArray) : (execOp a.eval o).run P w = .ok (.value (.agg cs.toArray)) w := by
  have hb := run_build w t l.toArray cs.toArray (by rw [h.out]; exact hf)
  have e : (parts.map fun x => (x.1, a.eval x.2)) = l.toArray := hl
  simp only [execOp, ho]
  simp [Sem.run_bind, e, hb]
theorem wl_build {t : TypeId} {parts : Array (Nat × Operand)} {z : List Value} {ps : List (Nat × Nat)} [StructTy P t z ps] (cs : List Value) (l : List (Nat × Value)) (hw : Region.wanted o (yielded ops a.tmps) = true) (ho : o.op = .build t parts) (hl : (parts.map fun p => (p.1, a.eval p.2)) = l.toArray)
    (hf : Instr.fill (fun i => ps.toArray[i]?) z.toArray l = some cs.toArray) (h : wpList P ops Q rest (a.put o.dst (.agg cs.toArray)) w) : wpList P ops Q (o :: rest) a w := wl_value hw (ex_build cs l ho hl hf) h
theorem wl_buildA {t k : TypeId} {parts : Array (Nat × Operand)} {z : List Value} [ArrTy P t z k] (cs : List Value) (l : List (Nat × Value)) (hw : Region.wanted o (yielded ops a.tmps) = true) (ho : o.op = .build t parts) (hl : (parts.map fun p => (p.1, a.eval p.2)) = l.toArray)
    (hf : Instr.fill (fun i => some (i * k, k)) z.toArray l = some cs.toArray) (h : wpList P ops Q rest (a.put o.dst (.agg cs.toArray)) w) : wpList P ops Q (o :: rest) a w := wl_value hw (ex_buildA cs l ho hl hf) h
end
end Go.Tk
