/- Whether two rows of cells are one: '==' of structs and arrays. -/
import Derived.Test.YtclmemhginekbaaDoorTkL
import Derived.ChangeKeysEq
import Derived.Laws.StructEq
set_option linter.unusedSectionVars false
set_option linter.unusedSimpArgs false
set_option linter.unusedVariables false
namespace Go.Proofs
end Go.Proofs
namespace Go.Tk
open Go.RowKit Go.Proofs

section
variable {P : Program} {w : World}
theorem part_sc {t : TypeId} [IsScalar P t] {xs : List Value} {off : Nat} {v : Value} (h : xs[off]? = some v) : (part t xs.toArray off).run P w = .ok v w := by
  simp [part, Sem.run_bind, run_isAgg_scalar, h]
theorem run_isAgg_row' {T n : TypeId} [h : IsRow P T n] (w : World) : (isAgg T).run P w = .ok true w := by
  obtain ⟨d, h1, h2⟩ := h.out
  unfold isAgg
  cases d <;> simp_all [Sem.run_bind, run_underlying h1, TypeDesc.isRow]
theorem part_row {t n : TypeId} [hr : IsRow P t n] (xs : List Value) (off : Nat) : (part t xs.toArray off).run P w = .ok (.agg ((xs.drop off).take n).toArray) w := by
  simp only [part, Sem.run_bind, run_isAgg_row', Result.andThen_ok, if_true, run_sizeOf hr.size]
  simp

theorem eqF_nil {d : Nat} {xs ys : Array Value} : (Op.eqFields d xs ys []).run P w = .ok true w := by simp [Op.eqFields]
theorem eqF_cons {d : Nat} {xs ys : Array Value} {f : Field} {fs : List Field} {a b : Value} {r s : Bool} (hn : (f.name == "_") = false) (ha : (part f.type xs f.offset).run P w = .ok a w) (hb : (part f.type ys f.offset).run P w = .ok b w)
    (he : (Op.equalIn d f.type a b).run P w = .ok r w) (hr : (Op.eqFields d xs ys fs).run P w = .ok s w) : (Op.eqFields d xs ys (f :: fs)).run P w = .ok (r && s) w := by
  have hn' : f.name ≠ "_" := by simpa using hn
  unfold Op.eqFields
  simp only [if_pos hn', Sem.run_bind, ha, hb, he, Result.andThen_ok]
  cases r
  · simp
  · simpa using hr
theorem eq_struct {d : Nat} {t : TypeId} {fs : Array Field} {xs ys : Array Value} {r : Bool} (hu : P.underlying t = some (.struct fs)) (hp : P.stoodInHeld t = false) (h : (Op.eqFields d xs ys fs.toList).run P w = .ok r w) :
    (Op.equalIn (d + 1) t (.agg xs) (.agg ys)).run P w = .ok r w := by
  have hf : P.fieldsOf t = fs := by simp [Program.fieldsOf, hu]
  rw [run_equalIn_struct (P := P) w d t xs ys (by rw [hf]; exact hu) hp, hf]
  exact h
theorem eq_int {d : Nat} {t : TypeId} {k k' : IntKind} {a b : Int} (hu : P.underlying t = some (.int k')) : (Op.equalIn (d + 1) t (.int k a) (.int k b)).run P w = .ok (a == b) w := run_equalIn_int w d t k k' a b hu

/-- A row of ints. -/
theorem eqItems_int {d : Nat} {e : TypeId} {k k' : IntKind} (hu : P.underlying e = some (.int k')) [IsScalar P e] (l m : List Int) (hl : l.length = m.length) : ∀ (is : List Nat), (∀ i ∈ is, i < l.length) →
    (Op.eqItems (d + 1) e 1 (l.map (Value.int k)).toArray (m.map (Value.int k)).toArray is).run P w = .ok (is.all fun i => l[i]? == m[i]?) w
  | [], _ => by simp [Op.eqItems]
  | i :: is, h => by
    have hi := h i (by simp)
    have h1 : (l.map (Value.int k))[i * 1]? = some (.int k l[i]) := by rw [Nat.mul_one, List.getElem?_map, List.getElem?_eq_getElem hi]; rfl
    have hi2 : i < m.length := hl ▸ hi
    have h2 : (m.map (Value.int k))[i * 1]? = some (.int k m[i]) := by rw [Nat.mul_one, List.getElem?_map, List.getElem?_eq_getElem hi2]; rfl
    have ih := eqItems_int (d := d) (k := k) hu l m hl is (fun j hj => h j (by simp [hj]))
    unfold Op.eqItems
    simp only [Sem.run_bind, part_sc h1, part_sc h2, Result.andThen_ok, eq_int hu]
    rw [List.all_cons, List.getElem?_eq_getElem hi, List.getElem?_eq_getElem hi2]
    by_cases hx : l[i] = m[i]
    · simp [hx, ih]
    · simp [hx]
theorem all_eq (l m : List Int) (hl : l.length = m.length) : ((List.range l.length).all fun i => l[i]? == m[i]?) = decide (l = m) := by
  rw [Bool.eq_iff_iff]
  simp only [List.all_eq_true, List.mem_range, beq_iff_eq, decide_eq_true_eq]
  constructor
  · intro h
    apply List.ext_getElem? 
    intro i
    by_cases hi : i < l.length
    · exact h i hi
    · rw [List.getElem?_eq_none (by omega), List.getElem?_eq_none (by omega)]
  · rintro rfl i _; rfl
theorem eq_ints {d n : Nat} {t e : TypeId} {k k' : IntKind} (hu : P.underlying t = some (.array n e)) (hi : (P.info? e).isSome = true) (hc : P.cellsOf e = 1) (he : P.underlying e = some (.int k')) [IsScalar P e] (l m : List Int) (hl : l.length = n) (hm : m.length = n) :
    (Op.equalIn (d + 2) t (.agg (l.map (Value.int k)).toArray) (.agg (m.map (Value.int k)).toArray)).run P w = .ok (decide (l = m)) w := by
  obtain ⟨i, hi⟩ := Option.isSome_iff_exists.1 hi
  rw [run_equalIn_array w (d + 1) _ _ hu hi, hc, eqItems_int he l m (by omega) _ (by intro i h; simp at h; omega)]
  subst hl
  rw [all_eq l m (by omega)]
end

section
variable {P : Program} {ops : Array Oper} {Q : Exit → Act → World → Prop} {rest : List Oper} {o : Oper} {a : Act} {w : World}
theorem ex_eql {t u : TypeId} {x y : Operand} {xs ys : Array Value} {r : Bool} (ho : o.op = .binOp .eql t x y u) (hx : a.eval x = .agg xs) (hy : a.eval y = .agg ys) (hm : P.eqGuardType P.depth t = false) (h : (Op.equalIn 10000 t (.agg xs) (.agg ys)).run P w = .ok r w) :
    (execOp a.eval o).run P w = .ok (.value (.bool r)) w := by
  have h1 : (binOp .eql t (.agg xs) (.agg ys)).run P w = .ok (.bool r) w := by rw [run_eql_struct, h]; rfl
  simp only [execOp, ho, hx, hy]
  simp [Sem.run_bind, run_eqGuard_agg w .eql t x y xs ys hm, h1]
end
end Go.Tk
