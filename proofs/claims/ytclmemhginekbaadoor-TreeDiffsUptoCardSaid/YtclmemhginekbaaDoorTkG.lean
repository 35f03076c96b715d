/- A function's end: results that lie in memory. -/
import Derived.Test.YtclmemhginekbaaDoorTkF
set_option linter.unusedSectionVars false
set_option linter.unusedSimpArgs false
set_option linter.unusedVariables false
namespace Go.Tk
open Go.RowKit

section
variable {P : Program} {w : World}
theorem ldv_row {T n b off : Nat} [h : IsRow P T n] {cs : List Value} (hc : w.rangeAt b off cs) (hn : cs.length = n) : (loadVar T ⟨b, off, none⟩).run P w = .ok (.agg cs.toArray) w := by
  obtain ⟨d, hu, hd⟩ := h.out
  exact run_loadVar_mid w b off T cs d hc hu hd (by rw [hn]; exact h.size)
theorem ldv_sc {T : Nat} [IsScalar P T] {a : Addr} {v : Value} (hc : w.cell? a = some v) : (loadVar T a).run P w = .ok v w := by
  simp [loadVar, Sem.run_bind, run_isAgg_scalar, load, Sem.run, hc]

inductive ResOk (P : Program) (w : World) (tmps : Array Value) : List ResultVar → List Value → Prop
  | nil : ResOk P w tmps [] []
  | tmp {t : Tmp} {rs : List ResultVar} {vs : List Value} : ResOk P w tmps rs vs → ResOk P w tmps (.tmp t :: rs) (tmps.getD t undef :: vs)
  | cell {t : Tmp} {T : TypeId} {a : Addr} {v : Value} {rs : List ResultVar} {vs : List Value} : tmps.getD t undef = .pointer (some a) → (loadVar T a).run P w = .ok v w → ResOk P w tmps rs vs → ResOk P w tmps (.cell t T :: rs) (v :: vs)

def resOf (tmps : Array Value) : ResultVar → Sem Value
  | .tmp t => pure (tmps.getD t undef)
  | .cell a t => do loadVar t (← asAddr (tmps.getD a undef))
theorem results_eq (fn : Func) (tmps : Array Value) : results fn tmps = (do let vs ← fn.results.mapM (resOf tmps); pure (if h : vs.size = 1 then vs[0] else .tuple vs)) := by
  unfold results
  congr 1

theorem ResOk.run {tmps : Array Value} {rs : List ResultVar} {vs : List Value} (h : ResOk P w tmps rs vs) :
    (rs.mapM (resOf tmps)).run P w = .ok vs w := by
  induction h with
  | nil => rfl
  | tmp _ ih => simp only [List.mapM_cons, resOf, Sem.run_bind, Sem.run_pure, Result.andThen_ok, ih]
  | @cell t T a v rs vs h1 h2 _ ih =>
    have ha : (asAddr (tmps.getD t undef)).run P w = .ok a w := by rw [h1]; rfl
    simp only [List.mapM_cons, resOf, Sem.run_bind, Sem.run_pure, Result.andThen_ok, ih, ha, h2]

def retV : List Value → Value
  | [v] => v
  | vs => .tuple vs.toArray

theorem run_results {fn : Func} {tmps : Array Value} {rs : List ResultVar} {vs : List Value} (hr : fn.results = rs.toArray) (h : ResOk P w tmps rs vs) : (results fn tmps).run P w = .ok (retV vs) w := by
  rw [results_eq, hr, List.mapM_toArray]
  have hm := h.run
  simp only [map_eq_pure_bind, Sem.run_bind, Sem.run_pure] at hm ⊢
  rw [hm]
  simp only [Result.andThen_ok]
  match vs with
  | [] => rfl
  | [v] => rfl
  | v :: u :: vs => simp [retV]

theorem bodyPost_res {fn : Func} {R : Ending → World → Prop} {a : Act} {rs : List ResultVar} {vs : List Value} (hr : fn.results = rs.toArray) (h : ResOk P w a.tmps rs vs) (hd : a.defers = [])
    (hR : R (.returned (retV vs)) w) : bodyPost P fn R .ret a w := bodyPost_ret (run_results hr h) hd hR
theorem bodyPost_resE {fn : Func} {R : Ending → World → Prop} {a : Act} {rs : List ResultVar} {vs : List Value} (hr : fn.results = rs.toArray) (h : ResOk P w a.tmps rs vs) (hd : a.defers = [])
    (hR : R (.returned (retV vs)) w) : bodyPost P fn R .normal a w := bodyPost_end (run_results hr h) hd hR
end
end Go.Tk
