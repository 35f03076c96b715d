/- Slices cut ahead; rows of entries. -/
import Derived.Test.YtclmemhginekbaaDoorP20
set_option linter.unusedSectionVars false
set_option linter.unusedSimpArgs false
set_option linter.unusedVariables false
namespace Go.Tk
open Go.RowKit Go.Proofs
instance (x : En) : RowOk (enE.cells x) 3 := ⟨rfl, enE.one x⟩
def cutA (A : Option Addr) (cap k : Nat) : Option Addr := if cap = 1 then A else A.map (·.add (1 * k))
theorem ex_cut1 {P : Program} {o : Oper} {ac : Act} {w : World} {t e k n cap : Nat} {x lo : Operand} {kk : IntKind} {A : Option Addr} [hsl : SlTy P t e k] (ho : o.op = .slice t x (some lo) none none) (hx : ac.eval x = .slice A n cap) (hh : ac.eval lo = .int kk 1) (hle : 1 ≤ n) :
    (execOp ac.eval o).run P w = .ok (.value (.slice (cutA A cap k) (n - 1) (cap - 1))) w := ex_cutL (l := 1) ho hx hh hle
theorem cutRd1 {α : Type} {E : Enc α} {B : Base} {H : HL} {A : Option Addr} {cap : Nat} {xs : List α} (r : RdAt E B H A xs) (hc : xs.length ≤ cap) : RdAt E B H (cutA A cap E.k) (xs.drop 1) := by
  unfold cutA
  by_cases h : cap = 1
  · rw [List.drop_eq_nil_of_le (by omega)]
    exact RdAt.nil
  · rw [if_neg h]
    exact r.drop 1
theorem Nth.cons {α : Type} {a : List α} {x : α} (g : Nth a 0 x) : a = x :: a.drop 1 := by have := g.drop; rwa [List.drop_zero] at this
end Go.Tk
