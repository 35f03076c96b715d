/- The queue's rows: by rising Born. -/
import Derived.Test.YteahpjecpdcpaaaQ2
import Derived.Test.YteahpjecpdcpaaaTkS
import Derived.Test.YteahpjecpdcpaaaTryShelf
set_option linter.unusedSectionVars false
set_option linter.unusedSimpArgs false
set_option linter.unusedVariables false
namespace Go.Tk
open Go.RowKit Go.Proofs

def cmpI (a b : Int) : Int := if a < b then -1 else if b < a then 1 else 0
set_option maxHeartbeats 800000 in
theorem isNaN_any (x : Int) (W : World) : Calls Try.prog 54 #[.int .i64 x] W fun e w' => e = .returned (.bool false) ∧ w' = W := by
  go_enter Try.func54, Try.ntmps54
  go_wp2
  go_ret
  refine ⟨?_, rfl⟩
  simp
set_option maxHeartbeats 800000 in
theorem Compare_any (x y : Int) (W : World) : Calls Try.prog 45 #[.int .i64 x, .int .i64 y] W fun e w' => e = .returned (.int .i64 (cmpI x y)) ∧ w' = W := by
  go_enter Try.func45, Try.ntmps45
  by_cases h1 : x < y
  · have hf : cmpI x y = -1 := by simp [cmpI, h1]
    rw [hf]
    go_wp2_with (first | (go_at_call 54; refine ((isNaN_any _ _)).mono ?_; rintro e w' (⟨rfl, rfl⟩)))
    go_ret
    exact ⟨rfl, rfl⟩
  · by_cases h2 : y < x
    · have hf : cmpI x y = 1 := by simp [cmpI, h1, h2]
      rw [hf]
      go_wp2_with (first | (go_at_call 54; refine ((isNaN_any _ _)).mono ?_; rintro e w' (⟨rfl, rfl⟩)))
      go_ret
      exact ⟨rfl, rfl⟩
    · have hf : cmpI x y = 0 := by simp [cmpI, h1, h2]
      rw [hf]
      go_wp2_with (first | (go_at_call 54; refine ((isNaN_any _ _)).mono ?_; rintro e w' (⟨rfl, rfl⟩)))
      go_ret
      exact ⟨rfl, rfl⟩
def bornC (a b : Wait) : Int := cmpI a.born b.born
set_option maxRecDepth 100000 in
set_option maxHeartbeats 800000 in
theorem rows1_any : CmpPure Try.prog 47 #[] waitE bornC := by
  intro x y W
  have hS := Sh.of W
  have h1 : x.cells[33]? = some (.int .i64 x.born) := by have := Wait.at33 x []; simpa using this
  have h2 : y.cells[33]? = some (.int .i64 y.born) := by have := Wait.at33 y []; simpa using this
  have H1 := Lib.hid h1
  have H2 := Lib.hid h2
  clear h1 h2
  show Calls Try.prog 47 #[.agg x.cells.toArray, .agg y.cells.toArray] W _
  go_enter Try.func47, Try.ntmps47
  go_wp2_with (first | (go_at_call 45; refine ((Compare_any _ _ _)).mono ?_; rintro e w' (⟨rfl, rfl⟩)) | (refine wl_box rfl rfl rfl rfl hS ?_; intro _ _ hS; (try simp only [Act.put, List.setIfInBounds_toArray, List.set_cons_zero, List.set_cons_succ])) | (refine wl_ld rfl rfl rfl (Sh.ldC hS H1.out) ?_; (try simp only [Act.put, List.setIfInBounds_toArray, List.set_cons_zero, List.set_cons_succ])) | (refine wl_ld rfl rfl rfl (Sh.ldC hS H2.out) ?_; (try simp only [Act.put, List.setIfInBounds_toArray, List.set_cons_zero, List.set_cons_succ])))
  go_ret
  exact ⟨rfl, hS.drop.drop⟩
end Go.Tk
