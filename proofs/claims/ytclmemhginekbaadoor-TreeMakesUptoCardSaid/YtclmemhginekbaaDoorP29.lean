/- Merging rows of entries, plain. -/
import Derived.Test.YtclmemhginekbaaDoorPC
set_option linter.unusedSectionVars false
set_option linter.unusedSimpArgs false
set_option linter.unusedVariables false
namespace Go.Tk
open Go.RowKit Go.Proofs
theorem leE_trans {x y z : En} (hx : okP x.path = true) (hy : okP y.path = true) (hz : okP z.path = true) (h1 : 0 ≤ lessI y.path x.path) (h2 : 0 ≤ lessI z.path y.path) : 0 ≤ lessI z.path x.path := by
  obtain ⟨a, ha⟩ := okP_some hx
  obtain ⟨b, hb⟩ := okP_some hy
  obtain ⟨c, hc⟩ := okP_some hz
  rw [lessI_of hb ha] at h1
  rw [lessI_of hc hb] at h2
  rw [lessI_of hc ha]
  have s1 := cmpL_swap b a
  have s2 := cmpL_swap c b
  have s3 := cmpL_swap c a
  have := (cmpL_trans (x := a) (y := b) (z := c) (by omega) (by omega)).1
  omega
def mergeE : List En → List En → List En
  | [], b => b
  | a :: r, [] => a :: r
  | a :: r, b :: s => if lessI b.path a.path < 0 then b :: mergeE (a :: r) s else a :: mergeE r (b :: s)
termination_by a b => a.length + b.length
theorem mergeE_l (b : List En) : mergeE [] b = b := by rw [mergeE]
theorem mergeE_r (a : List En) : mergeE a [] = a := by cases a <;> rw [mergeE]
theorem mergeE_c (a b : En) (r s : List En) : mergeE (a :: r) (b :: s) = if lessI b.path a.path < 0 then b :: mergeE (a :: r) s else a :: mergeE r (b :: s) := by rw [mergeE]
theorem mergeE_perm (a b : List En) : (mergeE a b).Perm (a ++ b) := by
  induction a, b using mergeE.induct with
  | case1 b => rw [mergeE_l]; exact .refl _
  | case2 a r => rw [mergeE_r, List.append_nil]
  | case3 a r b s h ih => rw [mergeE_c, if_pos h]; exact (List.Perm.cons b ih).trans List.perm_middle.symm
  | case4 a r b s h ih => rw [mergeE_c, if_neg h]; exact List.Perm.cons a ih
theorem mergeE_sorted (a b : List En) (ha : ∀ e ∈ a, okP e.path = true) (hb : ∀ e ∈ b, okP e.path = true) (h1 : a.Pairwise fun x y => 0 ≤ lessI y.path x.path) (h2 : b.Pairwise fun x y => 0 ≤ lessI y.path x.path) :
    (mergeE a b).Pairwise fun x y => 0 ≤ lessI y.path x.path := by
  induction a, b using mergeE.induct with
  | case1 b => rw [mergeE_l]; exact h2
  | case2 a r => rw [mergeE_r]; exact h1
  | case3 a r b s h ih =>
    have oa := ha a (by simp)
    have ob := hb b (by simp)
    rw [mergeE_c, if_pos h, List.pairwise_cons]
    rw [List.pairwise_cons] at h2
    have hab : 0 ≤ lessI a.path b.path := by have := lessI_swap ob oa; omega
    refine ⟨fun z hz => ?_, ih ha (fun e he => hb e (List.mem_cons_of_mem _ he)) h1 h2.2⟩
    rcases List.mem_append.1 ((mergeE_perm _ _).subset hz) with h3 | h3
    · rcases List.mem_cons.1 h3 with rfl | h4
      · exact hab
      · exact leE_trans ob oa (ha z h3) hab ((List.pairwise_cons.1 h1).1 z h4)
    · exact h2.1 z h3
  | case4 a r b s h ih =>
    have oa := ha a (by simp)
    have ob := hb b (by simp)
    rw [mergeE_c, if_neg h, List.pairwise_cons]
    rw [List.pairwise_cons] at h1
    refine ⟨fun z hz => ?_, ih (fun e he => ha e (List.mem_cons_of_mem _ he)) hb h1.2 h2⟩
    rcases List.mem_append.1 ((mergeE_perm _ _).subset hz) with h3 | h3
    · exact h1.1 z h3
    · rcases List.mem_cons.1 h3 with rfl | h4
      · omega
      · exact leE_trans oa ob (hb z h3) (by omega) ((List.pairwise_cons.1 h2).1 z h4)
theorem cutRdL {α : Type} {E : Enc α} {B : Base} {H : HL} {A : Option Addr} {cap l : Nat} {xs : List α} (r : RdAt E B H A xs) (hc : xs.length ≤ cap) : RdAt E B H (if cap = l then A else A.map (·.add (l * E.k))) (xs.drop l) := by
  by_cases h : cap = l
  · rw [List.drop_eq_nil_of_le (by omega)]
    exact RdAt.nil
  · rw [if_neg h]
    exact r.drop l
end Go.Tk
