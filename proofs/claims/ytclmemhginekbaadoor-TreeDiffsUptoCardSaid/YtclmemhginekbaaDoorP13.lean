/- The order of paths, plainly; both checks of a tree are one. -/
import Derived.Test.YtclmemhginekbaaDoorP11
set_option linter.unusedSectionVars false
set_option linter.unusedSimpArgs false
set_option linter.unusedVariables false
namespace Go.Tk
open Go.RowKit Go.Proofs

theorem ltS_lt (a b : ByteArray) : ltS a b = decide (a.data.toList < b.data.toList) := by unfold ltS; rw [bytesLess_eq, ByteArray.toList_eq a, ByteArray.toList_eq b]
theorem ltS_trans {a b c : ByteArray} (h1 : ltS a b = true) (h2 : ltS b c = true) : ltS a c = true := by
  rw [ltS_lt, decide_eq_true_eq] at *
  exact List.lt_trans h1 h2
theorem ltS_asymm {a b : ByteArray} (h1 : ltS a b = true) : ltS b a = false := by
  rw [ltS_lt, decide_eq_true_eq] at h1
  rw [ltS_lt, decide_eq_false_iff_not]
  exact List.lt_asymm h1
theorem ltS_total {a b : ByteArray} (h : ¬ a = b) : ltS a b = true ∨ ltS b a = true := by
  rw [ltS_lt, ltS_lt, decide_eq_true_eq, decide_eq_true_eq]
  have hne : a.data.toList ≠ b.data.toList := fun e => h (ba_ext e)
  rcases Classical.em (a.data.toList < b.data.toList) with h1 | h1
  · exact .inl h1
  · right
    rw [List.not_lt] at h1
    rcases List.le_iff_lt_or_eq.1 h1 with h2 | h2
    · exact h2
    · exact absurd h2.symm hne
theorem cmpS_lt {a b : ByteArray} (h : ltS a b = true) : cmpS a b = -1 := by unfold cmpS; rw [if_pos h]
theorem cmpS_gt {a b : ByteArray} (h : ltS b a = true) : cmpS a b = 1 := by
  have hne : ¬ a = b := by rintro rfl; have := ltS_asymm h; rw [h] at this; cases this
  rw [cmpS_ne hne, ltS_asymm h]; rfl
theorem cmpS_cases (a b : ByteArray) : (a = b ∧ cmpS a b = 0 ∧ cmpS b a = 0) ∨ (¬ a = b ∧ ltS a b = true ∧ cmpS a b = -1 ∧ cmpS b a = 1) ∨ (¬ a = b ∧ ltS b a = true ∧ cmpS a b = 1 ∧ cmpS b a = -1) := by
  by_cases h : a = b
  · exact .inl ⟨h, cmpS_0.2 h, cmpS_0.2 h.symm⟩
  · rcases ltS_total h with h1 | h1
    · exact .inr (.inl ⟨h, h1, cmpS_lt h1, cmpS_gt h1⟩)
    · exact .inr (.inr ⟨h, h1, cmpS_gt h1, cmpS_lt h1⟩)
theorem cmpL_cons (a b : ByteArray) (l m : List ByteArray) : cmpL (a :: l) (b :: m) = if cmpS a b = 0 then cmpL l m else cmpS a b := rfl
theorem cmpL_swap : ∀ (x y : List ByteArray), cmpL y x = - cmpL x y
  | [], [] => rfl
  | [], b :: m => rfl
  | a :: l, [] => rfl
  | a :: l, b :: m => by
    rw [cmpL_cons, cmpL_cons]
    rcases cmpS_cases a b with ⟨_, h1, h2⟩ | ⟨_, _, h1, h2⟩ | ⟨_, _, h1, h2⟩
    · rw [h1, h2, if_pos rfl, if_pos rfl]; exact cmpL_swap l m
    · rw [h1, h2]; simp
    · rw [h1, h2]; simp
theorem cmpL_self : ∀ (x : List ByteArray), cmpL x x = 0
  | [] => rfl
  | a :: l => by rw [cmpL_cons, if_pos (cmpS_0.2 rfl)]; exact cmpL_self l
theorem cmpL_eq : ∀ {x y : List ByteArray}, cmpL x y = 0 → x = y
  | [], [], _ => rfl
  | [], b :: m, h => by cases h
  | a :: l, [], h => by cases h
  | a :: l, b :: m, h => by
    rw [cmpL_cons] at h
    split at h
    · rename_i h0
      rw [cmpS_0.1 h0, cmpL_eq h]
    · exact absurd h (by assumption)
theorem cmpL_trans : ∀ {x y z : List ByteArray}, cmpL x y ≤ 0 → cmpL y z ≤ 0 → cmpL x z ≤ 0 ∧ ((cmpL x y < 0 ∨ cmpL y z < 0) → cmpL x z < 0)
  | [], [], [], _, _ => by simp [cmpL]
  | [], [], c :: n, _, _ => by simp [cmpL]
  | [], b :: m, [], _, h => by simp [cmpL] at h
  | [], b :: m, c :: n, _, _ => by simp [cmpL]
  | a :: l, [], _, h, _ => by simp [cmpL] at h
  | a :: l, b :: m, [], _, h => by simp [cmpL] at h
  | a :: l, b :: m, c :: n, h1, h2 => by
    rw [cmpL_cons] at h1 h2
    rw [cmpL_cons, cmpL_cons, cmpL_cons]
    rcases cmpS_cases a b with ⟨rfl, e1, _⟩ | ⟨_, k1, e1, _⟩ | ⟨_, _, e1, _⟩
    · rw [if_pos e1] at h1 ⊢
      rcases cmpS_cases a c with ⟨rfl, e2, _⟩ | ⟨_, k2, e2, _⟩ | ⟨_, _, e2, _⟩
      · simp only [e1, if_true] at h1 h2 ⊢
        exact cmpL_trans h1 h2
      · rw [e2]; simp
      · rw [e2] at h2; simp at h2
    · rcases cmpS_cases b c with ⟨rfl, e2, _⟩ | ⟨_, k2, e2, _⟩ | ⟨_, _, e2, _⟩
      · rw [e1]; simp
      · rw [cmpS_lt (ltS_trans k1 k2), e1]; simp
      · rw [e2] at h2; simp at h2
    · rw [e1] at h1; simp at h1
/-- Where paths are right, their order is total. -/
theorem okP_some {p : ByteArray} (h : okP p = true) : ∃ x, namesB p = some x := Option.isSome_iff_exists.1 h
theorem lessI_of {p q : ByteArray} {x y : List ByteArray} (hp : namesB p = some x) (hq : namesB q = some y) : lessI p q = cmpL x y := by unfold lessI; rw [hp, hq]
theorem lessI_trans {p q r : ByteArray} (hp : okP p = true) (hq : okP q = true) (hr : okP r = true) (h1 : lessI p q < 0) (h2 : lessI q r < 0) : lessI p r < 0 := by
  obtain ⟨x, hx⟩ := okP_some hp
  obtain ⟨y, hy⟩ := okP_some hq
  obtain ⟨z, hz⟩ := okP_some hr
  rw [lessI_of hx hy] at h1
  rw [lessI_of hy hz] at h2
  rw [lessI_of hx hz]
  exact (cmpL_trans (by omega) (by omega)).2 (.inl h1)
theorem lessI_swap {p q : ByteArray} (hp : okP p = true) (hq : okP q = true) : lessI q p = - lessI p q := by
  obtain ⟨x, hx⟩ := okP_some hp
  obtain ⟨y, hy⟩ := okP_some hq
  rw [lessI_of hx hy, lessI_of hy hx, cmpL_swap]
theorem lessI_self (p : ByteArray) : lessI p p = 0 := by
  unfold lessI
  cases namesB p with
  | none => rfl
  | some x => exact cmpL_self x
theorem lessI_eq {p q : ByteArray} (hp : okP p = true) (hq : okP q = true) (h : lessI p q = 0) : p = q := by
  obtain ⟨x, hx⟩ := okP_some hp
  obtain ⟨y, hy⟩ := okP_some hq
  rw [lessI_of hx hy] at h
  have := cmpL_eq h
  rw [← (namesL_join hx).1, ← (namesL_join hy).1, this]
theorem mayB_ok {e : En} (h : mayB e = true) : okP e.path = true ∧ e.path.size ≠ 0 := by
  unfold mayB at h
  simp only [Bool.and_eq_true, Bool.not_eq_true', decide_eq_false_iff_not] at h
  exact ⟨h.1.1, h.1.2⟩
def SortedE (t : List En) : Prop := t.Pairwise fun a b => lessI a.path b.path < 0
theorem sorted_snoc {pre : List En} {e : En} (hall : ∀ x ∈ pre, mayB x = true) (he : mayB e = true) (hs : SortedE pre) (hl : ∀ f, pre.getLast? = some f → lessI f.path e.path < 0) : SortedE (pre ++ [e]) := by
  unfold SortedE at *
  rw [List.pairwise_append]
  refine ⟨hs, by simp, ?_⟩
  intro a ha b hb
  rw [List.mem_singleton] at hb
  subst hb
  cases h : pre.getLast? with
  | none => rw [List.getLast?_eq_none_iff] at h; subst h; cases ha
  | some f =>
    have hlf := hl f h
    obtain ⟨q, hq⟩ := List.getLast?_eq_some_iff.1 h
    rw [hq] at ha hs
    rcases List.mem_append.1 ha with ha | ha
    · rw [List.pairwise_append] at hs
      have h1 := hs.2.2 a ha f (by simp)
      exact lessI_trans (mayB_ok (hall a (by rw [hq]; simp [ha]))).1 (mayB_ok (hall f (by rw [hq]; simp))).1 (mayB_ok he).1 h1 hlf
    · rw [List.mem_singleton] at ha; subst ha; exact hlf
theorem dirs_same {pre : List En} (hs : SortedE pre) (p : ByteArray) : isDirA pre p = isDirF pre p := by
  unfold isDirA isDirF
  congr 1
  induction pre with
  | nil => rfl
  | cons x r ih =>
    unfold SortedE at *
    rw [List.pairwise_cons] at hs
    rw [List.any_cons, List.find?_cons]
    by_cases hx : x.path = p
    · have hno : r.any (fun e => decide (e.kind = 2) && decide (e.path = p)) = false := by
        rw [Bool.eq_false_iff]
        intro h
        obtain ⟨y, hy, h2⟩ := List.any_eq_true.1 h
        simp only [Bool.and_eq_true, decide_eq_true_eq] at h2
        have := hs.1 y hy
        rw [hx, h2.2, lessI_self] at this
        omega
      simp [hx, hno]
    · simp only [hx, decide_false, Bool.and_false, Bool.false_or]
      exact ih hs.2
theorem checks_same_at (t : List En) : ∀ (r : List En) (i : Nat) (sum : Int), t.drop i = r → (∀ x ∈ t.take i, mayB x = true) → SortedE (t.take i) → checkG isDirA t i sum r = checkG isDirF t i sum r
  | [], i, sum, _, _, _ => rfl
  | e :: r, i, sum, hd, hall, hs => by
    have hi : t[i]? = some e := by have := congrArg (fun l => l[0]?) hd; simpa using this
    have hg : Nth t i e := ⟨hi⟩
    have hr : t.drop (i + 1) = r := by have := hg.drop; rw [hd] at this; exact (List.cons.inj this).2.symm
    rw [checkG_cons, checkG_cons]
    by_cases h1 : mayB e = false
    · rw [if_pos h1, if_pos h1]
    have hm : mayB e = true := by cases h : mayB e; exact absurd h h1; rfl
    rw [if_neg h1, if_neg h1]
    by_cases h2 : 0 < i ∧ ¬ lessI ((t.getD (i - 1) e).path) e.path < 0
    · rw [if_pos h2, if_pos h2]
    rw [if_neg h2, if_neg h2, dirs_same hs]
    by_cases h3 : isDirF (t.take i) (upP e.path) = false
    · rw [if_pos h3, if_pos h3]
    rw [if_neg h3, if_neg h3]
    by_cases h4 : 1048576 < sum + (e.data.size : Int)
    · rw [if_pos h4, if_pos h4]
    rw [if_neg h4, if_neg h4]
    have hs2 : SortedE (t.take (i + 1)) := by
      rw [hg.take]
      refine sorted_snoc hall hm hs ?_
      intro f hf
      rw [List.getLast?_eq_getElem?, List.length_take, List.getElem?_take] at hf
      have hlt := hg.lt
      have hi0 : 0 < i := by
        rcases Nat.eq_zero_or_pos i with h0 | h0
        · subst h0; simp at hf
        · exact h0
      rw [show min i t.length = i by omega, if_pos (by omega)] at hf
      refine Classical.byContradiction fun h => h2 ⟨hi0, ?_⟩
      rw [List.getD_eq_getElem?_getD, hf, Option.getD_some]
      exact h
    exact checks_same_at t r (i + 1) _ hr (fun x hx => by
      rw [hg.take] at hx
      rcases List.mem_append.1 hx with hx | hx
      · exact hall x hx
      · rw [List.mem_singleton] at hx; subst hx; exact hm) hs2
theorem checks_same (t : List En) : checkA t = checkF t := by
  unfold checkA checkF
  split
  · rfl
  · exact checks_same_at t t 0 0 rfl (by simp) (by simp [SortedE])
end Go.Tk
