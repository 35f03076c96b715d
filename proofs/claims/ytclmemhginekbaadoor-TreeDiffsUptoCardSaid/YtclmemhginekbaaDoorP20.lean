/- Right trees, plain; what Make makes of one. -/
import Derived.Test.YtclmemhginekbaaDoorP18
set_option linter.unusedSectionVars false
set_option linter.unusedSimpArgs false
set_option linter.unusedVariables false
namespace Go.Tk
open Go.RowKit Go.Proofs

structure RightT (t : List En) : Prop where
  few : t.length ≤ 1024
  may : ∀ e ∈ t, mayB e = true
  sorted : SortedE t
  dirs : ∀ e ∈ t, isDirA t (upP e.path) = true
  fit : sumE t ≤ 1048576
theorem isDirA_mono {a b : List En} (h : ∀ e ∈ a, e ∈ b) {p : ByteArray} (hd : isDirA a p = true) : isDirA b p = true := by
  unfold isDirA at *
  rw [Bool.or_eq_true] at *
  rcases hd with h1 | h1
  · exact .inl h1
  · obtain ⟨e, he, h2⟩ := List.any_eq_true.1 h1
    exact .inr (List.any_eq_true.2 ⟨e, h e he, h2⟩)
theorem checkG_right (t : List En) : ∀ (r : List En) (i : Nat) (sum : Int), t.drop i = r → sum = sumE (t.take i) → sum ≤ 1048576 → (∀ x ∈ t.take i, mayB x = true) → SortedE (t.take i) → (∀ x ∈ t.take i, isDirA t (upP x.path) = true) →
    (checkG isDirA t i sum r).2 = 0 → checkG isDirA t i sum r = (0, 0) ∧ (∀ x ∈ t, mayB x = true) ∧ SortedE t ∧ (∀ x ∈ t, isDirA t (upP x.path) = true) ∧ sumE t ≤ 1048576
  | [], i, sum, hd, hsum, hle, hall, hs, hdir, _ => by
    have ht : t.take i = t := by
      have := List.drop_eq_nil_iff.1 hd
      exact List.take_of_length_le this
    rw [ht] at hsum hall hs hdir
    exact ⟨rfl, hall, hs, hdir, by omega⟩
  | e :: r, i, sum, hd, hsum, hle, hall, hs, hdir, hz => by
    have hi : t[i]? = some e := by have := congrArg (fun l => l[0]?) hd; simpa using this
    have hg : Nth t i e := ⟨hi⟩
    have hr : t.drop (i + 1) = r := by have := hg.drop; rw [hd] at this; exact (List.cons.inj this).2.symm
    rw [checkG_cons] at hz ⊢
    by_cases h1 : mayB e = false
    · rw [if_pos h1] at hz; dsimp only at hz; omega
    have hm : mayB e = true := by cases h : mayB e; exact absurd h h1; rfl
    rw [if_neg h1] at hz ⊢
    by_cases h2 : 0 < i ∧ ¬ lessI ((t.getD (i - 1) e).path) e.path < 0
    · rw [if_pos h2] at hz; dsimp only at hz; omega
    rw [if_neg h2] at hz ⊢
    by_cases h3 : isDirA (t.take i) (upP e.path) = false
    · rw [if_pos h3] at hz; dsimp only at hz; omega
    rw [if_neg h3] at hz ⊢
    by_cases h4 : 1048576 < sum + (e.data.size : Int)
    · rw [if_pos h4] at hz; dsimp only at hz; omega
    rw [if_neg h4] at hz ⊢
    have h3' : isDirA (t.take i) (upP e.path) = true := by cases h : isDirA (t.take i) (upP e.path); exact absurd h h3; rfl
    have hs2 : SortedE (t.take (i + 1)) := by
      rw [hg.take]
      refine sorted_snoc hall hm hs ?_
      intro f hf
      rw [List.getLast?_eq_getElem?, List.length_take, List.getElem?_take] at hf
      have hlt := hg.lt
      have hi0 : 0 < i := by
        rcases Nat.eq_zero_or_pos i with h0 | h0
        · subst h0; simp at hf
        · exact h0
      rw [show min i t.length = i by omega, if_pos (by omega)] at hf
      refine Classical.byContradiction fun h => h2 ⟨hi0, ?_⟩
      rw [List.getD_eq_getElem?_getD, hf, Option.getD_some]
      exact h
    refine checkG_right t r (i + 1) _ hr (by rw [sumE_take hg, hsum]) (by omega) (fun x hx => ?_) hs2 (fun x hx => ?_) hz
    · rw [hg.take] at hx
      rcases List.mem_append.1 hx with hx | hx
      · exact hall x hx
      · rw [List.mem_singleton] at hx; subst hx; exact hm
    · rw [hg.take] at hx
      rcases List.mem_append.1 hx with hx | hx
      · exact hdir x hx
      · rw [List.mem_singleton] at hx; subst hx; exact isDirA_mono (fun _ h => List.mem_of_mem_take h) h3'
theorem right_of {t : List En} (h : (checkA t).2 = 0) : checkA t = (0, 0) ∧ RightT t := by
  unfold checkA at *
  by_cases hb : 1024 < t.length
  · rw [if_pos hb] at h; exact absurd h (by decide)
  rw [if_neg hb] at h ⊢
  obtain ⟨h1, h2, h3, h4, h5⟩ := checkG_right t t 0 0 rfl (by simp [sumE]) (by decide) (by simp) (by simp [SortedE]) (by simp) h
  exact ⟨h1, by omega, h2, h3, h4, h5⟩
/-- Distinct paths. -/
def Dist (t : List En) : Prop := t.Pairwise fun x y => ¬ x.path = y.path
theorem SortedE.dist {t : List En} (h : SortedE t) : Dist t := h.imp fun {x y} h he => by rw [he, lessI_self] at h; omega
theorem Dist.perm {t l : List En} (h : Dist t) (hp : l.Perm t) : Dist l := (hp.pairwise_iff (R := fun x y : En => ¬ x.path = y.path) (fun {x y} h e => h e.symm)).2 h
theorem Dist.inj : ∀ {t : List En}, Dist t → ∀ {x y : En}, x ∈ t → y ∈ t → x.path = y.path → x = y
  | [], _, _, _, hx, _, _ => nomatch hx
  | z :: t, h, x, y, hx, hy, he => by
    unfold Dist at h
    rw [List.pairwise_cons] at h
    rcases List.mem_cons.1 hx with rfl | hx
    · rcases List.mem_cons.1 hy with rfl | hy
      · rfl
      · exact absurd he (h.1 y hy)
    · rcases List.mem_cons.1 hy with rfl | hy
      · exact absurd he.symm (h.1 x ‹_›)
      · exact Dist.inj h.2 ‹_› ‹_› he
theorem kindI_of {t : List En} (h : Dist t) {e : En} (he : e ∈ t) : kindI t e.path = e.kind := by
  unfold kindI
  cases hf : t.find? (fun x => decide (x.path = e.path)) with
  | none => have := List.find?_eq_none.1 hf e he; simp at this
  | some x =>
    have h1 := List.mem_of_find?_eq_some hf
    have h2 := List.find?_some hf
    rw [decide_eq_true_eq] at h2
    rw [h.inj h1 he h2]
theorem kindI_dir {t : List En} (h : Dist t) {p : ByteArray} (hz : p.size ≠ 0) (hd : isDirA t p = true) : kindI t p = 2 ∧ ∃ e ∈ t, e.path = p := by
  unfold isDirA at hd
  rw [Bool.or_eq_true, decide_eq_true_eq] at hd
  rcases hd with h1 | h1
  · exact absurd h1 hz
  · obtain ⟨e, he, h2⟩ := List.any_eq_true.1 h1
    simp only [Bool.and_eq_true, decide_eq_true_eq] at h2
    rw [← h2.2, kindI_of h he, h2.1]
    exact ⟨rfl, e, he, rfl⟩
theorem climb_stay {l : List En} (h : Dist l) (hd : ∀ e ∈ l, isDirA l (upP e.path) = true) : ∀ (n : Nat) (d : ByteArray), isDirA l d = true → climb n l d = some l
  | 0, d, _ => rfl
  | n + 1, d, hp => by
    rw [climb]
    by_cases h0 : d.size = 0
    · rw [if_pos h0]
    · obtain ⟨h1, e, he, rfl⟩ := kindI_dir h h0 hp
      rw [if_neg h0, if_pos h1]
      exact climb_stay h hd n _ (hd e he)
theorem climbs_stay {l : List En} (h : Dist l) (hd : ∀ e ∈ l, isDirA l (upP e.path) = true) : ∀ (r : List En), (∀ e ∈ r, e ∈ l) → climbs l r = some l
  | [], _ => rfl
  | e :: r, hr => by
    rw [climbs_cons, climb_stay h hd _ _ (hd e (hr e (by simp)))]
    exact climbs_stay h hd r fun x hx => hr x (List.mem_cons_of_mem _ hx)
theorem twins_no : ∀ (r pre : List En), (∀ e ∈ pre, mayB e = true) → (∀ e ∈ r, mayB e = true) → Dist (pre ++ r) → twins pre r = false
  | [], pre, _, _, _ => rfl
  | e :: r, pre, hp, hr, hd => by
    have h0 : kindI pre e.path = 0 := (kindI_zero hp).2 fun x hx hxe => by
      unfold Dist at hd
      rw [List.pairwise_append] at hd
      exact hd.2.2 x hx e (by simp) hxe
    rw [twins_cons, if_pos h0]
    refine twins_no r (pre ++ [e]) (fun x hx => ?_) (fun x hx => hr x (List.mem_cons_of_mem _ hx)) (by rw [List.append_assoc]; exact hd)
    rcases List.mem_append.1 hx with h1 | h1
    · exact hp x h1
    · rw [List.mem_singleton.1 h1]; exact hr e (by simp)
theorem makeR_right {t l : List En} (ht : RightT t) (hp : l.Perm t) : makeR l = (0, l) := by
  have hm : ∀ e ∈ l, mayB e = true := fun e he => ht.may e (hp.subset he)
  have hd := ht.sorted.dist.perm hp
  have hdir : ∀ e ∈ l, isDirA l (upP e.path) = true := fun e he => isDirA_mono (fun x hx => hp.symm.subset hx) (ht.dirs e (hp.subset he))
  unfold makeR
  rw [if_neg (by rw [List.all_eq_true.2 hm]; decide), if_neg (by rw [twins_no l [] (fun _ h => nomatch h) hm hd]; decide), climbs_stay hd hdir l (fun _ h => h)]
  have hf : fitsI l = 0 := by
    unfold fitsI
    rw [if_neg (by have := hp.length_eq; have := ht.few; omega), if_neg (by rw [sumE_perm hp]; have := ht.fit; omega)]
  unfold makeT
  dsimp only
  rw [if_pos hf]
theorem SortedE.le {t : List En} (h : SortedE t) (hok : ∀ e ∈ t, okP e.path = true) : t.Pairwise fun x y => 0 ≤ lessI y.path x.path := by
  refine List.Pairwise.imp_of_mem (fun {x y} hx hy hxy => ?_) h
  have := lessI_swap (hok x hx) (hok y hy)
  omega
theorem right_sorted {t ys : List En} (ht : RightT t) (hp : ys.Perm t) (hs : ys.Pairwise fun x y => 0 ≤ lessI y.path x.path) : ys = t :=
  sorted_uniq hp hs (ht.sorted.le fun e he => (mayB_ok (ht.may e he)).1) (fun e he => (mayB_ok (ht.may e he)).1) ht.sorted.dist
end Go.Tk
