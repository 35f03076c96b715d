/- What the document's Make makes, plain: the least right tree, as the program's. -/
import Derived.Test.YtclmemhginekbaaDoorP29
set_option linter.unusedSectionVars false
set_option linter.unusedSimpArgs false
set_option linter.unusedVariables false
namespace Go.Tk
open Go.RowKit Go.Proofs
/-- The directories above a path. -/
def chainN : Nat → ByteArray → List ByteArray
  | 0, _ => []
  | n + 1, d => if d.size = 0 then [] else d :: chainN n (upP d)
def above (t : List En) : List ByteArray := t.flatMap fun e => chainN e.path.size (upP e.path)
def stepC : Option (List En) → ByteArray → Option (List En)
  | none, _ => none
  | some out, d => if kindI out d = 2 then some out else if kindI out d = 0 then some (out ++ [dirE d]) else none
theorem stepC_some (out : List En) (d : ByteArray) : stepC (some out) d = if kindI out d = 2 then some out else if kindI out d = 0 then some (out ++ [dirE d]) else none := rfl
theorem foldC_none : ∀ D : List ByteArray, D.foldl stepC none = none
  | [] => rfl
  | d :: D => by rw [List.foldl_cons]; exact foldC_none D
theorem climb_fold : ∀ (n : Nat) (out : List En) (d : ByteArray), climb n out d = (chainN n d).foldl stepC (some out)
  | 0, _, _ => rfl
  | n + 1, out, d => by
    rw [climb, chainN]
    by_cases h0 : d.size = 0
    · rw [if_pos h0, if_pos h0]; rfl
    rw [if_neg h0, if_neg h0, List.foldl_cons]
    rw [stepC_some]
    by_cases h2 : kindI out d = 2
    · rw [if_pos h2, if_pos h2]; exact climb_fold n out _
    rw [if_neg h2, if_neg h2]
    by_cases h3 : kindI out d = 0
    · rw [if_pos h3, if_pos h3]; exact climb_fold n _ _
    rw [if_neg h3, if_neg h3]
    exact (foldC_none _).symm
theorem climbs_fold : ∀ (l out : List En), climbs out l = (above l).foldl stepC (some out)
  | [], out => rfl
  | e :: r, out => by
    have ha : above (e :: r) = chainN e.path.size (upP e.path) ++ above r := by simp [above]
    rw [climbs_cons, ha, List.foldl_append, climb_fold]
    cases (chainN e.path.size (upP e.path)).foldl stepC (some out) with
    | none => exact (foldC_none _).symm
    | some o => exact climbs_fold r o
instance (d : ByteArray) (l : List ByteArray) : Decidable (d ∈ l) := decidable_of_iff (l.any (fun x => decide (x = d)) = true) (by simp)
/-- What lacks, each once, as it comes. -/
def news (t : List En) : List ByteArray → List ByteArray → List ByteArray
  | acc, [] => acc
  | acc, d :: D => if kindI t d = 0 ∧ d ∉ acc then news t (acc ++ [d]) D else news t acc D
theorem news_le (t : List En) : ∀ (D acc : List ByteArray), acc.length ≤ (news t acc D).length
  | [], acc => Nat.le_refl _
  | d :: D, acc => by
    rw [news]
    split
    · have := news_le t D (acc ++ [d]); rw [List.length_append] at this; exact Nat.le_trans (Nat.le_add_right _ _) this
    · exact news_le t D acc
theorem news_mem (t : List En) (x : ByteArray) : ∀ (D acc : List ByteArray), x ∈ news t acc D ↔ x ∈ acc ∨ (x ∈ D ∧ kindI t x = 0)
  | [], acc => by simp [news]
  | d :: D, acc => by
    rw [news]
    by_cases h : kindI t d = 0 ∧ d ∉ acc
    · rw [if_pos h, news_mem t x D]
      by_cases hx : x = d
      · subst hx; simp [h.1]
      · simp [hx]
    · rw [if_neg h, news_mem t x D]
      by_cases hx : x = d
      · subst hx
        by_cases hk : kindI t x = 0
        · have : x ∈ acc := Classical.byContradiction fun hn => h ⟨hk, hn⟩
          simp [this]
        · simp [hk]
      · simp [hx]
theorem news_nodup (t : List En) : ∀ (D acc : List ByteArray), acc.Nodup → (news t acc D).Nodup
  | [], acc, h => h
  | d :: D, acc, h => by
    rw [news]
    split
    · rename_i hd
      refine news_nodup t D _ ?_
      rw [List.nodup_append]
      refine ⟨h, by simp, fun a ha b hb => ?_⟩
      rw [List.mem_singleton.1 hb]
      rintro rfl
      exact hd.2 ha
    · exact news_nodup t D acc h
def BadD (t : List En) (D : List ByteArray) : Prop := ∃ d ∈ D, kindI t d ≠ 0 ∧ kindI t d ≠ 2
theorem kindI_cons (e : En) (r : List En) (p : ByteArray) : kindI (e :: r) p = if e.path = p then e.kind else kindI r p := by
  unfold kindI
  rw [List.find?_cons]
  by_cases h : e.path = p <;> simp [h]
theorem kindI_dirs : ∀ (acc : List ByteArray) (d : ByteArray), kindI (acc.map dirE) d = if d ∈ acc then 2 else 0
  | [], d => by simp [kindI]
  | a :: acc, d => by
    rw [List.map_cons, kindI_cons, kindI_dirs acc d]
    show (if a = d then (2 : Int) else _) = _
    by_cases h : a = d
    · subst h; simp
    · have : ¬ d = a := fun e => h e.symm
      simp [h, this]
theorem kindI_with {t : List En} (ht : ∀ e ∈ t, mayB e = true) (acc : List ByteArray) (d : ByteArray) : kindI (t ++ acc.map dirE) d = if kindI t d = 0 then (if d ∈ acc then 2 else 0) else kindI t d := by
  rw [kindI_append _ _ _ ht, kindI_dirs]
theorem foldC_some {t : List En} (ht : ∀ e ∈ t, mayB e = true) : ∀ (D acc : List ByteArray), ¬ BadD t D → D.foldl stepC (some (t ++ acc.map dirE)) = some (t ++ (news t acc D).map dirE)
  | [], acc, _ => rfl
  | d :: D, acc, hb => by
    have hb2 : ¬ BadD t D := fun ⟨x, hx, h⟩ => hb ⟨x, List.mem_cons_of_mem _ hx, h⟩
    have hd : kindI t d = 0 ∨ kindI t d = 2 := by
      refine Classical.byContradiction fun h => hb ⟨d, by simp, fun h0 => h (.inl h0), fun h2 => h (.inr h2)⟩
    rw [List.foldl_cons, news]
    rw [stepC_some]
    rw [kindI_with ht]
    rcases hd with h0 | h2
    · rw [if_pos h0]
      by_cases hm : d ∈ acc
      · rw [if_pos hm, if_pos rfl, if_neg (fun h : kindI t d = 0 ∧ d ∉ acc => h.2 hm)]
        exact foldC_some ht D acc hb2
      · rw [if_neg hm, if_neg (by decide), if_pos rfl, if_pos ⟨h0, hm⟩, List.append_assoc, show acc.map dirE ++ [dirE d] = (acc ++ [d]).map dirE by simp]
        exact foldC_some ht D _ hb2
    · rw [if_neg (show ¬ kindI t d = 0 by omega), if_pos h2, if_neg (fun h : kindI t d = 0 ∧ d ∉ acc => absurd h.1 (by omega))]
      exact foldC_some ht D acc hb2
theorem foldC_bad {t : List En} (ht : ∀ e ∈ t, mayB e = true) : ∀ (D acc : List ByteArray), BadD t D → D.foldl stepC (some (t ++ acc.map dirE)) = none
  | [], acc, ⟨d, hd, _⟩ => nomatch hd
  | d :: D, acc, hb => by
    rw [List.foldl_cons]
    rw [stepC_some]
    rw [kindI_with ht]
    by_cases hd : kindI t d ≠ 0 ∧ kindI t d ≠ 2
    · rw [if_neg hd.1, if_neg hd.2, if_neg hd.1]
      exact foldC_none D
    have hb2 : BadD t D := by
      obtain ⟨x, hx, h⟩ := hb
      rcases List.mem_cons.1 hx with rfl | hx
      · exact absurd h hd
      · exact ⟨x, hx, h⟩
    by_cases h0 : kindI t d = 0
    · rw [if_pos h0]
      by_cases hm : d ∈ acc
      · rw [if_pos hm, if_pos rfl]
        exact foldC_bad ht D acc hb2
      · rw [if_neg hm, if_neg (by decide), if_pos rfl, List.append_assoc, show acc.map dirE ++ [dirE d] = (acc ++ [d]).map dirE by simp]
        exact foldC_bad ht D _ hb2
    · have h2 : kindI t d = 2 := Classical.byContradiction fun h => hd ⟨h0, h⟩
      rw [if_neg h0, if_pos h2]
      exact foldC_bad ht D acc hb2
/-- The document's way: what was put in, whether it was too much, whether it was wrong. -/
structure MrS where
  acc : List ByteArray
  many : Bool
  wrong : Bool
def stepM (t : List En) (x : MrS) (d : ByteArray) : MrS :=
  if kindI t d = 0 then (if d ∈ x.acc then x else if 1024 < t.length + x.acc.length then ⟨x.acc, true, x.wrong⟩ else ⟨x.acc ++ [d], x.many, x.wrong⟩)
  else ⟨x.acc, x.many, x.wrong || decide (kindI t d ≠ 2)⟩
theorem stepM_def (t : List En) (x : MrS) (d : ByteArray) : stepM t x d = if kindI t d = 0 then (if d ∈ x.acc then x else if 1024 < t.length + x.acc.length then ⟨x.acc, true, x.wrong⟩ else ⟨x.acc ++ [d], x.many, x.wrong⟩) else ⟨x.acc, x.many, x.wrong || decide (kindI t d ≠ 2)⟩ := rfl
theorem foldM_wrong (t : List En) : ∀ (D : List ByteArray) (x : MrS), (D.foldl (stepM t) x).wrong = true ↔ x.wrong = true ∨ BadD t D
  | [], x => by
    constructor
    · exact .inl
    · rintro (h | ⟨d, hd, _⟩)
      · exact h
      · exact nomatch hd
  | d :: D, x => by
    rw [List.foldl_cons, foldM_wrong t D]
    have hc : BadD t (d :: D) ↔ (kindI t d ≠ 0 ∧ kindI t d ≠ 2) ∨ BadD t D := by
      unfold BadD; simp
    rw [hc]
    rw [stepM_def]
    by_cases h0 : kindI t d = 0
    · rw [if_pos h0]
      have hw : (if d ∈ x.acc then x else if 1024 < t.length + x.acc.length then ⟨x.acc, true, x.wrong⟩ else ⟨x.acc ++ [d], x.many, x.wrong⟩ : MrS).wrong = x.wrong := by
        split
        · rfl
        · split <;> rfl
      rw [hw]
      simp [h0]
    · rw [if_neg h0]
      by_cases h2 : kindI t d = 2
      · simp [h2]
      · simp [h0, h2]
theorem foldM_keep (t : List En) : ∀ (D : List ByteArray) (x : MrS), x.many = true → (D.foldl (stepM t) x).many = true
  | [], x, h => h
  | d :: D, x, h => by
    rw [List.foldl_cons]
    refine foldM_keep t D _ ?_
    rw [stepM_def]
    split
    · split
      · exact h
      · split
        · rfl
        · exact h
    · exact h
theorem foldM_few (t : List En) : ∀ (D : List ByteArray) (x : MrS), (D.foldl (stepM t) x).many = false → (D.foldl (stepM t) x).acc = news t x.acc D
  | [], x, h => rfl
  | d :: D, x, h => by
    rw [List.foldl_cons] at h ⊢
    rw [foldM_few t D _ h, news]
    rw [stepM_def] at h ⊢
    by_cases h0 : kindI t d = 0
    · rw [if_pos h0] at h ⊢
      by_cases hm : d ∈ x.acc
      · rw [if_pos hm, if_neg (fun h => h.2 hm)]
      · rw [if_neg hm] at h ⊢
        by_cases hb : 1024 < t.length + x.acc.length
        · rw [if_pos hb, foldM_keep t D _ rfl] at h; cases h
        · rw [if_neg hb, if_pos ⟨h0, hm⟩]
    · rw [if_neg h0, if_neg (fun h => h0 h.1)]
theorem foldM_many (t : List En) : ∀ (D : List ByteArray) (x : MrS), (D.foldl (stepM t) x).many = true → x.many = true ∨ 1024 < t.length + (news t x.acc D).length
  | [], x, h => .inl h
  | d :: D, x, h => by
    rw [List.foldl_cons] at h
    have ih := foldM_many t D _ h
    rw [news]
    rw [stepM_def] at ih
    by_cases h0 : kindI t d = 0
    · rw [if_pos h0] at ih
      by_cases hm : d ∈ x.acc
      · rw [if_pos hm] at ih
        rw [if_neg (fun h => h.2 hm)]
        exact ih
      · rw [if_neg hm] at ih
        rw [if_pos ⟨h0, hm⟩]
        by_cases hb : 1024 < t.length + x.acc.length
        · right
          have := news_le t D (x.acc ++ [d])
          rw [List.length_append] at this
          omega
        · rw [if_neg hb] at ih
          exact ih
    · rw [if_neg h0] at ih
      rw [if_neg (fun h => h0 h.1)]
      exact ih
theorem kindI_perm {t l : List En} (hp : t.Perm l) (hd : Dist l) (p : ByteArray) : kindI t p = kindI l p := by
  have hdt := hd.perm hp
  by_cases h : ∃ e ∈ l, e.path = p
  · obtain ⟨e, he, rfl⟩ := h
    rw [kindI_of hd he, kindI_of hdt (hp.symm.subset he)]
  · have h1 : ∀ u : List En, (∀ e ∈ u, e ∈ l) → kindI u p = 0 := by
      intro u hu
      unfold kindI
      rw [List.find?_eq_none.2 (fun e he => by simpa using fun hx => h ⟨e, hu e he, hx⟩)]
    rw [h1 t (fun e he => hp.subset he), h1 l (fun e he => he)]
theorem above_perm {t l : List En} (hp : t.Perm l) (d : ByteArray) : d ∈ above t ↔ d ∈ above l := by
  unfold above
  rw [List.mem_flatMap, List.mem_flatMap]
  exact ⟨fun ⟨e, he, h⟩ => ⟨e, hp.subset he, h⟩, fun ⟨e, he, h⟩ => ⟨e, hp.symm.subset he, h⟩⟩
theorem perm_of_nodup {α : Type} [DecidableEq α] {a b : List α} (ha : a.Nodup) (hb : b.Nodup) (h : ∀ x, x ∈ a ↔ x ∈ b) : a.Perm b := by
  induction a generalizing b with
  | nil =>
    cases b with
    | nil => exact .refl _
    | cons y b => exact absurd ((h y).2 (by simp)) (by simp)
  | cons x a ih =>
    have hx : x ∈ b := (h x).1 (by simp)
    rw [List.nodup_cons] at ha
    refine ((ih ha.2 (hb.erase x) fun y => ?_).cons x).trans (List.perm_cons_erase hx).symm
    rw [hb.mem_erase_iff, ← h y, List.mem_cons]
    constructor
    · intro hy
      refine ⟨?_, .inr hy⟩
      rintro rfl
      exact ha.1 hy
    · rintro ⟨h1, h2 | h2⟩
      · exact absurd h2 h1
      · exact h2
theorem fitsI_perm {a b : List En} (h : a.Perm b) : fitsI a = fitsI b := by unfold fitsI; rw [h.length_eq, sumE_perm h]
theorem makeR_fold {l : List En} (hm : ∀ e ∈ l, mayB e = true) (hd : Dist l) : makeR l = makeT ((above l).foldl stepC (some (l ++ ([] : List ByteArray).map dirE))) := by
  unfold makeR
  rw [if_neg (by rw [List.all_eq_true.2 hm]; decide), if_neg (by rw [twins_no l [] (fun _ h => nomatch h) hm hd]; decide), climbs_fold, List.map_nil, List.append_nil]
/-- The document's Make against the program's. -/
theorem refMake {t l : List En} (hm : ∀ e ∈ l, mayB e = true) (hd : Dist l) (hp : t.Perm l) {x : MrS} (hx : (above t).foldl (stepM t) ⟨[], false, false⟩ = x) :
    (x.wrong = true → makeR l = (52, [])) ∧
    (x.wrong = false → (x.many = true ∨ 1024 < (t ++ x.acc.map dirE).length) → makeR l = (53, [])) ∧
    (x.wrong = false → x.many = false → ¬ 1024 < (t ++ x.acc.map dirE).length → 1048576 < sumE (t ++ x.acc.map dirE) → makeR l = (54, [])) ∧
    (x.wrong = false → x.many = false → ¬ 1024 < (t ++ x.acc.map dirE).length → ¬ 1048576 < sumE (t ++ x.acc.map dirE) → ∃ o, makeR l = (0, o) ∧ (t ++ x.acc.map dirE).Perm o) := by
  have hmk := makeR_fold hm hd
  have hbad : BadD t (above t) ↔ BadD l (above l) := by
    unfold BadD
    constructor
    · rintro ⟨d, h1, h2⟩
      exact ⟨d, (above_perm hp d).1 h1, by rwa [kindI_perm hp hd] at h2⟩
    · rintro ⟨d, h1, h2⟩
      exact ⟨d, (above_perm hp d).2 h1, by rwa [kindI_perm hp hd]⟩
  have hw := foldM_wrong t (above t) ⟨[], false, false⟩
  have hfew := foldM_few t (above t) ⟨[], false, false⟩
  have hmany := foldM_many t (above t) ⟨[], false, false⟩
  rw [hx] at hw hfew hmany
  have hn : (news t [] (above t)).Perm (news l [] (above l)) := by
    refine perm_of_nodup (news_nodup _ _ _ .nil) (news_nodup _ _ _ .nil) fun d => ?_
    rw [news_mem, news_mem, above_perm hp, kindI_perm hp hd]
  have hlen : t.length + (news t [] (above t)).length = (l ++ (news l [] (above l)).map dirE).length := by
    rw [List.length_append, List.length_map, hp.length_eq, hn.length_eq]
  by_cases hb : BadD l (above l)
  · rw [foldC_bad hm _ _ hb] at hmk
    have : x.wrong = true := hw.2 (.inr (hbad.2 hb))
    refine ⟨fun _ => hmk, ?_, ?_, ?_⟩ <;> intro h <;> rw [this] at h <;> cases h
  rw [foldC_some hm _ _ hb] at hmk
  have hw0 : ¬ x.wrong = true := fun h => by
    rcases hw.1 h with h | h
    · cases h
    · exact hb (hbad.1 h)
  unfold makeT at hmk
  dsimp only at hmk
  refine ⟨fun h => absurd h hw0, fun _ h => ?_, fun _ hf h1 h2 => ?_, fun _ hf h1 h2 => ?_⟩
  · have hbig : 1024 < (l ++ (news l [] (above l)).map dirE).length := by
      rw [← hlen]
      by_cases hmn : x.many = true
      · rcases hmany hmn with h | h
        · cases h
        · exact h
      · rcases h with h | h
        · exact absurd h hmn
        · rw [hfew (by simpa using hmn), List.length_append, List.length_map] at h
          exact h
    have h4 : fitsI (l ++ (news l [] (above l)).map dirE) = 53 := by unfold fitsI; rw [if_pos hbig]
    rw [hmk, h4, if_neg (by decide)]
  · have hpo : (t ++ x.acc.map dirE).Perm (l ++ (news l [] (above l)).map dirE) := by
      rw [hfew hf]; exact hp.append (hn.map _)
    have h4 : fitsI (l ++ (news l [] (above l)).map dirE) = 54 := by rw [← fitsI_perm hpo]; unfold fitsI; rw [if_neg h1, if_pos h2]
    rw [hmk, h4, if_neg (by decide)]
  · have hpo : (t ++ x.acc.map dirE).Perm (l ++ (news l [] (above l)).map dirE) := by
      rw [hfew hf]; exact hp.append (hn.map _)
    have h4 : fitsI (l ++ (news l [] (above l)).map dirE) = 0 := by rw [← fitsI_perm hpo]; unfold fitsI; rw [if_neg h1, if_neg h2]
    refine ⟨_, ?_, hpo⟩
    rw [hmk, h4, if_pos rfl]
theorem twins_yes : ∀ (r pre : List En), (∀ e ∈ pre, mayB e = true) → (∀ e ∈ r, mayB e = true) → Dist pre → twins pre r = false → Dist (pre ++ r)
  | [], pre, _, _, h, _ => by rwa [List.append_nil]
  | e :: r, pre, hp, hr, hd, ht => by
    rw [twins_cons] at ht
    by_cases h0 : kindI pre e.path = 0
    · rw [if_pos h0] at ht
      have := twins_yes r (pre ++ [e]) (fun x hx => by
        rcases List.mem_append.1 hx with h1 | h1
        · exact hp x h1
        · rw [List.mem_singleton.1 h1]; exact hr e (by simp)) (fun x hx => hr x (List.mem_cons_of_mem _ hx)) (by
          unfold Dist
          rw [List.pairwise_append]
          refine ⟨hd, List.pairwise_singleton .., fun x hx y hy => ?_⟩
          rw [List.mem_singleton.1 hy]
          exact (kindI_zero hp).1 h0 x hx) ht
      rwa [List.append_assoc] at this
    · rw [if_neg h0] at ht; cases ht
theorem makeR_bad {l : List En} (h : ¬ l.all mayB = true) : makeR l = (50, []) := by
  unfold makeR
  rw [if_pos (by simpa using h)]
theorem makeR_twins {l : List En} (hm : ∀ e ∈ l, mayB e = true) (h : ¬ Dist l) : makeR l = (9, []) := by
  unfold makeR
  rw [if_neg (by rw [List.all_eq_true.2 hm]; decide), if_pos]
  cases ht : twins [] l with
  | true => rfl
  | false => exact absurd (twins_yes l [] (fun _ h => nomatch h) hm .nil ht) h
theorem dist_snoc {t : List En} (hs : t.Pairwise fun x y => 0 ≤ lessI y.path x.path) (hok : ∀ e ∈ t, okP e.path = true) {i : Nat} {x y : En} (gx : Nth t i x) (gy : Nth t (i - 1) y) (hi : 1 ≤ i) (hne : ¬ x.path = y.path) (hd : Dist (t.take i)) : Dist (t.take (i + 1)) := by
  rw [gx.take]
  unfold Dist
  rw [List.pairwise_append]
  refine ⟨hd, List.pairwise_singleton .., fun z hz x' hx' => ?_⟩
  rw [List.mem_singleton.1 hx']
  obtain ⟨j, hj⟩ := List.getElem?_of_mem hz
  have hji : j < i := by
    have := (List.getElem?_eq_some_iff.1 hj).1
    rw [List.length_take] at this
    omega
  rw [List.getElem?_take, if_pos hji] at hj
  obtain ⟨hjl, hjx⟩ := List.getElem?_eq_some_iff.1 hj
  obtain ⟨hyl, hyx⟩ := List.getElem?_eq_some_iff.1 gy.get
  obtain ⟨hxl, hxx⟩ := List.getElem?_eq_some_iff.1 gx.get
  intro he
  by_cases hjy : j = i - 1
  · subst hjy
    rw [hjx] at hyx
    subst hyx
    exact hne he.symm
  have p1 := List.pairwise_iff_getElem.1 hs j (i - 1) hjl hyl (by omega)
  have p2 := List.pairwise_iff_getElem.1 hs (i - 1) i hyl hxl (by omega)
  rw [hjx, hyx] at p1
  rw [hyx, hxx] at p2
  have oz := hok z (List.mem_of_mem_take hz)
  have oy := hok y gy.mem
  rw [← he] at p2
  have := lessI_swap oz oy
  have := lessI_eq oz oy (by omega)
  exact hne (by rw [← he, this])
theorem not_dist {t : List En} {i : Nat} {x y : En} (gx : Nth t i x) (gy : Nth t (i - 1) y) (hi : 1 ≤ i) (he : x.path = y.path) : ¬ Dist t := by
  intro hd
  obtain ⟨hyl, hyx⟩ := List.getElem?_eq_some_iff.1 gy.get
  obtain ⟨hxl, hxx⟩ := List.getElem?_eq_some_iff.1 gx.get
  have := List.pairwise_iff_getElem.1 hd (i - 1) i hyl hxl (by omega)
  rw [hyx, hxx] at this
  exact this he.symm
theorem chain_ok : ∀ (n : Nat) (d : ByteArray), okP d = true → ∀ x ∈ chainN n d, okP x = true ∧ x.size ≠ 0
  | 0, _, _, x, hx => nomatch hx
  | n + 1, d, hd, x, hx => by
    rw [chainN] at hx
    by_cases h0 : d.size = 0
    · rw [if_pos h0] at hx; exact nomatch hx
    rw [if_neg h0] at hx
    rcases List.mem_cons.1 hx with rfl | hx
    · exact ⟨hd, h0⟩
    · exact chain_ok n _ (upP_ok hd) x hx
theorem makeR_dist {l : List En} {o : List En} (h : makeR l = (0, o)) : Dist o ∧ ∀ e ∈ o, mayB e = true := by
  by_cases ha : ¬ l.all mayB = true
  · rw [makeR_bad ha] at h; exact absurd (Prod.mk.inj h).1 (by decide)
  replace ha := Classical.not_not.1 ha
  have hm : ∀ e ∈ l, mayB e = true := fun e he => List.all_eq_true.1 ha e he
  by_cases hd : ¬ Dist l
  · rw [makeR_twins hm hd] at h; exact absurd (Prod.mk.inj h).1 (by decide)
  replace hd := Classical.not_not.1 hd
  have hmk := makeR_fold hm hd
  by_cases hb : BadD l (above l)
  · rw [foldC_bad hm _ _ hb] at hmk
    rw [hmk] at h
    exact absurd (Prod.mk.inj h).1 (by decide)
  rw [foldC_some hm _ _ hb] at hmk
  rw [hmk] at h
  unfold makeT at h
  dsimp only at h
  by_cases hf : ¬ fitsI (l ++ (news l [] (above l)).map dirE) = 0
  · rw [if_neg hf] at h; exact absurd (Prod.mk.inj h).1 hf
  rw [if_pos (Classical.not_not.1 hf)] at h
  obtain rfl := (Prod.mk.inj h).2
  have hk : ∀ d ∈ news l [] (above l), d ∈ above l ∧ kindI l d = 0 := fun d hd => by
    rcases (news_mem l d _ _).1 hd with h | h
    · exact nomatch h
    · exact h
  refine ⟨?_, fun e he => ?_⟩
  · unfold Dist
    rw [List.pairwise_append]
    refine ⟨hd, ?_, fun x hx y hy => ?_⟩
    · rw [List.pairwise_map]
      exact (news_nodup l (above l) [] .nil).imp fun {a b} h e => h e
    · obtain ⟨d, hd2, rfl⟩ := List.mem_map.1 hy
      exact (kindI_zero hm).1 (hk d hd2).2 x hx
  · rcases List.mem_append.1 he with h1 | h1
    · exact hm e h1
    · obtain ⟨d, hd2, rfl⟩ := List.mem_map.1 h1
      obtain ⟨e, he2, h3⟩ := List.mem_flatMap.1 (hk d hd2).1
      have := chain_ok _ _ (upP_ok (mayB_ok (hm e he2)).1) d h3
      exact mayB_dir this.1 this.2
end Go.Tk
