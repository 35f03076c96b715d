/- Directories above a path; what Make puts in: plain. -/
import Derived.Test.YtclmemhginekbaaDoorP15
set_option linter.unusedSectionVars false
set_option linter.unusedSimpArgs false
set_option linter.unusedVariables false
namespace Go.Tk
open Go.RowKit Go.Proofs

theorem join2 (x y : List UInt8) (r : List (List UInt8)) : Lib.join (x :: y :: r) [47] = x ++ 47 :: Lib.join (y :: r) [47] := by
  rw [Lib.join_cons, Lib.join_cons]
  simp [Lib.joinTail]
theorem split_join : ∀ {l : List (List UInt8)}, l ≠ [] → (∀ x ∈ l, (47 : UInt8) ∉ x) → splitL (Lib.join l [47]) = l
  | [], h, _ => absurd rfl h
  | [x], _, hx => by rw [Lib.join_one]; exact splitL_miss (hx x (by simp))
  | x :: y :: r, _, hx => by
    rw [join2, splitL_hit (hx x (by simp)), split_join (by simp) (fun z hz => hx z (List.mem_cons_of_mem _ hz))]
theorem nameB_ok {x : ByteArray} (h : nameB x = true) : 1 ≤ x.size ∧ (47 : UInt8) ∉ x.data.toList := by
  unfold nameB at h
  simp only [Bool.and_eq_true, decide_eq_true_eq] at h
  refine ⟨h.1.1.1.1, fun hm => ?_⟩
  have := List.all_eq_true.1 h.2 _ hm
  exact absurd this (by decide)
theorem names_all {s : ByteArray} {l : List ByteArray} (h : namesB s = some l) : (∀ x ∈ l, nameB x = true) ∧ l.length ≤ 32 := by
  unfold namesB at h
  split at h
  · cases h; exact ⟨fun _ h => (nomatch h), Nat.zero_le _⟩
  · split at h
    · cases h
    · split at h
      · rename_i h2 h3
        cases h
        exact ⟨fun x hx => List.all_eq_true.1 h3 x hx, by omega⟩
      · cases h
theorem names_join {l : List ByteArray} (hall : ∀ x ∈ l, nameB x = true) (hl : l.length ≤ 32) : namesB (joinB l) = some l := by
  by_cases hne : l = []
  · subst hne; rfl
  have hp : piecesB (joinB l) = l := by
    unfold piecesB joinB
    rw [data_mkB, split_join (by simpa using hne) (fun x hx => by
      obtain ⟨y, hy, rfl⟩ := List.mem_map.1 hx
      exact (nameB_ok (hall y hy)).2), List.map_map]
    rw [show (mkB ∘ fun x : ByteArray => x.data.toList) = id from funext mkB_data, List.map_id]
  have hz : (joinB l).size ≠ 0 := by
    intro h0
    cases l with
    | nil => exact hne rfl
    | cons x r =>
      have := (nameB_ok (hall x (by simp))).1
      rw [ba_size] at h0 this
      unfold joinB at h0
      rw [data_mkB, List.map_cons, Lib.join_cons, List.length_append] at h0
      omega
  unfold namesB
  rw [if_neg hz, hp, if_neg (by omega), if_pos (List.all_eq_true.2 hall)]
theorem join_drop_lt {l : List (List UInt8)} (hall : ∀ x ∈ l, 1 ≤ x.length) (hne : l ≠ []) : (Lib.join l.dropLast [47]).length < (Lib.join l [47]).length := by
  induction l with
  | nil => exact absurd rfl hne
  | cons x r ih =>
    cases r with
    | nil =>
      have := hall x (by simp)
      rw [Lib.join_one, show ([x] : List (List UInt8)).dropLast = [] from rfl, Lib.join_nil]
      exact this
    | cons y r =>
      have h1 := ih (fun z hz => hall z (List.mem_cons_of_mem _ hz)) (by simp)
      rw [List.dropLast_cons_of_ne_nil (by simp), join2]
      cases r with
      | nil => 
        rw [show ([y] : List (List UInt8)).dropLast = [] from rfl, Lib.join_one]
        simp
      | cons z r =>
        rw [List.dropLast_cons_of_ne_nil (by simp)] at h1 ⊢
        rw [join2]
        simp only [List.length_append, List.length_cons]
        omega
theorem upP_none {s : ByteArray} (h : namesB s = none) : upP s = ⟨#[]⟩ := by unfold upP splitP; rw [h]
theorem upP_some {s : ByteArray} {l : List ByteArray} (h : namesB s = some l) : upP s = joinB l.dropLast := by
  unfold upP splitP
  rw [h]
  dsimp only
  split
  · rename_i h0; subst h0; rfl
  · rfl
theorem upP_names {s : ByteArray} {l : List ByteArray} (h : namesB s = some l) : namesB (upP s) = some l.dropLast := by
  rw [upP_some h]
  have := names_all h
  exact names_join (fun x hx => this.1 x (List.dropLast_subset l hx)) (by rw [List.length_dropLast]; omega)
theorem upP_ok {s : ByteArray} (h : okP s = true) : okP (upP s) = true := by
  obtain ⟨l, hl⟩ := okP_some h
  unfold okP
  rw [upP_names hl]
  rfl
theorem upP_lt {s : ByteArray} (h : s.size ≠ 0) : (upP s).size < s.size := by
  cases hn : namesB s with
  | none => rw [upP_none hn]; exact Nat.pos_of_ne_zero h
  | some l =>
    rw [upP_some hn]
    have hj := namesL_join hn
    have hne : l ≠ [] := fun h0 => h (hj.2.1 h0)
    have := join_drop_lt (l := l.map (·.data.toList)) (fun x hx => by
      obtain ⟨y, hy, rfl⟩ := List.mem_map.1 hx
      have := (nameB_ok ((names_all hn).1 y hy)).1
      rwa [ba_size] at this) (by simpa using hne)
    conv => rhs; rw [← hj.1]
    rw [ba_size, ba_size]
    unfold joinB
    rw [data_mkB, data_mkB, List.map_dropLast]
    exact this
theorem upP_le (s : ByteArray) : (upP s).size ≤ s.size := splitP_small s

/-- The kind of what stands at a path; 0: nothing. -/
def kindI (t : List En) (p : ByteArray) : Int := match t.find? (fun e => decide (e.path = p)) with | some e => e.kind | none => 0
def dirE (d : ByteArray) : En := ⟨d, 2, ⟨#[]⟩⟩
def climb : Nat → List En → ByteArray → Option (List En)
  | 0, out, _ => some out
  | n + 1, out, d => if d.size = 0 then some out else if kindI out d = 2 then climb n out (upP d) else if kindI out d = 0 then climb n (out ++ [dirE d]) (upP d) else none
def climbs : List En → List En → Option (List En)
  | out, [] => some out
  | out, e :: r => match climb e.path.size out (upP e.path) with | none => none | some o => climbs o r
def twins : List En → List En → Bool
  | _, [] => false
  | pre, e :: r => if kindI pre e.path = 0 then twins (pre ++ [e]) r else true
def makeT : Option (List En) → Int × List En
  | none => (52, [])
  | some o => if fitsI o = 0 then (0, o) else (fitsI o, [])
/-- What Make answers: an error, or the entries ahead of sorting. -/
def makeR (l : List En) : Int × List En :=
  if l.all mayB = false then (50, []) else if twins [] l = true then (9, []) else makeT (climbs l l)
theorem mayB_kind {e : En} (h : mayB e = true) : e.kind = 1 ∨ e.kind = 2 ∨ e.kind = 3 := by
  unfold mayB at h
  by_cases h1 : e.kind = 1
  · exact .inl h1
  by_cases h2 : e.kind = 2
  · exact .inr (.inl h2)
  by_cases h3 : e.kind = 3
  · exact .inr (.inr h3)
  rw [if_neg h1, if_neg h2, if_neg h3] at h
  simp at h
theorem mayB_dir {d : ByteArray} (h : okP d = true) (hz : d.size ≠ 0) : mayB (dirE d) = true := by
  unfold mayB dirE
  simp [h, hz]
  rfl
theorem kindI_nil (p : ByteArray) : kindI [] p = 0 := rfl
theorem kindI_append (a b : List En) (p : ByteArray) (ha : ∀ e ∈ a, mayB e = true) : kindI (a ++ b) p = if kindI a p = 0 then kindI b p else kindI a p := by
  unfold kindI
  rw [List.find?_append]
  cases h : a.find? (fun e => decide (e.path = p)) with
  | none => simp
  | some e =>
    have := mayB_kind (ha e (List.mem_of_find?_eq_some h))
    simp
    intro h0; omega
theorem kindI_one (e : En) (p : ByteArray) : kindI [e] p = if p = e.path then e.kind else 0 := by
  unfold kindI
  by_cases h : e.path = p
  · simp [h]
  · have : ¬ p = e.path := fun x => h x.symm
    simp [h, this]
theorem kindI_zero {t : List En} {p : ByteArray} (ht : ∀ e ∈ t, mayB e = true) : kindI t p = 0 ↔ ∀ e ∈ t, ¬ e.path = p := by
  unfold kindI
  constructor
  · intro h e he hp
    cases hf : t.find? (fun e => decide (e.path = p)) with
    | none => 
      have := List.find?_eq_none.1 hf e he
      simp [hp] at this
    | some x =>
      rw [hf] at h
      have := mayB_kind (ht x (List.mem_of_find?_eq_some hf))
      dsimp only at h
      omega
  · intro h
    rw [List.find?_eq_none.2 (fun e he => by simpa using h e he)]
theorem kindI_vals {t : List En} (ht : ∀ e ∈ t, mayB e = true) (p : ByteArray) : kindI t p = 0 ∨ kindI t p = 1 ∨ kindI t p = 2 ∨ kindI t p = 3 := by
  unfold kindI
  cases hf : t.find? (fun e => decide (e.path = p)) with
  | none => exact .inl rfl
  | some x => exact .inr (mayB_kind (ht x (List.mem_of_find?_eq_some hf)))
/-- A map that tells the kinds of a list. -/
def SeenMap (m : List (ByteArray × Int)) (t : List En) : Prop := ∀ p, mget m p = if kindI t p = 0 then none else some (kindI t p)
theorem SeenMap.nil : SeenMap [] [] := fun p => rfl
theorem SeenMap.look {m : List (ByteArray × Int)} {t : List En} (h : SeenMap m t) (p : ByteArray) : (mget m p).elim (.int .i64 0) intv = .int .i64 (kindI t p) := by
  rw [h p]
  split
  · rename_i h0; rw [h0]; rfl
  · rfl
theorem SeenMap.put {m : List (ByteArray × Int)} {t : List En} (h : SeenMap m t) (ht : ∀ e ∈ t, mayB e = true) {e : En} (he : mayB e = true) (h0 : kindI t e.path = 0) : SeenMap (mput m e.path e.kind) (t ++ [e]) := by
  intro p
  rw [mget_mput, kindI_append _ _ _ ht, kindI_one, h p]
  have := mayB_kind he
  by_cases hp : p = e.path
  · subst hp
    rw [if_pos rfl, if_pos rfl, if_pos h0, if_neg (by omega)]
  · rw [if_neg hp, if_neg hp]
    by_cases hk : kindI t p = 0
    · rw [if_pos hk, if_pos hk, if_pos rfl]
    · rw [if_neg hk, if_neg hk, if_neg hk]
end Go.Tk
