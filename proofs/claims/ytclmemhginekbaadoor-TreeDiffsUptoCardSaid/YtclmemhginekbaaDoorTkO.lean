/- What the reading of an argument gives. -/
import Derived.Test.YtclmemhginekbaaDoorTkN
import Derived.Test.YtclmemhginekbaaDoorRows
import Derived.Deep.Slices
import Derived.OpenShut
set_option linter.unusedSectionVars false
set_option linter.unusedSimpArgs false
set_option linter.unusedVariables false
namespace Go.Tk
open Go.RowKit Go.Proofs Go.Proofs.YtclmemhginekbaaDoor Go.Deep

def OpensAt {α : Type} (P : Program) (t : TypeId) (E : Enc α) (ok : Base → α → Prop) (bulk : α → Nat) : Prop :=
  ∀ {H : Type} (enc : TypeId × Value → H) (W : World) (fuel : Nat) (cs : List Value) (x : DataW H × List MemPlace), DataW.trod enc P W 0 (fun _ => true) true fuel t cs = some x →
    ∃ a : α, cs = E.cells a ∧ ok (Base.of W) a ∧ bulk a ≤ Rows.uptoBulk x.1

def intE (k : IntKind) : Enc Int := {
  val n := .int k n
  cells n := [.int k n]
  valc _ := rfl
  k := 1
  pos := by decide
  len _ := rfl
  one n v hv := by simp only [List.mem_singleton] at hv; subst hv; rfl }
def boolE : Enc Bool := {
  val n := .bool n
  cells n := [.bool n]
  valc _ := rfl
  k := 1
  pos := by decide
  len _ := rfl
  one n v hv := by simp only [List.mem_singleton] at hv; subst hv; rfl }
def strE : Enc ByteArray := {
  val n := .string n
  cells n := [.string n]
  valc _ := rfl
  k := 1
  pos := by decide
  len _ := rfl
  one n v hv := by simp only [List.mem_singleton] at hv; subst hv; rfl }
structure Sl (α : Type) where
  A : Option Addr
  n : Nat
  cap : Nat
  xs : List α
def slE (α : Type) : Enc (Sl α) := {
  val s := .slice s.A s.n s.cap
  cells s := [.slice s.A s.n s.cap]
  valc _ := rfl
  k := 1
  pos := by decide
  len _ := rfl
  one n v hv := by simp only [List.mem_singleton] at hv; subst hv; rfl }

section
variable {P : Program}
theorem opens_int {t : TypeId} {k : IntKind} (hu : P.underlying t = some (.int k)) : OpensAt P t (intE k) (fun _ n => (Lit.int k n).wf = true) (fun _ => 1) := by
  intro H enc W fuel cs x h
  obtain ⟨n, rfl, rfl, hw⟩ := DataW.trod_int hu h
  exact ⟨n, rfl, hw, by simp [Rows.uptoBulk]⟩
theorem bulk_pos {H : Type} (d : DataW H) : 1 ≤ Rows.uptoBulk d := by
  cases d with
  | lit l => cases l <;> simp [Rows.uptoBulk]
  | nil => simp [Rows.uptoBulk]
  | ptr d => simp [Rows.uptoBulk]
  | slice elems spare => simp [Rows.uptoBulk]
  | agg parts => simp [Rows.uptoBulk]
  | iface t d => simp [Rows.uptoBulk]
  | map entries => simp [Rows.uptoBulk]
  | held h => simp [Rows.uptoBulk]
theorem bulkAll_sum {H : Type} (l : List (DataW H)) : Rows.uptoBulkAll l = (l.map Rows.uptoBulk).sum := by
  induction l with
  | nil => simp [Rows.uptoBulkAll]
  | cons x l ih => simp [Rows.uptoBulkAll, ih]

theorem opens_bool {t : TypeId} (hu : P.underlying t = some .bool) : OpensAt P t boolE (fun _ _ => True) (fun _ => 1) := by
  intro H enc W fuel cs x h
  cases fuel with
  | zero => simp [DataW.trod] at h
  | succ n =>
    unfold DataW.trod at h
    rw [hu] at h
    split at h <;> simp_all
    exact ⟨by cases ‹Bool› <;> simp [boolE], bulk_pos _⟩
theorem opens_str {t : TypeId} (hu : P.underlying t = some .string) : OpensAt P t strE (fun _ s => s.size ≤ maxLen) (fun s => s.size + 1) := by
  intro H enc W fuel cs x h
  cases fuel with
  | zero => simp [DataW.trod] at h
  | succ n =>
    unfold DataW.trod at h
    rw [hu] at h
    split at h <;> simp_all
    obtain ⟨h1, rfl⟩ := h
    refine ⟨‹ByteArray›, by simp [strE], h1, ?_⟩
    simp [Rows.uptoBulk]

theorem choose_list {α : Type} {n : Nat} {p : Nat → α → Prop} (h : ∀ i, i < n → ∃ a, p i a) : ∃ l : List α, l.length = n ∧ ∀ i a, l[i]? = some a → p i a := by
  induction n with
  | zero => exact ⟨[], rfl, fun i a h => by simp at h⟩
  | succ n ih =>
    obtain ⟨l, hl, hp⟩ := ih fun i hi => h i (by omega)
    obtain ⟨a, ha⟩ := h n (by omega)
    refine ⟨l ++ [a], by simp [hl], fun i x hx => ?_⟩
    by_cases hi : i < n
    · rw [List.getElem?_append_left (by omega)] at hx; exact hp i x hx
    · rw [List.getElem?_append_right (by omega)] at hx
      have : i = n := by
        have := (List.getElem?_eq_some_iff.1 hx).1
        simp at this; omega
      subst this
      simp [hl] at hx
      exact hx ▸ ha
theorem sum_le_of {α β : Type} {f : α → Nat} {g : β → Nat} : ∀ {l : List α} {m : List β}, l.length = m.length → (∀ (i : Nat) (a : α) (b : β), l[i]? = some a → m[i]? = some b → f a ≤ g b) → (l.map f).sum ≤ (m.map g).sum
  | [], [], _, _ => Nat.le_refl _
  | a :: l, b :: m, h, hp => by
    have h1 := hp 0 a b rfl rfl
    have h2 := sum_le_of (l := l) (m := m) (by simpa using h) fun i x y hx hy => hp (i + 1) x y (by simpa using hx) (by simpa using hy)
    simp only [List.map_cons, List.sum_cons]; omega
  | [], _ :: _, h, _ => by simp at h
  | _ :: _, [], h, _ => by simp at h

theorem opens_slice {α : Type} {t e : TypeId} {E : Enc α} {ok : Base → α → Prop} {bulk : α → Nat} (hu : P.underlying t = some (.slice e)) (hk : P.cellsOf e = E.k) (h : OpensAt P e E ok bulk) :
    OpensAt P t (slE α) (fun B s => s.n = s.xs.length ∧ RdB E B s.A s.xs ∧ ∀ x ∈ s.xs, ok B x) (fun s => (s.xs.map bulk).sum + 1) := by
  intro H enc W fuel cs x hx
  rcases open_slice hu hx with ⟨rfl, rfl⟩ | ⟨a, len, cap, m, n, D, Pl, rfl, _, hl, hm, hmm, rfl, hel⟩
  · exact ⟨⟨none, 0, 0, []⟩, rfl, ⟨rfl, ⟨fun h => absurd h (by simp), by simp, fun j x h => by simp at h⟩, fun _ h => nomatch h⟩, bulk_pos _⟩
  · have hlm : len ≤ m := by rw [hmm]; simp; omega
    obtain ⟨l, hll, hp⟩ := choose_list (n := len) (p := fun i v => ∃ cs', W.cells? 0 (a.add (i * P.cellsOf e)) (P.cellsOf e) = some cs' ∧ cs' = E.cells v ∧ ok (Base.of W) v ∧ bulk v ≤ Rows.uptoBulk (D i)) (fun i hi => by
      obtain ⟨cs', h1, h2⟩ := hel i (by omega)
      obtain ⟨v, h3, h4, h5⟩ := h enc W n cs' _ h2
      exact ⟨v, cs', h1, h3, h4, h5⟩)
    have hcell : ∀ j x, l[j]? = some x → ∀ f v, (E.cells x)[f]? = some v → W.cell? (a.add (j * E.k + f)) = some v := by
      intro j x hj f v hv
      obtain ⟨cs', h1, rfl, _, _⟩ := hp j x hj
      have h3 := (World.cells?_some h1).2.2
      have hf : f < P.cellsOf e := by have := (List.getElem?_eq_some_iff.1 hv).1; rw [E.len] at this; omega
      have := h3 f hf
      rw [hv, Go.Deep.add_add, hk] at this
      exact this
    have hspot : 0 < len → a.spot = none := by
      intro h0
      obtain ⟨x0, hx0⟩ : ∃ x0, l[0]? = some x0 := ⟨_, List.getElem?_eq_getElem (by omega)⟩
      obtain ⟨v0, hv0⟩ : ∃ v0, (E.cells x0)[0]? = some v0 := ⟨_, List.getElem?_eq_getElem (by rw [E.len]; exact E.pos)⟩
      have := hcell 0 x0 hx0 0 v0 hv0
      simp only [Nat.zero_mul, Nat.add_zero, Addr.add, if_true, World.cell?] at this
      split at this
      · split at this
        · cases this
        · rename_i hs; simpa using hs
      · cases this
    have hadd : ∀ i, a.spot = none → a.add i = ⟨a.block, a.off + i, none⟩ := by
      intro i hs
      unfold Addr.add
      split
      · cases a; simp_all
      · rfl
    refine ⟨⟨some a, len, cap, l⟩, rfl, ⟨hll.symm, ⟨?_, ?_, ?_⟩, ?_⟩, ?_⟩
    · intro h0
      have := hspot (by simp only at h0; omega)
      exact ⟨a.block, a.off, by cases a; simp_all⟩
    · have : maxLen ≤ 9223372036854775807 := by decide
      show l.length ≤ _
      omega
    · intro j x hj f v hv
      have hc := hcell j x hj f v hv
      have hlen0 : 0 < len := by have : j < l.length := (List.getElem?_eq_some_iff.1 hj).1; omega
      rw [hadd _ (hspot hlen0)] at hc
      show (Base.of W).cell a.block (a.off + j * E.k + f) = some v
      rw [Nat.add_assoc]
      unfold World.cell? at hc
      unfold Base.cell Base.of
      simp only at hc ⊢
      split at hc
      · rename_i c _ _ hb
        rw [hb]; simpa using hc
      · cases hc
    · intro x hx
      obtain ⟨i, hi, rfl⟩ := List.getElem_of_mem hx
      obtain ⟨_, _, _, h4, _⟩ := hp i _ (List.getElem?_eq_getElem hi)
      exact h4
    · simp only [Rows.uptoBulk, bulkAll_sum]
      have : (l.map bulk).sum ≤ (((List.range len).map D).map Rows.uptoBulk).sum := by
        refine sum_le_of (by simp [hll]) fun i a b ha hb => ?_
        obtain ⟨_, _, _, _, h5⟩ := hp i a ha
        simp only [List.getElem?_map, List.getElem?_range, Option.map_eq_some_iff] at hb
        obtain ⟨y, hy, rfl⟩ := hb
        have : y = i := by
          rw [List.getElem?_eq_some_iff] at hy
          obtain ⟨h1, h2⟩ := hy
          simpa using h2.symm
        rw [this]; exact h5
      omega
end
theorem length_le_sum {α : Type} {f : α → Nat} (h : ∀ a, 1 ≤ f a) (l : List α) : l.length ≤ (l.map f).sum := by
  induction l with
  | nil => simp
  | cons x l ih => have := h x; simp only [List.length_cons, List.map_cons, List.sum_cons]; omega
end Go.Tk
