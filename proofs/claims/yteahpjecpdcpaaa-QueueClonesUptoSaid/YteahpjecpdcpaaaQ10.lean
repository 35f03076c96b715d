/- The queue's calls keep its form. -/
import Derived.Test.YteahpjecpdcpaaaQ9
set_option linter.unusedSectionVars false
set_option linter.unusedSimpArgs false
set_option linter.unusedVariables false
namespace Go.Tk
open Go.RowKit Go.Proofs

structure QS.Lim (q : QS) (N : Nat) : Prop where
  few : q.known.length ≤ N
  tries : ∀ p ∈ q.items, 0 ≤ p.2.w.tries ∧ p.2.w.tries ≤ N
theorem QS.Lim.up {q : QS} {N M : Nat} (h : q.Lim N) (hm : N ≤ M) : q.Lim M := ⟨Nat.le_trans h.few hm, fun p hp => ⟨(h.tries p hp).1, by have := (h.tries p hp).2; omega⟩⟩
theorem QS.Lim.known {q : QS} {N : Nat} (h : q.Lim N) (hn : N ≤ 4294967295) : q.known.length ≤ 4294967296 := Nat.le_trans h.few (by omega)
theorem QS.Lim.take {q : QS} {N : Nat} (h : q.Lim N) (hn : N ≤ 4294967295) {id : Int} : ∀ x, mget q.items id = some x → 0 ≤ x.w.tries ∧ x.w.tries < 4611686018427387904 := fun x hx => by
  have : 0 ≤ x.w.tries ∧ x.w.tries ≤ N := h.tries _ (mget_mem hx)
  omega

theorem wf_turn {q : QS} (h : q.Wf) {l1 l2 : List (Int × ItemB)} {id : Int} {x y : ItemB} (hl : q.items = l1 ++ (id, x) :: l2) (hb : y.w.born = x.w.born) (hi : y.w.id = x.w.id) : ({ q with items := l1 ++ (id, y) :: l2 } : QS).Wf := {
  born := by
    have := h.born
    rw [hl] at this
    show (l1 ++ (id, y) :: l2).Pairwise _
    rw [List.pairwise_append, List.pairwise_cons] at this ⊢
    refine ⟨this.1, ⟨fun r hr => ?_, this.2.1.2⟩, fun p hp r hr => ?_⟩
    · have := this.2.1.1 r hr; show y.w.born < _; rw [hb]; exact this
    · rcases List.mem_cons.1 hr with rfl | hr
      · have := this.2.2 p hp (id, x) (by simp); show _ < y.w.born; rw [hb]; exact this
      · exact this.2.2 p hp r (by simp [hr])
  ones := h.ones
  known p hp := by
    have hp : p ∈ l1 ++ (id, y) :: l2 := hp
    rcases List.mem_append.1 hp with h1 | h1
    · exact h.known p (by rw [hl]; simp [h1])
    · rcases List.mem_cons.1 h1 with rfl | h1
      · exact h.known (id, x) (by rw [hl]; simp)
      · exact h.known p (by rw [hl]; simp [h1])
  ids p hp := by
    have hp : p ∈ l1 ++ (id, y) :: l2 := hp
    rcases List.mem_append.1 hp with h1 | h1
    · exact h.ids p (by rw [hl]; simp [h1])
    · rcases List.mem_cons.1 h1 with rfl | h1
      · have := h.ids (id, x) (by rw [hl]; simp); show y.w.id = id; rw [hi]; exact this
      · exact h.ids p (by rw [hl]; simp [h1])
  le p hp := by
    have hp : p ∈ l1 ++ (id, y) :: l2 := hp
    rcases List.mem_append.1 hp with h1 | h1
    · exact h.le p (by rw [hl]; simp [h1])
    · rcases List.mem_cons.1 h1 with rfl | h1
      · have := h.le (id, x) (by rw [hl]; simp); show 1 ≤ y.w.born ∧ y.w.born ≤ _; rw [hb]; exact this
      · exact h.le p (by rw [hl]; simp [h1])
  born_ := h.born_ }
theorem wf_sub {q : QS} (h : q.Wf) {l : List (Int × ItemB)} (hl : l.Sublist q.items) : ({ q with items := l } : QS).Wf := {
  born := h.born.sublist hl
  ones := h.ones
  known p hp := h.known p (hl.subset hp)
  ids p hp := h.ids p (hl.subset hp)
  le p hp := h.le p (hl.subset hp)
  born_ := h.born_ }

theorem take_wf {q : QS} (h : q.Wf) (id : Int) : (q.take id).2.2.Wf := by
  unfold QS.take
  cases hg : mget q.items id with
  | none => exact h
  | some x =>
    obtain ⟨l1, l2, hl, hl1⟩ := mget_split hg
    simp only
    split
    · exact h
    · have := wf_turn (y := ⟨x.blk, { x.w with tries := x.w.tries + 1 }, true⟩) h hl rfl rfl
      simp only [hl, mput_split hl1]
      exact this
theorem back_wf {q : QS} (h : q.Wf) (id : Int) : (q.back id).2.Wf := by
  unfold QS.back
  cases hg : mget q.items id with
  | none => exact h
  | some x =>
    obtain ⟨l1, l2, hl, hl1⟩ := mget_split hg
    simp only
    split
    · have := wf_turn (y := ⟨x.blk, x.w, false⟩) h hl rfl rfl
      simp only [hl, mput_split hl1]
      exact this
    · exact h
theorem end_wf {q : QS} (h : q.Wf) (id : Int) : (q.end_ id).2.Wf := by
  unfold QS.end_
  cases hg : mget q.items id with
  | none => exact h
  | some x => exact wf_sub h List.filter_sublist

theorem lim_turn {q : QS} {N : Nat} (h : q.Lim N) {l1 l2 : List (Int × ItemB)} {id : Int} {x y : ItemB} (hl : q.items = l1 ++ (id, x) :: l2) (hb : y.w.tries = x.w.tries ∨ y.w.tries = x.w.tries + 1) : ({ q with items := l1 ++ (id, y) :: l2 } : QS).Lim (N + 1) := {
  few := Nat.le_succ_of_le h.few
  tries p hp := by
    have hp : p ∈ l1 ++ (id, y) :: l2 := hp
    rcases List.mem_append.1 hp with h1 | h1
    · have := h.tries p (by rw [hl]; simp [h1]); omega
    · rcases List.mem_cons.1 h1 with rfl | h1
      · have := h.tries (id, x) (by rw [hl]; simp)
        simp only at this ⊢; omega
      · have := h.tries p (by rw [hl]; simp [h1]); omega }
theorem take_lim {q : QS} {N : Nat} (h : q.Lim N) (id : Int) : (q.take id).2.2.Lim (N + 1) := by
  unfold QS.take
  cases hg : mget q.items id with
  | none => exact h.up (Nat.le_succ _)
  | some x =>
    obtain ⟨l1, l2, hl, hl1⟩ := mget_split hg
    simp only
    split
    · exact h.up (Nat.le_succ _)
    · have := lim_turn (y := ⟨x.blk, { x.w with tries := x.w.tries + 1 }, true⟩) h hl (.inr rfl)
      simp only [hl, mput_split hl1]
      exact this
theorem back_lim {q : QS} {N : Nat} (h : q.Lim N) (id : Int) : (q.back id).2.Lim (N + 1) := by
  unfold QS.back
  cases hg : mget q.items id with
  | none => exact h.up (Nat.le_succ _)
  | some x =>
    obtain ⟨l1, l2, hl, hl1⟩ := mget_split hg
    simp only
    split
    · have := lim_turn (y := ⟨x.blk, x.w, false⟩) h hl (.inl rfl)
      simp only [hl, mput_split hl1]
      exact this
    · exact h.up (Nat.le_succ _)
theorem end_lim {q : QS} {N : Nat} (h : q.Lim N) (id : Int) : (q.end_ id).2.Lim (N + 1) := by
  unfold QS.end_
  cases hg : mget q.items id with
  | none => exact h.up (Nat.le_succ _)
  | some x => exact ⟨Nat.le_succ_of_le h.few, fun p hp => by have := h.tries p (List.mem_filter.1 hp).1; omega⟩
theorem added_lim {q : QS} {N : Nat} (h : q.Lim N) {id : Int} (key : Dig) (u : Int) (blk : Nat) (hid : mget q.known id = none) : (q.added id key u blk).Lim (N + 1) := {
  few := by
    show (mput q.known id 1).length ≤ N + 1
    rw [mput_new hid]; have := h.few; simp; omega
  tries p hp := by
    have hp : p ∈ q.items ++ [_] := hp
    rcases List.mem_append.1 hp with hp | hp
    · have := h.tries p hp; omega
    · obtain rfl := List.mem_singleton.1 hp
      show (0 : Int) ≤ 0 ∧ (0 : Int) ≤ ((N + 1 : Nat) : Int); omega }
theorem code_known {q : QS} {id u : Int} (h : q.code id u = 0) : mget q.known id = none := by
  unfold QS.code at h
  split at h
  · assumption
  · cases h
end Go.Tk
