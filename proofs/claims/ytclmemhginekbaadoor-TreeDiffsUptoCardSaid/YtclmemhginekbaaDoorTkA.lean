/- The symbolic heap: a base that stays and a list of own blocks; what each step of a world does to it. -/
import Derived.WalkKit
import Derived.WalkSpells
import Derived.WalkLawsBesides
import Derived.Deep.MidRow
import Derived.Deep.Draws
set_option linter.unusedSectionVars false
set_option linter.unusedSimpArgs false
set_option linter.unusedVariables false
namespace Go.Tk
open Go.RowKit

/-- A slot of a frame that is written out. -/
theorem evT (l : List Value) (d : List Deferred) (n : Nat) : Act.eval ⟨l.toArray, d⟩ (.tmp n) = l.getD n undef := by simp [Act.eval, List.getD_eq_getElem?_getD]
theorem evC (a : Act) (v : Value) : a.eval (.const v) = v := rfl

structure Base where
  h : Nat → Option Obj
  os : Os
  tape : Nat → Question → Nat
  output : Array (Nat × ByteArray)
  drawn : Nat

abbrev HL := List (Nat × Obj)

structure Sh (B : Base) (H : HL) (w : World) : Prop where
  os : w.os = B.os
  tape : w.tape = B.tape
  output : w.output = B.output
  drawn : B.drawn ≤ w.drawn
  base : ∀ b o, B.h b = some o → w.heap[b]? = some o
  own : ∀ p, p ∈ H → w.heap[p.1]? = some p.2
  apart : ∀ p, p ∈ H → B.h p.1 = none
  nodup : (H.map (·.1)).Nodup

def Base.of (W : World) : Base := ⟨fun k => W.heap[k]?, W.os, W.tape, W.output, W.drawn⟩

/-- No run goes back behind a draw. -/
theorem ask_drawn {α : Type} (x : Ask α) : ∀ w : World, w.drawn ≤ (w.ask x).2.drawn := by
  induction x with
  | done a => intro w; exact Nat.le_refl _
  | ask what range k ih =>
    intro w
    simp only [World.ask]
    split
    · exact ih _ w
    · exact Nat.le_trans (Nat.le_succ _) (ih _ { w with drawn := w.drawn + 1 })

theorem except_bind {ε α β : Type} {x : Except ε α} {f : α → Except ε β} {b : β} (h : (x >>= f) = .ok b) : ∃ a, x = .ok a ∧ f a = .ok b := by
  cases x with
  | error e => cases h
  | ok a => exact ⟨a, rfl, h⟩
theorem viewStore_drawn {p : Program} {w w' : World} {at_ : Addr} {u : TypeId} {k : Addr} {v : Value} {b : Bool} {l : List Addr} (h : w.viewStore p at_ u k v b = .ok (w', l)) : w'.drawn = w.drawn := by
  unfold World.viewStore at h
  dsimp only at h
  split at h
  · obtain ⟨_, h0, _⟩ := except_bind h; cases h0
  · split at h
    · obtain ⟨⟨c, e, fr, first, like, cells⟩, _, h⟩ := except_bind h
      dsimp only at h
      split at h
      · obtain ⟨_, h0, _⟩ := except_bind h; cases h0
      · obtain ⟨_, _, h⟩ := except_bind h
        cases h
        rfl
    · obtain ⟨⟨c, e, fr, first, like, cells⟩, _, h⟩ := except_bind h
      cases h
theorem farStore_drawn {p : Program} {w w' : World} {a : Addr} {v : Value} {b : Bool} {l : List Addr} (h : w.farStore p a v b = .ok (w', l)) : w'.drawn = w.drawn := by
  unfold World.farStore at h
  split at h
  · split at h
    · rename_i r hr
      obtain ⟨w1, l1⟩ := r
      cases h
      exact viewStore_drawn hr
    · cases h
  · cases h
theorem sys_drawn (w : World) (c : Sys) : w.drawn ≤ (w.sys c).2.drawn := by
  unfold World.sys
  have := ask_drawn (Kernel.perform c w.os) w
  split
  · exact Nat.le_refl _
  · rename_i r os w1 h
    rw [h] at this
    exact this

theorem run_drawn {P : Program} {α : Type} (s : Sem α) : ∀ {w w' : World} {a : α}, s.run P w = .ok a w' → w.drawn ≤ w'.drawn := by
  induction s with
  | pure a => intro w w' x h; cases h; exact Nat.le_refl _
  | load m a k ih =>
    intro w w' x h
    simp only [Sem.run] at h
    split at h
    · exact ih _ h
    · split at h
      · exact ih _ h
      · cases h
  | store m a v k ih =>
    intro w w' x h
    have h' : (match w.cell? a with
        | some _ => if w.frozen? a then .halt (.unsupported (.unsafePointer "a write to bytes that a string shares")) w else k.run P (w.setCell a v)
        | none => match w.farStore P a v (m == .atomic) with
          | .ok (w, _) => k.run P w
          | .error h => .halt h w) = Result.ok x w' := by
      cases v <;> first | exact h | (simp only [Sem.run] at h; cases h; done)
    split at h'
    · split at h'
      · cases h'
      · have := ih h'; exact this
    · split at h'
      · rename_i w1 l h1
        have := ih h'
        rw [← farStore_drawn h1]
        exact this
      · cases h'
  | new o k ih =>
    intro w w' x h
    simp only [Sem.run] at h
    have := ih _ h; exact this
  | shape r k ih => intro w w' x h; simp only [Sem.run] at h; exact ih _ h
  | freeze a n k ih =>
    intro w w' x h
    simp only [Sem.run] at h
    have := ih h
    unfold World.freeze at this
    split at this <;> exact this
  | frozen a k ih => intro w w' x h; simp only [Sem.run] at h; exact ih _ h
  | getObj r k ih =>
    intro w w' x h
    simp only [Sem.run] at h
    split at h
    · cases h
    · exact ih _ h
    · cases h
  | setObj r o k ih =>
    intro w w' x h
    simp only [Sem.run] at h
    split at h
    · cases h
    · have := ih h; exact this
    · cases h
  | choose q k ih =>
    intro w w' x h
    simp only [Sem.run] at h
    split at h
    · exact ih _ h
    · exact Nat.le_trans (Nat.le_succ _) (ih _ h)
  | sys c k ih =>
    intro w w' x h
    simp only [Sem.run] at h
    exact Nat.le_trans (sys_drawn w c) (ih _ h)
  | program k ih => intro w w' x h; simp only [Sem.run] at h; exact ih _ h
  | mark m k ih => intro w w' x h; simp only [Sem.run] at h; exact ih h
  | halt h0 => intro w w' x h; simp only [Sem.run] at h; cases h

theorem Sh.of (W : World) : Sh (Base.of W) [] W :=
  ⟨rfl, rfl, rfl, Nat.le_refl _, fun _ _ h => h, by simp, by simp, by simp⟩

theorem Sh.below {W w : World} {H : HL} (h : Sh (Base.of W) H w) : Below W.heap.size W w := by
  have hb : ∀ k, k < W.heap.size → w.heap[k]? = W.heap[k]? := fun k hk => by
    rw [Array.getElem?_eq_getElem hk]
    exact h.base k _ (by simp [Base.of, Array.getElem?_eq_getElem hk])
  refine ⟨h.os, h.tape, h.output, ?_, hb⟩
  rcases Nat.eq_zero_or_pos W.heap.size with h0 | h0
  · omega
  · have := hb (W.heap.size - 1) (by omega)
    rw [Array.getElem?_eq_getElem (show W.heap.size - 1 < W.heap.size by omega)] at this
    have := (Array.getElem?_eq_some_iff.1 this).1
    omega

section
variable {B : Base} {H H' R : HL} {w : World}

theorem Sh.perm (h : Sh B H w) (p : H.Perm H') : Sh B H' w :=
  ⟨h.os, h.tape, h.output, h.drawn, h.base, fun q hq => h.own q (p.mem_iff.2 hq), fun q hq => h.apart q (p.mem_iff.2 hq), ((p.map (·.1)).nodup_iff).1 h.nodup⟩

theorem Sh.sub (h : Sh B H w) (s : H'.Sublist H) : Sh B H' w :=
  ⟨h.os, h.tape, h.output, h.drawn, h.base, fun q hq => h.own q (s.subset hq), fun q hq => h.apart q (s.subset hq), (s.map (·.1)).nodup h.nodup⟩

theorem Sh.drop {c : HL} (h : Sh B (c ++ H) w) : Sh B H w := h.sub (List.sublist_append_right _ _)

theorem Sh.lt (h : Sh B H w) {p : Nat × Obj} (hp : p ∈ H) : p.1 < w.heap.size := (Array.getElem?_eq_some_iff.1 (h.own p hp)).1

theorem Sh.fresh (h : Sh B H w) : B.h w.heap.size = none := by
  cases hb : B.h w.heap.size with
  | none => rfl
  | some o => have := h.base _ _ hb; simp at this

theorem Sh.alloc (h : Sh B H w) (o : Obj) : Sh B ((w.heap.size, o) :: H) (w.alloc o) := {
  os := h.os
  tape := h.tape
  output := h.output
  drawn := h.drawn
  base b o' hb := by
    have h1 := h.base b o' hb
    have hlt := (Array.getElem?_eq_some_iff.1 h1).1
    rw [Below.heap_alloc _ _ _ hlt]; exact h1
  own p hp := by
    rcases List.mem_cons.1 hp with rfl | hp
    · show (w.heap.push o)[w.heap.size]? = some o
      simp
    · rw [Below.heap_alloc _ _ _ (h.lt hp)]; exact h.own p hp
  apart p hp := by
    rcases List.mem_cons.1 hp with rfl | hp
    · exact h.fresh
    · exact h.apart p hp
  nodup := by
    simp only [List.map_cons, List.nodup_cons]
    refine ⟨fun hm => ?_, h.nodup⟩
    obtain ⟨p, hp, he⟩ := List.mem_map.1 hm
    have := h.lt hp
    omega }

/-- A block turned. -/
def setB (w : World) (b : Nat) (o : Obj) : World := { w with heap := w.heap.setIfInBounds b o }

theorem Sh.setB {b : Nat} {o : Obj} (h : Sh B ((b, o) :: H) w) (o' : Obj) : Sh B ((b, o') :: H) (setB w b o') := {
  os := h.os
  tape := h.tape
  output := h.output
  drawn := h.drawn
  base c x hc := by
    have hne : b ≠ c := fun e => by
      have := h.apart (b, o) (List.mem_cons_self ..)
      simp only [e, hc] at this
      cases this
    show (w.heap.setIfInBounds b o')[c]? = _
    rw [Array.getElem?_setIfInBounds_ne hne]
    exact h.base c x hc
  own p hp := by
    have hlt := h.lt (p := (b, o)) (List.mem_cons_self ..)
    rcases List.mem_cons.1 hp with rfl | hp
    · show (w.heap.setIfInBounds b o')[b]? = _
      rw [Array.getElem?_setIfInBounds_self_of_lt hlt]
    · have hne : b ≠ p.1 := fun e => by
        have hn := h.nodup
        simp only [List.map_cons, List.nodup_cons] at hn
        exact hn.1 (List.mem_map.2 ⟨p, hp, e.symm⟩)
      show (w.heap.setIfInBounds b o')[p.1]? = _
      rw [Array.getElem?_setIfInBounds_ne hne]
      exact h.own p (List.mem_cons_of_mem _ hp)
  apart p hp := by
    rcases List.mem_cons.1 hp with rfl | hp
    · exact h.apart (b, o) (List.mem_cons_self ..)
    · exact h.apart p (List.mem_cons_of_mem _ hp)
  nodup := by simpa using h.nodup }

theorem Sh.drawnTo (h : Sh B H w) (n : Nat) (hn : w.drawn ≤ n) : Sh B H { w with drawn := n } := ⟨h.os, h.tape, h.output, Nat.le_trans h.drawn hn, h.base, h.own, h.apart, h.nodup⟩
theorem Sh.drew (h : Sh B H w) : Sh B H w.drew := h.drawnTo _ (Nat.le_succ _)
theorem Sh.drewN (h : Sh B H w) (n : Nat) : Sh B H (w.drewN n) := h.drawnTo _ (Nat.le_add_right _ _)

/-- What a law that ends in 'grownBy' leaves: the one block that may have turned is given anew. -/
theorem Sh.grown {w' : World} {c c' : HL} (h : Sh B (c ++ R) w) {row : Option Nat} (hg : w.grownBy w' row) (hd : w.drawn ≤ w'.drawn) (hr : ∀ p, p ∈ c ++ R → some p.1 = row → p ∈ c)
    (hrb : ∀ b, some b = row → B.h b = none)
    (hown : ∀ p, p ∈ c' → w'.heap[p.1]? = some p.2) (hap : ∀ p, p ∈ c' → (∃ q, q ∈ c ∧ q.1 = p.1) ∨ w.heap.size ≤ p.1) (hn : (c'.map (·.1)).Nodup) : Sh B (c' ++ R) w' := {
  os := hg.os.trans h.os
  tape := hg.tape.trans h.tape
  output := hg.output.trans h.output
  drawn := Nat.le_trans h.drawn hd
  base b o hb := by
    have h1 := h.base b o hb
    rw [hg.block b (Array.getElem?_eq_some_iff.1 h1).1 (fun e => by rw [hrb b e] at hb; cases hb)]
    exact h1
  own p hp := by
    rcases List.mem_append.1 hp with hp | hp
    · exact hown p hp
    · have hm : p ∈ c ++ R := List.mem_append_right _ hp
      rw [hg.block p.1 (h.lt hm) (fun e => by
        have hc := hr p hm e
        have hnd := h.nodup
        rw [List.map_append, List.nodup_append] at hnd
        exact hnd.2.2 p.1 (List.mem_map.2 ⟨p, hc, rfl⟩) p.1 (List.mem_map.2 ⟨p, hp, rfl⟩) rfl)]
      exact h.own p hm
  apart p hp := by
    rcases List.mem_append.1 hp with hp | hp
    · rcases hap p hp with ⟨q, hq, e⟩ | hlt
      · rw [← e]; exact h.apart q (List.mem_append_left _ hq)
      · cases hb : B.h p.1 with
        | none => rfl
        | some o => have := (Array.getElem?_eq_some_iff.1 (h.base _ _ hb)).1; omega
    · exact h.apart p (List.mem_append_right _ hp)
  nodup := by
    have hnd := h.nodup
    rw [List.map_append, List.nodup_append] at hnd ⊢
    refine ⟨hn, hnd.2.1, fun x hx y hy e => ?_⟩
    subst e
    obtain ⟨p, hp, rfl⟩ := List.mem_map.1 hx
    obtain ⟨q, hq, e⟩ := List.mem_map.1 hy
    rcases hap p hp with ⟨q', hq', e'⟩ | hlt
    · exact hnd.2.2 q'.1 (List.mem_map.2 ⟨q', hq', rfl⟩) p.1 (List.mem_map.2 ⟨q, hq, e⟩) e'
    · have := h.lt (p := q) (List.mem_append_right _ hq)
      have e' : q.1 = p.1 := e
      omega }

/-! ### Pieces of the own list -/
def PickL (H c R : HL) : Prop := H.Perm (c ++ R)
theorem PickL.mem {H c R : HL} (h : PickL H c R) {p : Nat × Obj} (hp : p ∈ c ++ R) : p ∈ H := (List.Perm.mem_iff h).2 hp
theorem PickL.hd {c R : HL} : PickL (c ++ R) c R := List.Perm.refl _
theorem PickL.tl {c d R R' : HL} (h : PickL R c R') : PickL (d ++ R) c (d ++ R') := by
  unfold PickL at *
  refine (h.append_left d).trans ?_
  rw [← List.append_assoc, ← List.append_assoc]
  exact (List.perm_append_comm).append_right _
theorem Sh.pick {c : HL} (h : Sh B H w) (p : PickL H c R) : Sh B (c ++ R) w := h.perm p

def cellB (b : Nat) (l : List Value) (T : TypeId) : HL := [(b, .cells l.toArray T (0, 0))]
def mapB (b : Nat) (es : Array MapEntry) (clock : Nat) : HL := [(b, .map es clock)]

def iterB (r bm since : Nat) (seen : Array Nat) (c : Nat) : HL := [(r, .mapIter (some bm) since seen c)]
def rowA (a : Option Addr) (l : List Value) (T : TypeId) : HL :=
  match a with
  | none => []
  | some ad => [(ad.block, .cells l.toArray T (0, 0))]

/-! The pieces, found by their names. -/
class HasCell (H : HL) (b : Nat) (l : outParam (List Value)) (T : outParam TypeId) (R : outParam HL) : Prop where out : PickL H (cellB b l T) R
class HasRow (H : HL) (A : Option Addr) (l : outParam (List Value)) (T : outParam TypeId) (R : outParam HL) : Prop where out : PickL H (rowA A l T) R
class HasMap (H : HL) (b : Nat) (es : outParam (Array MapEntry)) (clock : outParam Nat) (R : outParam HL) : Prop where out : PickL H (mapB b es clock) R
class HasIter (H : HL) (r : Nat) (bm since : outParam Nat) (seen : outParam (Array Nat)) (c : outParam Nat) (R : outParam HL) : Prop where out : PickL H (iterB r bm since seen c) R
section
variable {H R R' : HL}
instance (priority := 2000) HasCell.hd {b T : Nat} {l : List Value} : HasCell (cellB b l T ++ R) b l T R := ⟨PickL.hd⟩
instance (priority := 500) HasCell.tl {d : HL} {b T : Nat} {l : List Value} [h : HasCell R b l T R'] : HasCell (d ++ R) b l T (d ++ R') := ⟨PickL.tl h.out⟩
instance (priority := 2000) HasRow.hd {A : Option Addr} {T : Nat} {l : List Value} : HasRow (rowA A l T ++ R) A l T R := ⟨PickL.hd⟩
instance (priority := 500) HasRow.tl {d : HL} {A : Option Addr} {T : Nat} {l : List Value} [h : HasRow R A l T R'] : HasRow (d ++ R) A l T (d ++ R') := ⟨PickL.tl h.out⟩
instance (priority := 2000) HasMap.hd {b c : Nat} {es : Array MapEntry} : HasMap (mapB b es c ++ R) b es c R := ⟨PickL.hd⟩
instance (priority := 500) HasMap.tl {d : HL} {b c : Nat} {es : Array MapEntry} [h : HasMap R b es c R'] : HasMap (d ++ R) b es c (d ++ R') := ⟨PickL.tl h.out⟩
instance (priority := 2000) HasIter.hd {r bm s c : Nat} {seen : Array Nat} : HasIter (iterB r bm s seen c ++ R) r bm s seen c R := ⟨PickL.hd⟩
instance (priority := 500) HasIter.tl {d : HL} {r bm s c : Nat} {seen : Array Nat} [h : HasIter R r bm s seen c R'] : HasIter (d ++ R) r bm s seen c (d ++ R') := ⟨PickL.tl h.out⟩
end

/-! .. and replaced where they stand. -/
class CtxCell (H : HL) (b : Nat) (l : outParam (List Value)) (T : outParam TypeId) (C : outParam (HL → HL)) : Prop where
  eq : H = C (cellB b l T)
  ctx : ∃ R, ∀ c, PickL (C c) c R
class CtxRow (H : HL) (A : Option Addr) (l : outParam (List Value)) (T : outParam TypeId) (C : outParam (HL → HL)) : Prop where
  eq : H = C (rowA A l T)
  ctx : ∃ R, ∀ c, PickL (C c) c R
class CtxMap (H : HL) (b : Nat) (es : outParam (Array MapEntry)) (clock : outParam Nat) (C : outParam (HL → HL)) : Prop where
  eq : H = C (mapB b es clock)
  ctx : ∃ R, ∀ c, PickL (C c) c R
class CtxIter (H : HL) (r : Nat) (bm since : outParam Nat) (seen : outParam (Array Nat)) (c0 : outParam Nat) (C : outParam (HL → HL)) : Prop where
  eq : H = C (iterB r bm since seen c0)
  ctx : ∃ R, ∀ c, PickL (C c) c R
section
variable {H R : HL} {C : HL → HL}
theorem ctx_hd : ∃ R', ∀ c, PickL ((fun c => c ++ R) c) c R' := ⟨R, fun _ => PickL.hd⟩
theorem ctx_tl {d : HL} (h : ∃ R', ∀ c, PickL (C c) c R') : ∃ R', ∀ c, PickL ((fun c => d ++ C c) c) c R' := ⟨_, fun c => PickL.tl (h.choose_spec c)⟩
instance (priority := 2000) CtxCell.hd {b T : Nat} {l : List Value} : CtxCell (cellB b l T ++ R) b l T (fun c => c ++ R) := ⟨rfl, ctx_hd⟩
instance (priority := 500) CtxCell.tl {d : HL} {b T : Nat} {l : List Value} [h : CtxCell R b l T C] : CtxCell (d ++ R) b l T (fun c => d ++ C c) := ⟨by rw [h.eq], ctx_tl h.ctx⟩
instance (priority := 2000) CtxRow.hd {A : Option Addr} {T : Nat} {l : List Value} : CtxRow (rowA A l T ++ R) A l T (fun c => c ++ R) := ⟨rfl, ctx_hd⟩
instance (priority := 500) CtxRow.tl {d : HL} {A : Option Addr} {T : Nat} {l : List Value} [h : CtxRow R A l T C] : CtxRow (d ++ R) A l T (fun c => d ++ C c) := ⟨by rw [h.eq], ctx_tl h.ctx⟩
instance (priority := 2000) CtxMap.hd {b c : Nat} {es : Array MapEntry} : CtxMap (mapB b es c ++ R) b es c (fun c => c ++ R) := ⟨rfl, ctx_hd⟩
instance (priority := 500) CtxMap.tl {d : HL} {b c : Nat} {es : Array MapEntry} [h : CtxMap R b es c C] : CtxMap (d ++ R) b es c (fun c => d ++ C c) := ⟨by rw [h.eq], ctx_tl h.ctx⟩
instance (priority := 2000) CtxIter.hd {r bm s c : Nat} {seen : Array Nat} : CtxIter (iterB r bm s seen c ++ R) r bm s seen c (fun c => c ++ R) := ⟨rfl, ctx_hd⟩
instance (priority := 500) CtxIter.tl {d : HL} {r bm s c : Nat} {seen : Array Nat} [h : CtxIter R r bm s seen c C] : CtxIter (d ++ R) r bm s seen c (fun c => d ++ C c) := ⟨by rw [h.eq], ctx_tl h.ctx⟩
theorem Sh.out {B : Base} {w : World} {c : HL} (h : Sh B (C c) w) (hc : ∃ R, ∀ c, PickL (C c) c R) : ∃ R, Sh B (c ++ R) w ∧ ∀ c' w', Sh B (c' ++ R) w' → Sh B (C c') w' :=
  ⟨_, h.pick (hc.choose_spec c), fun c' _ h' => h'.perm (hc.choose_spec c').symm⟩
end

/-- What is kept of the base at an own block, taken into the base for a while. -/
def Base.add (B : Base) (c : HL) : Base := { B with h := fun b => match c.find? (fun p => p.1 == b) with | some p => some p.2 | none => B.h b }

theorem find_of_mem {c : HL} (hn : (c.map (·.1)).Nodup) {p : Nat × Obj} (hp : p ∈ c) : c.find? (fun q => q.1 == p.1) = some p := by
  induction c with
  | nil => cases hp
  | cons q c ih =>
    simp only [List.map_cons, List.nodup_cons] at hn
    rcases List.mem_cons.1 hp with rfl | hp
    · simp
    · have : ¬ (q.1 == p.1) = true := fun e => hn.1 (List.mem_map.2 ⟨p, hp, (by simpa using e : q.1 = p.1).symm⟩)
      simp only [List.find?_cons, this]
      exact ih hn.2 hp

theorem Sh.push {c : HL} (h : Sh B (c ++ R) w) : Sh (B.add c) R w := {
  os := h.os
  tape := h.tape
  output := h.output
  drawn := h.drawn
  base b o hb := by
    simp only [Base.add] at hb
    split at hb
    · rename_i p hp
      have hm := List.mem_of_find?_eq_some hp
      have he := List.find?_some hp
      cases hb
      have := h.own p (List.mem_append_left _ hm)
      rw [show b = p.1 from (by simpa using he : p.1 = b).symm]
      exact this
    · exact h.base b o hb
  own p hp := h.own p (List.mem_append_right _ hp)
  apart p hp := by
    have hnd := h.nodup
    rw [List.map_append, List.nodup_append] at hnd
    simp only [Base.add]
    split
    · rename_i q hq
      have hm := List.mem_of_find?_eq_some hq
      have he : q.1 = p.1 := by simpa using List.find?_some hq
      exact (hnd.2.2 q.1 (List.mem_map.2 ⟨q, hm, rfl⟩) p.1 (List.mem_map.2 ⟨p, hp, rfl⟩) he).elim
    · exact h.apart p (List.mem_append_right _ hp)
  nodup := by
    have hnd := h.nodup
    rw [List.map_append, List.nodup_append] at hnd
    exact hnd.2.1 }

/-- .. and given back. -/
theorem Sh.pop {c : HL} {w0 : World} (h0 : Sh B (c ++ R) w0) (h : Sh (B.add c) H w) : Sh B (c ++ H) w := {
  os := h.os
  tape := h.tape
  output := h.output
  drawn := h.drawn
  base b o hb := by
    refine h.base b o ?_
    simp only [Base.add]
    split
    · rename_i q hq
      have hm := List.mem_of_find?_eq_some hq
      have he : q.1 = b := by simpa using List.find?_some hq
      have := h0.apart q (List.mem_append_left _ hm)
      rw [he, hb] at this
      cases this
    · exact hb
  own p hp := by
    rcases List.mem_append.1 hp with hp | hp
    · refine h.base p.1 p.2 ?_
      have hnd := h0.nodup
      rw [List.map_append, List.nodup_append] at hnd
      simp only [Base.add, find_of_mem hnd.1 hp]
    · exact h.own p hp
  apart p hp := by
    rcases List.mem_append.1 hp with hp | hp
    · exact h0.apart p (List.mem_append_left _ hp)
    · have := h.apart p hp
      simp only [Base.add] at this
      split at this
      · cases this
      · exact this
  nodup := by
    have hnd := h0.nodup
    rw [List.map_append, List.nodup_append] at hnd ⊢
    refine ⟨hnd.1, h.nodup, fun x hx y hy e => ?_⟩
    subst e
    obtain ⟨p, hp, rfl⟩ := List.mem_map.1 hx
    obtain ⟨q, hq, e⟩ := List.mem_map.1 hy
    have := h.apart q hq
    simp only [Base.add] at this
    rw [show q.1 = p.1 from e, find_of_mem hnd.1 hp] at this
    cases this }
end
end Go.Tk
