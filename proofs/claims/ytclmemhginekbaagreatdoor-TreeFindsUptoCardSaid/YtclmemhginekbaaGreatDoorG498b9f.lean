/- The symbolic heap: a base that stays and a list of own blocks; what each step of a world does to it; Rows of elements: how they lie in a block, and how they are read; Laws on operations that write: alloc, box, store, buildSlice, append; Maps of plain keys, as lists of pairs; Laws on operations at maps; slices written out; Ranging over a map; slices written out; parts of structs; A function's end: results that lie in memory; A statement that leaves its order open: one order, looked at once; what only reads is taken ahead; A loop: what it turns in the frame, by the state that it keeps; Whether two rows of cells are one: '==' of structs and arrays; What the reading of an argument gives; What a row asks of a law that answers true; Facts that are found by class: elements of slices by their index; A drawn region whose last operation may turn what the others read; slices.SortFunc over rows, by the shelf's contract, in the symbolic heap; Drawn regions in which several operations act, whichever comes first; Laws on operations that write: makeSlice and copy, of one-cell elements; slices.SortFunc over rows, where the closure may read what stays. -/
import Derived.WalkKit
import Derived.WalkSpells
import Derived.WalkLawsBesides
import Derived.Deep.MidRow
import Derived.Deep.Draws
import Derived.Maps.AppendAt
import Derived.Laws.AppendOwnNone
import Derived.Carry
import Derived.MapKept
import Derived.Maps.RangeRun
import Derived.OrdersHeld
import Derived.RegionTactic
import Derived.Laws.Tables
import Derived.ChangeKeysEq
import Derived.Laws.StructEq
import Derived.Test.YtclmemhginekbaaGreatDoorRows
import Derived.Deep.Slices
import Derived.OpenShut
import Derived.ProofKit
import Derived.JoinedCond
import Derived.Shelf.SlSortCmp.NoneTotal
import Derived.Laws.MakeOwn
import Derived.Laws.CopyRow
import Derived.Laws.IdiomCopy
set_option linter.unusedSectionVars false
set_option linter.unusedSimpArgs false
set_option linter.unusedVariables false
namespace Go.Tk
open Go.RowKit

/-- A slot of a frame that is written out. -/
theorem evT (l : List Value) (d : List Deferred) (n : Nat) : Act.eval ⟨l.toArray, d⟩ (.tmp n) = l.getD n undef := by simp [Act.eval, List.getD_eq_getElem?_getD]
theorem evC (a : Act) (v : Value) : a.eval (.const v) = v := rfl

structure Base where
  h : Nat → Option Obj
  os : Os
  tape : Nat → Question → Nat
  output : Array (Nat × ByteArray)
  drawn : Nat

abbrev HL := List (Nat × Obj)

structure Sh (B : Base) (H : HL) (w : World) : Prop where
  os : w.os = B.os
  tape : w.tape = B.tape
  output : w.output = B.output
  drawn : B.drawn ≤ w.drawn
  base : ∀ b o, B.h b = some o → w.heap[b]? = some o
  own : ∀ p, p ∈ H → w.heap[p.1]? = some p.2
  apart : ∀ p, p ∈ H → B.h p.1 = none
  nodup : (H.map (·.1)).Nodup

def Base.of (W : World) : Base := ⟨fun k => W.heap[k]?, W.os, W.tape, W.output, W.drawn⟩

/-- No run goes back behind a draw. -/
theorem ask_drawn {α : Type} (x : Ask α) : ∀ w : World, w.drawn ≤ (w.ask x).2.drawn := by
  induction x with
  | done a => intro w; exact Nat.le_refl _
  | ask what range k ih =>
    intro w
    simp only [World.ask]
    split
    · exact ih _ w
    · exact Nat.le_trans (Nat.le_succ _) (ih _ { w with drawn := w.drawn + 1 })

theorem except_bind {ε α β : Type} {x : Except ε α} {f : α → Except ε β} {b : β} (h : (x >>= f) = .ok b) : ∃ a, x = .ok a ∧ f a = .ok b := by
  cases x with
  | error e => cases h
  | ok a => exact ⟨a, rfl, h⟩
theorem viewStore_drawn {p : Program} {w w' : World} {at_ : Addr} {u : TypeId} {k : Addr} {v : Value} {b : Bool} {l : List Addr} (h : w.viewStore p at_ u k v b = .ok (w', l)) : w'.drawn = w.drawn := by
  unfold World.viewStore at h
  dsimp only at h
  split at h
  · obtain ⟨_, h0, _⟩ := except_bind h; cases h0
  · split at h
    · obtain ⟨⟨c, e, fr, first, like, cells⟩, _, h⟩ := except_bind h
      dsimp only at h
      split at h
      · obtain ⟨_, h0, _⟩ := except_bind h; cases h0
      · obtain ⟨_, _, h⟩ := except_bind h
        cases h
        rfl
    · obtain ⟨⟨c, e, fr, first, like, cells⟩, _, h⟩ := except_bind h
      cases h
theorem farStore_drawn {p : Program} {w w' : World} {a : Addr} {v : Value} {b : Bool} {l : List Addr} (h : w.farStore p a v b = .ok (w', l)) : w'.drawn = w.drawn := by
  unfold World.farStore at h
  split at h
  · split at h
    · rename_i r hr
      obtain ⟨w1, l1⟩ := r
      cases h
      exact viewStore_drawn hr
    · cases h
  · cases h
theorem sys_drawn (w : World) (c : Sys) : w.drawn ≤ (w.sys c).2.drawn := by
  unfold World.sys
  have := ask_drawn (Kernel.perform c w.os) w
  split
  · exact Nat.le_refl _
  · rename_i r os w1 h
    rw [h] at this
    exact this

theorem run_drawn {P : Program} {α : Type} (s : Sem α) : ∀ {w w' : World} {a : α}, s.run P w = .ok a w' → w.drawn ≤ w'.drawn := by
  induction s with
  | pure a => intro w w' x h; cases h; exact Nat.le_refl _
  | load m a k ih =>
    intro w w' x h
    simp only [Sem.run] at h
    split at h
    · exact ih _ h
    · split at h
      · exact ih _ h
      · cases h
  | store m a v k ih =>
    intro w w' x h
    have h' : (match w.cell? a with
        | some _ => if w.frozen? a then .halt (.unsupported (.unsafePointer "a write to bytes that a string shares")) w else k.run P (w.setCell a v)
        | none => match w.farStore P a v (m == .atomic) with
          | .ok (w, _) => k.run P w
          | .error h => .halt h w) = Result.ok x w' := by
      cases v <;> first | exact h | (simp only [Sem.run] at h; cases h; done)
    split at h'
    · split at h'
      · cases h'
      · have := ih h'; exact this
    · split at h'
      · rename_i w1 l h1
        have := ih h'
        rw [← farStore_drawn h1]
        exact this
      · cases h'
  | new o k ih =>
    intro w w' x h
    simp only [Sem.run] at h
    have := ih _ h; exact this
  | shape r k ih => intro w w' x h; simp only [Sem.run] at h; exact ih _ h
  | freeze a n k ih =>
    intro w w' x h
    simp only [Sem.run] at h
    have := ih h
    unfold World.freeze at this
    split at this <;> exact this
  | frozen a k ih => intro w w' x h; simp only [Sem.run] at h; exact ih _ h
  | getObj r k ih =>
    intro w w' x h
    simp only [Sem.run] at h
    split at h
    · cases h
    · exact ih _ h
    · cases h
  | setObj r o k ih =>
    intro w w' x h
    simp only [Sem.run] at h
    split at h
    · cases h
    · have := ih h; exact this
    · cases h
  | choose q k ih =>
    intro w w' x h
    simp only [Sem.run] at h
    split at h
    · exact ih _ h
    · exact Nat.le_trans (Nat.le_succ _) (ih _ h)
  | sys c k ih =>
    intro w w' x h
    simp only [Sem.run] at h
    exact Nat.le_trans (sys_drawn w c) (ih _ h)
  | program k ih => intro w w' x h; simp only [Sem.run] at h; exact ih _ h
  | mark m k ih => intro w w' x h; simp only [Sem.run] at h; exact ih h
  | halt h0 => intro w w' x h; simp only [Sem.run] at h; cases h

theorem Sh.of (W : World) : Sh (Base.of W) [] W :=
  ⟨rfl, rfl, rfl, Nat.le_refl _, fun _ _ h => h, by simp, by simp, by simp⟩

theorem Sh.below {W w : World} {H : HL} (h : Sh (Base.of W) H w) : Below W.heap.size W w := by
  have hb : ∀ k, k < W.heap.size → w.heap[k]? = W.heap[k]? := fun k hk => by
    rw [Array.getElem?_eq_getElem hk]
    exact h.base k _ (by simp [Base.of, Array.getElem?_eq_getElem hk])
  refine ⟨h.os, h.tape, h.output, ?_, hb⟩
  rcases Nat.eq_zero_or_pos W.heap.size with h0 | h0
  · omega
  · have := hb (W.heap.size - 1) (by omega)
    rw [Array.getElem?_eq_getElem (show W.heap.size - 1 < W.heap.size by omega)] at this
    have := (Array.getElem?_eq_some_iff.1 this).1
    omega

section
variable {B : Base} {H H' R : HL} {w : World}

theorem Sh.perm (h : Sh B H w) (p : H.Perm H') : Sh B H' w :=
  ⟨h.os, h.tape, h.output, h.drawn, h.base, fun q hq => h.own q (p.mem_iff.2 hq), fun q hq => h.apart q (p.mem_iff.2 hq), ((p.map (·.1)).nodup_iff).1 h.nodup⟩

theorem Sh.sub (h : Sh B H w) (s : H'.Sublist H) : Sh B H' w :=
  ⟨h.os, h.tape, h.output, h.drawn, h.base, fun q hq => h.own q (s.subset hq), fun q hq => h.apart q (s.subset hq), (s.map (·.1)).nodup h.nodup⟩

theorem Sh.drop {c : HL} (h : Sh B (c ++ H) w) : Sh B H w := h.sub (List.sublist_append_right _ _)

theorem Sh.lt (h : Sh B H w) {p : Nat × Obj} (hp : p ∈ H) : p.1 < w.heap.size := (Array.getElem?_eq_some_iff.1 (h.own p hp)).1

theorem Sh.fresh (h : Sh B H w) : B.h w.heap.size = none := by
  cases hb : B.h w.heap.size with
  | none => rfl
  | some o => have := h.base _ _ hb; simp at this

theorem Sh.alloc (h : Sh B H w) (o : Obj) : Sh B ((w.heap.size, o) :: H) (w.alloc o) := {
  os := h.os
  tape := h.tape
  output := h.output
  drawn := h.drawn
  base b o' hb := by
    have h1 := h.base b o' hb
    have hlt := (Array.getElem?_eq_some_iff.1 h1).1
    rw [Below.heap_alloc _ _ _ hlt]; exact h1
  own p hp := by
    rcases List.mem_cons.1 hp with rfl | hp
    · show (w.heap.push o)[w.heap.size]? = some o
      simp
    · rw [Below.heap_alloc _ _ _ (h.lt hp)]; exact h.own p hp
  apart p hp := by
    rcases List.mem_cons.1 hp with rfl | hp
    · exact h.fresh
    · exact h.apart p hp
  nodup := by
    simp only [List.map_cons, List.nodup_cons]
    refine ⟨fun hm => ?_, h.nodup⟩
    obtain ⟨p, hp, he⟩ := List.mem_map.1 hm
    have := h.lt hp
    omega }

/-- A block turned. -/
def setB (w : World) (b : Nat) (o : Obj) : World := { w with heap := w.heap.setIfInBounds b o }

theorem Sh.setB {b : Nat} {o : Obj} (h : Sh B ((b, o) :: H) w) (o' : Obj) : Sh B ((b, o') :: H) (setB w b o') := {
  os := h.os
  tape := h.tape
  output := h.output
  drawn := h.drawn
  base c x hc := by
    have hne : b ≠ c := fun e => by
      have := h.apart (b, o) (List.mem_cons_self ..)
      simp only [e, hc] at this
      cases this
    show (w.heap.setIfInBounds b o')[c]? = _
    rw [Array.getElem?_setIfInBounds_ne hne]
    exact h.base c x hc
  own p hp := by
    have hlt := h.lt (p := (b, o)) (List.mem_cons_self ..)
    rcases List.mem_cons.1 hp with rfl | hp
    · show (w.heap.setIfInBounds b o')[b]? = _
      rw [Array.getElem?_setIfInBounds_self_of_lt hlt]
    · have hne : b ≠ p.1 := fun e => by
        have hn := h.nodup
        simp only [List.map_cons, List.nodup_cons] at hn
        exact hn.1 (List.mem_map.2 ⟨p, hp, e.symm⟩)
      show (w.heap.setIfInBounds b o')[p.1]? = _
      rw [Array.getElem?_setIfInBounds_ne hne]
      exact h.own p (List.mem_cons_of_mem _ hp)
  apart p hp := by
    rcases List.mem_cons.1 hp with rfl | hp
    · exact h.apart (b, o) (List.mem_cons_self ..)
    · exact h.apart p (List.mem_cons_of_mem _ hp)
  nodup := by simpa using h.nodup }

theorem Sh.drawnTo (h : Sh B H w) (n : Nat) (hn : w.drawn ≤ n) : Sh B H { w with drawn := n } := ⟨h.os, h.tape, h.output, Nat.le_trans h.drawn hn, h.base, h.own, h.apart, h.nodup⟩
theorem Sh.drew (h : Sh B H w) : Sh B H w.drew := h.drawnTo _ (Nat.le_succ _)
theorem Sh.drewN (h : Sh B H w) (n : Nat) : Sh B H (w.drewN n) := h.drawnTo _ (Nat.le_add_right _ _)

/-- What a law that ends in 'grownBy' leaves: the one block that may have turned is given anew. -/
theorem Sh.grown {w' : World} {c c' : HL} (h : Sh B (c ++ R) w) {row : Option Nat} (hg : w.grownBy w' row) (hd : w.drawn ≤ w'.drawn) (hr : ∀ p, p ∈ c ++ R → some p.1 = row → p ∈ c)
    (hrb : ∀ b, some b = row → B.h b = none)
    (hown : ∀ p, p ∈ c' → w'.heap[p.1]? = some p.2) (hap : ∀ p, p ∈ c' → (∃ q, q ∈ c ∧ q.1 = p.1) ∨ w.heap.size ≤ p.1) (hn : (c'.map (·.1)).Nodup) : Sh B (c' ++ R) w' := {
  os := hg.os.trans h.os
  tape := hg.tape.trans h.tape
  output := hg.output.trans h.output
  drawn := Nat.le_trans h.drawn hd
  base b o hb := by
    have h1 := h.base b o hb
    rw [hg.block b (Array.getElem?_eq_some_iff.1 h1).1 (fun e => by rw [hrb b e] at hb; cases hb)]
    exact h1
  own p hp := by
    rcases List.mem_append.1 hp with hp | hp
    · exact hown p hp
    · have hm : p ∈ c ++ R := List.mem_append_right _ hp
      rw [hg.block p.1 (h.lt hm) (fun e => by
        have hc := hr p hm e
        have hnd := h.nodup
        rw [List.map_append, List.nodup_append] at hnd
        exact hnd.2.2 p.1 (List.mem_map.2 ⟨p, hc, rfl⟩) p.1 (List.mem_map.2 ⟨p, hp, rfl⟩) rfl)]
      exact h.own p hm
  apart p hp := by
    rcases List.mem_append.1 hp with hp | hp
    · rcases hap p hp with ⟨q, hq, e⟩ | hlt
      · rw [← e]; exact h.apart q (List.mem_append_left _ hq)
      · cases hb : B.h p.1 with
        | none => rfl
        | some o => have := (Array.getElem?_eq_some_iff.1 (h.base _ _ hb)).1; omega
    · exact h.apart p (List.mem_append_right _ hp)
  nodup := by
    have hnd := h.nodup
    rw [List.map_append, List.nodup_append] at hnd ⊢
    refine ⟨hn, hnd.2.1, fun x hx y hy e => ?_⟩
    subst e
    obtain ⟨p, hp, rfl⟩ := List.mem_map.1 hx
    obtain ⟨q, hq, e⟩ := List.mem_map.1 hy
    rcases hap p hp with ⟨q', hq', e'⟩ | hlt
    · exact hnd.2.2 q'.1 (List.mem_map.2 ⟨q', hq', rfl⟩) p.1 (List.mem_map.2 ⟨q, hq, e⟩) e'
    · have := h.lt (p := q) (List.mem_append_right _ hq)
      have e' : q.1 = p.1 := e
      omega }

/-! ### Pieces of the own list -/
def PickL (H c R : HL) : Prop := H.Perm (c ++ R)
theorem PickL.mem {H c R : HL} (h : PickL H c R) {p : Nat × Obj} (hp : p ∈ c ++ R) : p ∈ H := (List.Perm.mem_iff h).2 hp
theorem PickL.hd {c R : HL} : PickL (c ++ R) c R := List.Perm.refl _
theorem PickL.tl {c d R R' : HL} (h : PickL R c R') : PickL (d ++ R) c (d ++ R') := by
  unfold PickL at *
  refine (h.append_left d).trans ?_
  rw [← List.append_assoc, ← List.append_assoc]
  exact (List.perm_append_comm).append_right _
theorem Sh.pick {c : HL} (h : Sh B H w) (p : PickL H c R) : Sh B (c ++ R) w := h.perm p

def cellB (b : Nat) (l : List Value) (T : TypeId) : HL := [(b, .cells l.toArray T (0, 0))]
def mapB (b : Nat) (es : Array MapEntry) (clock : Nat) : HL := [(b, .map es clock)]

def iterB (r bm since : Nat) (seen : Array Nat) (c : Nat) : HL := [(r, .mapIter (some bm) since seen c)]
def rowA (a : Option Addr) (l : List Value) (T : TypeId) : HL :=
  match a with
  | none => []
  | some ad => [(ad.block, .cells l.toArray T (0, 0))]

/-! The pieces, found by their names. -/
class HasCell (H : HL) (b : Nat) (l : outParam (List Value)) (T : outParam TypeId) (R : outParam HL) : Prop where out : PickL H (cellB b l T) R
class HasRow (H : HL) (A : Option Addr) (l : outParam (List Value)) (T : outParam TypeId) (R : outParam HL) : Prop where out : PickL H (rowA A l T) R
class HasMap (H : HL) (b : Nat) (es : outParam (Array MapEntry)) (clock : outParam Nat) (R : outParam HL) : Prop where out : PickL H (mapB b es clock) R
class HasIter (H : HL) (r : Nat) (bm since : outParam Nat) (seen : outParam (Array Nat)) (c : outParam Nat) (R : outParam HL) : Prop where out : PickL H (iterB r bm since seen c) R
section
variable {H R R' : HL}
instance (priority := 2000) HasCell.hd {b T : Nat} {l : List Value} : HasCell (cellB b l T ++ R) b l T R := ⟨PickL.hd⟩
instance (priority := 500) HasCell.tl {d : HL} {b T : Nat} {l : List Value} [h : HasCell R b l T R'] : HasCell (d ++ R) b l T (d ++ R') := ⟨PickL.tl h.out⟩
instance (priority := 2000) HasRow.hd {A : Option Addr} {T : Nat} {l : List Value} : HasRow (rowA A l T ++ R) A l T R := ⟨PickL.hd⟩
instance (priority := 500) HasRow.tl {d : HL} {A : Option Addr} {T : Nat} {l : List Value} [h : HasRow R A l T R'] : HasRow (d ++ R) A l T (d ++ R') := ⟨PickL.tl h.out⟩
instance (priority := 2000) HasMap.hd {b c : Nat} {es : Array MapEntry} : HasMap (mapB b es c ++ R) b es c R := ⟨PickL.hd⟩
instance (priority := 500) HasMap.tl {d : HL} {b c : Nat} {es : Array MapEntry} [h : HasMap R b es c R'] : HasMap (d ++ R) b es c (d ++ R') := ⟨PickL.tl h.out⟩
instance (priority := 2000) HasIter.hd {r bm s c : Nat} {seen : Array Nat} : HasIter (iterB r bm s seen c ++ R) r bm s seen c R := ⟨PickL.hd⟩
instance (priority := 500) HasIter.tl {d : HL} {r bm s c : Nat} {seen : Array Nat} [h : HasIter R r bm s seen c R'] : HasIter (d ++ R) r bm s seen c (d ++ R') := ⟨PickL.tl h.out⟩
end

/-! .. and replaced where they stand. -/
class CtxCell (H : HL) (b : Nat) (l : outParam (List Value)) (T : outParam TypeId) (C : outParam (HL → HL)) : Prop where
  eq : H = C (cellB b l T)
  ctx : ∃ R, ∀ c, PickL (C c) c R
class CtxRow (H : HL) (A : Option Addr) (l : outParam (List Value)) (T : outParam TypeId) (C : outParam (HL → HL)) : Prop where
  eq : H = C (rowA A l T)
  ctx : ∃ R, ∀ c, PickL (C c) c R
class CtxMap (H : HL) (b : Nat) (es : outParam (Array MapEntry)) (clock : outParam Nat) (C : outParam (HL → HL)) : Prop where
  eq : H = C (mapB b es clock)
  ctx : ∃ R, ∀ c, PickL (C c) c R
class CtxIter (H : HL) (r : Nat) (bm since : outParam Nat) (seen : outParam (Array Nat)) (c0 : outParam Nat) (C : outParam (HL → HL)) : Prop where
  eq : H = C (iterB r bm since seen c0)
  ctx : ∃ R, ∀ c, PickL (C c) c R
section
variable {H R : HL} {C : HL → HL}
theorem ctx_hd : ∃ R', ∀ c, PickL ((fun c => c ++ R) c) c R' := ⟨R, fun _ => PickL.hd⟩
theorem ctx_tl {d : HL} (h : ∃ R', ∀ c, PickL (C c) c R') : ∃ R', ∀ c, PickL ((fun c => d ++ C c) c) c R' := ⟨_, fun c => PickL.tl (h.choose_spec c)⟩
instance (priority := 2000) CtxCell.hd {b T : Nat} {l : List Value} : CtxCell (cellB b l T ++ R) b l T (fun c => c ++ R) := ⟨rfl, ctx_hd⟩
instance (priority := 500) CtxCell.tl {d : HL} {b T : Nat} {l : List Value} [h : CtxCell R b l T C] : CtxCell (d ++ R) b l T (fun c => d ++ C c) := ⟨by rw [h.eq], ctx_tl h.ctx⟩
instance (priority := 2000) CtxRow.hd {A : Option Addr} {T : Nat} {l : List Value} : CtxRow (rowA A l T ++ R) A l T (fun c => c ++ R) := ⟨rfl, ctx_hd⟩
instance (priority := 500) CtxRow.tl {d : HL} {A : Option Addr} {T : Nat} {l : List Value} [h : CtxRow R A l T C] : CtxRow (d ++ R) A l T (fun c => d ++ C c) := ⟨by rw [h.eq], ctx_tl h.ctx⟩
instance (priority := 2000) CtxMap.hd {b c : Nat} {es : Array MapEntry} : CtxMap (mapB b es c ++ R) b es c (fun c => c ++ R) := ⟨rfl, ctx_hd⟩
instance (priority := 500) CtxMap.tl {d : HL} {b c : Nat} {es : Array MapEntry} [h : CtxMap R b es c C] : CtxMap (d ++ R) b es c (fun c => d ++ C c) := ⟨by rw [h.eq], ctx_tl h.ctx⟩
instance (priority := 2000) CtxIter.hd {r bm s c : Nat} {seen : Array Nat} : CtxIter (iterB r bm s seen c ++ R) r bm s seen c (fun c => c ++ R) := ⟨rfl, ctx_hd⟩
instance (priority := 500) CtxIter.tl {d : HL} {r bm s c : Nat} {seen : Array Nat} [h : CtxIter R r bm s seen c C] : CtxIter (d ++ R) r bm s seen c (fun c => d ++ C c) := ⟨by rw [h.eq], ctx_tl h.ctx⟩
theorem Sh.out {B : Base} {w : World} {c : HL} (h : Sh B (C c) w) (hc : ∃ R, ∀ c, PickL (C c) c R) : ∃ R, Sh B (c ++ R) w ∧ ∀ c' w', Sh B (c' ++ R) w' → Sh B (C c') w' :=
  ⟨_, h.pick (hc.choose_spec c), fun c' _ h' => h'.perm (hc.choose_spec c').symm⟩
end

/-- What is kept of the base at an own block, taken into the base for a while. -/
def Base.add (B : Base) (c : HL) : Base := { B with h := fun b => match c.find? (fun p => p.1 == b) with | some p => some p.2 | none => B.h b }

theorem find_of_mem {c : HL} (hn : (c.map (·.1)).Nodup) {p : Nat × Obj} (hp : p ∈ c) : c.find? (fun q => q.1 == p.1) = some p := by
  induction c with
  | nil => cases hp
  | cons q c ih =>
    simp only [List.map_cons, List.nodup_cons] at hn
    rcases List.mem_cons.1 hp with rfl | hp
    · simp
    · have : ¬ (q.1 == p.1) = true := fun e => hn.1 (List.mem_map.2 ⟨p, hp, (by simpa using e : q.1 = p.1).symm⟩)
      simp only [List.find?_cons, this]
      exact ih hn.2 hp

theorem Sh.push {c : HL} (h : Sh B (c ++ R) w) : Sh (B.add c) R w := {
  os := h.os
  tape := h.tape
  output := h.output
  drawn := h.drawn
  base b o hb := by
    simp only [Base.add] at hb
    split at hb
    · rename_i p hp
      have hm := List.mem_of_find?_eq_some hp
      have he := List.find?_some hp
      cases hb
      have := h.own p (List.mem_append_left _ hm)
      rw [show b = p.1 from (by simpa using he : p.1 = b).symm]
      exact this
    · exact h.base b o hb
  own p hp := h.own p (List.mem_append_right _ hp)
  apart p hp := by
    have hnd := h.nodup
    rw [List.map_append, List.nodup_append] at hnd
    simp only [Base.add]
    split
    · rename_i q hq
      have hm := List.mem_of_find?_eq_some hq
      have he : q.1 = p.1 := by simpa using List.find?_some hq
      exact (hnd.2.2 q.1 (List.mem_map.2 ⟨q, hm, rfl⟩) p.1 (List.mem_map.2 ⟨p, hp, rfl⟩) he).elim
    · exact h.apart p (List.mem_append_right _ hp)
  nodup := by
    have hnd := h.nodup
    rw [List.map_append, List.nodup_append] at hnd
    exact hnd.2.1 }

/-- .. and given back. -/
theorem Sh.pop {c : HL} {w0 : World} (h0 : Sh B (c ++ R) w0) (h : Sh (B.add c) H w) : Sh B (c ++ H) w := {
  os := h.os
  tape := h.tape
  output := h.output
  drawn := h.drawn
  base b o hb := by
    refine h.base b o ?_
    simp only [Base.add]
    split
    · rename_i q hq
      have hm := List.mem_of_find?_eq_some hq
      have he : q.1 = b := by simpa using List.find?_some hq
      have := h0.apart q (List.mem_append_left _ hm)
      rw [he, hb] at this
      cases this
    · exact hb
  own p hp := by
    rcases List.mem_append.1 hp with hp | hp
    · refine h.base p.1 p.2 ?_
      have hnd := h0.nodup
      rw [List.map_append, List.nodup_append] at hnd
      simp only [Base.add, find_of_mem hnd.1 hp]
    · exact h.own p hp
  apart p hp := by
    rcases List.mem_append.1 hp with hp | hp
    · exact h0.apart p (List.mem_append_left _ hp)
    · have := h.apart p hp
      simp only [Base.add] at this
      split at this
      · cases this
      · exact this
  nodup := by
    have hnd := h0.nodup
    rw [List.map_append, List.nodup_append] at hnd ⊢
    refine ⟨hnd.1, h.nodup, fun x hx y hy e => ?_⟩
    subst e
    obtain ⟨p, hp, rfl⟩ := List.mem_map.1 hx
    obtain ⟨q, hq, e⟩ := List.mem_map.1 hy
    have := h.apart q hq
    simp only [Base.add] at this
    rw [show q.1 = p.1 from e, find_of_mem hnd.1 hp] at this
    cases this }
end
end Go.Tk

set_option linter.unusedSectionVars false
set_option linter.unusedSimpArgs false
set_option linter.unusedVariables false
namespace Go.Tk
open Go.RowKit

structure Enc (α : Type) where
  val : α → Value
  cells : α → List Value
  valc : ∀ x, (val x).cells = (cells x).toArray
  k : Nat
  pos : 0 < k
  len : ∀ x, (cells x).length = k
  one : ∀ x v, v ∈ cells x → v.oneCell' = true

def flat {α : Type} (E : Enc α) (xs : List α) : List Value := xs.flatMap E.cells
section
variable {α : Type} {E : Enc α}
@[simp] theorem flat_nil : flat E [] = [] := rfl
theorem flat_cons (x : α) (xs : List α) : flat E (x :: xs) = E.cells x ++ flat E xs := rfl
theorem flat_append (xs ys : List α) : flat E (xs ++ ys) = flat E xs ++ flat E ys := by simp [flat]
theorem flat_length (xs : List α) : (flat E xs).length = xs.length * E.k := by
  induction xs with
  | nil => simp
  | cons x xs ih => rw [flat_cons, List.length_append, E.len, ih, List.length_cons, Nat.succ_mul]; omega
theorem flat_one (xs : List α) : ∀ v ∈ flat E xs, v.oneCell' = true := by
  intro v hv
  obtain ⟨x, _, hx⟩ := List.mem_flatMap.1 hv
  exact E.one x v hx
theorem flat_get {xs : List α} {j : Nat} {x : α} (hj : xs[j]? = some x) (sp : List Value) {f : Nat} {v : Value} (hv : (E.cells x)[f]? = some v) : (flat E xs ++ sp)[j * E.k + f]? = some v := by
  induction xs generalizing j with
  | nil => simp at hj
  | cons y xs ih =>
    rw [flat_cons, List.append_assoc]
    cases j with
    | zero =>
      simp only [List.getElem?_cons_zero, Option.some.injEq] at hj
      subst hj
      have hlt : f < (E.cells y).length := (List.getElem?_eq_some_iff.1 hv).1
      rw [Nat.zero_mul, Nat.zero_add, List.getElem?_append_left hlt]
      exact hv
    | succ j =>
      have h1 : (j + 1) * E.k + f = (E.cells y).length + (j * E.k + f) := by rw [E.len, Nat.succ_mul]; omega
      rw [h1, List.getElem?_append_right (by omega), Nat.add_sub_cancel_left]
      exact ih (by simpa using hj)
end

def blkA : Option Addr → Nat
  | some a => a.block
  | none => 0
def offA : Option Addr → Nat
  | some a => a.off
  | none => 0

def SlOk (a : Option Addr) (n : Nat) : Prop := 0 < n → ∃ b off, a = some ⟨b, off, none⟩
theorem SlOk.form {a : Option Addr} {n : Nat} (h : SlOk a n) (hn : 0 < n) : a = some ⟨blkA a, offA a, none⟩ := by
  obtain ⟨b, off, rfl⟩ := h hn
  rfl
theorem SlOk.le {a : Option Addr} {n m : Nat} (h : SlOk a n) (hm : m ≤ n) : SlOk a m := fun hp => h (by omega)

def Base.cell (B : Base) (b o : Nat) : Option Value :=
  match B.h b with
  | some (.cells c _ _) => c[o]?
  | _ => none

theorem Sh.bcell {B : Base} {H : HL} {w : World} (h : Sh B H w) {b o : Nat} {v : Value} (hc : B.cell b o = some v) : w.cell? ⟨b, o, none⟩ = some v := by
  unfold Base.cell at hc
  split at hc
  · rename_i c t fr hb
    simp [World.cell?, h.base _ _ hb, hc]
  · cases hc

/-- A slice that lies in the base. -/
class RdB {α : outParam Type} (E : outParam (Enc α)) (B : Base) (a : Option Addr) (xs : outParam (List α)) : Prop where
  ok : SlOk a xs.length
  max : xs.length ≤ 9223372036854775807
  get : ∀ j x, xs[j]? = some x → ∀ f v, (E.cells x)[f]? = some v → B.cell (blkA a) (offA a + j * E.k + f) = some v

/-- An own slice: its value. -/
class OwnSl {α : outParam Type} (E : outParam (Enc α)) (a : Option Addr) (xs : outParam (List α)) (sp : outParam (List Value)) (cap : outParam Nat) : Prop where
  nil : a = none → xs = [] ∧ sp = [] ∧ cap = 0
  form : ∀ ad, a = some ad → ad = ⟨ad.block, 0, none⟩
  capEq : xs.length * E.k + sp.length = cap * E.k
  max : cap ≤ maxLen

/-- How a slice reads in every world that the symbolic heap tells. -/
class RdAt {α : outParam Type} (E : outParam (Enc α)) (B : Base) (H : HL) (a : Option Addr) (xs : outParam (List α)) : Prop where
  ok : SlOk a xs.length
  max : xs.length ≤ 9223372036854775807
  get : ∀ j x, xs[j]? = some x → ∀ f v, (E.cells x)[f]? = some v → ∀ w, Sh B H w → w.cell? ⟨blkA a, offA a + j * E.k + f, none⟩ = some v

section
variable {α : Type} {E : Enc α} {B : Base} {H R : HL} {w : World} {a : Option Addr} {xs : List α}

theorem RdB.at_ (h : RdB E B a xs) (H : HL) : RdAt E B H a xs := ⟨h.ok, h.max, fun j x hj f v hv _ hS => hS.bcell (h.get j x hj f v hv)⟩

theorem OwnSl.len_le {sp : List Value} {cap : Nat} (h : OwnSl E a xs sp cap) : xs.length ≤ cap := by
  have := h.capEq
  have hp := E.pos
  have h2 : xs.length * E.k ≤ cap * E.k := by omega
  exact Nat.le_of_mul_le_mul_right h2 hp

theorem OwnSl.ok {sp : List Value} {cap : Nat} (h : OwnSl E a xs sp cap) : SlOk a xs.length := by
  intro hn
  cases a with
  | none => have := (h.nil rfl).1; subst this; simp at hn
  | some ad => rw [h.form ad rfl]; exact ⟨_, _, rfl⟩

theorem OwnSl.off {sp : List Value} {cap : Nat} (h : OwnSl E a xs sp cap) : offA a = 0 := by
  cases a with
  | none => rfl
  | some ad => rw [h.form ad rfl]; rfl

theorem OwnSl.at_ {sp : List Value} {cap : Nat} {T : TypeId} (h : OwnSl E a xs sp cap) [hp : HasRow H a (flat E xs ++ sp) T R] : RdAt E B H a xs := {
  ok := h.ok
  max := by have := h.len_le; have := h.max; unfold maxLen at this; omega
  get j x hj f v hv w hS := by
    have hS' := hS.pick hp.out
    cases ha : a with
    | none => have := (h.nil ha).1; subst this; simp at hj
    | some ad =>
      subst ha
      have hf := h.form ad rfl
      have ho := hS'.own (ad.block, .cells (flat E xs ++ sp).toArray T (0, 0)) (by simp [rowA])
      rw [hf]
      have h0 : 0 + j * E.k + f = j * E.k + f := by omega
      simp only [blkA, offA, h0]
      simp only [World.cell?]
      rw [ho]
      simpa using flat_get hj sp hv }

theorem RdAt.range (h : RdAt E B H a xs) (hS : Sh B H w) {j : Nat} {x : α} (hj : xs[j]? = some x) : w.rangeAt (blkA a) (offA a + j * E.k) (E.cells x) :=
  fun f v hv => h.get j x hj f v hv w hS
theorem RdAt.f0 (h : RdAt E B H a xs) (hS : Sh B H w) {j : Nat} {x : α} (hj : xs[j]? = some x) {v : Value} (hv : (E.cells x)[0]? = some v) : w.cell? ⟨blkA a, offA a + j * E.k, none⟩ = some v := h.get j x hj 0 v hv w hS
theorem RdAt.ff (h : RdAt E B H a xs) (hS : Sh B H w) {j : Nat} {x : α} (hj : xs[j]? = some x) {f : Nat} {v : Value} (hv : (E.cells x)[f]? = some v) : w.cell? ⟨blkA a, offA a + j * E.k + f, none⟩ = some v := h.get j x hj f v hv w hS
theorem RdAt.f1 (h : RdAt E B H a xs) (hS : Sh B H w) (hk : E.k = 1) {j : Nat} {x : α} (hj : xs[j]? = some x) {v : Value} (hv : (E.cells x)[0]? = some v) : w.cell? ⟨blkA a, offA a + j, none⟩ = some v := by
  have := h.get j x hj 0 v hv w hS
  rwa [hk, Nat.mul_one, Nat.add_zero] at this

theorem Sh.ldC {b off : Nat} {l : List Value} {T : TypeId} {v : Value} [hp : HasCell H b l T R] (hS : Sh B H w) (hv : l[off]? = some v) : w.cell? ⟨b, off, none⟩ = some v := by
  have := (hS.pick hp.out).own (b, .cells l.toArray T (0, 0)) (by simp [cellB])
  simp [World.cell?, this, hv]
theorem Sh.ldB {b off : Nat} {l : List Value} {T : TypeId} {v : Value} (hS : Sh B H w) (hp : PickL H (cellB b l T) R) (hv : l[off]? = some v) : w.cell? ⟨b, off, none⟩ = some v := by
  have := (hS.pick hp).own (b, .cells l.toArray T (0, 0)) (by simp [cellB])
  simp [World.cell?, this, hv]
theorem Sh.rangeC {b : Nat} {l : List Value} {T : TypeId} [hp : HasCell H b l T R] (hS : Sh B H w) (off n : Nat) : w.rangeAt b off ((l.drop off).take n) := by
  intro j v hv
  refine hS.ldB hp.out ?_
  rw [List.getElem?_take] at hv
  split at hv
  · rwa [List.getElem?_drop] at hv
  · cases hv
theorem Sh.rangeAll {b : Nat} {l : List Value} {T : TypeId} [hp : HasCell H b l T R] (hS : Sh B H w) : w.rangeAt b 0 l := by
  have := Sh.rangeC (hp := hp) hS 0 l.length
  simpa using this
end

/-! ### Types -/
class IsScalar (P : Program) (T : TypeId) : Prop where out : ∃ d, P.underlying T = some d ∧ d.isRow = false
class IsRow (P : Program) (T : TypeId) (n : outParam Nat) : Prop where
  out : ∃ d, P.underlying T = some d ∧ d.isRow = true
  size : (P.info? T).map (·.size) = some n
class Size1 (P : Program) (T : TypeId) : Prop where size : (P.info? T).map (·.size) = some 1
class SlTy (P : Program) (t : TypeId) (e : outParam TypeId) (k : outParam Nat) : Prop where
  under : P.underlying t = some (.slice e)
  size : (P.info? e).map (·.size) = some k
class ElTy (P : Program) (e : TypeId) (k bytes : outParam Nat) : Prop where
  out : ∃ i z, P.info? e = some i ∧ i.zero = some z ∧ i.size = k ∧ i.bytes = bytes ∧ z.cells.size = k

theorem run_isAgg_scalar {P : Program} {T : TypeId} [h : IsScalar P T] (w : World) : (isAgg T).run P w = .ok false w := by
  obtain ⟨d, hu, hd⟩ := h.out
  unfold isAgg
  rw [Sem.run_bind, run_underlying hu w]
  cases d <;> simp_all

theorem run_loadAt_scalar {P : Program} {T : TypeId} [IsScalar P T] {w : World} {a : Addr} {v : Value} (hc : w.cell? a = some v) :
    (Instr.loadAt T (.pointer (some a))).run P w = .ok v w := by
  simp [Instr.loadAt, Instr.sureAddr, Sem.run_bind, loadVar, run_isAgg_scalar, load, Sem.run, hc]

theorem run_loadAt_row {P : Program} {T n : Nat} [h : IsRow P T n] {w : World} {b o : Nat} {cs : List Value} (hc : w.rangeAt b o cs) (hn : cs.length = n) :
    (Instr.loadAt T (.pointer (some ⟨b, o, none⟩))).run P w = .ok (.agg cs.toArray) w := by
  obtain ⟨d, hu, hd⟩ := h.out
  exact run_loadAt_mid w b o T cs d hc hu hd (by rw [hn]; exact h.size)

section
variable {P : Program} {ops : Array Oper} {Q : Exit → Act → World → Prop} {rest : List Oper} {o : Oper} {a : Act} {w : World}

/-- An operation that yields a value and leaves the world. -/
theorem wl_value {v : Value} (hw : Region.wanted o (yielded ops a.tmps) = true) (hrun : (execOp a.eval o).run P w = .ok (.value v) w)
    (h : wpList P ops Q rest (a.put o.dst v) w) : wpList P ops Q (o :: rest) a w := by
  refine wpList_step fun K hK => ?_
  rw [if_pos hw]
  unfold Oper.wp
  rw [hrun]
  exact hK _ _ h

theorem wl_to {v : Value} {w' : World} (hw : Region.wanted o (yielded ops a.tmps) = true) (hrun : (execOp a.eval o).run P w = .ok (.value v) w')
    (h : wpList P ops Q rest (a.put o.dst v) w') : wpList P ops Q (o :: rest) a w := by
  refine wpList_step fun K hK => ?_
  rw [if_pos hw]
  unfold Oper.wp
  rw [hrun]
  exact hK _ _ h

theorem wl_skip' {w' : World} (hw : Region.wanted o (yielded ops a.tmps) = true) (hrun : (execOp a.eval o).run P w = .ok .skip w')
    (h : wpList P ops Q rest (a.put o.dst undef) w') : wpList P ops Q (o :: rest) a w := by
  refine wpList_step fun K hK => ?_
  rw [if_pos hw]
  unfold Oper.wp
  rw [hrun]
  exact hK _ _ h

theorem exec_load {T : TypeId} {x : Operand} (ho : o.op = .load T x) {p v : Value} (hx : a.eval x = p) (hrun : (Instr.loadAt T p).run P w = .ok v w) :
    (execOp a.eval o).run P w = .ok (.value v) w := by
  subst hx
  simp [execOp, ho, hrun]

/-- A load of one cell. -/
theorem wl_ld {T : TypeId} {x : Operand} {ad : Addr} {v : Value} (hw : Region.wanted o (yielded ops a.tmps) = true) (ho : o.op = .load T x) [IsScalar P T]
    (hx : a.eval x = .pointer (some ad)) (hc : w.cell? ad = some v) (h : wpList P ops Q rest (a.put o.dst v) w) : wpList P ops Q (o :: rest) a w :=
  wl_value hw (exec_load ho hx (run_loadAt_scalar hc)) h

/-- A load of a struct or an array. -/
theorem wl_ldr {T n : Nat} {x : Operand} {b off : Nat} {cs : List Value} (hw : Region.wanted o (yielded ops a.tmps) = true) (ho : o.op = .load T x) [IsRow P T n]
    (hx : a.eval x = .pointer (some ⟨b, off, none⟩)) (hc : w.rangeAt b off cs) (hn : cs.length = n) (h : wpList P ops Q rest (a.put o.dst (.agg cs.toArray)) w) : wpList P ops Q (o :: rest) a w :=
  wl_value hw (exec_load ho hx (run_loadAt_row hc hn)) h

theorem run_sizeOf {T n : Nat} (h : (P.info? T).map (·.size) = some n) (w : World) : (sizeOf T).run P w = .ok n w := by
  cases hq : P.info? T with
  | none => simp [hq] at h
  | some i =>
    have hs : i.size = n := by simpa [hq] using h
    simp [sizeOf, typeInfo, hq, Sem.run_bind, program, Sem.run, hs]

theorem run_indexAt {t e k : Nat} [h : SlTy P t e k] {A : Option Addr} {n cap : Nat} {kk : IntKind} {i : Int} (h0 : 0 ≤ i) (h1 : i < n) (hok : SlOk A n) (w : World) :
    (Instr.indexAt t (.slice A n cap) (.int kk i)).run P w = .ok (.pointer (some ⟨blkA A, offA A + i.toNat * k, none⟩)) w := by
  have hA := hok.form (by omega)
  rw [hA]
  simp [Instr.indexAt, asIntOf, Sem.run_bind, run_underlying h.under, h0, h1, run_sizeOf h.size, blkA, offA, Addr.add_mid]

/-- The address of an element. -/
theorem wl_idx {t e k : Nat} {x i : Operand} {A : Option Addr} {n cap : Nat} {kk : IntKind} {ii : Int} (hw : Region.wanted o (yielded ops a.tmps) = true) (ho : o.op = .indexAddr t x i) [SlTy P t e k]
    (hx : a.eval x = .slice A n cap) (hi : a.eval i = .int kk ii) (h0 : 0 ≤ ii) (h1 : ii < n) (hok : SlOk A n)
    (h : wpList P ops Q rest (a.put o.dst (.pointer (some ⟨blkA A, offA A + ii.toNat * k, none⟩))) w) : wpList P ops Q (o :: rest) a w :=
  wl_value hw (by simp [execOp, ho, hx, hi, run_indexAt h0 h1 hok w]) h
end
end Go.Tk

set_option linter.unusedSectionVars false
set_option linter.unusedSimpArgs false
set_option linter.unusedVariables false
namespace Go.Tk
open Go.RowKit

class Zero (P : Program) (T : TypeId) (l : outParam (List Value)) : Prop where out : ∃ z, (P.info? T).bind (·.zero) = some z ∧ z.cells = l.toArray

section
variable {P : Program} {B : Base} {H R : HL} {w : World}

theorem run_zeroValue {T : TypeId} {z : Value} (h : (P.info? T).bind (·.zero) = some z) (w : World) : (zeroValue T).run P w = .ok z w := by
  cases hq : P.info? T with
  | none => simp [hq] at h
  | some i =>
    have hs : i.zero = some z := by simpa [hq] using h
    simp [zeroValue, typeInfo, hq, Sem.run_bind, program, Sem.run, hs]

theorem run_alloc {T : TypeId} {l : List Value} [h : Zero P T l] (w : World) :
    (Instr.alloc T true (.tuple #[])).run P w = .ok (.pointer (some ⟨w.heap.size, 0, none⟩)) (w.alloc (.cells l.toArray T)) := by
  obtain ⟨z, hz, hc⟩ := h.out
  simp [Instr.alloc, Sem.run_bind, run_zeroValue hz, newVar, newRow, newObj, Sem.run, hc]

theorem Sh.setCell {b off : Nat} {l : List Value} {T : TypeId} (h : Sh B (cellB b l T ++ R) w) (v : Value) : Sh B (cellB b (l.set off v) T ++ R) (w.setCell ⟨b, off, none⟩ v) := by
  have h1 := Sh.setB (H := R) (b := b) h (.cells (l.set off v).toArray T (0, 0))
  have hb := h.own (b, .cells l.toArray T (0, 0)) (by simp [cellB])
  have e : w.setCell ⟨b, off, none⟩ v = Tk.setB w b (.cells (l.set off v).toArray T (0, 0)) := by
    unfold World.setCell Tk.setB
    have hb' : w.heap[b]? = some (.cells l.toArray T (0, 0)) := hb
    congr 1
    apply Array.ext_getElem?
    intro i
    rw [Array.getElem?_modify, Array.getElem?_setIfInBounds]
    by_cases hi : b = i
    · subst hi
      obtain ⟨hlt, he⟩ := Array.getElem?_eq_some_iff.1 hb'
      simp [hlt, he]
    · simp [hi]
  rw [e]
  exact h1

theorem run_store_sh {b off : Nat} {l : List Value} {T : TypeId} {v : Value} (h : Sh B (cellB b l T ++ R) w) (hv : v.oneCell' = true) (ho : off < l.length) :
    (store ⟨b, off, none⟩ v).run P w = .ok () (w.setCell ⟨b, off, none⟩ v) := by
  rw [run_store P w _ v _ hv]
  have hc := h.ldB (R := R) PickL.hd (List.getElem?_eq_getElem ho)
  have hb : w.heap[b]? = some (.cells l.toArray T (0, 0)) := h.own (b, .cells l.toArray T (0, 0)) (by simp [cellB])
  rw [hc]
  have hf : w.frozen? ⟨b, off, none⟩ = false := by simp [World.frozen?, hb]
  simp [hf]

/-- l with vs from off on. -/
def splice (l : List Value) (off : Nat) : List Value → List Value
  | [] => l
  | v :: vs => splice (l.set off v) (off + 1) vs
theorem splice_length : ∀ (vs l : List Value) (off : Nat), (splice l off vs).length = l.length
  | [], _, _ => rfl
  | v :: vs, l, off => by rw [splice, splice_length vs]; simp
theorem splice_eq : ∀ (vs l : List Value) (off : Nat), off + vs.length ≤ l.length → splice l off vs = l.take off ++ vs ++ l.drop (off + vs.length)
  | [], l, off, h => by simp [splice]
  | v :: vs, l, off, h => by
    simp only [List.length_cons] at h
    rw [splice, splice_eq vs _ _ (by simp; omega)]
    have h1 : (l.set off v).take (off + 1) = l.take off ++ [v] := by
      rw [List.take_succ_eq_append_getElem (by simp; omega), List.take_set_of_le (by omega)]
      simp
    have h2 : (l.set off v).drop (off + 1 + vs.length) = l.drop (off + 1 + vs.length) := by
      rw [List.drop_set]
      simp
      omega
    rw [h1, h2]
    simp [Nat.add_assoc, Nat.add_comm 1]
theorem splice_all (l vs : List Value) (h : vs.length = l.length) : splice l 0 vs = vs := by
  rw [splice_eq _ _ _ (by omega)]
  simp [h]

theorem run_storeCells_sh {b off : Nat} {T : TypeId} : ∀ (vs : List Value) (i : Nat) (l : List Value) (w : World), Sh B (cellB b l T ++ R) w → off + i + vs.length ≤ l.length → (∀ v ∈ vs, v.oneCell' = true) →
    ∃ w', (storeCells ⟨b, off, none⟩ vs i).run P w = .ok () w' ∧ Sh B (cellB b (splice l (off + i) vs) T ++ R) w'
  | [], i, l, w, h, _, _ => ⟨w, by simp [storeCells], h⟩
  | v :: vs, i, l, w, h, hl, h1 => by
    simp only [List.length_cons] at hl
    obtain ⟨w', hr, hS⟩ := run_storeCells_sh (off := off) vs (i + 1) (l.set (off + i) v) _ (h.setCell (off := off + i) v) (by simp; omega) (fun u hu => h1 u (List.mem_cons_of_mem _ hu))
    refine ⟨w', ?_, by rw [splice]; exact hS⟩
    rw [storeCells, Sem.run_bind, Addr.add_mid, run_store_sh h (h1 v (List.mem_cons_self ..)) (by omega)]
    exact hr

theorem run_storeAt_sh {b off T Tb : Nat} {l vs : List Value} {v : Value} (hn : (P.info? T).map (·.size) = some vs.length) (hv : v.cells = vs.toArray) (h : Sh B (cellB b l Tb ++ R) w) (hl : off + vs.length ≤ l.length) (h1 : ∀ u ∈ vs, u.oneCell' = true) :
    ∃ w', (Instr.storeAt T (.pointer (some ⟨b, off, none⟩)) v).run P w = .ok () w' ∧ Sh B (cellB b (splice l off vs) Tb ++ R) w' := by
  obtain ⟨w', hr, hS⟩ := run_storeCells_sh (P := P) (off := off) vs 0 l w h hl h1
  refine ⟨w', ?_, hS⟩
  simp [Instr.storeAt, Instr.sureAddr, Sem.run_bind, storeVar, run_sizeOf hn, hv, hr]
end

section
variable {P : Program} {ops : Array Oper} {Q : Exit → Act → World → Prop} {rest : List Oper} {o : Oper} {a : Act} {B : Base} {H R : HL} {w : World}

/-- A new variable. -/
theorem wl_alloc {T : TypeId} {l : List Value} (hw : Region.wanted o (yielded ops a.tmps) = true) (ho : o.op = .alloc T) [Zero P T l] (hS : Sh B H w)
    (h : ∀ b w', Sh B (cellB b l T ++ H) w' → wpList P ops Q rest (a.put o.dst (.pointer (some ⟨b, 0, none⟩))) w') : wpList P ops Q (o :: rest) a w :=
  wl_to hw (by simp [execOp, ho, run_alloc]) (h _ _ (hS.alloc _))

theorem wl_box {T : TypeId} {x : Operand} {v : Value} {l : List Value} (hw : Region.wanted o (yielded ops a.tmps) = true) (ho : o.op = .box T x) (hx : a.eval x = v) (hv : v.cells = l.toArray) (hS : Sh B H w)
    (h : ∀ b w', Sh B (cellB b l T ++ H) w' → wpList P ops Q rest (a.put o.dst (.pointer (some ⟨b, 0, none⟩))) w') : wpList P ops Q (o :: rest) a w :=
  wl_to (w' := w.alloc (.cells l.toArray T)) hw (by simp [execOp, ho, hx, Instr.box, newVar, newRow, newObj, Sem.run, hv]) (h _ _ (hS.alloc _))

/-- A store of one cell. -/
theorem wl_st {T : TypeId} {x y : Operand} {b off Tb : Nat} {l : List Value} {v : Value} (hw : Region.wanted o (yielded ops a.tmps) = true) (ho : o.op = .store T x y) [hT : Size1 P T]
    (hx : a.eval x = .pointer (some ⟨b, off, none⟩)) (hy : a.eval y = v) (h1 : v.oneCell' = true) (hS : Sh B H w) {C : HL → HL} [hp : CtxCell H b l Tb C] (hl : off < l.length)
    (h : ∀ w', Sh B (C (cellB b (l.set off v) Tb)) w' → wpList P ops Q rest (a.put o.dst undef) w') : wpList P ops Q (o :: rest) a w := by
  have hv : v.cells = [v].toArray := by cases v <;> simp_all [Value.cells, Value.oneCell']
  obtain ⟨R, hS0, back⟩ := Sh.out (hp.eq ▸ hS) hp.ctx
  obtain ⟨w', hr, hS'⟩ := run_storeAt_sh (P := P) (T := T) (b := b) (off := off) (v := v) (vs := [v]) (by simpa using hT.size) hv hS0 (by simp; omega) (by simpa using h1)
  exact wl_skip' hw (by simp [execOp, ho, hx, hy, hr]) (h w' (back _ _ hS'))

/-- A store of a struct or an array. -/
theorem wl_str {T n : Nat} {x y : Operand} {b off Tb : Nat} {l vs : List Value} (hw : Region.wanted o (yielded ops a.tmps) = true) (ho : o.op = .store T x y) [hT : IsRow P T n]
    (hx : a.eval x = .pointer (some ⟨b, off, none⟩)) (hy : a.eval y = .agg vs.toArray) (hn : vs.length = n) (h1 : ∀ u ∈ vs, u.oneCell' = true) (hS : Sh B H w) {C : HL → HL} [hp : CtxCell H b l Tb C] (hl : off + n ≤ l.length)
    (h : ∀ w', Sh B (C (cellB b (splice l off vs) Tb)) w' → wpList P ops Q rest (a.put o.dst undef) w') : wpList P ops Q (o :: rest) a w := by
  obtain ⟨R, hS0, back⟩ := Sh.out (hp.eq ▸ hS) hp.ctx
  obtain ⟨w', hr, hS'⟩ := run_storeAt_sh (P := P) (T := T) (b := b) (off := off) (v := .agg vs.toArray) (vs := vs) (by rw [hn]; exact hT.size) rfl hS0 (by omega) h1
  exact wl_skip' hw (by simp [execOp, ho, hx, hy, hr]) (h w' (back _ _ hS'))

/-- .. of the whole block. -/
theorem wl_str0 {T n : Nat} {x y : Operand} {b Tb : Nat} {l vs : List Value} (hw : Region.wanted o (yielded ops a.tmps) = true) (ho : o.op = .store T x y) [hT : IsRow P T n]
    (hx : a.eval x = .pointer (some ⟨b, 0, none⟩)) (hy : a.eval y = .agg vs.toArray) (hn : vs.length = n) (h1 : ∀ u ∈ vs, u.oneCell' = true) (hS : Sh B H w) {C : HL → HL} [hp : CtxCell H b l Tb C] (hl : l.length = n)
    (h : ∀ w', Sh B (C (cellB b vs Tb)) w' → wpList P ops Q rest (a.put o.dst undef) w') : wpList P ops Q (o :: rest) a w :=
  wl_str hw ho hx hy hn h1 hS (by omega) fun w' hS' => h w' (by rwa [splice_all _ _ (by omega)] at hS')
end

theorem find_append {c R : HL} {p : Nat × Obj} (h : p ∈ c) : p ∈ c ++ R := List.mem_append_left _ h

section
variable {P : Program} {ops : Array Oper} {Q : Exit → Act → World → Prop} {rest : List Oper} {o : Oper} {a : Act} {B : Base} {H R : HL} {w : World}
variable {α : Type} {E : Enc α}

theorem OwnSl.owns {A : Option Addr} {xs : List α} {sp : List Value} {cap : Nat} {T : TypeId} (hO : OwnSl E A xs sp cap) (hS : Sh B (rowA A (flat E xs ++ sp) T ++ R) w) :
    w.ownsRow 0 T E.k (.slice A xs.length cap) xs.length (flat E xs) := by
  refine ⟨flat_length xs, ?_⟩
  cases hA : A with
  | none =>
    obtain ⟨h1, _, h3⟩ := hO.nil hA
    subst h1; subst h3
    exact .inl ⟨rfl, rfl⟩
  | some ad =>
    subst hA
    have hf := hO.form ad rfl
    have hb := hS.own (ad.block, .cells (flat E xs ++ sp).toArray T (0, 0)) (by simp [rowA])
    refine .inr ⟨ad.block, cap, _, by rw [hf], Nat.zero_le _, hb, hO.len_le, hO.max, ?_, ?_⟩
    · simp [flat_length, hO.capEq]
    · simp [← flat_length (E := E) xs]

/-- What append and make leave. -/
theorem OwnSl.of_owns {xs : List α} {v : Value} {T : TypeId} {w : World} (h : w.ownsRow 0 T E.k v xs.length (flat E xs)) :
    ∃ A sp cap, v = .slice A xs.length cap ∧ OwnSl E A xs sp cap ∧ (∀ p, p ∈ rowA A (flat E xs ++ sp) T → w.heap[p.1]? = some p.2) ∧ (∀ p, p ∈ rowA A (flat E xs ++ sp) T → v.ownBlock = some p.1) ∧ ((rowA A (flat E xs ++ sp) T).map (·.1)).Nodup := by
  rcases h.2 with ⟨rfl, h0⟩ | ⟨g, cap, cur, rfl, _, hb, hle, hm, hsz, htk⟩
  · have : xs = [] := List.eq_nil_of_length_eq_zero h0
    subst this
    exact ⟨none, [], 0, rfl, ⟨fun _ => ⟨rfl, rfl, rfl⟩, fun _ h => (by cases h), by simp, by simp⟩, by simp [rowA], by simp [rowA], by simp [rowA]⟩
  · have hcur : cur.toList = flat E xs ++ cur.toList.drop (xs.length * E.k) := by
      rw [← htk, List.take_append_drop]
    refine ⟨some ⟨g, 0, none⟩, cur.toList.drop (xs.length * E.k), cap, rfl, ⟨fun h => (by cases h), fun ad h => (by cases h; rfl), ?_, hm⟩, ?_, ?_, by simp [rowA]⟩
    · have h2 : xs.length * E.k ≤ cap * E.k := Nat.mul_le_mul_right _ hle
      simp [hsz]
      omega
    · intro p hp
      simp only [rowA, List.mem_singleton] at hp
      subst hp
      simp only
      rw [hb, ← hcur]
    · intro p hp
      simp only [rowA, List.mem_singleton] at hp
      subst hp
      rfl

theorem sh_of_grown {c : HL} {w' : World} {A : Option Addr} {l : List Value} {T : TypeId} {v : Value} (hS : Sh B (c ++ R) w) (hg : w.grownBy w' v.ownBlock) (hd : w.drawn ≤ w'.drawn) (hcv : ∀ b, v.ownBlock = some b → ∃ p, p ∈ c ∧ p.1 = b)
    (hown : ∀ p, p ∈ rowA A l T → w'.heap[p.1]? = some p.2) (hat : ∀ p, p ∈ rowA A l T → v.ownBlock = some p.1 ∨ w.heap.size ≤ p.1) : Sh B (rowA A l T ++ R) w' := by
  refine Sh.grown hS hg hd ?_ ?_ hown ?_ (by cases A <;> simp [rowA])
  · intro p hp he
    obtain ⟨q, hq, e⟩ := hcv p.1 he.symm
    have hnd := hS.nodup
    rcases List.mem_append.1 hp with h | h
    · exact h
    · rw [List.map_append, List.nodup_append] at hnd
      exact (hnd.2.2 q.1 (List.mem_map.2 ⟨q, hq, rfl⟩) p.1 (List.mem_map.2 ⟨p, h, rfl⟩) e).elim
  · intro b hb
    obtain ⟨q, hq, e⟩ := hcv b hb.symm
    rw [← e]
    exact hS.apart q (List.mem_append_left _ hq)
  · intro p hp
    rcases hat p hp with h | h
    · obtain ⟨q, hq, e⟩ := hcv p.1 h
      exact .inl ⟨q, hq, e⟩
    · exact .inr h

theorem rowA_own {A : Option Addr} {l : List Value} {T : TypeId} {n cap : Nat} : ∀ p, p ∈ rowA A l T → (Value.slice A n cap).ownBlock = some p.1 := by
  intro p hp
  cases A with
  | none => simp [rowA] at hp
  | some ad =>
    simp only [rowA, List.mem_singleton] at hp
    subst hp
    rfl
theorem rowA_block {A : Option Addr} {l : List Value} {T : TypeId} {n cap : Nat} : ∀ b, (Value.slice A n cap).ownBlock = some b → ∃ p, p ∈ rowA A l T ∧ p.1 = b := by
  intro b hb
  cases A with
  | none => simp [Value.ownBlock] at hb
  | some ad =>
    simp only [Value.ownBlock, Option.some.injEq] at hb
    exact ⟨_, List.mem_singleton.2 rfl, hb⟩

/-- append(xs, ys...), xs an own slice (or nil). -/
theorem run_append_sh {t ty e bytes cap cap' : Nat} {A A' : Option Addr} {xs ys : List α} {sp : List Value} [hsl : SlTy P t e E.k] [hel : ElTy P e E.k bytes]
    (hO : OwnSl E A xs sp cap) (hS' : Sh B (rowA A (flat E xs ++ sp) e ++ R) w) (hr : RdAt E B (rowA A (flat E xs ++ sp) e ++ R) A' ys)
    (hb : (xs.length + ys.length) * bytes ≤ 140737488355328) (hb0 : 0 < bytes) :
    ∃ A2 sp2 cap2 w2, (Builtin.append_ #[t, t] ty #[.slice A xs.length cap, .slice A' ys.length cap']).run P w = .ok (.slice A2 (xs ++ ys).length cap2) w2 ∧
      OwnSl E A2 (xs ++ ys) sp2 cap2 ∧ Sh B (rowA A2 (flat E (xs ++ ys) ++ sp2) e ++ R) w2 := by
  obtain ⟨i, z, hi, hz, hsz, hby, hzs⟩ := hel.out
  have hown := hO.owns hS'
  have h63 : xs.length + ys.length ≤ maxLen := by
    have : xs.length + ys.length ≤ (xs.length + ys.length) * bytes := Nat.le_mul_of_pos_right _ hb0
    simp only [maxLen]; omega
  by_cases hy : 0 < ys.length
  · have hA' := hr.ok.form hy
    have hnews : ∀ j u, (flat E ys)[j]? = some u → w.cell? ((⟨blkA A', offA A', none⟩ : Addr).add j) = some u := by
      intro j u hu
      rw [Addr.add_mid]
      have hj : j < ys.length * E.k := by
        have := (List.getElem?_eq_some_iff.1 hu).1
        rwa [flat_length] at this
      have hk := E.pos
      have hdiv : j / E.k < ys.length := Nat.div_lt_of_lt_mul (by rw [Nat.mul_comm]; exact hj)
      have hmod : j % E.k < E.k := Nat.mod_lt _ hk
      have hdm : j / E.k * E.k + j % E.k = j := by rw [Nat.mul_comm]; exact Nat.div_add_mod j E.k
      have hx1 : ys[j / E.k]? = some ys[j / E.k] := List.getElem?_eq_getElem hdiv
      have hf : (E.cells ys[j / E.k])[j % E.k]? = some ((E.cells ys[j / E.k])[j % E.k]'(by rw [E.len]; exact hmod)) := List.getElem?_eq_getElem _
      have h1 := flat_get hx1 [] hf
      rw [List.append_nil, hdm, hu] at h1
      have h2 := hr.get (j / E.k) _ hx1 (j % E.k) _ hf w hS'
      rw [h1, ← h2, Nat.add_assoc, hdm]
    obtain ⟨v1, w1, hrun, hown1, hg, _, hat⟩ := run_append_own_at (P := P) w 0 t ty e i z E.k bytes hsl.under hi hz hsz hby hzs E.pos (.slice A xs.length cap) xs.length (flat E xs) hown ⟨blkA A', offA A', none⟩ ys.length cap' (flat E ys)
      (flat_length ys) hnews (flat_one ys) h63 hb (Nat.zero_le _)
    rw [← flat_append, ← List.length_append] at hown1
    obtain ⟨A2, sp2, cap2, rfl, hO2, ho2, hb2, _⟩ := OwnSl.of_owns hown1
    refine ⟨A2, sp2, cap2, w1, by rw [hA']; exact hrun, hO2, sh_of_grown hS' hg (run_drawn _ hrun) rowA_block ho2 ?_⟩
    intro p hp
    have hpb := hb2 p hp
    rcases hat with hat | hat
    · left; rw [← hat]; exact hpb
    · right
      rw [hat] at hpb
      have := Option.some.inj hpb
      omega
  · have hy0 : ys = [] := List.eq_nil_of_length_eq_zero (by omega)
    subst hy0
    have hrun : (Builtin.append_ #[t, t] ty #[.slice A xs.length cap, .slice A' 0 cap']).run P w = .ok (.slice A xs.length cap) w := by
      cases hA : A with
      | none =>
        obtain ⟨h1, h2, h3⟩ := hO.nil hA
        subst h1; subst h3
        cases hA' : A' <;> simp [Builtin.append_, Sem.run_bind, run_underlying hsl.under, sizeOf, typeInfo, program, Sem.run, hi, Builtin.lenOf, Builtin.firstCells, loadCells, loadCellsFrom]
      | some ad =>
        have hle := hO.len_le
        cases hA' : A' <;> simp [Builtin.append_, Sem.run_bind, run_underlying hsl.under, sizeOf, typeInfo, program, Sem.run, hi, Builtin.lenOf, Builtin.firstCells, loadCells, loadCellsFrom, hle, storeCells]
    exact ⟨A, sp, cap, w, by simpa using hrun, by simpa using hO, by simpa using hS'⟩

theorem RdAt.perm {H H' : HL} {a : Option Addr} {xs : List α} (h : RdAt E B H a xs) (p : H'.Perm H) : RdAt E B H' a xs := ⟨h.ok, h.max, fun j x hj f v hv w hS => h.get j x hj f v hv w (hS.perm p)⟩

theorem wl_append {t e bytes cap cap' : Nat} {s x : Operand} {A A' : Option Addr} {xs ys : List α} {sp : List Value} (hw : Region.wanted o (yielded ops a.tmps) = true)
    (ho : o.op = .call { callee := .builtin .append, args := #[s, x], argTypes := #[t, t] }) [hsl : SlTy P t e E.k] [hel : ElTy P e E.k bytes]
    (hs : a.eval s = .slice A xs.length cap) (hx : a.eval x = .slice A' ys.length cap') (hS : Sh B H w) (hO : OwnSl E A xs sp cap) {C : HL → HL} [hp : CtxRow H A (flat E xs ++ sp) e C] (hr : RdAt E B H A' ys)
    (hb : (xs.length + ys.length) * bytes ≤ 140737488355328) (hb0 : 0 < bytes)
    (h : ∀ A2 sp2 cap2 w2, OwnSl E A2 (xs ++ ys) sp2 cap2 → Sh B (C (rowA A2 (flat E (xs ++ ys) ++ sp2) e)) w2 → wpList P ops Q rest (a.put o.dst (.slice A2 (xs ++ ys).length cap2)) w2) : wpList P ops Q (o :: rest) a w := by
  have hctx := hp.ctx
  have hpk := hctx.choose_spec (rowA A (flat E xs ++ sp) e)
  have hS0 : Sh B (rowA A (flat E xs ++ sp) e ++ hctx.choose) w := (hp.eq ▸ hS).pick hpk
  obtain ⟨A2, sp2, cap2, w2, hrun, hO2, hS2⟩ := run_append_sh (P := P) (ty := o.type) (t := t) (cap' := cap') hO hS0 (hr.perm (by rw [hp.eq]; exact hpk.symm)) hb hb0
  refine wl_to hw ?_ (h A2 sp2 cap2 w2 hO2 (hS2.perm (hctx.choose_spec (rowA A2 (flat E (xs ++ ys) ++ sp2) e)).symm))
  simp only [execOp, ho, resolve, invoke, builtin, Sem.run_bind, Sem.run_pure, Result.andThen_ok, List.map_toArray, List.map_cons, List.map_nil, hs, hx, hrun]
end
end Go.Tk

set_option linter.unusedSectionVars false
set_option linter.unusedSimpArgs false
set_option linter.unusedVariables false
namespace Go.Tk
open Go.RowKit

section
variable {κ ν : Type} [DecidableEq κ]
def mget (m : List (κ × ν)) (k : κ) : Option ν := (m.find? (fun p => decide (k = p.1))).map (·.2)
def mput (m : List (κ × ν)) (k : κ) (v : ν) : List (κ × ν) :=
  match m with
  | [] => [(k, v)]
  | p :: m => if k = p.1 then (p.1, v) :: m else p :: mput m k v
def mdel (m : List (κ × ν)) (k : κ) : List (κ × ν) := m.filter (fun p => decide (k ≠ p.1))

@[simp] theorem mget_nil (k : κ) : mget ([] : List (κ × ν)) k = none := rfl
theorem mget_cons (p : κ × ν) (m : List (κ × ν)) (k : κ) : mget (p :: m) k = if k = p.1 then some p.2 else mget m k := by
  unfold mget
  by_cases h : k = p.1 <;> simp [h]
theorem mget_mput (m : List (κ × ν)) (k k' : κ) (v : ν) : mget (mput m k v) k' = if k' = k then some v else mget m k' := by
  induction m with
  | nil => simp [mput, mget_cons]
  | cons p m ih =>
    unfold mput
    by_cases h : k = p.1
    · subst h
      simp only [if_true, mget_cons]
      by_cases h2 : k' = p.1 <;> simp [h2]
    · simp only [h, if_false, mget_cons, ih]
      by_cases h2 : k' = p.1
      · subst h2; simp [Ne.symm h]
      · simp [h2]
theorem mget_mdel (m : List (κ × ν)) (k k' : κ) : mget (mdel m k) k' = if k' = k then none else mget m k' := by
  induction m with
  | nil => simp [mdel]
  | cons p m ih =>
    unfold mdel at *
    by_cases h : k = p.1
    · subst h
      simp only [List.filter_cons, ne_eq, not_true_eq_false, decide_false, Bool.false_eq_true, if_false, mget_cons, ih]
      by_cases h2 : k' = p.1 <;> simp [h2]
    · simp only [List.filter_cons, ne_eq, h, not_false_eq_true, decide_true, if_true, mget_cons, ih]
      by_cases h2 : k' = p.1
      · subst h2; simp [show ¬ p.1 = k from fun e => h e.symm]
      · simp [h2]
theorem mput_keys (m : List (κ × ν)) (k : κ) (v : ν) : (mput m k v).map (·.1) = if k ∈ m.map (·.1) then m.map (·.1) else m.map (·.1) ++ [k] := by
  induction m with
  | nil => simp [mput]
  | cons p m ih =>
    unfold mput
    by_cases h : k = p.1
    · simp [h]
    · simp only [h, if_false, List.map_cons, ih, List.mem_cons, false_or]
      split <;> simp
theorem mget_none {m : List (κ × ν)} {k : κ} : mget m k = none ↔ k ∉ m.map (·.1) := by
  induction m with
  | nil => simp
  | cons p m ih =>
    rw [mget_cons]
    by_cases h : k = p.1 <;> simp [h, ih]
theorem mget_some_mem {m : List (κ × ν)} {k : κ} {v : ν} (h : mget m k = some v) : (k, v) ∈ m := by
  induction m with
  | nil => simp at h
  | cons p m ih =>
    rw [mget_cons] at h
    by_cases hk : k = p.1
    · simp only [hk, if_true, Option.some.injEq] at h
      subst h; subst hk
      exact List.mem_cons_self ..
    · simp only [hk, if_false] at h
      exact List.mem_cons_of_mem _ (ih h)
theorem mget_of_mem {m : List (κ × ν)} (hn : (m.map (·.1)).Nodup) {k : κ} {v : ν} (h : (k, v) ∈ m) : mget m k = some v := by
  induction m with
  | nil => cases h
  | cons p m ih =>
    simp only [List.map_cons, List.nodup_cons] at hn
    rw [mget_cons]
    rcases List.mem_cons.1 h with rfl | h
    · simp
    · have : ¬ k = p.1 := fun e => hn.1 (List.mem_map.2 ⟨(k, v), h, e⟩)
      simp [this, ih hn.2 h]
theorem mput_nodup {m : List (κ × ν)} (hn : (m.map (·.1)).Nodup) (k : κ) (v : ν) : ((mput m k v).map (·.1)).Nodup := by
  rw [mput_keys]
  split
  · exact hn
  · rename_i h
    rw [List.nodup_append]
    exact ⟨hn, by simp, fun a ha b hb e => by simp at hb; subst hb; subst e; exact h ha⟩
theorem mput_new {m : List (κ × ν)} {k : κ} (h : mget m k = none) (v : ν) : mput m k v = m ++ [(k, v)] := by
  induction m with
  | nil => rfl
  | cons p m ih =>
    rw [mget_cons] at h
    by_cases hk : k = p.1
    · simp [hk] at h
    · simp only [hk, if_false] at h
      simp [mput, hk, ih h]
end

theorem ba_beq (a b : ByteArray) : (a == b) = true ↔ a = b := MapKept.bytes_beq a b

/-- How keys of a type are held against each other. -/
class KeyTy (P : Program) (K : TypeId) {κ : Type} [DecidableEq κ] (kv : κ → Value) : Prop where
  out : ∃ d, P.underlying K = some d ∧ ∀ a b : κ, Instr.sameNow d (kv a) (kv b) = some (decide (a = b))
  check : ∀ (e : Bool) (k : κ) (w : World), (Instr.checkKey e 10000 K (kv k)).run P w = .ok () w
  bits : ∀ k : κ, Instr.sameBits 10000 (kv k) (kv k) = true

theorem KeyTy.int {P : Program} {K : TypeId} {q : IntKind} (h : P.underlying K = some (.int q)) : KeyTy P K (fun n : Int => .int q n) := {
  out := ⟨_, h, fun a b => by simp only [Instr.sameNow, if_true, Option.some.injEq]; rw [Bool.eq_iff_iff]; simp⟩
  check e k w := by
    have h1 : ∀ n, (Instr.checkKey e (n + 1) K (.int q k)).run P w = .ok () w := fun n => by simp [Instr.checkKey, Sem.run_bind, run_underlying h]
    exact h1 9999
  bits k := by simp [Instr.sameBits] }
theorem KeyTy.str {P : Program} {K : TypeId} (h : P.underlying K = some .string) : KeyTy P K (fun s : ByteArray => .string s) := {
  out := ⟨_, h, fun a b => by
    simp only [Instr.sameNow, Option.some.injEq]
    rw [Bool.eq_iff_iff]
    simp [ba_beq]⟩
  check e k w := by
    have h1 : ∀ n, (Instr.checkKey e (n + 1) K (.string k)).run P w = .ok () w := fun n => by simp [Instr.checkKey, Sem.run_bind, run_underlying h]
    exact h1 9999
  bits k := by simp [Instr.sameBits, ba_beq] }

class MapTy (P : Program) (t : TypeId) (K V : outParam TypeId) : Prop where under : P.underlying t = some (.map K V)

/-- A map's block, as a list of pairs. -/
structure MapIs0 {κ ν : Type} (kv : κ → Value) (vv : ν → Value) (es : Array MapEntry) (clock : Nat) (m : List (κ × ν)) : Prop where
  ents : es.toList.map (fun e => (e.key, e.val)) = m.map (fun p => (kv p.1, vv p.2))
  nodup : (m.map (·.1)).Nodup
  born : (es.toList.map (·.born)).Pairwise (· < ·)
  clock : ∀ e, e ∈ es.toList → e.born < clock

section
variable {κ ν : Type} [DecidableEq κ] {kv : κ → Value} {vv : ν → Value} {P : Program} {K : TypeId}

omit [DecidableEq κ] in
theorem MapIs0.empty : MapIs0 kv vv #[] 0 [] := ⟨rfl, by simp, by simp, by simp⟩

theorem findNow_list (d : TypeDesc) (hd : ∀ a b : κ, Instr.sameNow d (kv a) (kv b) = some (decide (a = b))) (k : κ) :
    ∀ (es : List MapEntry) (m : List (κ × ν)) (i : Nat), es.map (fun e => (e.key, e.val)) = m.map (fun p => (kv p.1, vv p.2)) →
      Instr.findNow d (kv k) es i = some ((m.findIdx? (fun p => decide (k = p.1))).bind fun j => (m[j]?).map fun p => (i + j, vv p.2))
  | [], m, i, h => by
    have : m = [] := by cases m <;> simp_all
    subst this; simp [Instr.findNow]
  | e :: es, [], i, h => by simp at h
  | e :: es, p :: m, i, h => by
    simp only [List.map_cons, List.cons.injEq, Prod.mk.injEq] at h
    obtain ⟨⟨hk, hv⟩, ht⟩ := h
    unfold Instr.findNow
    rw [hk, hd]
    by_cases hkp : k = p.1
    · simp [hkp, hv, List.findIdx?_cons]
    · simp only [hkp, decide_false]
      rw [findNow_list d hd k es m (i + 1) ht, List.findIdx?_cons]
      simp only [hkp, decide_false, Bool.false_eq_true, if_false]
      cases m.findIdx? (fun p => decide (k = p.1)) <;> simp [Nat.add_assoc, Nat.add_comm 1]

theorem mget_findIdx (m : List (κ × ν)) (k : κ) : mget m k = (m.findIdx? (fun p => decide (k = p.1))).bind fun j => (m[j]?).map (·.2) := by
  induction m with
  | nil => rfl
  | cons p m ih =>
    rw [mget_cons, List.findIdx?_cons]
    by_cases h : k = p.1
    · simp [h]
    · simp only [h, if_false, decide_false, Bool.false_eq_true, ih]
      cases m.findIdx? (fun p => decide (k = p.1)) <;> simp

theorem run_findKey [hK : KeyTy P K kv] {es : Array MapEntry} {clock : Nat} {m : List (κ × ν)} (h : MapIs0 kv vv es clock m) (k : κ) (w : World) :
    (Instr.findKey K (kv k) es.toList).run P w = .ok ((m.findIdx? (fun p => decide (k = p.1))).bind fun j => (m[j]?).map fun p => (j, vv p.2)) w := by
  obtain ⟨d, hu, hd⟩ := hK.out
  have := findNow_list (vv := vv) d hd k es.toList m 0 h.ents
  simp only [Nat.zero_add] at this
  simp [Instr.findKey, Sem.run_bind, run_underlying hu, this]

theorem run_lookup {t V b : Nat} [hK : KeyTy P K kv] [hM : MapTy P t K V] {es : Array MapEntry} {clock : Nat} {m : List (κ × ν)} {w : World} {z : Value} (h : MapIs0 kv vv es clock m) (hb : w.heap[b]? = some (.map es clock))
    (hz : (P.info? V).bind (·.zero) = some z) (k : κ) (ok : Bool) :
    (Instr.lookup t (.map (some b)) (kv k) ok).run P w = .ok (if ok then .tuple #[(mget m k).elim z vv, .bool (mget m k).isSome] else (mget m k).elim z vv) w := by
  have hg : (getObj b).run P w = .ok (.map es clock) w := by simp [getObj, Sem.run, hb]
  simp only [Instr.lookup, Sem.run_bind, run_underlying hM.under, Result.andThen_ok, hg, Sem.run_pure, hK.check, run_findKey h]
  rw [mget_findIdx]
  cases hf : m.findIdx? (fun p => decide (k = p.1)) with
  | none => simp [run_zeroValue hz]
  | some j =>
    have hj : j < m.length := by
      have := List.findIdx?_eq_some_iff_findIdx_eq.1 hf
      exact this.1
    simp [List.getElem?_eq_getElem hj]

theorem run_lookup_nil {t V : Nat} [hK : KeyTy P K kv] [hM : MapTy P t K V] {w : World} {z : Value} (hz : (P.info? V).bind (·.zero) = some z) (k : κ) (ok : Bool) :
    (Instr.lookup t (.map none) (kv k) ok).run P w = .ok (if ok then .tuple #[z, .bool false] else z) w := by
  have : (Instr.findKey K (kv k) []).run P w = .ok none w := by
    obtain ⟨d, hu, hd⟩ := hK.out
    simp [Instr.findKey, run_underlying hu, Instr.findNow]
  simp [Instr.lookup, Sem.run_bind, run_underlying hM.under, hK.check, this, run_zeroValue hz]

theorem setObj_run {w : World} {b : Nat} {es : Array MapEntry} {clock : Nat} (hb : w.heap[b]? = some (.map es clock)) (o : Obj) : (setObj b o).run P w = .ok () (setB w b o) := by
  simp [setObj, Sem.run, hb, setB]

theorem ents_push {es : Array MapEntry} {clock : Nat} {m : List (κ × ν)} (h : MapIs0 kv vv es clock m) {k : κ} (hk : mget m k = none) (v : ν) :
    MapIs0 kv vv (es.push { key := kv k, val := vv v, born := clock }) (clock + 1) (mput m k v) := {
  ents := by rw [mput_new hk]; simp [h.ents]
  nodup := mput_nodup h.nodup k v
  born := by
    simp only [Array.toList_push, List.map_append, List.map_cons, List.map_nil, List.pairwise_append]
    refine ⟨h.born, by simp, fun a ha b hb => ?_⟩
    obtain ⟨e, he, rfl⟩ := List.mem_map.1 ha
    simp only [List.mem_singleton] at hb
    subst hb
    exact h.clock e he
  clock e he := by
    simp only [Array.toList_push, List.mem_append, List.mem_singleton] at he
    rcases he with he | rfl
    · have := h.clock e he; omega
    · simp }

theorem mput_at {m : List (κ × ν)} {k : κ} {j : Nat} (hj : m.findIdx? (fun p => decide (k = p.1)) = some j) (v : ν) : mput m k v = m.modify j (fun p => (p.1, v)) := by
  induction m generalizing j with
  | nil => simp at hj
  | cons p m ih =>
    rw [List.findIdx?_cons] at hj
    unfold mput
    by_cases h : k = p.1
    · simp only [h, decide_true, if_true, Option.some.injEq] at hj
      subst hj
      simp [h]
    · simp only [h, decide_false, Bool.false_eq_true, if_false, Option.map_eq_some_iff] at hj
      obtain ⟨i, hi, rfl⟩ := hj
      simp [h, ih hi]

theorem ents_modify {es : Array MapEntry} {clock : Nat} {m : List (κ × ν)} (h : MapIs0 kv vv es clock m) {k : κ} {j : Nat} (hj : m.findIdx? (fun p => decide (k = p.1)) = some j) (v : ν) :
    MapIs0 kv vv (es.modify j fun e => { e with key := kv k, val := vv v }) clock (mput m k v) := by
  have hlen : es.toList.length = m.length := by simpa using congrArg List.length h.ents
  obtain ⟨hjl, hjk, _⟩ := List.findIdx?_eq_some_iff_getElem.1 hj
  simp only [decide_eq_true_eq] at hjk
  have hb : (es.modify j fun e => { e with key := kv k, val := vv v }).toList.map (·.born) = es.toList.map (·.born) := by
    rw [Array.toList_modify]
    apply List.ext_getElem?
    intro i
    simp only [List.getElem?_map, List.getElem?_modify]
    by_cases hi : j = i
    · subst hi
      cases es.toList[j]? <;> simp
    · simp [hi]
  refine ⟨?_, mput_nodup h.nodup k v, by rw [hb]; exact h.born, ?_⟩
  · rw [mput_at hj, Array.toList_modify]
    apply List.ext_getElem?
    intro i
    have he := congrArg (fun l => l[i]?) h.ents
    simp only [List.getElem?_map] at he
    simp only [List.getElem?_map, List.getElem?_modify]
    by_cases hi : j = i
    · subst hi
      have h1 : es.toList[j]? = some es.toList[j] := List.getElem?_eq_getElem (by omega)
      have h2 : m[j]? = some m[j] := List.getElem?_eq_getElem hjl
      simp [h1, h2, hjk]
    · simpa [hi] using he
  · intro e he
    have : e.born ∈ (es.modify j fun e => { e with key := kv k, val := vv v }).toList.map (·.born) := List.mem_map.2 ⟨e, he, rfl⟩
    rw [hb] at this
    obtain ⟨e', he', hbe⟩ := List.mem_map.1 this
    rw [← hbe]
    exact h.clock e' he'

theorem run_mapUpdate {t V b : Nat} [hK : KeyTy P K kv] [hM : MapTy P t K V] {B : Base} {R : HL} {es : Array MapEntry} {clock : Nat} {m : List (κ × ν)} {w : World} (h : MapIs0 kv vv es clock m)
    (hS : Sh B (mapB b es clock ++ R) w) (k : κ) (v : ν) :
    ∃ es' clock' w', (Instr.mapUpdate t (.map (some b)) (kv k) (vv v)).run P w = .ok () w' ∧ Sh B (mapB b es' clock' ++ R) w' ∧ MapIs0 kv vv es' clock' (mput m k v) := by
  have hb : w.heap[b]? = some (.map es clock) := hS.own (b, .map es clock) (by simp [mapB])
  have hg : (getObj b).run P w = .ok (.map es clock) w := by simp [getObj, Sem.run, hb]
  cases hf : m.findIdx? (fun p => decide (k = p.1)) with
  | none =>
    have hk : mget m k = none := by rw [mget_findIdx, hf]; rfl
    refine ⟨_, _, _, ?_, Sh.setB (H := R) (b := b) hS _, ents_push h hk v⟩
    simp only [Instr.mapUpdate, Sem.run_bind, run_underlying hM.under, Result.andThen_ok, hg, hK.check, run_findKey h, hf, Option.bind_none]
    rw [setObj_run hb]
  | some j =>
    obtain ⟨hjl, hjk, _⟩ := List.findIdx?_eq_some_iff_getElem.1 hf
    simp only [decide_eq_true_eq] at hjk
    have hlen : es.toList.length = m.length := by simpa using congrArg List.length h.ents
    have hlt : j < es.size := by have : es.toList.length = es.size := by simp
                                 omega
    have hkey : es[j].key = kv k := by
      have he := congrArg (fun l => l[j]?) h.ents
      simp only [List.getElem?_map, List.getElem?_eq_getElem hjl, Array.getElem?_toList, Array.getElem?_eq_getElem hlt, Option.map_some, Option.some.injEq, Prod.mk.injEq] at he
      rw [he.1, hjk]
    refine ⟨_, _, _, ?_, Sh.setB (H := R) (b := b) hS _, ents_modify h hf v⟩
    simp only [Instr.mapUpdate, Sem.run_bind, run_underlying hM.under, Result.andThen_ok, hg, hK.check, run_findKey h, hf, Option.bind_some, List.getElem?_eq_getElem hjl, Option.map_some]
    have hst : (Instr.keyThatStays (((es[j]?).map (·.key)).getD (kv k)) (kv k)).run P w = .ok (kv k) w := by
      rw [Array.getElem?_eq_getElem hlt]
      simp [Instr.keyThatStays, hkey, hK.bits]
    simp only [hst, Result.andThen_ok]
    rw [setObj_run hb]
end
end Go.Tk

set_option linter.unusedSectionVars false
set_option linter.unusedSimpArgs false
set_option linter.unusedVariables false
namespace Go.Tk
open Go.RowKit

theorem mnone {α β : Type} {o : Option α} {z : β} {f : α → β} (h : o = none) : o.elim z f = z := by rw [h]; rfl
theorem msome {α β : Type} {o : Option α} {z : β} {f : α → β} {x : α} (h : o = some x) : o.elim z f = f x := by rw [h]; rfl
theorem isnone {α : Type} {o : Option α} (h : o = none) : o.isSome = false := by rw [h]; rfl
theorem issome {α : Type} {o : Option α} {x : α} (h : o = some x) : o.isSome = true := by rw [h]; rfl

class ZeroV (P : Program) (T : TypeId) (z : outParam Value) : Prop where out : (P.info? T).bind (·.zero) = some z

section
variable {κ ν : Type} [DecidableEq κ] {kv : κ → Value} {vv : ν → Value} {P : Program} {K : TypeId}

theorem mdel_at : ∀ {m : List (κ × ν)} {k : κ} {j : Nat}, (m.map (·.1)).Nodup → m.findIdx? (fun p => decide (k = p.1)) = some j → mdel m k = m.eraseIdx j
  | [], k, j, _, hj => by simp at hj
  | p :: m, k, j, hn, hj => by
    simp only [List.map_cons, List.nodup_cons] at hn
    rw [List.findIdx?_cons] at hj
    by_cases hk : k = p.1
    · simp only [hk, decide_true, if_true, Option.some.injEq] at hj
      subst hj
      have : ∀ q, q ∈ m → ¬ k = q.1 := fun q hq e => hn.1 (hk ▸ List.mem_map.2 ⟨q, hq, e.symm⟩)
      simp only [mdel, List.filter_cons, hk, ne_eq, not_true_eq_false, decide_false, Bool.false_eq_true, if_false, List.eraseIdx_cons_zero]
      rw [List.filter_eq_self]
      intro q hq
      have := this q hq
      simpa [hk] using this
    · simp only [hk, decide_false, Bool.false_eq_true, if_false, Option.map_eq_some_iff] at hj
      obtain ⟨i, hi, rfl⟩ := hj
      have := mdel_at hn.2 hi
      simp only [mdel, ne_eq, decide_not] at this ⊢
      simp [hk, this]

theorem eraseIdx_map {β γ : Type} (f : β → γ) : ∀ (l : List β) (j : Nat), (l.eraseIdx j).map f = (l.map f).eraseIdx j
  | [], _ => rfl
  | _ :: _, 0 => rfl
  | x :: l, j + 1 => by simp [eraseIdx_map f l j]

theorem mdel_none {m : List (κ × ν)} {k : κ} (h : mget m k = none) : mdel m k = m := by
  rw [mget_none] at h
  simp only [mdel, List.filter_eq_self]
  intro q hq
  have : ¬ k = q.1 := fun e => h (List.mem_map.2 ⟨q, hq, e.symm⟩)
  simp [this]

theorem ents_erase {es : Array MapEntry} {clock : Nat} {m : List (κ × ν)} (h : MapIs0 kv vv es clock m) {k : κ} {j : Nat} (hj : m.findIdx? (fun p => decide (k = p.1)) = some j) :
    MapIs0 kv vv (es.eraseIdxIfInBounds j) clock (mdel m k) := by
  have hlen : es.toList.length = m.length := by simpa using congrArg List.length h.ents
  obtain ⟨hjl, hjk, hjb⟩ := List.findIdx?_eq_some_iff_getElem.1 hj
  have hes : (es.eraseIdxIfInBounds j).toList = es.toList.eraseIdx j := by
    have hlt : j < es.size := by have : es.toList.length = es.size := by simp
                                 omega
    unfold Array.eraseIdxIfInBounds
    simp [hlt]
  rw [mdel_at h.nodup hj]
  have hsub : (es.toList.eraseIdx j).Sublist es.toList := List.eraseIdx_sublist _ _
  refine ⟨?_, ?_, ?_, ?_⟩
  · rw [hes, eraseIdx_map, eraseIdx_map, h.ents]
  · exact ((List.eraseIdx_sublist m j).map _).nodup h.nodup
  · rw [hes]; exact h.born.sublist (hsub.map _)
  · intro e he; rw [hes] at he; exact h.clock e (hsub.subset he)

theorem run_delete {t V b : Nat} {ty kt : TypeId} [hK : KeyTy P K kv] [hM : MapTy P t K V] {B : Base} {R : HL} {es : Array MapEntry} {clock : Nat} {m : List (κ × ν)} {w : World} (h : MapIs0 kv vv es clock m)
    (hS : Sh B (mapB b es clock ++ R) w) (k : κ) :
    ∃ es' clock' w', (Builtin.delete_ #[t, kt] ty #[.map (some b), kv k]).run P w = .ok (.tuple #[]) w' ∧ Sh B (mapB b es' clock' ++ R) w' ∧ MapIs0 kv vv es' clock' (mdel m k) := by
  have hb : w.heap[b]? = some (.map es clock) := hS.own (b, .map es clock) (by simp [mapB])
  have hg : (getObj b).run P w = .ok (.map es clock) w := by simp [getObj, Sem.run, hb]
  cases hf : m.findIdx? (fun p => decide (k = p.1)) with
  | none =>
    have hk : mget m k = none := by rw [mget_findIdx, hf]; rfl
    refine ⟨_, _, _, ?_, Sh.setB (H := R) (b := b) hS (.map es clock), by rw [mdel_none hk]; exact h⟩
    simp [Builtin.delete_, Sem.run_bind, run_underlying hM.under, hg, hK.check, run_findKey h, hf, setObj_run hb]
  | some j =>
    obtain ⟨hjl, _, _⟩ := List.findIdx?_eq_some_iff_getElem.1 hf
    refine ⟨_, _, _, ?_, Sh.setB (H := R) (b := b) hS (.map (es.eraseIdxIfInBounds j) clock), ents_erase h hf⟩
    simp [Builtin.delete_, Sem.run_bind, run_underlying hM.under, hg, hK.check, run_findKey h, hf, List.getElem?_eq_getElem hjl, setObj_run hb]

omit [DecidableEq κ] in
theorem MapIs0.size {es : Array MapEntry} {clock : Nat} {m : List (κ × ν)} (h : MapIs0 kv vv es clock m) : es.size = m.length := by
  simpa using congrArg List.length h.ents
end

/-- A map's block, as a list of pairs, in whatever order. -/
structure MapIs {κ ν : Type} (kv : κ → Value) (vv : ν → Value) (es : Array MapEntry) (clock : Nat) (m : List (κ × ν)) : Prop where
  out : ∃ m', m'.Perm m ∧ MapIs0 kv vv es clock m'
section
variable {κ ν : Type} {kv : κ → Value} {vv : ν → Value} {es : Array MapEntry} {clock : Nat} {m : List (κ × ν)}
theorem MapIs.empty : MapIs kv vv #[] 0 [] := ⟨[], .refl _, .empty⟩
theorem MapIs.size (h : MapIs kv vv es clock m) : es.size = m.length := by
  obtain ⟨m', hp, h0⟩ := h.out
  rw [h0.size, hp.length_eq]
theorem MapIs.nodup (h : MapIs kv vv es clock m) : (m.map (·.1)).Nodup := by
  obtain ⟨m', hp, h0⟩ := h.out
  exact (hp.map _).nodup_iff.1 h0.nodup
theorem MapIs.perm {m2 : List (κ × ν)} (h : MapIs kv vv es clock m) (hp : m.Perm m2) : MapIs kv vv es clock m2 := by
  obtain ⟨m', hp', h0⟩ := h.out
  exact ⟨m', hp'.trans hp, h0⟩
theorem perm_map_inv {α β : Type} (f : α → β) : ∀ {l : List β} {m : List α}, l.Perm (m.map f) → ∃ m' : List α, m'.Perm m ∧ m'.map f = l := by
  intro l m h
  generalize hk : m.map f = k at h
  induction h generalizing m with
  | nil => exact ⟨m, .refl _, hk⟩
  | cons x h ih =>
    obtain ⟨a, m2, rfl, rfl, hm2⟩ := List.map_eq_cons_iff.1 hk
    obtain ⟨m', h1, h2⟩ := ih hm2
    exact ⟨a :: m', h1.cons a, by simp [h2]⟩
  | swap x y l =>
    obtain ⟨a, m2, rfl, rfl, hm2⟩ := List.map_eq_cons_iff.1 hk
    obtain ⟨c, m3, rfl, rfl, hm3⟩ := List.map_eq_cons_iff.1 hm2
    exact ⟨c :: a :: m3, .swap a c m3, by simp [hm3]⟩
  | trans _ _ ih1 ih2 =>
    obtain ⟨m', h1, h2⟩ := ih2 hk
    obtain ⟨m2, h3, h4⟩ := ih1 h2
    exact ⟨m2, h3.trans h1, h4⟩
/-- The same values, of other things. -/
theorem MapIs.same {ν' : Type} {vv' : ν' → Value} {m2 : List (κ × ν')} (h : MapIs kv vv es clock m) (he : m2.map (fun p => (p.1, vv' p.2)) = m.map (fun p => (p.1, vv p.2))) : MapIs kv vv' es clock m2 := by
  obtain ⟨m', hp, h0⟩ := h.out
  have hp2 := hp.map (fun p : κ × ν => (p.1, vv p.2))
  rw [← he] at hp2
  obtain ⟨m3, h3, h4⟩ := perm_map_inv _ hp2
  refine ⟨m3, h3, ?_, ?_, h0.born, h0.clock⟩
  · rw [h0.ents]
    have := congrArg (List.map (fun q : κ × Value => (kv q.1, q.2))) h4
    simpa [Function.comp_def] using this.symm
  · have := congrArg (List.map (fun q : κ × Value => q.1)) h4
    have h5 : m3.map (·.1) = m'.map (·.1) := by simpa [Function.comp_def] using this
    rw [h5]; exact h0.nodup
end
section
variable {κ ν : Type} [DecidableEq κ] {m m' : List (κ × ν)}
theorem mget_mem_some {k : κ} {v : ν} (hn : (m.map (·.1)).Nodup) (h : (k, v) ∈ m) : mget m k = some v := by
  induction m with
  | nil => simp at h
  | cons p m ih =>
    rw [mget_cons]
    simp only [List.map_cons, List.nodup_cons] at hn
    rcases List.mem_cons.1 h with rfl | h
    · simp
    · have : ¬ k = p.1 := fun e => hn.1 (e ▸ List.mem_map.2 ⟨_, h, rfl⟩)
      simp only [this, if_false]
      exact ih hn.2 h
theorem mget_perm (hn : (m'.map (·.1)).Nodup) (hp : m'.Perm m) (k : κ) : mget m' k = mget m k := by
  cases h : mget m k with
  | none =>
    rw [mget_none] at h ⊢
    exact fun hm => h ((hp.map _).mem_iff.1 hm)
  | some v => exact mget_mem_some hn (hp.mem_iff.2 (mget_some_mem h))
theorem mput_mdel (k : κ) (v : ν) : ∀ {m : List (κ × ν)}, (m.map (·.1)).Nodup → (mput m k v).Perm ((k, v) :: mdel m k)
  | [], _ => by simp [mput, mdel]
  | p :: m, hn => by
    simp only [List.map_cons, List.nodup_cons] at hn
    unfold mput
    by_cases hk : k = p.1
    · have h1 : mdel (p :: m) k = m := by
        unfold mdel
        rw [List.filter_cons]
        simp only [hk, ne_eq, not_true_eq_false, decide_false, Bool.false_eq_true, if_false]
        refine List.filter_eq_self.2 fun q hq => ?_
        have : ¬ p.1 = q.1 := fun e => hn.1 (e ▸ List.mem_map.2 ⟨_, hq, rfl⟩)
        simp [this]
      rw [h1]
      simp [hk]
    · have h1 : mdel (p :: m) k = p :: mdel m k := by
        unfold mdel
        rw [List.filter_cons]
        simp [hk]
      rw [h1]
      simp only [hk, if_false]
      exact ((mput_mdel k v hn.2).cons p).trans (.swap _ _ _)
theorem mput_perm (hn : (m'.map (·.1)).Nodup) (hp : m'.Perm m) (k : κ) (v : ν) : (mput m' k v).Perm (mput m k v) :=
  (mput_mdel k v hn).trans (((hp.filter _).cons _).trans (mput_mdel k v ((hp.map _).nodup_iff.1 hn)).symm)
theorem mdel_perm (hp : m'.Perm m) (k : κ) : (mdel m' k).Perm (mdel m k) := hp.filter _
end

section
variable {P : Program} {ops : Array Oper} {Q : Exit → Act → World → Prop} {rest : List Oper} {o : Oper} {a : Act} {B : Base} {H R : HL} {w : World}
variable {κ ν : Type} [DecidableEq κ] {kv : κ → Value} {vv : ν → Value}

theorem wl_makeMap {t : TypeId} (hw : Region.wanted o (yielded ops a.tmps) = true) (ho : o.op = .makeMap t none) (hS : Sh B H w)
    (h : ∀ b w', Sh B (mapB b #[] 0 ++ H) w' → wpList P ops Q rest (a.put o.dst (.map (some b))) w') : wpList P ops Q (o :: rest) a w :=
  wl_to (w' := w.alloc (.map #[] 0)) hw (by simp [execOp, ho, Instr.makeMap, newObj, Sem.run]) (h _ _ (hS.alloc _))

/-- m[k], without ok. -/
theorem wl_lookup {t K V b : Nat} {x y : Operand} [KeyTy P K kv] [MapTy P t K V] {z : Value} [hz : ZeroV P V z] {es : Array MapEntry} {clock : Nat} {m : List (κ × ν)} {k : κ} {v : Value} (hm : MapIs kv vv es clock m) (hw : Region.wanted o (yielded ops a.tmps) = true) (ho : o.op = .lookup t x y false)
    (hx : a.eval x = .map (some b)) (hy : a.eval y = kv k) (hS : Sh B H w) [hp : HasMap H b es clock R]  (hv : (mget m k).elim z vv = v)
    (h : wpList P ops Q rest (a.put o.dst v) w) : wpList P ops Q (o :: rest) a w := by
  have hb : w.heap[b]? = some (.map es clock) := (hS.pick hp.out).own (b, .map es clock) (by simp [mapB])
  obtain ⟨m', hpm, hm0⟩ := hm.out
  have := run_lookup (P := P) (t := t) hm0 hb hz.out k false
  rw [mget_perm hm0.nodup hpm] at this
  exact wl_value hw (by simp [execOp, ho, hx, hy, this, hv]) h

/-- v, ok := m[k]. -/
theorem wl_lookup2 {t K V b : Nat} {x y : Operand} [KeyTy P K kv] [MapTy P t K V] {z : Value} [hz : ZeroV P V z] {es : Array MapEntry} {clock : Nat} {m : List (κ × ν)} {k : κ} {v : Value} {ok : Bool} (hm : MapIs kv vv es clock m) (hw : Region.wanted o (yielded ops a.tmps) = true) (ho : o.op = .lookup t x y true)
    (hx : a.eval x = .map (some b)) (hy : a.eval y = kv k) (hS : Sh B H w) [hp : HasMap H b es clock R]  (hv : (mget m k).elim z vv = v) (hok : (mget m k).isSome = ok)
    (h : wpList P ops Q rest (a.put o.dst (.tuple #[v, .bool ok])) w) : wpList P ops Q (o :: rest) a w := by
  have hb : w.heap[b]? = some (.map es clock) := (hS.pick hp.out).own (b, .map es clock) (by simp [mapB])
  obtain ⟨m', hpm, hm0⟩ := hm.out
  have := run_lookup (P := P) (t := t) hm0 hb hz.out k true
  rw [mget_perm hm0.nodup hpm] at this
  exact wl_value hw (by simp [execOp, ho, hx, hy, this, hv, hok]) h

theorem wl_mapUpdate {t K V b : Nat} {x y z : Operand} [KeyTy P K kv] [MapTy P t K V] {es : Array MapEntry} {clock : Nat} {m : List (κ × ν)} {k : κ} {v : ν} (hm : MapIs kv vv es clock m) (hw : Region.wanted o (yielded ops a.tmps) = true) (ho : o.op = .mapUpdate t x y z)
    (hx : a.eval x = .map (some b)) (hy : a.eval y = kv k) (hz : a.eval z = vv v) (hS : Sh B H w) {C : HL → HL} [hp : CtxMap H b es clock C] 
    (h : ∀ es' clock' w', Sh B (C (mapB b es' clock')) w' → MapIs kv vv es' clock' (mput m k v) → wpList P ops Q rest (a.put o.dst undef) w') : wpList P ops Q (o :: rest) a w := by
  obtain ⟨R, hS0, back⟩ := Sh.out (hp.eq ▸ hS) hp.ctx
  obtain ⟨m', hpm, hm0⟩ := hm.out
  obtain ⟨es', clock', w', hr, hS', hm'⟩ := run_mapUpdate (P := P) (t := t) hm0 hS0 k v
  exact wl_skip' hw (by simp [execOp, ho, hx, hy, hz, hr]) (h _ _ _ (back _ _ hS') ⟨_, mput_perm hm0.nodup hpm k v, hm'⟩)

theorem wl_delete {t kt K V b : Nat} {x y : Operand} [KeyTy P K kv] [MapTy P t K V] {es : Array MapEntry} {clock : Nat} {m : List (κ × ν)} {k : κ} (hm : MapIs kv vv es clock m) (hw : Region.wanted o (yielded ops a.tmps) = true)
    (ho : o.op = .call { callee := .builtin .delete, args := #[x, y], argTypes := #[t, kt] })
    (hx : a.eval x = .map (some b)) (hy : a.eval y = kv k) (hS : Sh B H w) {C : HL → HL} [hp : CtxMap H b es clock C] 
    (h : ∀ es' clock' w', Sh B (C (mapB b es' clock')) w' → MapIs kv vv es' clock' (mdel m k) → wpList P ops Q rest (a.put o.dst (.tuple #[])) w') : wpList P ops Q (o :: rest) a w := by
  obtain ⟨R, hS0, back⟩ := Sh.out (hp.eq ▸ hS) hp.ctx
  obtain ⟨m', hpm, hm0⟩ := hm.out
  obtain ⟨es', clock', w', hr, hS', hm'⟩ := run_delete (P := P) (t := t) (kt := kt) (ty := o.type) hm0 hS0 k
  exact wl_to hw (by simp [execOp, ho, resolve, invoke, builtin, hx, hy, hr]) (h _ _ _ (back _ _ hS') ⟨_, mdel_perm hpm k, hm'⟩)

theorem wl_lenMap {t K V b : Nat} {x : Operand} [hM : MapTy P t K V] {es : Array MapEntry} {clock : Nat} {m : List (κ × ν)} (hm : MapIs kv vv es clock m) (hw : Region.wanted o (yielded ops a.tmps) = true)
    (ho : o.op = .call { callee := .builtin .len, args := #[x], argTypes := #[t] })
    (hx : a.eval x = .map (some b)) (hS : Sh B H w) [hp : HasMap H b es clock R] 
    (h : wpList P ops Q rest (a.put o.dst (.int .i64 m.length)) w) : wpList P ops Q (o :: rest) a w := by
  have hb : w.heap[b]? = some (.map es clock) := (hS.pick hp.out).own (b, .map es clock) (by simp [mapB])
  have hg : (getObj b).run P w = .ok (.map es clock) w := by simp [getObj, Sem.run, hb]
  refine wl_value hw ?_ h
  simp [execOp, ho, resolve, invoke, builtin, hx, Builtin.len_, Sem.run_bind, run_underlying hM.under, hg, hm.size, goInt]
end
end Go.Tk

set_option linter.unusedSectionVars false
set_option linter.unusedSimpArgs false
set_option linter.unusedVariables false
namespace Go.Tk
open Go.RowKit


structure IterIs {κ ν : Type} (kv : κ → Value) (vv : ν → Value) (es : Array MapEntry) (seen : Array Nat) (left : List (κ × ν)) : Prop where
  left : ∃ left' : List (κ × ν), left'.Perm left ∧ (leftOf es seen).toList.map (fun e => (e.key, e.val)) = left'.map (fun p => (kv p.1, vv p.2))

/-- The entry that the last step handed out. -/
structure CurIs {κ ν : Type} (kv : κ → Value) (vv : ν → Value) (es : Array MapEntry) (seen : Array Nat) (p : κ × ν) : Prop where
  out : ∃ (e : MapEntry) (s0 : Array Nat), e ∈ es.toList ∧ seen = s0.push e.born ∧ e.key = kv p.1 ∧ e.val = vv p.2

section
variable {P : Program} {ops : Array Oper} {Q : Exit → Act → World → Prop} {rest : List Oper} {o : Oper} {a : Act} {B : Base} {H R : HL} {w : World}
variable {κ ν : Type} {kv : κ → Value} {vv : ν → Value}

theorem leftOf_nil (es : Array MapEntry) : leftOf es #[] = es := by
  unfold leftOf
  simp

theorem wl_range {t K V b : Nat} {x : Operand} [hM : MapTy P t K V] {es : Array MapEntry} {clock : Nat} {m : List (κ × ν)} (hm : MapIs kv vv es clock m) (hw : Region.wanted o (yielded ops a.tmps) = true) (ho : o.op = .range t x)
    (hx : a.eval x = .map (some b)) (hS : Sh B H w) [hp : HasMap H b es clock R] 
    (h : ∀ r w', Sh B (iterB r b clock #[] clock ++ H) w' → IterIs kv vv es #[] m → wpList P ops Q rest (a.put o.dst (.pointer (some ⟨r, 0, none⟩))) w') : wpList P ops Q (o :: rest) a w := by
  have hb : w.heap[b]? = some (.map es clock) := (hS.pick hp.out).own (b, .map es clock) (by simp [mapB])
  have hg : (getObj b).run P w = .ok (.map es clock) w := by simp [getObj, Sem.run, hb]
  refine wl_to (w' := w.alloc (.mapIter (some b) clock #[] clock)) hw ?_ (h _ _ (hS.alloc _) (by obtain ⟨m', hpm, hm0⟩ := hm.out; exact ⟨m', hpm, by rw [leftOf_nil]; exact hm0.ents⟩))
  simp [execOp, ho, hx, Instr.range, Sem.run_bind, run_underlying hM.under, hg, newObj, Sem.run]

theorem leftOf_push (es : Array MapEntry) (seen : Array Nat) (b : Nat) : leftOf es (seen.push b) = (leftOf es seen).filter (fun e => !(e.born == b)) := by
  unfold leftOf
  rw [Array.filter_filter]
  congr 1
  funext e
  by_cases h1 : e.born = b <;> by_cases h2 : e.born ∈ seen <;> simp [h1, h2]

theorem filter_born : ∀ (l1 : List MapEntry) (e : MapEntry) (l2 : List MapEntry), ((l1 ++ e :: l2).map (·.born)).Pairwise (· < ·) → (l1 ++ e :: l2).filter (fun x => !(x.born == e.born)) = l1 ++ l2 := by
  intro l1 e l2 h
  simp only [List.map_append, List.map_cons, List.pairwise_append, List.pairwise_cons] at h
  obtain ⟨_, ⟨h2, _⟩, h3⟩ := h
  rw [List.filter_append, List.filter_cons]
  have e1 : l1.filter (fun x => !(x.born == e.born)) = l1 := by
    rw [List.filter_eq_self]
    intro x hx
    have := h3 x.born (List.mem_map.2 ⟨x, hx, rfl⟩) e.born (List.mem_cons_self ..)
    simp; omega
  have e2 : l2.filter (fun x => !(x.born == e.born)) = l2 := by
    rw [List.filter_eq_self]
    intro x hx
    have := h2 x.born (List.mem_map.2 ⟨x, hx, rfl⟩)
    simp; omega
  simp [e1, e2]

theorem wl_next {b r clock : Nat} {x : Operand} {es : Array MapEntry} {seen : Array Nat} {m left : List (κ × ν)} (hm : MapIs kv vv es clock m) (hw : Region.wanted o (yielded ops a.tmps) = true) (ho : o.op = .next x false)
    (hx : a.eval x = .pointer (some ⟨r, 0, none⟩)) (hS : Sh B H w) {C : HL → HL} [hpi : CtxIter H r b clock seen clock C] [hp : HasMap H b es clock R]  (hi : IterIs kv vv es seen left)
    (h0 : left = [] → wpList P ops Q rest (a.put o.dst (.tuple #[.bool false])) w)
    (h1 : ∀ l1 p l2, left = l1 ++ p :: l2 → ∀ seen' w', Sh B (C (iterB r b clock seen' clock)) w' → IterIs kv vv es seen' (l1 ++ l2) → CurIs kv vv es seen' p →
      wpList P ops Q rest (a.put o.dst (.tuple #[.bool true, kv p.1, vv p.2])) w') : wpList P ops Q (o :: rest) a w := by
  obtain ⟨R0, hS', back⟩ := Sh.out (hpi.eq ▸ hS) hpi.ctx
  have hr : w.heap[r]? = some (.mapIter (some b) clock seen clock) := hS'.own (r, .mapIter (some b) clock seen clock) (by simp [iterB])
  have hb : w.heap[b]? = some (.map es clock) := hS.own (b, .map es clock) (PickL.mem hp.out (by simp [mapB]))
  obtain ⟨m', hpm, hm⟩ := hm.out
  obtain ⟨left', hpl, hi⟩ := hi.left
  rcases run_next_at (P := P) w o.type r b clock clock seen es clock hr hb hm.clock (Nat.le_refl _) with ⟨hz, hrun⟩ | ⟨e, he, w1, hw1, hrun⟩
  · have hl : left = [] := by
      have := congrArg List.length hi
      simp only [List.length_map, Array.length_toList, hz] at this
      exact List.eq_nil_of_length_eq_zero (by rw [← hpl.length_eq]; exact this.symm)
    exact wl_value hw (by simp [execOp, ho, hx, hrun]) (h0 hl)
  · obtain ⟨L1, L2, hL⟩ := List.append_of_mem he
    have hl := hi
    rw [hL, List.map_append, List.map_cons] at hl
    obtain ⟨l1, l2', hll, hl1, hl2⟩ := List.map_eq_append_iff.1 hl.symm
    obtain ⟨p, l2, rfl, hpe, hl2⟩ := List.map_eq_cons_iff.1 hl2
    simp only [Prod.mk.injEq] at hpe
    refine wl_to (w' := setB w1 r (.mapIter (some b) clock (seen.push e.born) clock)) (v := .tuple #[.bool true, e.key, e.val]) hw (by simp only [execOp, ho, hx, Sem.run_bind, hrun]; rfl) ?_
    rw [← hpe.1, ← hpe.2]
    have hpin : p ∈ left := hpl.mem_iff.1 (by rw [hll]; simp)
    obtain ⟨k1, k2, hk⟩ := List.append_of_mem hpin
    have hkp : (l1 ++ l2).Perm (k1 ++ k2) := by
      rw [hll, hk] at hpl
      exact (List.perm_cons p).1 (List.perm_middle.symm.trans (hpl.trans List.perm_middle))
    refine h1 k1 p k2 hk (seen.push e.born) _ ?_ ⟨_, hkp, ?_⟩ ⟨e, seen, ?_, rfl, hpe.1.symm, hpe.2.symm⟩
    · have hS1 : Sh B (iterB r b clock seen clock ++ R0) w1 := by
        rcases hw1 with rfl | rfl
        · exact hS'
        · exact hS'.drew
      exact back _ _ (Sh.setB (H := R0) (b := r) hS1 _)
    · have hpw : ((leftOf es seen).toList.map (·.born)).Pairwise (· < ·) := by
        have hsub : (leftOf es seen).toList.Sublist es.toList := by
          unfold leftOf
          rw [Array.toList_filter]
          exact List.filter_sublist
        exact hm.born.sublist (hsub.map _)
      rw [leftOf_push, Array.toList_filter, hL, filter_born L1 e L2 (by rw [← hL]; exact hpw)]
      simp [hl1, hl2]
    · have : e ∈ (leftOf es seen).toList := he
      unfold leftOf at this
      rw [Array.toList_filter] at this
      exact (List.mem_filter.1 this).1

theorem wl_entry {b r clock : Nat} {x : Operand} {es : Array MapEntry} {seen : Array Nat} {m : List (κ × ν)} {p : κ × ν} (hm : MapIs kv vv es clock m) (hw : Region.wanted o (yielded ops a.tmps) = true) (ho : o.op = .entry x)
    (hx : a.eval x = .pointer (some ⟨r, 0, none⟩)) (hS : Sh B H w) {R' : HL} [hpi : HasIter H r b clock seen clock R] [hp : HasMap H b es clock R']  (hc : CurIs kv vv es seen p)
    (h : wpList P ops Q rest (a.put o.dst (.tuple #[kv p.1, vv p.2])) w) : wpList P ops Q (o :: rest) a w := by
  have hS' := hS.pick hpi.out
  obtain ⟨e, s0, he, rfl, hk, hv⟩ := hc.out
  have hr : w.heap[r]? = some (.mapIter (some b) clock (s0.push e.born) clock) := hS'.own (r, .mapIter (some b) clock (s0.push e.born) clock) (by simp [iterB])
  have hb : w.heap[b]? = some (.map es clock) := hS.own (b, .map es clock) (PickL.mem hp.out (by simp [mapB]))
  have hn : (es.toList.map (·.born)).Nodup := by
    obtain ⟨m', hpm, hm⟩ := hm.out
    refine hm.born.imp ?_
    intro a b h e; omega
  have := run_entry_at (P := P) w r b clock s0 es clock e hr hb he hn
  rw [hk, hv] at this
  exact wl_value hw (by simp [execOp, ho, hx, this]) h
end

/-! ### Slices written out -/
theorem fill_all {k : Nat} : ∀ (vss : List (List Value)) (i : Nat) (pre post : List Value), (∀ vs ∈ vss, vs.length = k) → pre.length = i * k → post.length = vss.length * k →
    ∀ vals : List Value, vals.map (·.cells) = vss.map (·.toArray) →
    Instr.fill (fun j => some (j * k, k)) (pre ++ post).toArray ((vals.zipIdx i).map fun p => (p.2, p.1)) = some (pre ++ vss.flatten).toArray
  | [], i, pre, post, _, _, hpost, vals, hv => by
    have h0 : vals = [] := by simpa using hv
    have h1 : post = [] := List.eq_nil_of_length_eq_zero (by simpa using hpost)
    subst h0; subst h1
    simp [Instr.fill]
  | vs :: vss, i, pre, post, hk, hpre, hpost, vals, hv => by
    match vals, hv with
    | v :: vals, hv =>
      simp only [List.map_cons, List.cons.injEq] at hv
      obtain ⟨hv1, hv2⟩ := hv
      have hvs := hk vs (List.mem_cons_self ..)
      simp only [List.length_cons, Nat.succ_mul] at hpost
      simp only [List.zipIdx_cons, List.map_cons, Instr.fill, hv1]
      have hc1 : vs.toArray.size = k := by simpa using hvs
      have hfold : ∀ (us : List Value) (n : Nat) (cs : List Value), (us.zipIdx n).foldl (fun (cs : Array Value) (x : Value × Nat) => cs.setIfInBounds (i * k + x.2) x.1) cs.toArray = (splice cs (i * k + n) us).toArray := by
        intro us
        induction us with
        | nil => intro n cs; simp [splice]
        | cons u us ih =>
          intro n cs
          have := ih (n + 1) (cs.set (i * k + n) u)
          rw [splice]
          simp only [List.zipIdx_cons, List.foldl_cons, List.setIfInBounds_toArray]
          rw [show i * k + n + 1 = i * k + (n + 1) from by omega, ← this]
      have hsp := hfold vs 0 (pre ++ post)
      simp only [Nat.add_zero] at hsp
      rw [if_neg (by simp [hc1, hpre]; omega)]
      have e2 : splice (pre ++ post) (i * k) vs = (pre ++ vs) ++ post.drop k := by
        rw [splice_eq _ _ _ (by simp; omega), ← hpre, ← hvs]
        simp
      have hsp' : vs.toArray.zipIdx.foldl (fun (cs : Array Value) (x : Value × Nat) => cs.setIfInBounds (i * k + x.2) x.1) (pre ++ post).toArray = ((pre ++ vs) ++ post.drop k).toArray := by
        rw [← e2, ← hsp, ← Array.foldl_toList, Array.toList_zipIdx]
      rw [hsp']
      rw [fill_all vss (i + 1) (pre ++ vs) (post.drop k) (fun u hu => hk u (List.mem_cons_of_mem _ hu)) (by simp [hpre, hvs, Nat.succ_mul]) (by simp; omega) vals hv2]
      simp

section
variable {P : Program} {ops : Array Oper} {Q : Exit → Act → World → Prop} {rest : List Oper} {o : Oper} {a : Act} {B : Base} {H R : HL} {w : World}
variable {α : Type} {E : Enc α}

theorem run_buildSlice {t e : Nat} [hsl : SlTy P t e E.k] {z : List Value} [hz : Zero P e z] (xs : List α) (hx : xs.length * E.k ≤ 16777216) (hn : 0 < xs.length) (w : World) :
    (Instr.buildSlice t xs.length ((xs.zipIdx.map fun p => (p.2, E.val p.1)).toArray)).run P w = .ok (.slice (some ⟨w.heap.size, 0, none⟩) xs.length xs.length) (w.alloc (.cells (flat E xs).toArray e)) := by
  obtain ⟨zv, hz1, hz2⟩ := hz.out
  have hk := E.pos
  have hne : ¬ xs.length * E.k = 0 := by
    have := Nat.mul_pos hn hk; omega
  have hfill := fill_all (k := E.k) (xs.map E.cells) 0 [] ((List.range (xs.length * E.k)).map fun j => zv.cells[j % zv.cells.size]!) (by intro vs hvs; obtain ⟨x, _, rfl⟩ := List.mem_map.1 hvs; exact E.len x) (by simp) (by simp) (xs.map E.val) (by simp [E.valc])
  have e1 : (((xs.map E.val).zipIdx 0).map fun (x : Value × Nat) => (x.2, x.1)) = xs.zipIdx.map fun (x : α × Nat) => (x.2, E.val x.1) := by
    rw [List.zipIdx_map, List.map_map]
    rfl
  simp only [List.nil_append] at hfill
  have hfill' : Instr.fill (fun j => some (j * E.k, E.k)) ((Array.range (xs.length * E.k)).map (zv.cells[· % zv.cells.size]!)) ((xs.zipIdx.map fun p => (p.2, E.val p.1)).toArray).toList = some (flat E xs).toArray := by
    rw [show ((Array.range (xs.length * E.k)).map (zv.cells[· % zv.cells.size]!)) = ((List.range (xs.length * E.k)).map fun j => zv.cells[j % zv.cells.size]!).toArray from by
      apply Array.ext' ; simp]
    rw [show (((xs.zipIdx.map fun p => (p.2, E.val p.1)).toArray).toList) = (((xs.map E.val).zipIdx 0).map fun p => (p.2, p.1)) from by rw [List.toList_toArray]; exact e1.symm]
    rw [hfill]
    simp [flat, List.flatMap]
  simp only [Instr.buildSlice, Sem.run_bind, run_underlying hsl.under, Result.andThen_ok, run_sizeOf hsl.size, gt_iff_lt, show ¬ (2 ^ 24 < xs.length * E.k) from by omega, if_false, hne, run_zeroValue hz1, Sem.run_pure]
  rw [hfill']
  simp [newRow, newObj, Sem.run]

/-- []T{x, ..}, and what is handed on to '...'. -/
theorem wl_buildSlice {t e n : Nat} [hsl : SlTy P t e E.k] {z : List Value} [hz : Zero P e z] (xs : List α) {parts : Array (Nat × Operand)} (hw : Region.wanted o (yielded ops a.tmps) = true) (ho : o.op = .buildSlice t n parts)
    (hparts : (parts.map fun p => (p.1, a.eval p.2)) = (xs.zipIdx.map fun p => (p.2, E.val p.1)).toArray) (hl : xs.length = n) (hn : 0 < n) (hx : n * E.k ≤ 16777216) (hS : Sh B H w)
    (h : ∀ b w', Sh B (rowA (some ⟨b, 0, none⟩) (flat E xs ++ []) e ++ H) w' → OwnSl E (some ⟨b, 0, none⟩) xs [] n → wpList P ops Q rest (a.put o.dst (.slice (some ⟨b, 0, none⟩) n n)) w') : wpList P ops Q (o :: rest) a w := by
  subst hl
  have hparts' : (parts.map fun (i, x) => (i, a.eval x)) = (xs.zipIdx.map fun p => (p.2, E.val p.1)).toArray := hparts
  refine wl_to hw (by simp only [execOp, ho, Sem.run_bind, hparts', run_buildSlice xs hx hn w]; rfl) (h w.heap.size _ ?_ ⟨fun e => (by cases e), fun ad e => (by cases e; rfl), by simp, ?_⟩)
  · rw [List.append_nil]; exact hS.alloc _
  · have := E.pos
    have : xs.length ≤ xs.length * E.k := Nat.le_mul_of_pos_right _ E.pos
    simp only [maxLen]; omega
end

theorem ElTy.of {P : Program} {e k bytes : Nat} {z : Value} (h : (P.info? e).map (fun i => (i.zero, i.size, i.bytes)) = some (some z, k, bytes)) (hz : z.cells.size = k) : ElTy P e k bytes := by
  obtain ⟨i, h1, h2, h3, h4⟩ := info_parts h
  exact ⟨i, z, h1, h2, h3, h4, hz⟩

/-! ### Parts of structs -/
class Fld (P : Program) (S : TypeId) (f : Nat) (off T : outParam Nat) : Prop where
  out : ∃ fs fd, P.underlying S = some (.struct fs) ∧ fs[f]? = some fd ∧ fd.offset = off ∧ fd.type = T

section
variable {P : Program} {ops : Array Oper} {Q : Exit → Act → World → Prop} {rest : List Oper} {o : Oper} {a : Act} {w : World}

theorem run_field {S f off T : Nat} [h : Fld P S f off T] [IsScalar P T] {cs : List Value} {v : Value} (hv : cs[off]? = some v) (w : World) : (Instr.field S (.agg cs.toArray) f).run P w = .ok v w := by
  obtain ⟨fs, fd, hu, hf, ho, ht⟩ := h.out
  subst ho; subst ht
  simp [Instr.field, Sem.run_bind, run_underlying hu, hf, asAgg, part, run_isAgg_scalar, hv]
theorem run_isAgg_row {P : Program} {T n : TypeId} [h : IsRow P T n] (w : World) : (isAgg T).run P w = .ok true w := by
  obtain ⟨d, hu, hd⟩ := h.out
  unfold isAgg
  rw [Sem.run_bind, run_underlying hu w]
  cases d <;> simp_all
theorem run_fieldr {S f off T n : Nat} [h : Fld P S f off T] [hT : IsRow P T n] (cs : List Value) (w : World) : (Instr.field S (.agg cs.toArray) f).run P w = .ok (.agg ((cs.drop off).take n).toArray) w := by
  obtain ⟨fs, fd, hu, hf, ho, ht⟩ := h.out
  subst ho; subst ht
  simp [Instr.field, Sem.run_bind, run_underlying hu, hf, asAgg, part, run_isAgg_row, run_sizeOf hT.size]

/-- x.f, one cell. -/
theorem wl_fld {S f off T : Nat} {x : Operand} {cs : List Value} {v : Value} [Fld P S f off T] [IsScalar P T] (hw : Region.wanted o (yielded ops a.tmps) = true) (ho : o.op = .field S x f)
    (hx : a.eval x = .agg cs.toArray) (hv : cs[off]? = some v) (h : wpList P ops Q rest (a.put o.dst v) w) : wpList P ops Q (o :: rest) a w :=
  wl_value hw (by simp [execOp, ho, hx, run_field hv]) h
/-- x.f, a struct or an array. -/
theorem wl_fldr {S f off T n : Nat} {x : Operand} {cs vs : List Value} [Fld P S f off T] [IsRow P T n] (hw : Region.wanted o (yielded ops a.tmps) = true) (ho : o.op = .field S x f)
    (hx : a.eval x = .agg cs.toArray) (hv : (cs.drop off).take n = vs) (h : wpList P ops Q rest (a.put o.dst (.agg vs.toArray)) w) : wpList P ops Q (o :: rest) a w :=
  wl_value hw (by simp [execOp, ho, hx, run_fieldr, hv]) h
end
end Go.Tk

set_option linter.unusedSectionVars false
set_option linter.unusedSimpArgs false
set_option linter.unusedVariables false
namespace Go.Tk
open Go.RowKit

section
variable {P : Program} {w : World}
theorem ldv_row {T n b off : Nat} [h : IsRow P T n] {cs : List Value} (hc : w.rangeAt b off cs) (hn : cs.length = n) : (loadVar T ⟨b, off, none⟩).run P w = .ok (.agg cs.toArray) w := by
  obtain ⟨d, hu, hd⟩ := h.out
  exact run_loadVar_mid w b off T cs d hc hu hd (by rw [hn]; exact h.size)
theorem ldv_sc {T : Nat} [IsScalar P T] {a : Addr} {v : Value} (hc : w.cell? a = some v) : (loadVar T a).run P w = .ok v w := by
  simp [loadVar, Sem.run_bind, run_isAgg_scalar, load, Sem.run, hc]

inductive ResOk (P : Program) (w : World) (tmps : Array Value) : List ResultVar → List Value → Prop
  | nil : ResOk P w tmps [] []
  | tmp {t : Tmp} {rs : List ResultVar} {vs : List Value} : ResOk P w tmps rs vs → ResOk P w tmps (.tmp t :: rs) (tmps.getD t undef :: vs)
  | cell {t : Tmp} {T : TypeId} {a : Addr} {v : Value} {rs : List ResultVar} {vs : List Value} : tmps.getD t undef = .pointer (some a) → (loadVar T a).run P w = .ok v w → ResOk P w tmps rs vs → ResOk P w tmps (.cell t T :: rs) (v :: vs)

def resOf (tmps : Array Value) : ResultVar → Sem Value
  | .tmp t => pure (tmps.getD t undef)
  | .cell a t => do loadVar t (← asAddr (tmps.getD a undef))
theorem results_eq (fn : Func) (tmps : Array Value) : results fn tmps = (do let vs ← fn.results.mapM (resOf tmps); pure (if h : vs.size = 1 then vs[0] else .tuple vs)) := by
  unfold results
  congr 1

theorem ResOk.run {tmps : Array Value} {rs : List ResultVar} {vs : List Value} (h : ResOk P w tmps rs vs) :
    (rs.mapM (resOf tmps)).run P w = .ok vs w := by
  induction h with
  | nil => rfl
  | tmp _ ih => simp only [List.mapM_cons, resOf, Sem.run_bind, Sem.run_pure, Result.andThen_ok, ih]
  | @cell t T a v rs vs h1 h2 _ ih =>
    have ha : (asAddr (tmps.getD t undef)).run P w = .ok a w := by rw [h1]; rfl
    simp only [List.mapM_cons, resOf, Sem.run_bind, Sem.run_pure, Result.andThen_ok, ih, ha, h2]

def retV : List Value → Value
  | [v] => v
  | vs => .tuple vs.toArray

theorem run_results {fn : Func} {tmps : Array Value} {rs : List ResultVar} {vs : List Value} (hr : fn.results = rs.toArray) (h : ResOk P w tmps rs vs) : (results fn tmps).run P w = .ok (retV vs) w := by
  rw [results_eq, hr, List.mapM_toArray]
  have hm := h.run
  simp only [map_eq_pure_bind, Sem.run_bind, Sem.run_pure] at hm ⊢
  rw [hm]
  simp only [Result.andThen_ok]
  match vs with
  | [] => rfl
  | [v] => rfl
  | v :: u :: vs => simp [retV]

theorem bodyPost_res {fn : Func} {R : Ending → World → Prop} {a : Act} {rs : List ResultVar} {vs : List Value} (hr : fn.results = rs.toArray) (h : ResOk P w a.tmps rs vs) (hd : a.defers = [])
    (hR : R (.returned (retV vs)) w) : bodyPost P fn R .ret a w := bodyPost_ret (run_results hr h) hd hR
theorem bodyPost_resE {fn : Func} {R : Ending → World → Prop} {a : Act} {rs : List ResultVar} {vs : List Value} (hr : fn.results = rs.toArray) (h : ResOk P w a.tmps rs vs) (hd : a.defers = [])
    (hR : R (.returned (retV vs)) w) : bodyPost P fn R .normal a w := bodyPost_end (run_results hr h) hd hR
end
end Go.Tk

set_option linter.unusedSectionVars false
set_option linter.unusedSimpArgs false
set_option linter.unusedVariables false
namespace Go.Tk
open Go.RowKit

section
variable {P : Program} {ops : Array Oper} {Q : Exit → Act → World → Prop} {S : World → Prop}

/-- The operations in an order: 'true': it only reads. -/
def wpH (P : Program) (ops : Array Oper) (Q : Exit → Act → World → Prop) (S : World → Prop) : List (Nat × Bool) → Act → World → Prop
  | [], a, w => Q .normal a w
  | (i, true) :: rest, a, w => ∃ o v, ops[i]? = some o ∧ YieldsIf P ops S o v a ∧ S w ∧ wpH P ops Q S rest (a.put o.dst v) w
  | (i, false) :: rest, a, w => wpOp P ops Q i (fun a' w' => S w' ∧ wpH P ops Q S rest a' w') a w

def okOrder (ops : Array Oper) : List (Nat × Bool) → Array Bool → Bool
  | [], listed => (Region.ready .any ops listed).isEmpty
  | (i, true) :: rest, listed => Region.free .any ops listed i && (Region.ready .any ops listed).contains i && okOrder ops rest (listed.setIfInBounds i true)
  | (i, false) :: rest, listed => (Region.ready .any ops listed == [i]) && okOrder ops rest (listed.setIfInBounds i true)

theorem wpH_sound (hs : Region.noSelect ops = true) (hQ : ∀ d v c a w, Q (.panic c) (Act.put a d v) w → Q (.panic c) a w) :
    ∀ (l : List (Nat × Bool)) (listed : Array Bool) (fuel : Nat) (a : Act) (w : World), okOrder ops l listed = true → l.length ≤ fuel → wpH P ops Q S l a w → wpAnyH P .any ops Q S fuel listed a w
  | [], listed, fuel, a, w, ho, _, h => by
    simp only [okOrder, List.isEmpty_iff] at ho
    exact wpAnyH_done ho h fuel
  | (i, true) :: rest, listed, fuel, a, w, ho, hf, h => by
    simp only [okOrder, Bool.and_eq_true] at ho
    obtain ⟨o, v, hi, hy, hS, h⟩ := h
    obtain ⟨fuel, rfl⟩ : ∃ m, fuel = m + 1 := ⟨fuel - 1, by simp at hf; omega⟩
    exact wpAnyH_take hi hs ho.1.1 ho.1.2 (hQ _ _) hy hS (wpH_sound hs hQ rest _ fuel _ w ho.2 (by simp at hf; omega) h)
  | (i, false) :: rest, listed, fuel, a, w, ho, hf, h => by
    simp only [okOrder, Bool.and_eq_true, beq_iff_eq] at ho
    obtain ⟨fuel, rfl⟩ : ∃ m, fuel = m + 1 := ⟨fuel - 1, by simp at hf; omega⟩
    refine wpAnyH_all ho.1 (by simp) ?_
    intro j hj
    simp only [List.mem_singleton] at hj
    subst hj
    exact wpOp_mono (fun a' w' h' => ⟨h'.1, wpH_sound hs hQ rest _ fuel _ _ ho.2 (by simp at hf; omega) h'.2⟩) h

theorem wp_drawn' {id : Nat} {a : Act} {w : World} (l : List (Nat × Bool)) (hm : P.follows .mixedOrders = true) (hs : (Region.noSelect ops && okOrder ops l (Array.replicate ops.size false) && decide (l.length ≤ ops.size)) = true)
    (hQ : ∀ d v c a w, Q (.panic c) (Act.put a d v) w → Q (.panic c) a w) (h : wpH P ops Q S l a w.drew) : (Code.region id ops true).wp P Q a w := by
  simp only [Bool.and_eq_true, decide_eq_true_eq] at hs
  exact wp_region_held (S := S) hm (wpH_sound hs.1.1 hQ l _ _ a _ hs.1.2 hs.2 h)

/-- The operation at a place. -/
def opAt : List Oper → Nat → Oper
  | o :: _, 0 => o
  | _ :: os, n + 1 => opAt os n
  | [], _ => default
def picks (ops : List Oper) (l : List (Nat × Bool)) : List (Oper × Bool) := l.map fun p => (opAt ops p.1, p.2)
theorem picks_nil (ops : List Oper) : picks ops [] = [] := rfl
theorem picks_cons (ops : List Oper) (i : Nat) (b : Bool) (l : List (Nat × Bool)) : picks ops ((i, b) :: l) = (opAt ops i, b) :: picks ops l := rfl
theorem opAt_get : ∀ {ops : List Oper} {i : Nat}, i < ops.length → ops[i]? = some (opAt ops i)
  | _ :: _, 0, _ => by simp [opAt]
  | _ :: os, n + 1, h => by simp only [List.getElem?_cons_succ, opAt]; exact opAt_get (by simpa using h)

/-- The operations themselves in an order. -/
def wpG (P : Program) (ops : Array Oper) (Q : Exit → Act → World → Prop) (S : World → Prop) : List (Oper × Bool) → Act → World → Prop
  | [], a, w => Q .normal a w
  | (o, true) :: rest, a, w => ∃ v, YieldsIf P ops S o v a ∧ S w ∧ wpG P ops Q S rest (a.put o.dst v) w
  | (o, false) :: rest, a, w => wpList P ops (Exit.then (fun a' w' => S w' ∧ wpG P ops Q S rest a' w') Q) [o] a w

theorem uponQ {o : Oper} {a : Act} {K : Act → World → Prop} {Q1 Q2 : Exit → Act → World → Prop} {r : Result Next} (h1 : ∀ c a w, Q1 (.panic c) a w → Q2 (.panic c) a w) (h2 : LetsOut Q1 → LetsOut Q2)
    (h : o.upon P a K Q1 r) : o.upon P a K Q2 r := by
  cases r with
  | ok n w =>
    cases n <;> simp only [Oper.upon] at h ⊢ <;> try exact h
    case enter f args =>
      refine h.mono fun e w' he => ?_
      cases e with
      | returned v => exact he
      | panicked c => exact h1 _ _ _ he
      | outgrown => exact h2 he
  | halt x w =>
    cases x <;> simp only [Oper.upon] at h ⊢ <;> try exact h
    case panic v => exact h1 _ _ _ h

theorem wpH_E {i : Nat} {o : Oper} {K : Act → World → Prop} {a : Act} {w : World} (hi : ops[i]? = some o)
    (h : wpList P ops (Exit.then K Q) [o] a w) : wpOp P ops Q i K a w := by
  unfold wpOp
  rw [hi]
  simp only [wpList] at h
  split at h
  · rename_i hw
    simp only [hw, if_true]
    rcases h with h | ⟨h1, h2⟩
    · left
      unfold Oper.wp at h ⊢
      refine uponQ ?_ ?_ h
      · intro c a w h; exact h
      · rintro ⟨a0, w0, h0⟩; exact ⟨a0, w0, h0⟩
    · right
      obtain ⟨a0, w0, h0⟩ := h2
      exact ⟨h1, a0, w0, h0⟩
  · rename_i hw
    simp only [hw, if_false]
    exact h

theorem wpG_sound : ∀ (l : List (Nat × Bool)) (a : Act) (w : World), (∀ p ∈ l, p.1 < ops.size) → wpG P ops Q S (picks ops.toList l) a w → wpH P ops Q S l a w
  | [], a, w, _, h => h
  | (i, true) :: rest, a, w, hl, h => by
    obtain ⟨v, hy, hS, h⟩ := h
    have hi : ops[i]? = some (opAt ops.toList i) := by have := opAt_get (ops := ops.toList) (i := i) (by simpa using hl (i, true) List.mem_cons_self); simpa using this
    exact ⟨_, v, hi, hy, hS, wpG_sound rest _ w (fun p hp => hl p (List.mem_cons_of_mem _ hp)) h⟩
  | (i, false) :: rest, a, w, hl, h => by
    have hi : ops[i]? = some (opAt ops.toList i) := by have := opAt_get (ops := ops.toList) (i := i) (by simpa using hl (i, false) List.mem_cons_self); simpa using this
    refine wpOp_mono (fun a' w' h' => ⟨h'.1, wpG_sound rest a' w' (fun p hp => hl p (List.mem_cons_of_mem _ hp)) h'.2⟩) (wpH_E hi h)

theorem wp_drawn {id : Nat} {a : Act} {w : World} (l : List (Nat × Bool)) (hm : P.follows .mixedOrders = true)
    (hs : (Region.noSelect ops && okOrder ops l (Array.replicate ops.size false) && decide (l.length ≤ ops.size) && l.all (fun p => decide (p.1 < ops.size))) = true)
    (hQ : ∀ d v c a w, Q (.panic c) (Act.put a d v) w → Q (.panic c) a w) (h : wpG P ops Q S (picks ops.toList l) a w.drew) : (Code.region id ops true).wp P Q a w := by
  simp only [Bool.and_eq_true, decide_eq_true_eq, List.all_eq_true] at hs
  exact wp_drawn' l hm (by simp [hs.1]) hQ (wpG_sound l _ _ (fun p hp => hs.2 p hp) h)

theorem wpH_nil {a : Act} {w : World} (h : Q .normal a w) : wpG P ops Q S [] a w := h
theorem wpH_done {K C : Act → World → Prop} {Q' : Exit → Act → World → Prop} {a : Act} {w : World} (hK : ∀ a w, C a w → K a w) (h : C a w) : wpG P ops (Exit.then K Q') S [] a w := hK _ _ h
/-- One that only reads. -/
theorem wpH_U {o : Oper} {v : Value} {rest : List (Oper × Bool)} {a : Act} {w : World} (hw : Region.wanted o (yielded ops a.tmps) = true)
    (hy : ∀ w, S w → (execOp a.eval o).run P w = .ok (.value v) w) (hS : S w) (h : wpG P ops Q S rest (a.put o.dst v) w) : wpG P ops Q S ((o, true) :: rest) a w := ⟨v, .inl ⟨hw, hy⟩, hS, h⟩
/-- One that is not carried out. -/
theorem wpH_not {o : Oper} {rest : List (Oper × Bool)} {a : Act} {w : World} (hw : Region.wanted o (yielded ops a.tmps) = false)
    (hS : S w) (h : wpG P ops Q S rest (a.put o.dst undef) w) : wpG P ops Q S ((o, true) :: rest) a w := ⟨undef, .inr ⟨hw, rfl⟩, hS, h⟩
theorem wpH_ex {o : Oper} {rest : List (Oper × Bool)} {a : Act} {w : World} 
    (h : wpList P ops (Exit.then (fun a' w' => S w' ∧ wpG P ops Q S rest a' w') Q) [o] a w) : wpG P ops Q S ((o, false) :: rest) a w := h
end

/-- Which order: what only reads first; else the one that may come up. -/
def planGo (ops : Array Oper) (isU : Oper → Bool) : Nat → Array Bool → List (Nat × Bool) → List (Nat × Bool)
  | 0, _, acc => acc.reverse
  | fuel + 1, listed, acc =>
    let rs := Region.ready .any ops listed
    match rs.find? (fun i => ((ops[i]?).map isU).getD false && Region.free .any ops listed i) with
    | some i => planGo ops isU fuel (listed.setIfInBounds i true) ((i, true) :: acc)
    | none => match rs with
      | [i] => planGo ops isU fuel (listed.setIfInBounds i true) ((i, false) :: acc)
      | _ => acc.reverse
def plan (ops : Array Oper) (isU : Oper → Bool) : List (Nat × Bool) := planGo ops isU ops.size (Array.replicate ops.size false) []
def onlyReads (o : Oper) : Bool :=
  match o.op with
  | .move _ | .assign _ | .pick .. | .nilCheck _ | .binOp .. | .unOp .. | .extract .. | .field .. | .fieldAddr .. | .index .. | .indexAddr .. | .slice .. | .build .. | .load .. | .lookup .. => true
  | .call { callee := .builtin .len, .. } | .call { callee := .builtin .cap, .. } => true
  | _ => false

/-- A function with a body. -/
class EntersC (P : Program) (f : FuncId) : Prop where out : ∀ ar w, (callFunc f ar).run P w = .ok (.enter f ar) w

section
variable {P : Program} {ops : Array Oper} {Q : Exit → Act → World → Prop} {rest : List Oper} {o : Oper} {a : Act} {w : World}
/-- A call: the callee by its contract. -/
theorem wl_call {f : FuncId} {args : Array Operand} {ats : Array TypeId} {ar : List Value} [he : EntersC P f] (hw : Region.wanted o (yielded ops a.tmps) = true) (ho : o.op = .call { callee := .value (.func f), args := args, argTypes := ats })
    (ha : args.toList.map a.eval = ar) (h : Calls P f ar.toArray w fun e w' => ∃ v, e = .returned v ∧ wpList P ops Q rest (a.put o.dst v) w') : wpList P ops Q (o :: rest) a w := by
  refine wpList_step fun K hK => ?_
  rw [if_pos hw]
  have ha' : args.map a.eval = ar.toArray := by rw [← ha]; apply Array.ext'; simp
  have hrun : (execOp a.eval o).run P w = .ok (.enter f ar.toArray) w := by
    have e1 : a.eval (.func f) = .func (.func f) #[] #[] := rfl
    have := he.out ar.toArray w
    simp [execOp, ho, resolve, e1, Deferred.ofValue, invoke, ha', this]
  unfold Oper.wp
  rw [hrun]
  refine h.mono fun e w' he => ?_
  obtain ⟨v, rfl, hv⟩ := he
  exact hK _ _ hv
end

section
variable {P : Program} {o : Oper} {a : Act} {w : World}
theorem ex_ld {T : TypeId} {x : Operand} {ad : Addr} {v : Value} (ho : o.op = .load T x) [IsScalar P T] (hx : a.eval x = .pointer (some ad)) (hc : w.cell? ad = some v) : (execOp a.eval o).run P w = .ok (.value v) w :=
  exec_load ho hx (run_loadAt_scalar hc)
theorem ex_ldr {T n : Nat} {x : Operand} {b off : Nat} {cs : List Value} (ho : o.op = .load T x) [IsRow P T n] (hx : a.eval x = .pointer (some ⟨b, off, none⟩)) (hc : w.rangeAt b off cs) (hn : cs.length = n) : (execOp a.eval o).run P w = .ok (.value (.agg cs.toArray)) w :=
  exec_load ho hx (run_loadAt_row hc hn)
theorem ex_idx {t e k : Nat} {x i : Operand} {A : Option Addr} {n cap : Nat} {kk : IntKind} {ii : Int} (ho : o.op = .indexAddr t x i) [SlTy P t e k] (hx : a.eval x = .slice A n cap) (hi : a.eval i = .int kk ii) (h0 : 0 ≤ ii) (h1 : ii < n) (hok : SlOk A n) :
    (execOp a.eval o).run P w = .ok (.value (.pointer (some ⟨blkA A, offA A + ii.toNat * k, none⟩))) w := by simp [execOp, ho, hx, hi, run_indexAt h0 h1 hok w]
end

/-! ### Structs and arrays written out -/
class StructTy (P : Program) (t : TypeId) (z : outParam (List Value)) (ps : outParam (List (Nat × Nat))) : Prop where out : ∀ parts, P.built t parts = Instr.fill (fun i => ps.toArray[i]?) z.toArray parts
class ArrTy (P : Program) (t : TypeId) (z : outParam (List Value)) (k : outParam Nat) : Prop where out : ∀ parts, P.built t parts = Instr.fill (fun i => some (i * k, k)) z.toArray parts

theorem fill_nil (pl : Nat → Option (Nat × Nat)) (z : List Value) : Instr.fill pl z.toArray [] = some z.toArray := rfl
theorem fill_put (l : List Value) : ∀ (off j0 : Nat) (p q r : List Value), p.length = off + j0 → q.length = l.length →
    (l.zipIdx j0).foldl (fun (cs : Array Value) (x : Value × Nat) => cs.setIfInBounds (off + x.2) x.1) (p ++ (q ++ r)).toArray = (p ++ (l ++ r)).toArray := by
  induction l with
  | nil =>
    intro off j0 p q r hp hq
    have : q = [] := List.length_eq_zero_iff.1 hq
    subst this
    rfl
  | cons v l ih =>
    intro off j0 p q r hp hq
    cases q with
    | nil => simp at hq
    | cons y q =>
      rw [List.zipIdx_cons, List.foldl_cons]
      have e : (p ++ (y :: q ++ r)).toArray.setIfInBounds (off + j0) v = ((p ++ [v]) ++ (q ++ r)).toArray := by
        rw [List.setIfInBounds_toArray, List.set_append_right _ _ (by omega), hp, Nat.sub_self]
        simp
      rw [e, ih off (j0 + 1) (p ++ [v]) q r (by simp; omega) (by simpa using hq)]
      simp
theorem fill_cons {pl : Nat → Option (Nat × Nat)} {i off n : Nat} {v : Value} (l : List Value) {rest : List (Nat × Value)} (p q r : List Value) (hp : pl i = some (off, n)) (hv : v.cells = l.toArray) (hl : l.length = n) (hq : q.length = n) (ho : p.length = off) :
    Instr.fill pl (p ++ (q ++ r)).toArray ((i, v) :: rest) = Instr.fill pl (p ++ (l ++ r)).toArray rest := by
  subst hl; subst ho
  have hpos : ¬ (decide (v.cells.size ≠ l.length) || decide (p.length + v.cells.size > (p ++ (q ++ r)).toArray.size)) = true := by simp [hv, hq]
  rw [Instr.fill, hp]
  simp only
  rw [if_neg hpos, hv]
  congr 1
  have := fill_put l p.length 0 p q r (by simp) hq
  rw [← this, ← Array.foldl_toList, Array.toList_zipIdx]

section
variable {P : Program} {ops : Array Oper} {Q : Exit → Act → World → Prop} {rest : List Oper} {o : Oper} {a : Act} {w : World}
theorem ex_build {t : TypeId} {parts : Array (Nat × Operand)} {z : List Value} {ps : List (Nat × Nat)} [h : StructTy P t z ps] (cs : List Value) (l : List (Nat × Value)) (ho : o.op = .build t parts) (hl : (parts.map fun p => (p.1, a.eval p.2)) = l.toArray)
    (hf : Instr.fill (fun i => ps.toArray[i]?) z.toArray l = some cs.toArray) : (execOp a.eval o).run P w = .ok (.value (.agg cs.toArray)) w := by
  have hb := run_build w t l.toArray cs.toArray (by rw [h.out]; exact hf)
  have e : (parts.map fun x => (x.1, a.eval x.2)) = l.toArray := hl
  simp only [execOp, ho]
  simp [Sem.run_bind, e, hb]
theorem ex_buildA {t k : TypeId} {parts : Array (Nat × Operand)} {z : List Value} [h : ArrTy P t z k] (cs : List Value) (l : List (Nat × Value)) (ho : o.op = .build t parts) (hl : (parts.map fun p => (p.1, a.eval p.2)) = l.toArray)
    (hf : Instr.fill (fun i => some (i * k, k)) z.toArray l = some cs.toArray) : (execOp a.eval o).run P w = .ok (.value (.agg cs.toArray)) w := by
  have hb := run_build w t l.toArray cs.toArray (by rw [h.out]; exact hf)
  have e : (parts.map fun x => (x.1, a.eval x.2)) = l.toArray := hl
  simp only [execOp, ho]
  simp [Sem.run_bind, e, hb]
theorem wl_build {t : TypeId} {parts : Array (Nat × Operand)} {z : List Value} {ps : List (Nat × Nat)} [StructTy P t z ps] (cs : List Value) (l : List (Nat × Value)) (hw : Region.wanted o (yielded ops a.tmps) = true) (ho : o.op = .build t parts) (hl : (parts.map fun p => (p.1, a.eval p.2)) = l.toArray)
    (hf : Instr.fill (fun i => ps.toArray[i]?) z.toArray l = some cs.toArray) (h : wpList P ops Q rest (a.put o.dst (.agg cs.toArray)) w) : wpList P ops Q (o :: rest) a w := wl_value hw (ex_build cs l ho hl hf) h
theorem wl_buildA {t k : TypeId} {parts : Array (Nat × Operand)} {z : List Value} [ArrTy P t z k] (cs : List Value) (l : List (Nat × Value)) (hw : Region.wanted o (yielded ops a.tmps) = true) (ho : o.op = .build t parts) (hl : (parts.map fun p => (p.1, a.eval p.2)) = l.toArray)
    (hf : Instr.fill (fun i => some (i * k, k)) z.toArray l = some cs.toArray) (h : wpList P ops Q rest (a.put o.dst (.agg cs.toArray)) w) : wpList P ops Q (o :: rest) a w := wl_value hw (ex_buildA cs l ho hl hf) h
end
end Go.Tk

set_option linter.unusedSectionVars false
set_option linter.unusedSimpArgs false
set_option linter.unusedVariables false
namespace Go.Tk
open Go.RowKit

/-- Slots written over. -/
def setsT (t : Array Value) : List Nat → List Value → Array Value
  | i :: is, v :: vs => setsT (t.setIfInBounds i v) is vs
  | _, _ => t
def junkT (t : Array Value) (J : Nat → Value) : List Nat → Array Value
  | i :: is => junkT (t.setIfInBounds i (J i)) J is
  | [] => t

/-- A frame behind a round, by the frame ahead of the loop. -/
def Frm (a0 : Act) (sig junk : List Nat) (vs : List Value) (J : Nat → Value) : Act := ⟨junkT (setsT a0.tmps sig vs) J junk, a0.defers⟩

theorem junkT_get (J : Nat → Value) (k : Nat) : ∀ (is : List Nat) (t : Array Value), (junkT t J is)[k]? = if k ∈ is ∧ k < t.size then some (J k) else t[k]?
  | [], t => by simp [junkT]
  | i :: is, t => by
    rw [junkT, junkT_get J k is, Array.size_setIfInBounds, Array.getElem?_setIfInBounds]
    by_cases h1 : k ∈ is <;> by_cases h2 : k < t.size <;> by_cases h3 : i = k
    all_goals first | subst h3 | skip
    all_goals simp_all
    all_goals (try intro h; exact absurd h.symm h3)
theorem setsT_map (f : Nat → Value) : ∀ (is : List Nat) (t : Array Value), setsT t is (is.map f) = junkT t f is
  | [], t => rfl
  | i :: is, t => by simp only [List.map_cons, setsT, junkT]; exact setsT_map f is _
theorem junkT_append (f : Nat → Value) : ∀ (is js : List Nat) (t : Array Value), junkT (junkT t f is) f js = junkT t f (is ++ js)
  | [], js, t => rfl
  | i :: is, js, t => by simp only [List.cons_append, junkT]; exact junkT_append f is js _
def blankT (t : Array Value) (is : List Nat) : Array Value := junkT t (fun _ => undef) is

theorem frm_of {a0 a : Act} {sig junk : List Nat} {vs : List Value} (hv : vs = sig.map fun i => a.tmps.getD i undef) (hb : blankT a.tmps (sig ++ junk) = blankT a0.tmps (sig ++ junk)) (hd : a.defers = a0.defers) :
    a = Frm a0 sig junk vs (fun i => a.tmps.getD i undef) := by
  subst hv
  cases a with
  | mk t d =>
    unfold Frm
    rw [setsT_map, junkT_append]
    simp only at hd
    subst hd
    congr 1
    apply Array.ext_getElem?
    intro k
    rw [junkT_get]
    have hk := congrArg (fun x => x[k]?) hb
    simp only [blankT, junkT_get] at hk
    have hs : t.size = a0.tmps.size := by
      have e1 : ∀ (is : List Nat) (t : Array Value), (blankT t is).size = t.size := by
        intro is
        induction is with
        | nil => intro t; rfl
        | cons i is ih => intro t; unfold blankT at ih ⊢; rw [junkT, ih]; simp
      have := congrArg Array.size hb
      rwa [e1, e1] at this
    by_cases h1 : k ∈ sig ++ junk <;> by_cases h2 : k < t.size
    · rw [if_pos ⟨h1, hs ▸ h2⟩]; simp [Array.getD, h2]
    · rw [if_neg (by rw [← hs]; exact fun h => h2 h.2)]; simp at h2 ⊢; rw [Array.getElem?_eq_none h2, Array.getElem?_eq_none (by omega)]
    · rw [if_neg (fun h => h1 h.1), if_neg (fun h => h1 h.1)] at hk
      rw [if_neg (fun h => h1 h.1), hk]
    · rw [if_neg (fun h => h1 h.1), if_neg (fun h => h1 h.1)] at hk
      rw [if_neg (fun h => h1 h.1), hk]

/-- A round's end. -/
def RoundEnd {σ : Type} (a0 : Act) (sig junk : List Nat) (enc : σ → List Value) (I : σ → World → Prop) (less : σ → Prop) (a : Act) (w : World) : Prop :=
  ∃ s, I s w ∧ less s ∧ enc s = (sig.map fun i => a.tmps.getD i undef) ∧ blankT a.tmps (sig ++ junk) = blankT a0.tmps (sig ++ junk) ∧ a.defers = a0.defers

theorem exists_least {p : Nat → Prop} : ∀ n, p n → ∃ n, p n ∧ ∀ m, p m → n ≤ m := by
  intro n
  induction n using Nat.strongRecOn with
  | _ n ih =>
    intro hn
    by_cases h : ∃ m, m < n ∧ p m
    · obtain ⟨m, hm, hp⟩ := h
      exact ih m hm hp
    · exact ⟨n, hn, fun m hp => Nat.le_of_not_lt fun hlt => h ⟨m, hlt, hp⟩⟩
open Classical in
noncomputable def least (p : Nat → Prop) : Nat := if h : ∃ n, p n then Classical.choose (exists_least h.choose h.choose_spec) else 0
theorem least_le {p : Nat → Prop} {n : Nat} (h : p n) : least p ≤ n := by
  have h' : ∃ n, p n := ⟨n, h⟩
  unfold least
  rw [dif_pos h']
  exact (Classical.choose_spec (exists_least h'.choose h'.choose_spec)).2 n h
theorem least_holds {p : Nat → Prop} {n : Nat} (h : p n) : p (least p) := by
  have h' : ∃ n, p n := ⟨n, h⟩
  unfold least
  rw [dif_pos h']
  exact (Classical.choose_spec (exists_least h'.choose h'.choose_spec)).1

theorem wp_loopS {P : Program} {c : Code} {Q : Exit → Act → World → Prop} {a0 : Act} {w0 : World} {σ : Type} (sig junk : List Nat) (enc : σ → List Value) (I : σ → World → Prop) (μ : σ → Nat) (s0 : σ)
    (h0 : enc s0 = sig.map fun i => a0.tmps.getD i undef) (hI : I s0 w0)
    (round : ∀ s J w, I s w → c.wp P (Exit.then (RoundEnd a0 sig junk enc I (fun s' => μ s' < μ s)) Q) (Frm a0 sig junk (enc s) J) w) : (Code.loop c).wp P Q a0 w0 := by
  refine wp_loop (fun a w => ∃ s J, I s w ∧ a = Frm a0 sig junk (enc s) J) (fun a w => least fun n => ∃ s J, I s w ∧ a = Frm a0 sig junk (enc s) J ∧ n = μ s) ⟨s0, _, hI, frm_of h0 rfl rfl⟩ ?_
  rintro a w ⟨s1, J1, h1, h2⟩
  obtain ⟨s, J, hI, ha, hm⟩ := least_holds (p := fun n => ∃ s J, I s w ∧ a = Frm a0 sig junk (enc s) J ∧ n = μ s) ⟨s1, J1, h1, h2, rfl⟩
  rw [hm]
  subst ha
  refine Code.wp_mono ?_ (round s J w hI)
  intro e a' w' h
  cases e <;> try exact h
  obtain ⟨s', hI', hl, hv, hb, hd⟩ := h
  have ha' := frm_of hv hb hd
  refine ⟨⟨s', _, hI', ha'⟩, Nat.lt_of_le_of_lt (least_le ⟨s', _, hI', ha', rfl⟩) hl⟩

theorem OwnSl.nothing {α : Type} {E : Enc α} : OwnSl E none [] [] 0 := ⟨fun _ => ⟨rfl, rfl, rfl⟩, (fun _ h => nomatch h), (by simp), Nat.zero_le _⟩
theorem wrap_succ {i n : Nat} (h : i < n) (hn : n ≤ 9223372036854775807) : wrap64 ((i : Int) + 1) = ((i + 1 : Nat) : Int) := by unfold wrap64; omega
/-- A piece among the others. -/
class HasIn (H C : HL) : Prop where out : ∀ p, p ∈ C → p ∈ H
instance (priority := 2000) HasIn.hd {C R : HL} : HasIn (C ++ R) C := ⟨fun _ h => List.mem_append_left _ h⟩
instance (priority := 500) HasIn.tl {d R C : HL} [h : HasIn R C] : HasIn (d ++ R) C := ⟨fun p hp => List.mem_append_right _ (h.out p hp)⟩
theorem Sh.ldIn {B : Base} {H : HL} {w : World} (C : HL) [h : HasIn H C] (hS : Sh B H w) {b off T : Nat} {l : List Value} {v : Value} (hm : (b, Obj.cells l.toArray T) ∈ C) (hv : l[off]? = some v) : w.cell? ⟨b, off, none⟩ = some v := by
  have := hS.own _ (h.out _ hm)
  simp [World.cell?, this, hv]
theorem Sh.rangeIn {B : Base} {H : HL} {w : World} (C : HL) [h : HasIn H C] (hS : Sh B H w) {b T : Nat} {l : List Value} (hm : (b, Obj.cells l.toArray T) ∈ C) (off n : Nat) : w.rangeAt b off ((l.drop off).take n) := by
  intro j v hv
  refine hS.ldIn C hm ?_
  rw [List.getElem?_take] at hv
  split at hv
  · rwa [List.getElem?_drop] at hv
  · cases hv
/-- Pieces in another order, some dropped. -/
class HasC (H c : HL) (R : outParam HL) : Prop where out : PickL H c R
instance (priority := 2000) HasC.hd {c R : HL} : HasC (c ++ R) c R := ⟨PickL.hd⟩
instance (priority := 500) HasC.tl {d R c R' : HL} [h : HasC R c R'] : HasC (d ++ R) c (d ++ R') := ⟨PickL.tl h.out⟩
class Sup (H H' : HL) : Prop where out : ∀ (B : Base) (w : World), Sh B H w → Sh B H' w
instance (priority := 3000) Sup.self {H : HL} : Sup H H := ⟨fun _ _ h => h⟩
instance (priority := 2500) Sup.nil {H : HL} : Sup H [] := ⟨fun _ _ h => h.sub (List.nil_sublist _)⟩
theorem Sh.under {B : Base} {c R H' : HL} {w : World} (h : Sh B (c ++ R) w) (f : ∀ (B : Base) (w : World), Sh B R w → Sh B H' w) : Sh B (c ++ H') w := h.pop (f _ _ h.push)
instance (priority := 1000) Sup.cons {H c R H' : HL} [hc : HasC H c R] [hs : Sup R H'] : Sup H (c ++ H') := ⟨fun _ _ h => (h.pick hc.out).under hs.out⟩
instance (priority := 500) Sup.drop {d R H' : HL} [hs : Sup R H'] : Sup (d ++ R) H' := ⟨fun _ _ h => hs.out _ _ h.drop⟩
theorem Sh.to {B : Base} {H H' : HL} {w : World} (h : Sh B H w) [s : Sup H H'] : Sh B H' w := s.out _ _ h
end Go.Tk

set_option linter.unusedSectionVars false
set_option linter.unusedSimpArgs false
set_option linter.unusedVariables false
namespace Go.Proofs
end Go.Proofs
namespace Go.Tk
open Go.RowKit Go.Proofs

section
variable {P : Program} {w : World}
theorem part_sc {t : TypeId} [IsScalar P t] {xs : List Value} {off : Nat} {v : Value} (h : xs[off]? = some v) : (part t xs.toArray off).run P w = .ok v w := by
  simp [part, Sem.run_bind, run_isAgg_scalar, h]
theorem run_isAgg_row' {T n : TypeId} [h : IsRow P T n] (w : World) : (isAgg T).run P w = .ok true w := by
  obtain ⟨d, h1, h2⟩ := h.out
  unfold isAgg
  cases d <;> simp_all [Sem.run_bind, run_underlying h1, TypeDesc.isRow]
theorem part_row {t n : TypeId} [hr : IsRow P t n] (xs : List Value) (off : Nat) : (part t xs.toArray off).run P w = .ok (.agg ((xs.drop off).take n).toArray) w := by
  simp only [part, Sem.run_bind, run_isAgg_row', Result.andThen_ok, if_true, run_sizeOf hr.size]
  simp

theorem eqF_nil {d : Nat} {xs ys : Array Value} : (Op.eqFields d xs ys []).run P w = .ok true w := by simp [Op.eqFields]
theorem eqF_cons {d : Nat} {xs ys : Array Value} {f : Field} {fs : List Field} {a b : Value} {r s : Bool} (hn : (f.name == "_") = false) (ha : (part f.type xs f.offset).run P w = .ok a w) (hb : (part f.type ys f.offset).run P w = .ok b w)
    (he : (Op.equalIn d f.type a b).run P w = .ok r w) (hr : (Op.eqFields d xs ys fs).run P w = .ok s w) : (Op.eqFields d xs ys (f :: fs)).run P w = .ok (r && s) w := by
  have hn' : f.name ≠ "_" := by simpa using hn
  unfold Op.eqFields
  simp only [if_pos hn', Sem.run_bind, ha, hb, he, Result.andThen_ok]
  cases r
  · simp
  · simpa using hr
theorem eq_struct {d : Nat} {t : TypeId} {fs : Array Field} {xs ys : Array Value} {r : Bool} (hu : P.underlying t = some (.struct fs)) (hp : P.stoodInHeld t = false) (h : (Op.eqFields d xs ys fs.toList).run P w = .ok r w) :
    (Op.equalIn (d + 1) t (.agg xs) (.agg ys)).run P w = .ok r w := by
  have hf : P.fieldsOf t = fs := by simp [Program.fieldsOf, hu]
  rw [run_equalIn_struct (P := P) w d t xs ys (by rw [hf]; exact hu) hp, hf]
  exact h
theorem eq_int {d : Nat} {t : TypeId} {k k' : IntKind} {a b : Int} (hu : P.underlying t = some (.int k')) : (Op.equalIn (d + 1) t (.int k a) (.int k b)).run P w = .ok (a == b) w := run_equalIn_int w d t k k' a b hu

/-- A row of ints. -/
theorem eqItems_int {d : Nat} {e : TypeId} {k k' : IntKind} (hu : P.underlying e = some (.int k')) [IsScalar P e] (l m : List Int) (hl : l.length = m.length) : ∀ (is : List Nat), (∀ i ∈ is, i < l.length) →
    (Op.eqItems (d + 1) e 1 (l.map (Value.int k)).toArray (m.map (Value.int k)).toArray is).run P w = .ok (is.all fun i => l[i]? == m[i]?) w
  | [], _ => by simp [Op.eqItems]
  | i :: is, h => by
    have hi := h i (by simp)
    have h1 : (l.map (Value.int k))[i * 1]? = some (.int k l[i]) := by rw [Nat.mul_one, List.getElem?_map, List.getElem?_eq_getElem hi]; rfl
    have hi2 : i < m.length := hl ▸ hi
    have h2 : (m.map (Value.int k))[i * 1]? = some (.int k m[i]) := by rw [Nat.mul_one, List.getElem?_map, List.getElem?_eq_getElem hi2]; rfl
    have ih := eqItems_int (d := d) (k := k) hu l m hl is (fun j hj => h j (by simp [hj]))
    unfold Op.eqItems
    simp only [Sem.run_bind, part_sc h1, part_sc h2, Result.andThen_ok, eq_int hu]
    rw [List.all_cons, List.getElem?_eq_getElem hi, List.getElem?_eq_getElem hi2]
    by_cases hx : l[i] = m[i]
    · simp [hx, ih]
    · simp [hx]
theorem all_eq (l m : List Int) (hl : l.length = m.length) : ((List.range l.length).all fun i => l[i]? == m[i]?) = decide (l = m) := by
  rw [Bool.eq_iff_iff]
  simp only [List.all_eq_true, List.mem_range, beq_iff_eq, decide_eq_true_eq]
  constructor
  · intro h
    apply List.ext_getElem? 
    intro i
    by_cases hi : i < l.length
    · exact h i hi
    · rw [List.getElem?_eq_none (by omega), List.getElem?_eq_none (by omega)]
  · rintro rfl i _; rfl
theorem eq_ints {d n : Nat} {t e : TypeId} {k k' : IntKind} (hu : P.underlying t = some (.array n e)) (hi : (P.info? e).isSome = true) (hc : P.cellsOf e = 1) (he : P.underlying e = some (.int k')) [IsScalar P e] (l m : List Int) (hl : l.length = n) (hm : m.length = n) :
    (Op.equalIn (d + 2) t (.agg (l.map (Value.int k)).toArray) (.agg (m.map (Value.int k)).toArray)).run P w = .ok (decide (l = m)) w := by
  obtain ⟨i, hi⟩ := Option.isSome_iff_exists.1 hi
  rw [run_equalIn_array w (d + 1) _ _ hu hi, hc, eqItems_int he l m (by omega) _ (by intro i h; simp at h; omega)]
  subst hl
  rw [all_eq l m (by omega)]
end

section
variable {P : Program} {ops : Array Oper} {Q : Exit → Act → World → Prop} {rest : List Oper} {o : Oper} {a : Act} {w : World}
theorem ex_eql {t u : TypeId} {x y : Operand} {xs ys : Array Value} {r : Bool} (ho : o.op = .binOp .eql t x y u) (hx : a.eval x = .agg xs) (hy : a.eval y = .agg ys) (hm : P.eqGuardType P.depth t = false) (h : (Op.equalIn 10000 t (.agg xs) (.agg ys)).run P w = .ok r w) :
    (execOp a.eval o).run P w = .ok (.value (.bool r)) w := by
  have h1 : (binOp .eql t (.agg xs) (.agg ys)).run P w = .ok (.bool r) w := by rw [run_eql_struct, h]; rfl
  simp only [execOp, ho, hx, hy]
  simp [Sem.run_bind, run_eqGuard_agg w .eql t x y xs ys hm, h1]
end
end Go.Tk

set_option linter.unusedSectionVars false
set_option linter.unusedSimpArgs false
set_option linter.unusedVariables false
namespace Go.Tk
open Go.RowKit Go.Proofs Go.Proofs.YtclmemhginekbaaGreatDoor Go.Deep

def OpensAt {α : Type} (P : Program) (t : TypeId) (E : Enc α) (ok : Base → α → Prop) (bulk : α → Nat) : Prop :=
  ∀ {H : Type} (enc : TypeId × Value → H) (W : World) (fuel : Nat) (cs : List Value) (x : DataW H × List MemPlace), DataW.trod enc P W 0 (fun _ => true) true fuel t cs = some x →
    ∃ a : α, cs = E.cells a ∧ ok (Base.of W) a ∧ bulk a ≤ Rows.uptoBulk x.1

def intE (k : IntKind) : Enc Int := {
  val n := .int k n
  cells n := [.int k n]
  valc _ := rfl
  k := 1
  pos := by decide
  len _ := rfl
  one n v hv := by simp only [List.mem_singleton] at hv; subst hv; rfl }
def boolE : Enc Bool := {
  val n := .bool n
  cells n := [.bool n]
  valc _ := rfl
  k := 1
  pos := by decide
  len _ := rfl
  one n v hv := by simp only [List.mem_singleton] at hv; subst hv; rfl }
def strE : Enc ByteArray := {
  val n := .string n
  cells n := [.string n]
  valc _ := rfl
  k := 1
  pos := by decide
  len _ := rfl
  one n v hv := by simp only [List.mem_singleton] at hv; subst hv; rfl }
structure Sl (α : Type) where
  A : Option Addr
  n : Nat
  cap : Nat
  xs : List α
def slE (α : Type) : Enc (Sl α) := {
  val s := .slice s.A s.n s.cap
  cells s := [.slice s.A s.n s.cap]
  valc _ := rfl
  k := 1
  pos := by decide
  len _ := rfl
  one n v hv := by simp only [List.mem_singleton] at hv; subst hv; rfl }

section
variable {P : Program}
theorem opens_int {t : TypeId} {k : IntKind} (hu : P.underlying t = some (.int k)) : OpensAt P t (intE k) (fun _ n => (Lit.int k n).wf = true) (fun _ => 1) := by
  intro H enc W fuel cs x h
  obtain ⟨n, rfl, rfl, hw⟩ := DataW.trod_int hu h
  exact ⟨n, rfl, hw, by simp [Rows.uptoBulk]⟩
theorem bulk_pos {H : Type} (d : DataW H) : 1 ≤ Rows.uptoBulk d := by
  cases d with
  | lit l => cases l <;> simp [Rows.uptoBulk]
  | nil => simp [Rows.uptoBulk]
  | ptr d => simp [Rows.uptoBulk]
  | slice elems spare => simp [Rows.uptoBulk]
  | agg parts => simp [Rows.uptoBulk]
  | iface t d => simp [Rows.uptoBulk]
  | map entries => simp [Rows.uptoBulk]
  | held h => simp [Rows.uptoBulk]
theorem bulkAll_sum {H : Type} (l : List (DataW H)) : Rows.uptoBulkAll l = (l.map Rows.uptoBulk).sum := by
  induction l with
  | nil => simp [Rows.uptoBulkAll]
  | cons x l ih => simp [Rows.uptoBulkAll, ih]

theorem opens_bool {t : TypeId} (hu : P.underlying t = some .bool) : OpensAt P t boolE (fun _ _ => True) (fun _ => 1) := by
  intro H enc W fuel cs x h
  cases fuel with
  | zero => simp [DataW.trod] at h
  | succ n =>
    unfold DataW.trod at h
    rw [hu] at h
    split at h <;> simp_all
    exact ⟨by cases ‹Bool› <;> simp [boolE], bulk_pos _⟩
theorem opens_str {t : TypeId} (hu : P.underlying t = some .string) : OpensAt P t strE (fun _ s => s.size ≤ maxLen) (fun s => s.size + 1) := by
  intro H enc W fuel cs x h
  cases fuel with
  | zero => simp [DataW.trod] at h
  | succ n =>
    unfold DataW.trod at h
    rw [hu] at h
    split at h <;> simp_all
    obtain ⟨h1, rfl⟩ := h
    refine ⟨‹ByteArray›, by simp [strE], h1, ?_⟩
    simp [Rows.uptoBulk]

theorem choose_list {α : Type} {n : Nat} {p : Nat → α → Prop} (h : ∀ i, i < n → ∃ a, p i a) : ∃ l : List α, l.length = n ∧ ∀ i a, l[i]? = some a → p i a := by
  induction n with
  | zero => exact ⟨[], rfl, fun i a h => by simp at h⟩
  | succ n ih =>
    obtain ⟨l, hl, hp⟩ := ih fun i hi => h i (by omega)
    obtain ⟨a, ha⟩ := h n (by omega)
    refine ⟨l ++ [a], by simp [hl], fun i x hx => ?_⟩
    by_cases hi : i < n
    · rw [List.getElem?_append_left (by omega)] at hx; exact hp i x hx
    · rw [List.getElem?_append_right (by omega)] at hx
      have : i = n := by
        have := (List.getElem?_eq_some_iff.1 hx).1
        simp at this; omega
      subst this
      simp [hl] at hx
      exact hx ▸ ha
theorem sum_le_of {α β : Type} {f : α → Nat} {g : β → Nat} : ∀ {l : List α} {m : List β}, l.length = m.length → (∀ (i : Nat) (a : α) (b : β), l[i]? = some a → m[i]? = some b → f a ≤ g b) → (l.map f).sum ≤ (m.map g).sum
  | [], [], _, _ => Nat.le_refl _
  | a :: l, b :: m, h, hp => by
    have h1 := hp 0 a b rfl rfl
    have h2 := sum_le_of (l := l) (m := m) (by simpa using h) fun i x y hx hy => hp (i + 1) x y (by simpa using hx) (by simpa using hy)
    simp only [List.map_cons, List.sum_cons]; omega
  | [], _ :: _, h, _ => by simp at h
  | _ :: _, [], h, _ => by simp at h

theorem opens_slice {α : Type} {t e : TypeId} {E : Enc α} {ok : Base → α → Prop} {bulk : α → Nat} (hu : P.underlying t = some (.slice e)) (hk : P.cellsOf e = E.k) (h : OpensAt P e E ok bulk) :
    OpensAt P t (slE α) (fun B s => s.n = s.xs.length ∧ RdB E B s.A s.xs ∧ ∀ x ∈ s.xs, ok B x) (fun s => (s.xs.map bulk).sum + 1) := by
  intro H enc W fuel cs x hx
  rcases open_slice hu hx with ⟨rfl, rfl⟩ | ⟨a, len, cap, m, n, D, Pl, rfl, _, hl, hm, hmm, rfl, hel⟩
  · exact ⟨⟨none, 0, 0, []⟩, rfl, ⟨rfl, ⟨fun h => absurd h (by simp), by simp, fun j x h => by simp at h⟩, fun _ h => nomatch h⟩, bulk_pos _⟩
  · have hlm : len ≤ m := by rw [hmm]; simp; omega
    obtain ⟨l, hll, hp⟩ := choose_list (n := len) (p := fun i v => ∃ cs', W.cells? 0 (a.add (i * P.cellsOf e)) (P.cellsOf e) = some cs' ∧ cs' = E.cells v ∧ ok (Base.of W) v ∧ bulk v ≤ Rows.uptoBulk (D i)) (fun i hi => by
      obtain ⟨cs', h1, h2⟩ := hel i (by omega)
      obtain ⟨v, h3, h4, h5⟩ := h enc W n cs' _ h2
      exact ⟨v, cs', h1, h3, h4, h5⟩)
    have hcell : ∀ j x, l[j]? = some x → ∀ f v, (E.cells x)[f]? = some v → W.cell? (a.add (j * E.k + f)) = some v := by
      intro j x hj f v hv
      obtain ⟨cs', h1, rfl, _, _⟩ := hp j x hj
      have h3 := (World.cells?_some h1).2.2
      have hf : f < P.cellsOf e := by have := (List.getElem?_eq_some_iff.1 hv).1; rw [E.len] at this; omega
      have := h3 f hf
      rw [hv, Go.Deep.add_add, hk] at this
      exact this
    have hspot : 0 < len → a.spot = none := by
      intro h0
      obtain ⟨x0, hx0⟩ : ∃ x0, l[0]? = some x0 := ⟨_, List.getElem?_eq_getElem (by omega)⟩
      obtain ⟨v0, hv0⟩ : ∃ v0, (E.cells x0)[0]? = some v0 := ⟨_, List.getElem?_eq_getElem (by rw [E.len]; exact E.pos)⟩
      have := hcell 0 x0 hx0 0 v0 hv0
      simp only [Nat.zero_mul, Nat.add_zero, Addr.add, if_true, World.cell?] at this
      split at this
      · split at this
        · cases this
        · rename_i hs; simpa using hs
      · cases this
    have hadd : ∀ i, a.spot = none → a.add i = ⟨a.block, a.off + i, none⟩ := by
      intro i hs
      unfold Addr.add
      split
      · cases a; simp_all
      · rfl
    refine ⟨⟨some a, len, cap, l⟩, rfl, ⟨hll.symm, ⟨?_, ?_, ?_⟩, ?_⟩, ?_⟩
    · intro h0
      have := hspot (by simp only at h0; omega)
      exact ⟨a.block, a.off, by cases a; simp_all⟩
    · have : maxLen ≤ 9223372036854775807 := by decide
      show l.length ≤ _
      omega
    · intro j x hj f v hv
      have hc := hcell j x hj f v hv
      have hlen0 : 0 < len := by have : j < l.length := (List.getElem?_eq_some_iff.1 hj).1; omega
      rw [hadd _ (hspot hlen0)] at hc
      show (Base.of W).cell a.block (a.off + j * E.k + f) = some v
      rw [Nat.add_assoc]
      unfold World.cell? at hc
      unfold Base.cell Base.of
      simp only at hc ⊢
      split at hc
      · rename_i c _ _ hb
        rw [hb]; simpa using hc
      · cases hc
    · intro x hx
      obtain ⟨i, hi, rfl⟩ := List.getElem_of_mem hx
      obtain ⟨_, _, _, h4, _⟩ := hp i _ (List.getElem?_eq_getElem hi)
      exact h4
    · simp only [Rows.uptoBulk, bulkAll_sum]
      have : (l.map bulk).sum ≤ (((List.range len).map D).map Rows.uptoBulk).sum := by
        refine sum_le_of (by simp [hll]) fun i a b ha hb => ?_
        obtain ⟨_, _, _, _, h5⟩ := hp i a ha
        simp only [List.getElem?_map, List.getElem?_range, Option.map_eq_some_iff] at hb
        obtain ⟨y, hy, rfl⟩ := hb
        have : y = i := by
          rw [List.getElem?_eq_some_iff] at hy
          obtain ⟨h1, h2⟩ := hy
          simpa using h2.symm
        rw [this]; exact h5
      omega
end
theorem length_le_sum {α : Type} {f : α → Nat} (h : ∀ a, 1 ≤ f a) (l : List α) : l.length ≤ (l.map f).sum := by
  induction l with
  | nil => simp
  | cons x l ih => have := h x; simp only [List.length_cons, List.map_cons, List.sum_cons]; omega
end Go.Tk

set_option linter.unusedSectionVars false
set_option linter.unusedSimpArgs false
set_option linter.unusedVariables false
namespace Go.Tk
open Go.RowKit Go.Proofs Go.ChangeShapes Go.WideShapes Go.ChangeAt

section
variable {H : Type} {enc : TypeId × Value → H} {P : Program}
theorem trodAll_stays {W W' : World} {sp' : Nat → Bool} (hl : laidOutB P = true) : ∀ {ts : List TypeId} {vs : List Value} {ds : List (DataW H)} {ps : List MemPlace}, (∀ t ∈ ts, P.readableRec t = true ∧ t < P.types.size) →
    DataW.TrodAll enc P W 0 (fun _ => true) true ts vs ds ps → (∀ p ∈ ps, W.sameAt W' p) → (∀ p ∈ ps, sp' p.block = true) → DataW.TrodAll enc P W' 0 sp' true ts vs ds ps
  | [], vs, ds, ps, _, h, _, _ => by
    obtain ⟨rfl, rfl, rfl⟩ := trodAll_nil h
    exact trodAll_mk0
  | t :: ts, vs, ds, ps, ht, h, hs, hsp => by
    obtain ⟨v, vs', d, ds', p, q, rfl, rfl, rfl, h0, h1⟩ := trodAll_cons h
    exact trodAll_cons_mk (WideElems.Trod_stays hl (ht t (by simp)).1 (ht t (by simp)).2 h0 (fun x hx => hs x (by simp [hx])) (fun x hx => hsp x (by simp [hx])))
      (trodAll_stays hl (fun u hu => ht u (by simp [hu])) h1 (fun x hx => hs x (by simp [hx])) (fun x hx => hsp x (by simp [hx])))

theorem post_true {f : Func} {s : ChangeSpec} {W W' : World} {args : Array Value} {ds : List (DataW H)} {before : List MemPlace} {tb : TypeId} {L : HL} (hl : laidOutB P = true) (hread : (f.params.toList.all fun t => P.readableRec t && decide (t < P.types.size)) = true)
    (hres : f.resultTypes = #[tb]) (hb : P.underlying tb = some .bool) (hvars : s.vars = [])
    (hW : DataW.Whole enc P f.params.toList s.vars false W args.toList ds [] before) (hs1 : (s.fn H ds).results = [.lit (.bool true)]) (hs2 : (s.fn H ds).args = ds) (hs3 : (s.fn H ds).vars = [])
    (hS : Sh (Base.of W) L W') : s.post enc P f false true false false W args (.bool true) W' := by
  have hbl := hS.below
  have hW' := hW
  obtain ⟨p, q, hA0, hV, rfl, hfz, hnd⟩ := hW
  rw [hvars] at hV
  have hq : q = [] := by
    obtain ⟨_, rfl⟩ := trodVars_none hV
    rfl
  subst hq
  have hlt : ∀ x ∈ p, x.block < W.heap.size := fun x hx => by simpa using hW'.lt x (by simp [hx])
  have hsame : ∀ x ∈ p, W.sameAt W' x := fun x hx => hbl.same (hlt x hx)
  have hd : ds ++ [] = ds := List.append_nil ds
  have hold : ∀ x ∈ p, (fun b => decide (b < W.heap.size)) x.block = true := fun x hx => by simpa using hlt x hx
  refine ⟨ds, [], p ++ [], [], p, [], hW', ?_, ?_, ?_, hbl.frame _, fun h => by cases h⟩
  · rw [hd, hs1, hres]
    exact trodAll_cons_mk (shut_bool hb true) trodAll_mk0
  · rw [hd, hs2]
    exact trodAll_stays hl (fun t ht => by have := List.all_eq_true.1 hread t ht; simpa using this) hA0 hsame hold
  · rw [hd, hs3, hvars]
    rfl
end
end Go.Tk

set_option linter.unusedSectionVars false
set_option linter.unusedSimpArgs false
set_option linter.unusedVariables false
namespace Go.Tk
open Go.RowKit Go.Proofs

/-- A number that is none below nothing. -/
class IsN (i : Int) (j : outParam Nat) : Prop where out : i = j
instance (j : Nat) : IsN (j : Int) j := ⟨rfl⟩
instance : IsN 0 0 := ⟨rfl⟩
instance : IsN 1 1 := ⟨rfl⟩
instance : IsN 2 2 := ⟨rfl⟩
theorem wrap_i64 {i : Int} (h : -9223372036854775808 ≤ i ∧ i ≤ 9223372036854775807) : IntKind.i64.wrap i = i := by
  rw [IntKind.wrap_i64]
  omega
theorem beq_no {α : Type} [BEq α] [LawfulBEq α] {a b : α} (h : ¬ a = b) : (a == b) = false := by simpa using h
theorem bne_no {α : Type} [BEq α] [LawfulBEq α] {a b : α} (h : ¬ a = b) : (a != b) = true := by simpa using h
/-- The element at an index. -/
class Nth {α : Type} (xs : List α) (j : Nat) (x : outParam α) : Prop where get : xs[j]? = some x
section
variable {α : Type} {xs : List α} {i : Int} {x : α} {j : Nat}
theorem Nth.lt (h : Nth xs j x) : j < xs.length := (List.getElem?_eq_some_iff.1 h.get).1
theorem Nth.of (h : j < xs.length) : ∃ x, Nth xs j x := ⟨xs[j], ⟨List.getElem?_eq_getElem h⟩⟩
theorem Nth.mem (h : Nth xs j x) : x ∈ xs := List.mem_of_getElem? h.get
theorem Nth.eq (h : Nth xs j x) : xs[j]'h.lt = x := (List.getElem?_eq_some_iff.1 h.get).2
theorem Nth.take (h : Nth xs j x) : xs.take (j + 1) = xs.take j ++ [x] := by
  have := h.lt
  rw [List.take_succ_eq_append_getElem this, h.eq]
theorem Nth.drop (h : Nth xs j x) : xs.drop j = x :: xs.drop (j + 1) := by
  rw [List.drop_eq_getElem_cons h.lt, h.eq]
end
/-- A cell, by its place. -/
class CellAt (l : List Value) (f : Nat) (v : outParam Value) : Prop where out : l[f]? = some v
instance CellAt.hd {v : Value} {l : List Value} : CellAt (v :: l) 0 v := ⟨rfl⟩
instance CellAt.tl {u v : Value} {l : List Value} {f : Nat} [h : CellAt l f v] : CellAt (u :: l) (f + 1) v := ⟨h.out⟩
/-- Rows of one-cell values, by their form. -/
class OneV (v : Value) : Prop where out : v.oneCell' = true
instance {k : IntKind} {n : Int} : OneV (.int k n) := ⟨rfl⟩
instance {b : Bool} : OneV (.bool b) := ⟨rfl⟩
instance {s : ByteArray} : OneV (.string s) := ⟨rfl⟩
instance {a : Option Addr} {n c : Nat} : OneV (.slice a n c) := ⟨rfl⟩
instance {a : Option Addr} : OneV (.pointer a) := ⟨rfl⟩
instance {a : Option Nat} : OneV (.map a) := ⟨rfl⟩
class RowOk (l : List Value) (n : outParam Nat) : Prop where
  len : l.length = n
  one : ∀ v ∈ l, v.oneCell' = true
instance : RowOk [] 0 := ⟨rfl, by simp⟩
instance {v : Value} {l : List Value} {n : Nat} [h : OneV v] [hl : RowOk l n] : RowOk (v :: l) (n + 1) := ⟨by simp [hl.len], by simpa using ⟨h.out, hl.one⟩⟩
instance {α : Type} {E : Enc α} {x : α} : RowOk (E.cells x) E.k := ⟨E.len x, E.one x⟩
/-- Cells, by their place. -/
class RowAt (l : List Value) (f n : Nat) (vs : outParam (List Value)) : Prop where
  out : (l.drop f).take n = vs
  len : vs.length = n

instance RdAt.ofB {α : Type} {E : Enc α} {B : Base} {H : HL} {a : Option Addr} {xs : List α} [h : RdB E B a xs] : RdAt E B H a xs := h.at_ H
instance RdAt.ofOwn {α : Type} {E : Enc α} {B : Base} {H R : HL} {a : Option Addr} {xs : List α} {sp : List Value} {cap : Nat} {T : TypeId} [h : OwnSl E a xs sp cap] [hp : HasRow H a (flat E xs ++ sp) T R] : RdAt E B H a xs := h.at_
instance (priority := 400) RdAt.tl {α : Type} {E : Enc α} {B : Base} {d H : HL} {a : Option Addr} {xs : List α} [h : RdAt E B H a xs] : RdAt E B (d ++ H) a xs := ⟨h.ok, h.max, fun j x hj f v hv w hS => h.get j x hj f v hv w hS.drop⟩
theorem RdAt.nil {α : Type} {E : Enc α} {B : Base} {H : HL} {A : Option Addr} : RdAt E B H A ([] : List α) := ⟨fun h => absurd h (by simp), by simp, fun j x h => by simp at h⟩

section
variable {P : Program} {o : Oper} {a : Act} {B : Base} {H : HL} {w : World} {α : Type} {E : Enc α} {A : Option Addr} {xs : List α} {x0 : α} {ii : Int} {j : Nat}

theorem ex_ix {t e k n cap : Nat} {x i : Operand} {kk : IntKind} (hS : Sh B H w) (ho : o.op = .indexAddr t x i) [SlTy P t e k] (hx : a.eval x = .slice A n cap) (hi : a.eval i = .int kk ii) [r : RdAt E B H A xs] [hj : IsN ii j] [g : Nth xs j x0] (hn : n = xs.length) :
    (execOp a.eval o).run P w = .ok (.value (.pointer (some ⟨blkA A, offA A + j * k, none⟩))) w := by
  subst hn
  have e := hj.out
  subst e
  have := ex_idx (P := P) (t := t) (w := w) (ho := ho) hx hi (Int.natCast_nonneg j) (by have := g.lt; omega) r.ok
  rwa [Int.toNat_natCast] at this

def LoadsTo (P : Program) (w : World) (T : TypeId) (p v : Value) : Prop := (Instr.loadAt T p).run P w = .ok v w
theorem ex_lo {T : Nat} {x : Operand} {p v : Value} (ho : o.op = .load T x) (hx : a.eval x = p) (h : LoadsTo P w T p v) : (execOp a.eval o).run P w = .ok (.value v) w := exec_load ho hx h
theorem lo_sc {T : TypeId} {ad : Addr} {v : Value} [IsScalar P T] (hc : w.cell? ad = some v) : LoadsTo P w T (.pointer (some ad)) v := run_loadAt_scalar hc
theorem lo_row {T n b off : Nat} {cs : List Value} [IsRow P T n] (hc : w.rangeAt b off cs) (hn : cs.length = n) : LoadsTo P w T (.pointer (some ⟨b, off, none⟩)) (.agg cs.toArray) := run_loadAt_row hc hn
theorem lo_l0 {T k : Nat} {v : Value} (hS : Sh B H w) [IsScalar P T] [r : RdAt E B H A xs] [g : Nth xs j x0] (hk : E.k = k) (hv : (E.cells x0)[0]? = some v) :
    LoadsTo P w T (.pointer (some ⟨blkA A, offA A + j * k, none⟩)) v := by
  subst hk
  exact lo_sc (r.f0 hS g.get hv)
theorem lo_lf {T k f : Nat} {v : Value} (hS : Sh B H w) [IsScalar P T] [r : RdAt E B H A xs] [g : Nth xs j x0] (hk : E.k = k) (hv : (E.cells x0)[f]? = some v) :
    LoadsTo P w T (.pointer (some ⟨blkA A, offA A + j * k + f, none⟩)) v := by
  subst hk
  exact lo_sc (r.ff hS g.get hv)
/-- .. of the first. -/
theorem lo_l00 {T : Nat} {v : Value} (hS : Sh B H w) [IsScalar P T] [r : RdAt E B H A xs] [g : Nth xs 0 x0] (hv : (E.cells x0)[0]? = some v) :
    LoadsTo P w T (.pointer (some ⟨blkA A, offA A, none⟩)) v := by
  have := r.f0 hS g.get hv
  rw [Nat.zero_mul, Nat.add_zero] at this
  exact lo_sc this
theorem lo_l0f {T f : Nat} {v : Value} (hS : Sh B H w) [IsScalar P T] [r : RdAt E B H A xs] [g : Nth xs 0 x0] (hv : (E.cells x0)[f]? = some v) :
    LoadsTo P w T (.pointer (some ⟨blkA A, offA A + f, none⟩)) v := by
  have := r.ff hS g.get hv
  rw [Nat.zero_mul, Nat.add_zero] at this
  exact lo_sc this
theorem lo_lr0 {T n : Nat} (hS : Sh B H w) [IsRow P T n] [r : RdAt E B H A xs] [g : Nth xs 0 x0] (hn : E.k = n) :
    LoadsTo P w T (.pointer (some ⟨blkA A, offA A, none⟩)) (.agg (E.cells x0).toArray) := by
  have := r.range hS g.get
  rw [Nat.zero_mul, Nat.add_zero] at this
  exact lo_row this (by rw [E.len]; exact hn)
theorem lo_l1 {T : Nat} {v : Value} (hS : Sh B H w) [IsScalar P T] [r : RdAt E B H A xs] [g : Nth xs j x0] (hk : E.k = 1) (hv : (E.cells x0)[0]? = some v) :
    LoadsTo P w T (.pointer (some ⟨blkA A, offA A + j, none⟩)) v := lo_sc (r.f1 hS hk g.get hv)
theorem lo_lr {T k n : Nat} (hS : Sh B H w) [IsRow P T n] [r : RdAt E B H A xs] [g : Nth xs j x0] (hk : E.k = k) (hn : E.k = n) :
    LoadsTo P w T (.pointer (some ⟨blkA A, offA A + j * k, none⟩)) (.agg (E.cells x0).toArray) := by
  subst hk
  exact lo_row (r.range hS g.get) (by rw [E.len]; exact hn)
theorem lo_lrf {T k n f : Nat} {vs : List Value} (hS : Sh B H w) [IsRow P T n] [r : RdAt E B H A xs] [g : Nth xs j x0] (hk : E.k = k) [hv : RowAt (E.cells x0) f n vs] :
    LoadsTo P w T (.pointer (some ⟨blkA A, offA A + j * k + f, none⟩)) (.agg vs.toArray) := by
  subst hk
  refine lo_row ?_ hv.len
  intro i v hj
  have h1 := hv.out
  subst h1
  rw [List.getElem?_take] at hj
  split at hj
  · rw [List.getElem?_drop] at hj
    have := r.get j x0 g.get (f + i) v hj w hS
    rwa [← Nat.add_assoc] at this
  · cases hj

/-- .. of the first part. -/
theorem lo_lrz {T k n : Nat} {vs : List Value} (hS : Sh B H w) [IsRow P T n] [r : RdAt E B H A xs] [g : Nth xs j x0] (hk : E.k = k) [hv : RowAt (E.cells x0) 0 n vs] :
    LoadsTo P w T (.pointer (some ⟨blkA A, offA A + j * k, none⟩)) (.agg vs.toArray) := lo_lrf (f := 0) hS hk
theorem lo_ldC {T b off Tb : Nat} {l : List Value} {v : Value} {R : HL} (hS : Sh B H w) [IsScalar P T] [HasCell H b l Tb R] (hv : l[off]? = some v) :
    LoadsTo P w T (.pointer (some ⟨b, off, none⟩)) v := lo_sc (hS.ldC hv)
theorem lo_ldrC {T n b off Tb : Nat} {l vs : List Value} {R : HL} (hS : Sh B H w) [IsRow P T n] [HasCell H b l Tb R] [hv : RowAt l off n vs] :
    LoadsTo P w T (.pointer (some ⟨b, off, none⟩)) (.agg vs.toArray) := by
  refine lo_row ?_ hv.len
  have := hS.rangeC (b := b) off n
  rwa [hv.out] at this
/-- .. the whole block. -/
theorem lo_ldr0 {T n n1 b Tb : Nat} {l : List Value} {R : HL} (hS : Sh B H w) [IsRow P T n] [HasCell H b l Tb R] [hl : RowOk l n1] (e : n1 = n) :
    LoadsTo P w T (.pointer (some ⟨b, 0, none⟩)) (.agg l.toArray) := lo_row (hS.rangeAll (b := b)) (hl.len.trans e)

theorem ex_l0 {T k : Nat} {v : Value} {x : Operand} (hS : Sh B H w) (ho : o.op = .load T x) [IsScalar P T] (hx : a.eval x = .pointer (some ⟨blkA A, offA A + j * k, none⟩)) [r : RdAt E B H A xs] [g : Nth xs j x0] (hk : E.k = k) (hv : (E.cells x0)[0]? = some v) :
    (execOp a.eval o).run P w = .ok (.value v) w := ex_lo ho hx (lo_l0 hS hk hv)
theorem ex_lf {T k f : Nat} {v : Value} {x : Operand} (hS : Sh B H w) (ho : o.op = .load T x) [IsScalar P T] (hx : a.eval x = .pointer (some ⟨blkA A, offA A + j * k + f, none⟩)) [r : RdAt E B H A xs] [g : Nth xs j x0] (hk : E.k = k) (hv : (E.cells x0)[f]? = some v) :
    (execOp a.eval o).run P w = .ok (.value v) w := ex_lo ho hx (lo_lf hS hk hv)
theorem ex_l00 {T : Nat} {v : Value} {x : Operand} (hS : Sh B H w) (ho : o.op = .load T x) [IsScalar P T] (hx : a.eval x = .pointer (some ⟨blkA A, offA A, none⟩)) [r : RdAt E B H A xs] [g : Nth xs 0 x0] (hv : (E.cells x0)[0]? = some v) :
    (execOp a.eval o).run P w = .ok (.value v) w := ex_lo ho hx (lo_l00 hS hv)
theorem ex_l0f {T f : Nat} {v : Value} {x : Operand} (hS : Sh B H w) (ho : o.op = .load T x) [IsScalar P T] (hx : a.eval x = .pointer (some ⟨blkA A, offA A + f, none⟩)) [r : RdAt E B H A xs] [g : Nth xs 0 x0] (hv : (E.cells x0)[f]? = some v) :
    (execOp a.eval o).run P w = .ok (.value v) w := ex_lo ho hx (lo_l0f hS hv)
theorem ex_lr0 {T n : Nat} {x : Operand} (hS : Sh B H w) (ho : o.op = .load T x) [IsRow P T n] (hx : a.eval x = .pointer (some ⟨blkA A, offA A, none⟩)) [r : RdAt E B H A xs] [g : Nth xs 0 x0] (hn : E.k = n) :
    (execOp a.eval o).run P w = .ok (.value (.agg (E.cells x0).toArray)) w := ex_lo ho hx (lo_lr0 hS hn)
theorem ex_l1 {T : Nat} {v : Value} {x : Operand} (hS : Sh B H w) (ho : o.op = .load T x) [IsScalar P T] (hx : a.eval x = .pointer (some ⟨blkA A, offA A + j, none⟩)) [r : RdAt E B H A xs] [g : Nth xs j x0] (hk : E.k = 1) (hv : (E.cells x0)[0]? = some v) :
    (execOp a.eval o).run P w = .ok (.value v) w := ex_lo ho hx (lo_l1 hS hk hv)
theorem ex_lr {T k n : Nat} {x : Operand} (hS : Sh B H w) (ho : o.op = .load T x) [IsRow P T n] (hx : a.eval x = .pointer (some ⟨blkA A, offA A + j * k, none⟩)) [r : RdAt E B H A xs] [g : Nth xs j x0] (hk : E.k = k) (hn : E.k = n) :
    (execOp a.eval o).run P w = .ok (.value (.agg (E.cells x0).toArray)) w := ex_lo ho hx (lo_lr hS hk hn)
theorem ex_lrf {T k n f : Nat} {vs : List Value} {x : Operand} (hS : Sh B H w) (ho : o.op = .load T x) [IsRow P T n] (hx : a.eval x = .pointer (some ⟨blkA A, offA A + j * k + f, none⟩)) [r : RdAt E B H A xs] [g : Nth xs j x0] (hk : E.k = k) [hv : RowAt (E.cells x0) f n vs] :
    (execOp a.eval o).run P w = .ok (.value (.agg vs.toArray)) w := ex_lo ho hx (lo_lrf hS hk)
theorem ex_lrz {T k n : Nat} {vs : List Value} {x : Operand} (hS : Sh B H w) (ho : o.op = .load T x) [IsRow P T n] (hx : a.eval x = .pointer (some ⟨blkA A, offA A + j * k, none⟩)) [r : RdAt E B H A xs] [g : Nth xs j x0] (hk : E.k = k) [hv : RowAt (E.cells x0) 0 n vs] :
    (execOp a.eval o).run P w = .ok (.value (.agg vs.toArray)) w := ex_lo ho hx (lo_lrz hS hk)
theorem ex_ldC {T b off Tb : Nat} {l : List Value} {v : Value} {R : HL} {x : Operand} (hS : Sh B H w) (ho : o.op = .load T x) [IsScalar P T] (hx : a.eval x = .pointer (some ⟨b, off, none⟩)) [HasCell H b l Tb R] (hv : l[off]? = some v) :
    (execOp a.eval o).run P w = .ok (.value v) w := ex_lo ho hx (lo_ldC hS hv)
theorem ex_ldrC {T n b off Tb : Nat} {l vs : List Value} {R : HL} {x : Operand} (hS : Sh B H w) (ho : o.op = .load T x) [IsRow P T n] (hx : a.eval x = .pointer (some ⟨b, off, none⟩)) [HasCell H b l Tb R] [hv : RowAt l off n vs] :
    (execOp a.eval o).run P w = .ok (.value (.agg vs.toArray)) w := ex_lo ho hx (lo_ldrC hS )
theorem ex_ldr0 {T n n1 b Tb : Nat} {l : List Value} {R : HL} {x : Operand} (hS : Sh B H w) (ho : o.op = .load T x) [IsRow P T n] (hx : a.eval x = .pointer (some ⟨b, 0, none⟩)) [HasCell H b l Tb R] [hl : RowOk l n1] (e : n1 = n) :
    (execOp a.eval o).run P w = .ok (.value (.agg l.toArray)) w := ex_lo ho hx (lo_ldr0 hS e)

/-! What is known of a part of a slice. -/
theorem RdAt.drop {α : Type} {E : Enc α} {A : Option Addr} {xs : List α} (r : RdAt E B H A xs) (l : Nat) : RdAt E B H (A.map (·.add (l * E.k))) (xs.drop l) := by
  by_cases hx : 0 < (xs.drop l).length
  · have hA := r.ok.form (by simp at hx; omega)
    have e : A.map (·.add (l * E.k)) = some ⟨blkA A, offA A + l * E.k, none⟩ := by rw [hA]; simp [Addr.add_mid, blkA, offA]
    refine ⟨fun _ => ⟨_, _, e⟩, by have := r.max; simp; omega, fun j x hj f v hv w hS => ?_⟩
    rw [e]
    simp only [blkA, offA]
    rw [List.getElem?_drop] at hj
    have := r.get _ x hj f v hv w hS
    rw [Nat.add_mul, ← Nat.add_assoc] at this
    exact this
  · have : xs.drop l = [] := List.eq_nil_of_length_eq_zero (by omega)
    rw [this]
    exact ⟨fun h => absurd h (by simp), by simp, fun j x h => by simp at h⟩
theorem RdAt.take {α : Type} {E : Enc α} {A : Option Addr} {xs : List α} (r : RdAt E B H A xs) (n : Nat) : RdAt E B H A (xs.take n) := {
  ok := r.ok.le (by simp; omega)
  max := by have := r.max; simp; omega
  get j x hj f v hv w hS := by
    rw [List.getElem?_take] at hj
    split at hj
    · exact r.get j x hj f v hv w hS
    · cases hj }

theorem run_sliceBound {i : Int} {k : IntKind} {y : Nat} {code : BoundsCode} (h0 : 0 ≤ i) (h1 : i ≤ y) (w : World) : (Instr.sliceBound (.int k i) y code).run P w = .ok i.toNat w := by
  simp [Instr.sliceBound, asIntOf, Sem.run_bind, h0, h1]

/-- xs[lo:], what is left at some place. -/
theorem ex_slcL {t e k n cap : Nat} {x lo : Operand} {kk : IntKind} (hS : Sh B H w) (ho : o.op = .slice t x (some lo) none none) [hsl : SlTy P t e k] (hx : a.eval x = .slice A n cap) (hlo : a.eval lo = .int kk ii) [r : RdAt E B H A xs] (hn : n = xs.length) (hk : E.k = k) (h0 : 0 ≤ ii) (h1 : ii ≤ xs.length) (hc : n ≤ cap) :
    ∃ A', (∀ w, (execOp a.eval o).run P w = .ok (.value (.slice A' (n - ii.toNat) (cap - ii.toNat))) w) ∧ RdAt E B H A' (xs.drop ii.toNat) ∧ n - ii.toNat = (xs.drop ii.toNat).length := by
  subst hn; subst hk
  have hlt : ii.toNat ≤ xs.length := by omega
  refine ⟨if cap = ii.toNat then A else A.map (·.add (ii.toNat * E.k)), fun w => ?_, ?_, by simp⟩
  · simp only [execOp, ho, hx, Instr.sliceAt, Instr.slice, Sem.run_bind, run_underlying hsl.under, Result.andThen_ok, Option.map_some, Option.map_none, hlo, Instr.sliceBounds, run_sliceBound h0 h1, Sem.run_pure, run_sizeOf hsl.size]
  · split
    · have : xs.drop ii.toNat = [] := List.drop_eq_nil_of_le (by omega)
      rw [this]
      exact ⟨fun h => absurd h (by simp), by simp, fun j x h => by simp at h⟩
    · exact r.drop _
/-- xs[:hi] -/
theorem ex_slcH {t e k n cap : Nat} {x hi : Operand} {kk : IntKind} (hS : Sh B H w) (ho : o.op = .slice t x none (some hi) none) [hsl : SlTy P t e k] (hx : a.eval x = .slice A n cap) (hhi : a.eval hi = .int kk ii) [r : RdAt E B H A xs] (hn : n = xs.length) (hk : E.k = k) (h0 : 0 ≤ ii) (h1 : ii ≤ xs.length) (hc : n ≤ cap) :
    ∃ A', (∀ w, (execOp a.eval o).run P w = .ok (.value (.slice A' ii.toNat cap)) w) ∧ RdAt E B H A' (xs.take ii.toNat) ∧ ii.toNat = (xs.take ii.toNat).length := by
  subst hn; subst hk
  refine ⟨if cap = 0 then A else A.map (·.add (0 * E.k)), fun w => ?_, ?_, by simp; omega⟩
  · simp only [execOp, ho, hx, Instr.sliceAt, Instr.slice, Sem.run_bind, run_underlying hsl.under, Result.andThen_ok, Option.map_some, Option.map_none, hhi, Instr.sliceBounds, if_true, run_sliceBound h0 (show ii ≤ (cap : Int) by omega), Sem.run_pure, run_sizeOf hsl.size, Nat.sub_zero]
  · split
    · exact r.take _
    · have e : A.map (·.add (0 * E.k)) = A := by
        have : ∀ ad : Addr, ad.add 0 = ad := fun ad => by cases ad; simp [Addr.add]
        cases A <;> simp [this]
      rw [e]; exact r.take _
end

section
variable {P : Program} {ops : Array Oper} {Q : Exit → Act → World → Prop} {B : Base} {H : HL} {id : Nat} {a : Act} {w : World}
/-- A statement that leaves its order open, in the symbolic heap. -/
theorem wp_drawnS (hS : Sh B H w) (l : List (Nat × Bool)) (hm : P.follows .mixedOrders = true)
    (hs : (Region.noSelect ops && okOrder ops l (Array.replicate ops.size false) && decide (l.length ≤ ops.size) && l.all (fun p => decide (p.1 < ops.size))) = true)
    (hQ : ∀ d v c a w, Q (.panic c) (Act.put a d v) w → Q (.panic c) a w) (h : wpG P ops Q (Sh B H) (picks ops.toList l) a w.drew) : (Code.region id ops true).wp P Q a w := wp_drawn l hm hs hQ h
end

section
variable {P : Program} {ops : Array Oper} {Q : Exit → Act → World → Prop} {rest : List Oper} {o : Oper} {a : Act} {B : Base} {H : HL} {w : World} {α : Type} {E : Enc α}
theorem wl_ap {t e bytes cap cap' nx ny : Nat} {s x : Operand} {A A' : Option Addr} {xs ys : List α} {sp : List Value} (hw : Region.wanted o (yielded ops a.tmps) = true)
    (ho : o.op = .call { callee := .builtin .append, args := #[s, x], argTypes := #[t, t] }) [hsl : SlTy P t e E.k] [hel : ElTy P e E.k bytes]
    (hs : a.eval s = .slice A nx cap) (hx : a.eval x = .slice A' ny cap') (hS : Sh B H w) [hO : OwnSl E A xs sp cap] {C : HL → HL} [hp : CtxRow H A (flat E xs ++ sp) e C] [hr : RdAt E B H A' ys] (hnx : nx = xs.length) (hny : ny = ys.length)
    (hb : (xs.length + ys.length) * bytes ≤ 140737488355328) (hb0 : 0 < bytes)
    (h : ∀ A2 sp2 cap2 w2, OwnSl E A2 (xs ++ ys) sp2 cap2 → Sh B (C (rowA A2 (flat E (xs ++ ys) ++ sp2) e)) w2 → wpList P ops Q rest (a.put o.dst (.slice A2 (xs ++ ys).length cap2)) w2) : wpList P ops Q (o :: rest) a w := by
  subst hnx; subst hny
  exact wl_append hw ho hs hx hS hO hr hb hb0 h
end
/-- A store of a row over a whole own block. -/
theorem wl_strC {P : Program} {ops : Array Oper} {Q : Exit → Act → World → Prop} {rest : List Oper} {o : Oper} {a : Act} {B : Base} {H : HL} {w : World} {T n n1 n2 : Nat} {x y : Operand} {b Tb : Nat} {l vs : List Value} (hw : Region.wanted o (yielded ops a.tmps) = true) (ho : o.op = .store T x y) [hT : IsRow P T n]
    (hx : a.eval x = .pointer (some ⟨b, 0, none⟩)) (hy : a.eval y = .agg vs.toArray) [hv : RowOk vs n1] (hS : Sh B H w) {C : HL → HL} [hp : CtxCell H b l Tb C] [hl : RowOk l n2] (e1 : n1 = n) (e2 : n2 = n)
    (h : ∀ w', Sh B (C (cellB b vs Tb)) w' → wpList P ops Q rest (a.put o.dst undef) w') : wpList P ops Q (o :: rest) a w :=
  wl_str0 hw ho hx hy (hv.len.trans e1) hv.one hS (hl.len.trans e2) h
theorem ldv_all {P : Program} {B : Base} {H R : HL} {w : World} {T n n1 b Tb : Nat} {l : List Value} (hS : Sh B H w) [IsRow P T n] [HasCell H b l Tb R] [hl : RowOk l n1] (e : n1 = n) : (loadVar T ⟨b, 0, none⟩).run P w = .ok (.agg l.toArray) w :=
  ldv_row (hS.rangeAll (b := b)) (hl.len.trans e)

/-- Is it a load? -/
theorem wl_isld {P : Program} {ops : Array Oper} {Q : Exit → Act → World → Prop} {rest : List Oper} {o : Oper} {a : Act} {w : World} {T : TypeId} {x : Operand} (ho : o.op = .load T x) (h : wpList P ops Q (o :: rest) a w) : wpList P ops Q (o :: rest) a w := h
theorem wpH_isld {P : Program} {ops : Array Oper} {Q : Exit → Act → World → Prop} {S : World → Prop} {rest : List (Oper × Bool)} {o : Oper} {a : Act} {w : World} {T : TypeId} {x : Operand} (ho : o.op = .load T x) (h : wpG P ops Q S ((o, true) :: rest) a w) : wpG P ops Q S ((o, true) :: rest) a w := h
section
variable {P : Program} {ops : Array Oper} {Q : Exit → Act → World → Prop} {rest : List Oper} {o : Oper} {a : Act} {B : Base} {H : HL} {w : World} {α : Type} {E : Enc α}
/-- .. the whole by a name of its own. -/
theorem wl_apz {t e bytes cap cap' nx ny : Nat} {s x : Operand} {A A' : Option Addr} {xs ys : List α} {sp : List Value} (hw : Region.wanted o (yielded ops a.tmps) = true)
    (ho : o.op = .call { callee := .builtin .append, args := #[s, x], argTypes := #[t, t] }) [hsl : SlTy P t e E.k] [hel : ElTy P e E.k bytes]
    (hs : a.eval s = .slice A nx cap) (hx : a.eval x = .slice A' ny cap') (hS : Sh B H w) [hO : OwnSl E A xs sp cap] {C : HL → HL} [hp : CtxRow H A (flat E xs ++ sp) e C] [hr : RdAt E B H A' ys] (hnx : nx = xs.length) (hny : ny = ys.length)
    (hb : (xs.length + ys.length) * bytes ≤ 140737488355328) (hb0 : 0 < bytes)
    (h : ∀ zs A2 sp2 cap2 w2, zs = xs ++ ys → OwnSl E A2 zs sp2 cap2 → Sh B (C (rowA A2 (flat E zs ++ sp2) e)) w2 → wpList P ops Q rest (a.put o.dst (.slice A2 zs.length cap2)) w2) : wpList P ops Q (o :: rest) a w :=
  wl_ap hw ho hs hx hS hnx hny hb hb0 fun A2 sp2 cap2 w2 hO2 hS2 => h _ A2 sp2 cap2 w2 rfl hO2 hS2
end
theorem Sh.row0 {B : Base} {H : HL} {w : World} {l : List Value} {T : TypeId} (h : Sh B H w) : Sh B (rowA none l T ++ H) w := h
instance (priority := 2800) Sup.row0 {H H' : HL} {l : List Value} {T : TypeId} [hs : Sup H H'] : Sup H (rowA none l T ++ H') := ⟨fun B w h => hs.out B w h⟩
/-- Where a walk is to stand still. -/
structure Stopped (p : Prop) : Prop where out : p
theorem stop_append {P : Program} {ops : Array Oper} {Q : Exit → Act → World → Prop} {rest : List Oper} {o : Oper} {a : Act} {w : World} {args : Array Operand} {ats : Array TypeId} (ho : o.op = .call { callee := .builtin .append, args := args, argTypes := ats }) (h : Stopped (wpList P ops Q (o :: rest) a w)) : wpList P ops Q (o :: rest) a w := h.out
theorem stop_call {P : Program} {ops : Array Oper} {Q : Exit → Act → World → Prop} {rest : List Oper} {o : Oper} {a : Act} {w : World} {f : Operand} {args : Array Operand} {ats : Array TypeId} (ho : o.op = .call { callee := .value f, args := args, argTypes := ats }) (h : Stopped (wpList P ops Q (o :: rest) a w)) : wpList P ops Q (o :: rest) a w := h.out
theorem go_on {G : Prop} (h : G) : Stopped G := ⟨h⟩

/-- Whether two are one, as the program tells it. -/
class EqA (P : Program) (T : TypeId) (l m : List Value) (r : outParam Bool) : Prop where
  guard : P.eqGuardType P.depth T = false
  out : ∀ w, (Op.equalIn 10000 T (.agg l.toArray) (.agg m.toArray)).run P w = .ok r w
theorem ex_eqA {P : Program} {o : Oper} {a : Act} {w : World} {t u : TypeId} {x y : Operand} {l m : List Value} {r : Bool} (ho : o.op = .binOp .eql t x y u) (hx : a.eval x = .agg l.toArray) (hy : a.eval y = .agg m.toArray) [h : EqA P t l m r] : (execOp a.eval o).run P w = .ok (.value (.bool r)) w :=
  ex_eql ho hx hy h.guard (h.out w)
theorem ex_neA {P : Program} {o : Oper} {a : Act} {w : World} {t u : TypeId} {x y : Operand} {l m : List Value} {r : Bool} (ho : o.op = .binOp .neq t x y u) (hx : a.eval x = .agg l.toArray) (hy : a.eval y = .agg m.toArray) [h : EqA P t l m r] : (execOp a.eval o).run P w = .ok (.value (.bool (!r))) w := by
  have h1 : (binOp .neq t (.agg l.toArray) (.agg m.toArray)).run P w = .ok (.bool (!r)) w := by rw [run_neq_struct, h.out w]; rfl
  simp only [execOp, ho, hx, hy]
  simp [Sem.run_bind, run_eqGuard_agg w .neq t x y l.toArray m.toArray h.guard, h1]

section
variable {P : Program} {ops : Array Oper} {Q : Exit → Act → World → Prop} {rest : List Oper} {o : Oper} {a : Act} {B : Base} {H : HL} {w : World} {α : Type} {E : Enc α}
theorem Nth.set {xs : List α} {j : Nat} {x z : α} (h : Nth xs j x) : Nth (xs.set j z) j z := ⟨by rw [List.getElem?_set_self h.lt]⟩
theorem flat_set {xs : List α} {j : Nat} {x z : α} (h : Nth xs j x) (vs : List Value) (f : Nat) (hf : f + vs.length ≤ E.k) (hz : E.cells z = splice (E.cells x) f vs) (sp : List Value) : flat E (xs.set j z) ++ sp = splice (flat E xs ++ sp) (j * E.k + f) vs := by
  have hlt := h.lt
  have hl : (flat E xs ++ sp).length = xs.length * E.k + sp.length := by rw [List.length_append, flat_length]
  have hle : j * E.k + E.k ≤ xs.length * E.k := by
    have := Nat.mul_le_mul_right E.k (show j + 1 ≤ xs.length from hlt)
    rwa [Nat.succ_mul] at this
  rw [splice_eq _ _ _ (by rw [hl]; omega)]
  have hx : xs = xs.take j ++ x :: xs.drop (j + 1) := by rw [← h.drop]; simp
  have e1 : flat E (xs.set j z) = flat E (xs.take j) ++ (E.cells z ++ flat E (xs.drop (j + 1))) := by
    have : xs.set j z = xs.take j ++ z :: xs.drop (j + 1) := by
      rw [List.set_eq_take_append_cons_drop, if_pos hlt]
    rw [this, flat_append, flat_cons]
  have e2 : flat E xs = flat E (xs.take j) ++ (E.cells x ++ flat E (xs.drop (j + 1))) := by
    conv => lhs; rw [hx]
    rw [flat_append, flat_cons]
  have ht : (flat E (xs.take j)).length = j * E.k := by rw [flat_length, List.length_take, Nat.min_eq_left (Nat.le_of_lt hlt)]
  have hxl := E.len x
  rw [e1, e2, hz, splice_eq _ _ _ (by rw [hxl]; omega)]
  clear e1 e2 hx
  generalize flat E (xs.take j) = L1 at *
  simp only [List.append_assoc]
  rw [List.take_append, List.drop_append, ht]
  rw [show L1.take (j * E.k + f) = L1 from List.take_of_length_le (by omega), show L1.drop (j * E.k + f + vs.length) = [] from List.drop_of_length_le (by omega)]
  rw [show j * E.k + f - j * E.k = f by omega, show j * E.k + f + vs.length - j * E.k = f + vs.length by omega]
  rw [List.take_append_of_le_length (by omega), List.drop_append_of_le_length (by omega)]
  simp

/-- A store into an own slice's element. -/
theorem wl_stEr {T n k f : Nat} {x y : Operand} {A : Option Addr} {xs : List α} {sp : List Value} {cap Te j : Nat} {x0 : α} {vs : List Value} {v : Value} (hw : Region.wanted o (yielded ops a.tmps) = true) (ho : o.op = .store T x y) (hT : (P.info? T).map (·.size) = some n)
    (hx : a.eval x = .pointer (some ⟨blkA A, offA A + j * k + f, none⟩)) (hy : a.eval y = v) (hv : v.cells = vs.toArray) (hn : vs.length = n) (h1 : ∀ u ∈ vs, u.oneCell' = true) (hS : Sh B H w) (hO : OwnSl E A xs sp cap) {C : HL → HL} [hp : CtxRow H A (flat E xs ++ sp) Te C] [g : Nth xs j x0] (hk : E.k = k) (z : α) (hz : E.cells z = splice (E.cells x0) f vs) (hf : f + n ≤ E.k)
    (h : ∀ w', Sh B (C (rowA A (flat E (xs.set j z) ++ sp) Te)) w' → OwnSl E A (xs.set j z) sp cap → Nth (xs.set j z) j z → wpList P ops Q rest (a.put o.dst undef) w') : wpList P ops Q (o :: rest) a w := by
  obtain ⟨R, hS0, back⟩ := Sh.out (hp.eq ▸ hS) hp.ctx
  have hlt := g.lt
  cases hA : A with
  | none => have := (hO.nil hA).1; subst this; simp at hlt
  | some ad =>
    subst hA; subst hk; subst hn
    have hform := hO.form ad rfl
    have hoff : offA (some ad) = 0 := hO.off
    rw [hform] at hx hS0
    have hx' : a.eval x = .pointer (some ⟨ad.block, j * E.k + f, none⟩) := by rw [hx]; simp [blkA, offA]
    have hle : j * E.k + E.k ≤ xs.length * E.k := by
      have := Nat.mul_le_mul_right E.k (show j + 1 ≤ xs.length from hlt)
      rwa [Nat.succ_mul] at this
    obtain ⟨w', hr, hS'⟩ := run_storeAt_sh (P := P) (T := T) (b := ad.block) (off := j * E.k + f) (v := v) (vs := vs) (l := flat E xs ++ sp) hT hv hS0 (by rw [List.length_append, flat_length]; omega) h1
    rw [← flat_set g vs f hf hz sp] at hS'
    refine wl_skip' hw (by simp [execOp, ho, hx', hy, hr]) (h w' ?_ ?_ g.set)
    · have := back (rowA (some ad) (flat E (xs.set j z) ++ sp) Te) w' (by rw [hform]; exact hS')
      exact this
    · exact ⟨fun e => (by cases e), hO.form, by rw [List.length_set]; exact hO.capEq, hO.max⟩
theorem wl_stE {T k f : Nat} {x y : Operand} {A : Option Addr} {xs : List α} {sp : List Value} {cap Te j : Nat} {x0 : α} {v : Value} (hw : Region.wanted o (yielded ops a.tmps) = true) (ho : o.op = .store T x y) [hT : Size1 P T]
    (hx : a.eval x = .pointer (some ⟨blkA A, offA A + j * k + f, none⟩)) (hy : a.eval y = v) (h1 : v.oneCell' = true) (hS : Sh B H w) (hO : OwnSl E A xs sp cap) {C : HL → HL} [hp : CtxRow H A (flat E xs ++ sp) Te C] [g : Nth xs j x0] (hk : E.k = k) (z : α) (hz : E.cells z = (E.cells x0).set f v) (hf : f < E.k)
    (h : ∀ w', Sh B (C (rowA A (flat E (xs.set j z) ++ sp) Te)) w' → OwnSl E A (xs.set j z) sp cap → Nth (xs.set j z) j z → wpList P ops Q rest (a.put o.dst undef) w') : wpList P ops Q (o :: rest) a w :=
  wl_stEr (n := 1) (vs := [v]) hw ho hT.size hx hy (by cases v <;> simp_all [Value.cells, Value.oneCell']) rfl (by simpa using h1) hS hO hk z (by simpa [splice] using hz) (by omega) h
theorem wl_stE0 {T k : Nat} {x y : Operand} {A : Option Addr} {xs : List α} {sp : List Value} {cap Te j : Nat} {x0 : α} {v : Value} (hw : Region.wanted o (yielded ops a.tmps) = true) (ho : o.op = .store T x y) [hT : Size1 P T]
    (hx : a.eval x = .pointer (some ⟨blkA A, offA A + j * k, none⟩)) (hy : a.eval y = v) (h1 : v.oneCell' = true) (hS : Sh B H w) (hO : OwnSl E A xs sp cap) {C : HL → HL} [hp : CtxRow H A (flat E xs ++ sp) Te C] [g : Nth xs j x0] (hk : E.k = k) (z : α) (hz : E.cells z = (E.cells x0).set 0 v)
    (h : ∀ w', Sh B (C (rowA A (flat E (xs.set j z) ++ sp) Te)) w' → OwnSl E A (xs.set j z) sp cap → Nth (xs.set j z) j z → wpList P ops Q rest (a.put o.dst undef) w') : wpList P ops Q (o :: rest) a w :=
  wl_stE (f := 0) hw ho hx hy h1 hS hO hk z hz E.pos h
/-- .. of the whole element. -/
theorem wl_stEw {T n k : Nat} {x y : Operand} {A : Option Addr} {xs : List α} {sp : List Value} {cap Te j : Nat} {x0 z : α} (hw : Region.wanted o (yielded ops a.tmps) = true) (ho : o.op = .store T x y) [hT : IsRow P T n]
    (hx : a.eval x = .pointer (some ⟨blkA A, offA A + j * k, none⟩)) (hy : a.eval y = .agg (E.cells z).toArray) (hS : Sh B H w) (hO : OwnSl E A xs sp cap) {C : HL → HL} [hp : CtxRow H A (flat E xs ++ sp) Te C] [g : Nth xs j x0] (hk : E.k = k) (hn : E.k = n)
    (h : ∀ w', Sh B (C (rowA A (flat E (xs.set j z) ++ sp) Te)) w' → OwnSl E A (xs.set j z) sp cap → Nth (xs.set j z) j z → wpList P ops Q rest (a.put o.dst undef) w') : wpList P ops Q (o :: rest) a w :=
  wl_stEr (f := 0) (vs := E.cells z) hw ho hT.size hx hy rfl (by rw [E.len, hn]) (E.one z) hS hO hk z (by rw [splice_all _ _ (by rw [E.len, E.len])]) (by omega) h
end
end Go.Tk

set_option linter.unusedSectionVars false
set_option linter.unusedSimpArgs false
set_option linter.unusedVariables false
namespace Go.Tk
open Go.RowKit Go.Proofs

section
variable {P : Program} {ops : Array Oper} {Q : Exit → Act → World → Prop} {md : Region.Mode} {S : World → Prop}

/-- What is listed has all that it waits for ahead of it. -/
def Closed (md : Region.Mode) (ops : Array Oper) (listed : Array Bool) : Prop :=
  ∀ (k : Nat) (o : Oper), ops[k]? = some o → listed.getD k false = true → ∀ e ∈ o.after, Region.binds md e = true → listed.getD e.on false = true
/-- Every other one lies behind a later one. -/
def LastIs (md : Region.Mode) (ops : Array Oper) : Prop :=
  ∀ k, k + 1 < ops.size → ∃ (m : Nat) (o : Oper), k < m ∧ ops[m]? = some o ∧ ∃ e ∈ o.after, Region.binds md e = true ∧ e.on = k
def lastIs (md : Region.Mode) (ops : Array Oper) : Bool :=
  (List.range ops.size).all fun k => decide (ops.size ≤ k + 1) || (List.range ops.size).any fun m => decide (k < m) && (match ops[m]? with | some o => o.after.any fun e => Region.binds md e && (e.on == k) | none => false)
theorem lastIs_spec (h : lastIs md ops = true) : LastIs md ops := by
  intro k hk
  simp only [lastIs, List.all_eq_true, List.mem_range, Bool.or_eq_true, decide_eq_true_eq, List.any_eq_true, Bool.and_eq_true] at h
  rcases h k (by omega) with h | ⟨m, _, hm, h⟩
  · omega
  · cases ho : ops[m]? with
    | none => simp [ho] at h
    | some o =>
      simp only [ho] at h
      rw [Array.any_eq_true] at h
      obtain ⟨i, hi, he⟩ := h
      simp only [Bool.and_eq_true, beq_iff_eq] at he
      refine ⟨m, o, hm, ?_, o.after[i], Array.getElem_mem hi, he.1, he.2⟩
      first | exact ho | rfl
theorem getD_tf {listed : Array Bool} {k : Nat} (hk : k < listed.size) : listed.getD k true = listed.getD k false := by simp [hk]
theorem last_all {listed : Array Bool} (hl : LastIs md ops) (hc : Closed md ops listed) {j : Nat} (hj : j ∈ Region.ready md ops listed) (he : j + 1 = ops.size) : ∀ k, k < j → listed.getD k false = true := by
  obtain ⟨_, oj, hoj, hall⟩ := mem_ready.1 hj
  have : ∀ d k, k + d + 1 = j → listed.getD k false = true := by
    intro d
    induction d using Nat.strongRecOn with
    | _ d ih =>
      intro k hk
      obtain ⟨m, o, hm, ho, e, hea, heb, heo⟩ := hl k (by omega)
      have hms := (Array.getElem?_eq_some_iff.1 ho).1
      by_cases hmj : m = j
      · subst hmj
        rw [hoj] at ho
        cases ho
        rw [← heo]; exact hall e hea heb
      · have h1 := ih (j - m - 1) (by omega) m (by omega)
        rw [← heo]
        exact hc m o ho h1 e hea heb
  intro k hk
  exact this (j - k - 1) k (by omega)
theorem closed_set {listed : Array Bool} (hc : Closed md ops listed) {j : Nat} (hj : j ∈ Region.ready md ops listed) : Closed md ops (listed.setIfInBounds j true) := by
  obtain ⟨_, oj, hoj, hall⟩ := mem_ready.1 hj
  intro k o ho hk e he hb
  by_cases hkj : j = k
  · subst hkj
    rw [hoj] at ho; cases ho
    exact getD_set_true (hall e he hb)
  · rw [getD_set_ne false hkj] at hk
    exact getD_set_true (hc k o ho hk e he hb)
theorem closed_none {n : Nat} : Closed md ops (Array.replicate n false) := by
  intro k o ho hk
  rw [Array.getD_eq_getD_getElem?, Array.getElem?_replicate] at hk
  split at hk <;> simp at hk

/-- Whatever order is picked: S holds behind every operation but the last. -/
def wpAnyF (P : Program) (md : Region.Mode) (ops : Array Oper) (Q : Exit → Act → World → Prop) (S : World → Prop) : Nat → Array Bool → Act → World → Prop
  | 0, listed, a, w => Region.ready md ops listed = [] ∧ Q .normal a w
  | fuel + 1, listed, a, w =>
    (Region.ready md ops listed = [] → Q .normal a w) ∧
    ∀ i ∈ Region.ready md ops listed, wpOp P ops Q i (fun a' w' => (i + 1 = ops.size ∨ S w') ∧ wpAnyF P md ops Q S fuel (listed.setIfInBounds i true) a' w') a w
theorem wpAny_ofF : ∀ (fuel : Nat) (listed : Array Bool) (a : Act) (w : World), wpAnyF P md ops Q S fuel listed a w → wpAny P md ops Q fuel listed a w
  | 0, _, _, _, h => h
  | fuel + 1, _, _, _, h => ⟨h.1, fun i hi => wpOp_mono (fun a' w' h' => wpAny_ofF fuel _ a' w' h'.2) (h.2 i hi)⟩

theorem wpAnyF_first {i : Nat} {oi : Oper} {v : Value} (hL : LastIs md ops) (hi : ops[i]? = some oi) (hsel : ∀ (j : Nat) (o : Oper) cs b, ops[j]? = some o → o.op ≠ .select cs b)
    (hQ : ∀ c a w, Q (.panic c) (a.put oi.dst v) w → Q (.panic c) a w) :
    ∀ (fuel : Nat) (listed : Array Bool) (a : Act) (w : World), listed.size = ops.size → Closed md ops listed →
      (∀ j oj, ops[j]? = some oj → j ≠ i → listed.getD j true = false → (∀ e ∈ oj.after, Region.binds md e = true → e.on ≠ i) → oi.apart ops oj = true) →
      i ∈ Region.ready md ops listed → YieldsIf P ops S oi v a → S w →
      wpAnyF P md ops Q S fuel (listed.setIfInBounds i true) (a.put oi.dst v) w → wpAnyF P md ops Q S (fuel + 1) listed a w := by
  intro fuel
  induction fuel with
  | zero =>
    intro listed a w _ _ _ hr hy hS H
    refine ⟨fun h => (by rw [h] at hr; cases hr), fun j hj => ?_⟩
    by_cases hji : j = i
    · subst hji; exact hy.wpOp hi hS ⟨.inr hS, H⟩
    · have := ready_mono hj hji
      rw [H.1] at this
      cases this
  | succ fuel ih =>
    intro listed a w hsz hcl hfree hr hy hS H
    refine ⟨fun h => (by rw [h] at hr; cases hr), fun j hj => ?_⟩
    by_cases hji : j = i
    · subst hji; exact hy.wpOp hi hS ⟨.inr hS, H⟩
    · have hjl : j + 1 ≠ ops.size := by
        intro he
        have his : i < ops.size := (Array.getElem?_eq_some_iff.1 hi).1
        have := last_all hL hcl hj he i (by omega)
        have h0 := (mem_ready.1 hr).1
        rw [getD_tf (by omega)] at h0
        rw [h0] at this; cases this
      have h1 := H.2 j (ready_mono hj hji)
      obtain ⟨hjun, oj, hoj, hall⟩ := mem_ready.1 hj
      have hnot : ∀ e ∈ oj.after, Region.binds md e = true → e.on ≠ i := fun e he hb heq => by
        have h1 := hall e he hb
        have h0 := (mem_ready.1 hr).1
        rw [heq] at h1
        rcases Nat.lt_or_ge i listed.size with h' | h'
        · simp [h'] at h0 h1; rw [h0] at h1; cases h1
        · simp [Array.getElem?_eq_none h'] at h1
      have h2 := wpOp_putIf hoj (hfree j oj hoj hji hjun hnot) (fun cs b => hsel i oi cs b hi) (fun cs b => hsel j oj cs b hoj) hQ hy h1
      have hfree' : ∀ k ok, ops[k]? = some ok → k ≠ i → (listed.setIfInBounds j true).getD k true = false →
          (∀ e ∈ ok.after, Region.binds md e = true → e.on ≠ i) → oi.apart ops ok = true := fun k ok hk hki hun hno => by
        refine hfree k ok hk hki ?_ hno
        by_cases hjk : j = k
        · subst hjk; exact hjun
        · rw [getD_set_ne true hjk] at hun; exact hun
      refine wpOp_mono (fun a' w' h3 => ?_) h2
      have hSw : S w' := h3.2.1.resolve_left hjl
      refine ⟨.inr hSw, ih (listed.setIfInBounds j true) a' w' (by simpa using hsz) (closed_set hcl hj) hfree' (ready_mono hr (Ne.symm hji)) h3.1 hSw ?_⟩
      rw [Array.setIfInBounds_comm _ _ hji]
      exact h3.2.2

/-- The operations themselves in an order: behind the last nothing is asked of S. -/
def wpF (P : Program) (ops : Array Oper) (Q : Exit → Act → World → Prop) (S : World → Prop) : List (Oper × Bool) → Act → World → Prop
  | [], a, w => Q .normal a w
  | (o, true) :: rest, a, w => ∃ v, YieldsIf P ops S o v a ∧ S w ∧ wpF P ops Q S rest (a.put o.dst v) w
  | (o, false) :: rest, a, w => wpList P ops (Exit.then (fun a' w' => (rest = [] ∨ S w') ∧ wpF P ops Q S rest a' w') Q) [o] a w

/-- An order, looked at: only the last operation of all stands last. -/
def okF (ops : Array Oper) : List (Nat × Bool) → Array Bool → Bool
  | [], listed => (Region.ready .any ops listed).isEmpty
  | (i, true) :: rest, listed => Region.free .any ops listed i && (Region.ready .any ops listed).contains i && okF ops rest (listed.setIfInBounds i true)
  | (i, false) :: rest, listed => (Region.ready .any ops listed == [i]) && (!rest.isEmpty || decide (i + 1 = ops.size)) && okF ops rest (listed.setIfInBounds i true)

theorem wpF_sound (hL : LastIs .any ops) (hs : Region.noSelect ops = true) (hQ : ∀ d v c a w, Q (.panic c) (Act.put a d v) w → Q (.panic c) a w) :
    ∀ (l : List (Nat × Bool)) (listed : Array Bool) (fuel : Nat) (a : Act) (w : World), (∀ p ∈ l, p.1 < ops.size) → listed.size = ops.size → Closed .any ops listed → okF ops l listed = true → l.length ≤ fuel →
      wpF P ops Q S (picks ops.toList l) a w → wpAnyF P .any ops Q S fuel listed a w
  | [], listed, fuel, a, w, _, _, _, ho, _, h => by
    simp only [okF, List.isEmpty_iff] at ho
    cases fuel with
    | zero => exact ⟨ho, h⟩
    | succ n => exact ⟨fun _ => h, by rw [ho]; simp⟩
  | (i, true) :: rest, listed, fuel, a, w, hl, hsz, hc, ho, hf, h => by
    simp only [okF, Bool.and_eq_true] at ho
    obtain ⟨v, hy, hS, h⟩ := h
    have hi : ops[i]? = some (opAt ops.toList i) := by have := opAt_get (ops := ops.toList) (i := i) (by simpa using hl (i, true) List.mem_cons_self); simpa using this
    obtain ⟨fuel, rfl⟩ : ∃ m, fuel = m + 1 := ⟨fuel - 1, by simp at hf; omega⟩
    have hr : i ∈ Region.ready .any ops listed := by simpa using ho.1.2
    exact wpAnyF_first hL hi (Region.noSelect_spec hs) (hQ _ _) fuel listed a w hsz hc (Region.free_spec hi ho.1.1) hr hy hS
      (wpF_sound hL hs hQ rest _ fuel _ w (fun p hp => hl p (List.mem_cons_of_mem _ hp)) (by simpa using hsz) (closed_set hc hr) ho.2 (by simp at hf; omega) h)
  | (i, false) :: rest, listed, fuel, a, w, hl, hsz, hc, ho, hf, h => by
    simp only [okF, Bool.and_eq_true, beq_iff_eq, Bool.or_eq_true, Bool.not_eq_true', decide_eq_true_eq] at ho
    have hi : ops[i]? = some (opAt ops.toList i) := by have := opAt_get (ops := ops.toList) (i := i) (by simpa using hl (i, false) List.mem_cons_self); simpa using this
    obtain ⟨fuel, rfl⟩ : ∃ m, fuel = m + 1 := ⟨fuel - 1, by simp at hf; omega⟩
    have hr : i ∈ Region.ready .any ops listed := by rw [ho.1.1]; simp
    refine ⟨fun h0 => absurd (ho.1.1 ▸ h0) (by simp), fun j hj => ?_⟩
    rw [ho.1.1, List.mem_singleton] at hj
    subst hj
    refine wpOp_mono (fun a' w' h' => ⟨?_, wpF_sound hL hs hQ rest _ fuel _ _ (fun p hp => hl p (List.mem_cons_of_mem _ hp)) (by simpa using hsz) (closed_set hc hr) ho.2 (by simp at hf; omega) h'.2⟩) (wpH_E hi h)
    rcases h'.1 with h1 | h1
    · left
      have hre : rest = [] := by
        cases rest with
        | nil => rfl
        | cons p r => simp [picks] at h1
      rcases ho.1.2 with h2 | h2
      · subst hre; simp at h2
      · exact h2
    · exact .inr h1

theorem wp_drawnF {B : Base} {H : HL} {id : Nat} {a : Act} {w : World} (hS : Sh B H w) (l : List (Nat × Bool)) (hm : P.follows .mixedOrders = true)
    (hs : (lastIs .any ops && Region.noSelect ops && okF ops l (Array.replicate ops.size false) && decide (l.length ≤ ops.size) && l.all (fun p => decide (p.1 < ops.size))) = true)
    (hQ : ∀ d v c a w, Q (.panic c) (Act.put a d v) w → Q (.panic c) a w) (h : wpF P ops Q (Sh B H) (picks ops.toList l) a w.drew) : (Code.region id ops true).wp P Q a w := by
  simp only [Bool.and_eq_true, decide_eq_true_eq, List.all_eq_true] at hs
  exact wp_region_any hm (wpAny_ofF _ _ _ _ (wpF_sound (S := Sh B H) (lastIs_spec hs.1.1.1.1) hs.1.1.1.2 hQ l _ _ a _ (fun p hp => hs.2 p hp) (by simp) closed_none hs.1.1.2 hs.1.2 h))

theorem wpF_done {K C : Act → World → Prop} {Q' : Exit → Act → World → Prop} {a : Act} {w : World} (hK : ∀ a w, C a w → K a w) (h : C a w) : wpF P ops (Exit.then K Q') S [] a w := hK _ _ h
theorem wpF_doneB {id : Nat} {K C : Act → World → Prop} {Q' : Exit → Act → World → Prop} {a : Act} {w : World} (hK : ∀ a w, C a w → K a w) (h : C a w) : wpF P ops (Exit.inBlock id (Exit.then K Q')) S [] a w := hK _ _ h
theorem wpF_nil {Q : Exit → Act → World → Prop} {a : Act} {w : World} (h : Q .normal a w) : wpF P ops Q S [] a w := h
theorem wpH_doneB {id : Nat} {K C : Act → World → Prop} {Q' : Exit → Act → World → Prop} {a : Act} {w : World} (hK : ∀ a w, C a w → K a w) (h : C a w) : wpG P ops (Exit.inBlock id (Exit.then K Q')) S [] a w := hK _ _ h
theorem wpF_U {o : Oper} {v : Value} {rest : List (Oper × Bool)} {a : Act} {w : World} (hw : Region.wanted o (yielded ops a.tmps) = true)
    (hy : ∀ w, S w → (execOp a.eval o).run P w = .ok (.value v) w) (hS : S w) (h : wpF P ops Q S rest (a.put o.dst v) w) : wpF P ops Q S ((o, true) :: rest) a w := ⟨v, .inl ⟨hw, hy⟩, hS, h⟩
theorem wpF_not {o : Oper} {rest : List (Oper × Bool)} {a : Act} {w : World} (hw : Region.wanted o (yielded ops a.tmps) = false)
    (hS : S w) (h : wpF P ops Q S rest (a.put o.dst undef) w) : wpF P ops Q S ((o, true) :: rest) a w := ⟨undef, .inr ⟨hw, rfl⟩, hS, h⟩
theorem wpF_ex {o : Oper} {rest : List (Oper × Bool)} {a : Act} {w : World}
    (h : wpList P ops (Exit.then (fun a' w' => (rest = [] ∨ S w') ∧ wpF P ops Q S rest a' w') Q) [o] a w) : wpF P ops Q S ((o, false) :: rest) a w := h
theorem wpF_isld {rest : List (Oper × Bool)} {o : Oper} {a : Act} {w : World} {T : TypeId} {x : Operand} (ho : o.op = .load T x) (h : wpF P ops Q S ((o, true) :: rest) a w) : wpF P ops Q S ((o, true) :: rest) a w := h
end
end Go.Tk

set_option linter.unusedSectionVars false
set_option linter.unusedSimpArgs false
set_option linter.unusedVariables false
namespace Go.Tk
open Go.RowKit Go.Proofs Go.Shelf Go.Sort Go.Lib

theorem Sh.growOf {W w : World} {H : HL} (h : Sh (Base.of W) H w) : ∃ q os', w = grow (W.drewN q) os' := by
  refine ⟨w.drawn - W.drawn, w.heap.extract W.heap.size w.heap.size, ?_⟩
  have hd : W.drawn ≤ w.drawn := h.drawn
  have hsz : W.heap.size ≤ w.heap.size := by
    rcases Nat.eq_zero_or_pos W.heap.size with h0 | h0
    · omega
    · have hl : W.heap.size - 1 < W.heap.size := by omega
      have := h.base (W.heap.size - 1) W.heap[W.heap.size - 1] (by simp [Base.of, hl])
      have := (Array.getElem?_eq_some_iff.1 this).1
      omega
  have hh : w.heap = W.heap ++ w.heap.extract W.heap.size w.heap.size := by
    apply Array.ext_getElem?
    intro i
    by_cases hi : i < W.heap.size
    · rw [Array.getElem?_append_left hi]
      have := h.base i W.heap[i] (by simp [Base.of, hi])
      rw [this]; simp [hi]
    · rw [Array.getElem?_append_right (by omega), Array.getElem?_extract]
      by_cases h2 : i < w.heap.size
      · rw [if_pos (by omega)]; congr 1; omega
      · rw [if_neg (by omega)]; simp; omega
  have h1 := h.os; have h2 := h.tape; have h3 := h.output
  cases w
  simp only [grow, World.drewN] at *
  congr 1
  omega

theorem Sh.growR {B : Base} {H : HL} {w : World} (h : Sh B H w) (os' : Array Obj) : Sh B H (grow w os') := {
  os := h.os
  tape := h.tape
  output := h.output
  drawn := h.drawn
  base b o hb := by
    have := h.base b o hb
    have hl := (Array.getElem?_eq_some_iff.1 this).1
    show (w.heap ++ os')[b]? = _
    rw [Array.getElem?_append_left hl, this]
  own p hp := by
    have := h.own p hp
    have hl := (Array.getElem?_eq_some_iff.1 this).1
    show (w.heap ++ os')[p.1]? = _
    rw [Array.getElem?_append_left hl, this]
  apart := h.apart
  nodup := h.nodup }

theorem flatK_flat {α : Type} [Inhabited α] (E : Enc α) (d : List α) : (flatK E.cells E.k d.toArray).toList = flat E d := by
  apply List.ext_getElem?
  intro t
  by_cases ht : t < d.length * E.k
  · have hk := E.pos
    have hj : t / E.k < d.length := (Nat.div_lt_iff_lt_mul hk).2 ht
    have hx : d[t / E.k]? = some d[t / E.k] := List.getElem?_eq_getElem hj
    have hm : t % E.k < (E.cells d[t / E.k]).length := by rw [E.len]; exact Nat.mod_lt _ hk
    have hf := flat_get (E := E) hx [] (List.getElem?_eq_getElem hm)
    rw [List.append_nil, Nat.div_add_mod'] at hf
    rw [hf, Array.getElem?_toList]
    have hs : t < (flatK E.cells E.k d.toArray).size := by simpa using ht
    rw [Array.getElem?_eq_getElem hs]
    congr 1
    have := get_flatK E.cells E.k d.toArray t (by simpa using ht)
    rw [getElem!_pos (flatK E.cells E.k d.toArray) t hs] at this
    rw [this]
    have e1 : d.toArray[t / E.k]! = d[t / E.k] := by rw [getElem!_pos d.toArray _ (by simpa using hj)]; simp
    rw [e1, getElem!_pos (E.cells d[t / E.k]) (t % E.k) hm]
  · rw [List.getElem?_eq_none (by simp; omega), List.getElem?_eq_none (by rw [flat_length]; omega)]

theorem putCells_id (F c : List Value) (h : F.length ≤ c.length) : (putCells id 0 F.toArray c.toArray).toList = F ++ c.drop F.length := by
  apply List.ext_getElem?
  intro i
  simp only [putCells, Array.getElem?_toList, Array.getElem?_mapIdx, List.getElem?_toArray, List.size_toArray, Nat.zero_le, true_and, Nat.zero_add, Nat.sub_zero, id]
  by_cases hi : i < F.length
  · rw [List.getElem?_append_left hi, List.getElem?_eq_getElem (by omega : i < c.length), List.getElem?_eq_getElem hi]
    simp [hi]
  · rw [List.getElem?_append_right (by omega), List.getElem?_drop]
    simp only [hi, if_false, Option.map_id']
    congr 1; omega

theorem mapBlock_setB {w : World} {b T : Nat} {c : Array Value} (f : Array Value → Array Value) (h : w.heap[b]? = some (.cells c T (0, 0))) : mapBlock w b f = Tk.setB w b (.cells (f c) T (0, 0)) := by
  unfold mapBlock Tk.setB
  congr 1
  apply Array.ext_getElem?
  intro i
  by_cases hi : b = i
  · subst hi
    have hl := (Array.getElem?_eq_some_iff.1 h).1
    rw [Array.getElem?_modify, Array.getElem?_setIfInBounds_self_of_lt hl]
    simp [h, onCells]
  · rw [Array.getElem?_modify, Array.getElem?_setIfInBounds_ne hi]
    simp [hi]

/-- What is asked of the closure: it reads nothing, and what it lays stays its own. -/
def CmpPure {α : Type} (P : Program) (g : Nat) (cb : Array Value) (E : Enc α) (cf : α → α → Int) : Prop :=
  ∀ (x y : α) (W : World), Calls P g (#[E.val x, E.val y] ++ cb) W fun e w' => e = .returned (.int .i64 (cf x y)) ∧ Sh (Base.of W) [] w'

def SortP {α : Type} (E : Enc α) (cf : α → α → Int) (B : Base) (A : Option Addr) (xs : List α) (sp : List Value) (cap T : Nat) (C : HL → HL) (e : Ending) (w' : World) : Prop :=
  e = .returned (.tuple #[]) ∧ ∃ ys : List α, ys.Perm xs ∧ ys.Pairwise (fun x y => 0 ≤ cf y x) ∧ OwnSl E A ys sp cap ∧ Sh B (C (rowA A (flat E ys ++ sp) T)) w'

section
variable {P : Program} {ρ : Ren} {α : Type} [Inhabited α] {E : Enc α} {B : Base} {H : HL} {w : World}
theorem sortK (L : SlLaysF0.n6 P ρ) (aE : ∀ w, (isAgg (ρ.t 24)).run P w = .ok true w) (zE : ∀ w, (Go.sizeOf (ρ.t 24)).run P w = .ok E.k w) (hv : ∀ x, E.val x = .agg (E.cells x).toArray)
    {cf : α → α → Int} (hO : SWO (ltOf cf)) {g : Nat} {cb : Array Value} (eg : ∀ args w, (callFunc g args).run P w = .ok (.enter g args) w) (hcmp : CmpPure P g cb E cf)
    {A : Option Addr} {xs : List α} {sp : List Value} {cap T : Nat} {C : HL → HL} (hOw : OwnSl E A xs sp cap) (hS : Sh B H w) [hp : CtxRow H A (flat E xs ++ sp) T C] (hmax : xs.length < 4611686018427387904) :
    Calls P (ρ.f 6) #[.slice A xs.length cap, .func (.func g) #[] cb] w (SortP E cf B A xs sp cap T C) := by
  cases xs with
  | nil =>
    refine (AnyF.slices_SortFunc_none L A cap _ w).mono fun e w' h => ⟨h.1, [], .refl _, .nil, hOw, ?_⟩
    rw [h.2]; exact hp.eq ▸ hS
  | cons x0 xr =>
    cases A with
    | none => exact absurd (hOw.nil rfl).1 (by simp)
    | some ad =>
      have had := hOw.form ad rfl
      obtain ⟨b, rfl⟩ : ∃ b, ad = ⟨b, 0, none⟩ := ⟨_, had⟩
      obtain ⟨R, hS, hC⟩ := Sh.out (hp.eq ▸ hS) hp.ctx
      generalize hxs : x0 :: xr = xs at *
      have hb : w.heap[b]? = some (.cells (flat E xs ++ sp).toArray T (0, 0)) := hS.own (b, _) (by simp [rowA])
      have hlt : b < w.heap.size := (Array.getElem?_eq_some_iff.1 hb).1
      have hH : HoldsK E.cells E.k w b 0 xs.toArray := by
        intro j hj
        have hj' : j < (flat E xs).length := by rw [flat_length]; simpa using hj
        have e1 : (flatK E.cells E.k xs.toArray)[j]! = (flat E xs)[j] := by
          rw [getElem!_pos (flatK E.cells E.k xs.toArray) j hj]
          have := congrArg (fun l => l[j]?) (flatK_flat E xs)
          simp only [Array.getElem?_toList, List.getElem?_eq_getElem hj', Array.getElem?_eq_getElem hj, Option.some.injEq] at this
          exact this
        refine ⟨?_, ?_⟩
        · simp only [World.cell?, hb, Nat.zero_add, e1, id]
          simp [List.getElem?_append_left hj', List.getElem?_eq_getElem hj']
        · simp [World.frozen?, hb]
      have hL : CmpLays P g cb E.cells E.k cf b 0 xs.toArray.size w := by
        intro m os dk _ x y
        have := hcmp x y (sortWorldK E.cells E.k w b 0 m dk os)
        rw [hv, hv] at this
        exact this.mono fun e w' h => ⟨h.1, h.2.growOf⟩
      have hcall := AnyQ.slices_SortFunc L E.k aE zE E.cells E.len (fun x v h => E.one x v h) cf hO g cb b 0 cap xs.toArray w eg hL hH hlt (by simpa using hmax)
      refine hcall.mono fun e w' h => ?_
      obtain ⟨he, d', n, os, hperm, hsort, rfl⟩ := h
      obtain ⟨hsz, _, hpm⟩ := hperm
      have ex1 : d'.extract 0 xs.toArray.size = d' := by rw [← hsz]; exact Array.extract_size
      rw [ex1, Array.extract_size] at hpm
      have hpm : d'.toList.Perm xs := by simpa using hpm
      have hlen : d'.toList.length = xs.length := hpm.length_eq
      refine ⟨he, d'.toList, hpm, ?_, ?_, ?_⟩
      · rw [List.pairwise_iff_getElem]
        intro i j hi hj hij
        have := hsort i j (Nat.zero_le _) hij (by simpa using (by omega : j < xs.length))
        rw [getElem!_pos d' j (by simpa using hj), getElem!_pos d' i (by simpa using hi)] at this
        simpa [ltOf] using this
      · exact ⟨(fun h => by cases h), hOw.form, by rw [hlen]; exact hOw.capEq, hOw.max⟩
      · refine hC _ _ ?_
        refine Sh.growR ?_ _
        have hbn : (Sort.ahead w n).heap[b]? = some (.cells (flat E xs ++ sp).toArray T (0, 0)) := hb
        show Sh B _ (putRowK E.cells E.k (Sort.ahead w n) b 0 d')
        unfold putRowK putRow
        rw [mapBlock_setB _ hbn]
        have hS2 : Sh B (rowA (some ⟨b, 0, none⟩) (flat E xs ++ sp) T ++ R) (Sort.ahead w n) := hS.drewN n
        have hfin := Sh.setB (H := R) (b := b) (o := .cells (flat E xs ++ sp).toArray T (0, 0)) hS2 (.cells (putCells id 0 (flatK E.cells E.k d') (flat E xs ++ sp).toArray) T (0, 0))
        have ecell : putCells id 0 (flatK E.cells E.k d') (flat E xs ++ sp).toArray = (flat E d'.toList ++ sp).toArray := by
          apply Array.ext'
          have e2 : flatK E.cells E.k d' = (flat E d'.toList).toArray := by apply Array.ext'; have := flatK_flat E d'.toList; simpa using this
          have hl2 : (flat E d'.toList).length = (flat E xs).length := by rw [flat_length, flat_length, hlen]
          rw [e2, putCells_id _ _ (by rw [hl2]; simp)]
          rw [hl2, List.drop_left]
        rw [ecell] at hfin ⊢
        exact hfin
end
end Go.Tk

set_option linter.unusedSectionVars false
set_option linter.unusedSimpArgs false
set_option linter.unusedVariables false
namespace Go.Tk
open Go.RowKit Go.Proofs

/-- An order, with branches where more than one that acts may come up. -/
inductive Pl where
  | done
  | u (i : Nat) (r : Pl)
  | e (i : Nat) (r : Pl)
  | b (i : Nat) (ri rest : Pl)
def Pl.alts : Pl → List Nat
  | .e i _ => [i]
  | .b i _ r => i :: r.alts
  | _ => []
def Pl.isDone : Pl → Bool
  | .done => true
  | _ => false
def Pl.depth : Pl → Nat
  | .done => 0
  | .u _ r => r.depth + 1
  | .e _ r => r.depth + 1
  | .b _ ri r => max (ri.depth + 1) r.depth
def Pl.bounded (n : Nat) : Pl → Bool
  | .done => true
  | .u i r => decide (i < n) && r.bounded n
  | .e i r => decide (i < n) && r.bounded n
  | .b i ri r => decide (i < n) && ri.bounded n && r.bounded n
def okT (ops : Array Oper) : Bool → Pl → Array Bool → Bool
  | false, .done, listed => (Region.ready .any ops listed).isEmpty
  | false, .u i r, listed => Region.free .any ops listed i && (Region.ready .any ops listed).contains i && okT ops false r (listed.setIfInBounds i true)
  | false, .e i r, listed => (Region.ready .any ops listed == [i]) && (!r.isDone || decide (i + 1 = ops.size)) && okT ops false r (listed.setIfInBounds i true)
  | false, .b i ri r, listed => (Region.ready .any ops listed == i :: r.alts) && (!ri.isDone || decide (i + 1 = ops.size)) && okT ops false ri (listed.setIfInBounds i true) && okT ops true r listed
  | true, .e i r, listed => (!r.isDone || decide (i + 1 = ops.size)) && okT ops false r (listed.setIfInBounds i true)
  | true, .b i ri r, listed => (!ri.isDone || decide (i + 1 = ops.size)) && okT ops false ri (listed.setIfInBounds i true) && okT ops true r listed
  | true, _, _ => false

inductive PlO where
  | done
  | u (o : Oper) (r : PlO)
  | e (o : Oper) (r : PlO)
  | b (o : Oper) (ro rest : PlO)
def PlO.isDone : PlO → Bool
  | .done => true
  | _ => false
def pk (ops : List Oper) : Pl → PlO
  | .done => .done
  | .u i r => .u (opAt ops i) (pk ops r)
  | .e i r => .e (opAt ops i) (pk ops r)
  | .b i ri r => .b (opAt ops i) (pk ops ri) (pk ops r)
theorem pk_done (ops : List Oper) : pk ops .done = .done := rfl
theorem pk_u (ops : List Oper) (i : Nat) (r : Pl) : pk ops (.u i r) = .u (opAt ops i) (pk ops r) := rfl
theorem pk_e (ops : List Oper) (i : Nat) (r : Pl) : pk ops (.e i r) = .e (opAt ops i) (pk ops r) := rfl
theorem pk_b (ops : List Oper) (i : Nat) (ri r : Pl) : pk ops (.b i ri r) = .b (opAt ops i) (pk ops ri) (pk ops r) := rfl
theorem pk_isDone (ops : List Oper) (p : Pl) : (pk ops p).isDone = p.isDone := by cases p <;> rfl

section
variable {P : Program} {ops : Array Oper} {Q : Exit → Act → World → Prop} {S : World → Prop}
def wpT (P : Program) (ops : Array Oper) (Q : Exit → Act → World → Prop) (S : World → Prop) : PlO → Act → World → Prop
  | .done, a, w => Q .normal a w
  | .u o r, a, w => ∃ v, YieldsIf P ops S o v a ∧ S w ∧ wpT P ops Q S r (a.put o.dst v) w
  | .e o r, a, w => wpList P ops (Exit.then (fun a' w' => (r.isDone = true ∨ S w') ∧ wpT P ops Q S r a' w') Q) [o] a w
  | .b o ro r, a, w => wpList P ops (Exit.then (fun a' w' => (ro.isDone = true ∨ S w') ∧ wpT P ops Q S ro a' w') Q) [o] a w ∧ wpT P ops Q S r a w

theorem wpT_sound (hL : LastIs .any ops) (hs : Region.noSelect ops = true) (hQ : ∀ d v c a w, Q (.panic c) (Act.put a d v) w → Q (.panic c) a w) :
    ∀ (p : Pl) (listed : Array Bool) (a : Act) (w : World), p.bounded ops.size = true → listed.size = ops.size → Closed .any ops listed → wpT P ops Q S (pk ops.toList p) a w →
      (okT ops false p listed = true → ∀ fuel, p.depth ≤ fuel → wpAnyF P .any ops Q S fuel listed a w) ∧
      (okT ops true p listed = true → ∀ fuel, p.depth ≤ fuel + 1 → ∀ i ∈ p.alts, i ∈ Region.ready .any ops listed → wpOp P ops Q i (fun a' w' => (i + 1 = ops.size ∨ S w') ∧ wpAnyF P .any ops Q S fuel (listed.setIfInBounds i true) a' w') a w) := by
  have one : ∀ (i : Nat) (r : Pl) (listed : Array Bool) (a : Act) (w : World), i < ops.size → i ∈ Region.ready .any ops listed → (!r.isDone || decide (i + 1 = ops.size)) = true →
      (∀ a' w', wpT P ops Q S (pk ops.toList r) a' w' → ∀ fuel, r.depth ≤ fuel → wpAnyF P .any ops Q S fuel (listed.setIfInBounds i true) a' w') →
      wpList P ops (Exit.then (fun a' w' => ((pk ops.toList r).isDone = true ∨ S w') ∧ wpT P ops Q S (pk ops.toList r) a' w') Q) [opAt ops.toList i] a w →
      ∀ fuel, r.depth ≤ fuel → wpOp P ops Q i (fun a' w' => (i + 1 = ops.size ∨ S w') ∧ wpAnyF P .any ops Q S fuel (listed.setIfInBounds i true) a' w') a w := by
    intro i r listed a w hi hr hd hk h fuel hf
    have hi' : ops[i]? = some (opAt ops.toList i) := by have := opAt_get (ops := ops.toList) (i := i) (by simpa using hi); simpa using this
    refine wpOp_mono (fun a' w' h' => ⟨?_, hk a' w' h'.2 fuel hf⟩) (wpH_E hi' h)
    rcases h'.1 with h1 | h1
    · left
      rw [pk_isDone] at h1
      simpa [h1] using hd
    · exact .inr h1
  intro p
  induction p with
  | done =>
    intro listed a w _ _ _ h
    refine ⟨fun ho fuel _ => ?_, fun ho => by simp [okT] at ho⟩
    simp only [okT, List.isEmpty_iff] at ho
    cases fuel with
    | zero => exact ⟨ho, h⟩
    | succ n => exact ⟨fun _ => h, by rw [ho]; simp⟩
  | u i r ih =>
    intro listed a w hb hsz hc h
    refine ⟨fun ho fuel hf => ?_, fun ho => by simp [okT] at ho⟩
    simp only [okT, Bool.and_eq_true] at ho
    simp only [Pl.bounded, Bool.and_eq_true, decide_eq_true_eq] at hb
    obtain ⟨v, hy, hS, h⟩ := h
    have hi' : ops[i]? = some (opAt ops.toList i) := by have := opAt_get (ops := ops.toList) (i := i) (by simpa using hb.1); simpa using this
    simp only [Pl.depth] at hf
    obtain ⟨fuel, rfl⟩ : ∃ m, fuel = m + 1 := ⟨fuel - 1, by omega⟩
    have hr : i ∈ Region.ready .any ops listed := by simpa using ho.1.2
    exact wpAnyF_first hL hi' (Region.noSelect_spec hs) (hQ _ _) fuel listed a w hsz hc (Region.free_spec hi' ho.1.1) hr hy hS
      ((ih _ _ w hb.2 (by simpa using hsz) (closed_set hc hr) h).1 ho.2 fuel (by omega))
  | e i r ih =>
    intro listed a w hb hsz hc h
    simp only [Pl.bounded, Bool.and_eq_true, decide_eq_true_eq] at hb
    have key : i ∈ Region.ready .any ops listed → (!r.isDone || decide (i + 1 = ops.size)) = true → okT ops false r (listed.setIfInBounds i true) = true → ∀ fuel, r.depth ≤ fuel →
        wpOp P ops Q i (fun a' w' => (i + 1 = ops.size ∨ S w') ∧ wpAnyF P .any ops Q S fuel (listed.setIfInBounds i true) a' w') a w := fun hr hd ho =>
      one i r listed a w hb.1 hr hd (fun a' w' h' => (ih _ a' w' hb.2 (by simpa using hsz) (closed_set hc hr) h').1 ho) h
    refine ⟨fun ho fuel hf => ?_, fun ho fuel hf j hj hr => ?_⟩
    · simp only [okT, Bool.and_eq_true, beq_iff_eq] at ho
      simp only [Pl.depth] at hf
      obtain ⟨fuel, rfl⟩ : ∃ m, fuel = m + 1 := ⟨fuel - 1, by omega⟩
      have hr : i ∈ Region.ready .any ops listed := by rw [ho.1.1]; simp
      refine ⟨fun h0 => absurd (ho.1.1 ▸ h0) (by simp), fun j hj => ?_⟩
      rw [ho.1.1, List.mem_singleton] at hj
      subst hj
      exact key hr ho.1.2 ho.2 fuel (by omega)
    · simp only [okT, Bool.and_eq_true] at ho
      simp only [Pl.depth] at hf
      simp only [Pl.alts, List.mem_singleton] at hj
      subst hj
      exact key hr ho.1 ho.2 fuel (by omega)
  | b i ri r ihi ihr =>
    intro listed a w hb hsz hc h
    simp only [Pl.bounded, Bool.and_eq_true, decide_eq_true_eq] at hb
    obtain ⟨h1, h2⟩ := h
    have key : i ∈ Region.ready .any ops listed → (!ri.isDone || decide (i + 1 = ops.size)) = true → okT ops false ri (listed.setIfInBounds i true) = true → ∀ fuel, ri.depth ≤ fuel →
        wpOp P ops Q i (fun a' w' => (i + 1 = ops.size ∨ S w') ∧ wpAnyF P .any ops Q S fuel (listed.setIfInBounds i true) a' w') a w := fun hr hd ho =>
      one i ri listed a w hb.1.1 hr hd (fun a' w' h' => (ihi _ a' w' hb.1.2 (by simpa using hsz) (closed_set hc hr) h').1 ho) h1
    refine ⟨fun ho fuel hf => ?_, fun ho fuel hf j hj hr => ?_⟩
    · simp only [okT, Bool.and_eq_true, beq_iff_eq] at ho
      simp only [Pl.depth] at hf
      obtain ⟨fuel, rfl⟩ : ∃ m, fuel = m + 1 := ⟨fuel - 1, by omega⟩
      refine ⟨fun h0 => absurd (ho.1.1.1 ▸ h0) (by simp), fun j hj => ?_⟩
      have hr := hj
      rw [ho.1.1.1] at hj
      rcases List.mem_cons.1 hj with rfl | hj
      · exact key hr ho.1.1.2 ho.1.2 fuel (by omega)
      · exact (ihr listed a w hb.2 hsz hc h2).2 ho.2 fuel (by omega) j hj hr
    · simp only [okT, Bool.and_eq_true] at ho
      simp only [Pl.depth] at hf
      rcases List.mem_cons.1 hj with rfl | hj
      · exact key hr ho.1.1 ho.1.2 fuel (by omega)
      · exact (ihr listed a w hb.2 hsz hc h2).2 ho.2 fuel (by omega) j hj hr

theorem wp_drawnT {B : Base} {H : HL} {id : Nat} {a : Act} {w : World} (hS : Sh B H w) (p : Pl) (hm : P.follows .mixedOrders = true)
    (hs : (lastIs .any ops && Region.noSelect ops && okT ops false p (Array.replicate ops.size false) && decide (p.depth ≤ ops.size) && p.bounded ops.size) = true)
    (hQ : ∀ d v c a w, Q (.panic c) (Act.put a d v) w → Q (.panic c) a w) (h : wpT P ops Q (Sh B H) (pk ops.toList p) a w.drew) : (Code.region id ops true).wp P Q a w := by
  simp only [Bool.and_eq_true, decide_eq_true_eq] at hs
  exact wp_region_any hm (wpAny_ofF _ _ _ _ ((wpT_sound (S := Sh B H) (lastIs_spec hs.1.1.1.1) hs.1.1.1.2 hQ p _ a _ hs.2 (by simp) closed_none h).1 hs.1.1.2 _ hs.1.2))

theorem wpT_done {K C : Act → World → Prop} {Q' : Exit → Act → World → Prop} {a : Act} {w : World} (hK : ∀ a w, C a w → K a w) (h : C a w) : wpT P ops (Exit.then K Q') S .done a w := hK _ _ h
theorem wpT_doneB {id : Nat} {K C : Act → World → Prop} {Q' : Exit → Act → World → Prop} {a : Act} {w : World} (hK : ∀ a w, C a w → K a w) (h : C a w) : wpT P ops (Exit.inBlock id (Exit.then K Q')) S .done a w := hK _ _ h
theorem wpT_nil {Q : Exit → Act → World → Prop} {a : Act} {w : World} (h : Q .normal a w) : wpT P ops Q S .done a w := h
theorem wpT_U {o : Oper} {v : Value} {rest : PlO} {a : Act} {w : World} (hw : Region.wanted o (yielded ops a.tmps) = true)
    (hy : ∀ w, S w → (execOp a.eval o).run P w = .ok (.value v) w) (hS : S w) (h : wpT P ops Q S rest (a.put o.dst v) w) : wpT P ops Q S (.u o rest) a w := ⟨v, .inl ⟨hw, hy⟩, hS, h⟩
theorem wpT_not {o : Oper} {rest : PlO} {a : Act} {w : World} (hw : Region.wanted o (yielded ops a.tmps) = false)
    (hS : S w) (h : wpT P ops Q S rest (a.put o.dst undef) w) : wpT P ops Q S (.u o rest) a w := ⟨undef, .inr ⟨hw, rfl⟩, hS, h⟩
theorem wpT_ex {o : Oper} {rest : PlO} {a : Act} {w : World}
    (h : wpList P ops (Exit.then (fun a' w' => (rest.isDone = true ∨ S w') ∧ wpT P ops Q S rest a' w') Q) [o] a w) : wpT P ops Q S (.e o rest) a w := h
theorem wpT_br {o : Oper} {ro rest : PlO} {a : Act} {w : World}
    (h : wpList P ops (Exit.then (fun a' w' => (ro.isDone = true ∨ S w') ∧ wpT P ops Q S ro a' w') Q) [o] a w) (h2 : wpT P ops Q S rest a w) : wpT P ops Q S (.b o ro rest) a w := ⟨h, h2⟩
end
end Go.Tk

set_option linter.unusedSectionVars false
set_option linter.unusedSimpArgs false
set_option linter.unusedVariables false
namespace Go.Tk
open Go.RowKit

section
variable {P : Program} {ops : Array Oper} {Q : Exit → Act → World → Prop} {rest : List Oper} {o : Oper} {a : Act} {B : Base} {H R : HL} {w : World} {α : Type} {E : Enc α}
theorem Sh.setRowC {b : Nat} {l l' : List Value} {T : TypeId} (h : Sh B (cellB b l T ++ R) w) : Sh B (cellB b l' T ++ R) (w.setRow b l'.toArray) := by
  have h1 := Sh.setB (H := R) (b := b) h (.cells l'.toArray T (0, 0))
  have hb' : w.heap[b]? = some (.cells l.toArray T (0, 0)) := h.own (b, .cells l.toArray T (0, 0)) (by simp [cellB])
  have e : w.setRow b l'.toArray = Tk.setB w b (.cells l'.toArray T (0, 0)) := by
    unfold World.setRow Tk.setB
    congr 1
    apply Array.ext_getElem?
    intro i
    rw [Array.getElem?_modify, Array.getElem?_setIfInBounds]
    by_cases hi : b = i
    · subst hi
      obtain ⟨hlt, he⟩ := Array.getElem?_eq_some_iff.1 hb'
      simp [hlt, he]
    · simp [hi]
  rw [e]
  exact h1

/-- copy over a whole own slice. -/
theorem wl_copy {t t2 e n m cap cap0 cap' : Nat} {d s : Operand} {A A' : Option Addr} {xs ys : List α} {sp : List Value} (hw : Region.wanted o (yielded ops a.tmps) = true)
    (ho : o.op = .call { callee := .builtin .copy, args := #[d, s], argTypes := #[t, t2] }) [hsl : SlTy P t e E.k]
    (hd : a.eval d = .slice A n cap) (hs : a.eval s = .slice A' m cap') (hS : Sh B H w) (hO : OwnSl E A xs sp cap0) {C : HL → HL} [hp : CtxRow H A (flat E xs ++ sp) e C] [hr : RdAt E B H A' ys] (hk : E.k = 1) (hn : n = xs.length) (hm : m = ys.length) (hl : ys.length = xs.length)
    (h : ∀ w', OwnSl E A ys sp cap0 → Sh B (C (rowA A (flat E ys ++ sp) e)) w' → wpList P ops Q rest (a.put o.dst (.int .i64 n)) w') : wpList P ops Q (o :: rest) a w := by
  subst hm
  have hsz : (P.info? e).map (·.size) = some 1 := by rw [← hk]; exact hsl.size
  have hO' : OwnSl E A ys sp cap0 := ⟨fun e => by
    obtain ⟨h1, h2⟩ := hO.nil e
    subst h1
    exact ⟨List.eq_nil_of_length_eq_zero hl, h2⟩, hO.form, by rw [hl]; exact hO.capEq, hO.max⟩
  by_cases h0 : ys.length = 0
  · have hy : ys = [] := List.eq_nil_of_length_eq_zero h0
    have hx : xs = [] := List.eq_nil_of_length_eq_zero (by omega)
    subst hy; subst hx
    have hrun := run_copy_none (P := P) w t t2 o.type e A A' n cap 0 cap' hsl.under hsz (by simp)
    have hn0 : n = 0 := hn
    subst hn0
    refine wl_to hw ?_ (h w hO' (hp.eq ▸ hS))
    simp only [List.length_nil] at hs
    simp [execOp, ho, resolve, invoke, builtin, hd, hs, hrun, goInt]
  · have hok := hr.ok (by omega)
    obtain ⟨gb, go, hA'⟩ := hok
    obtain ⟨R, hS0, back⟩ := Sh.out (hp.eq ▸ hS) hp.ctx
    cases hA : A with
    | none => have := (hO.nil hA).1; subst this; simp at hl; exact absurd hl (by simpa using h0)
    | some ad =>
      subst hA
      have hform := hO.form ad rfl
      have hg := hS0.own (ad.block, .cells (flat E xs ++ sp).toArray e (0, 0)) (by simp [rowA])
      have hfl : ∀ zs : List α, (flat E zs).length = zs.length := by intro zs; rw [flat_length, hk, Nat.mul_one]
      have hsrc : ∀ j v, (flat E ys)[j]? = some v → w.cell? ((Addr.mk gb go none).add j) = some v := by
        intro j v hj
        have hlt : j < ys.length := by rw [← hfl ys]; exact (List.getElem?_eq_some_iff.1 hj).1
        have hx := List.getElem?_eq_getElem hlt
        have hc : (E.cells ys[j])[0]? = some v := by
          have h1 : (E.cells ys[j]).length = 1 := by rw [E.len, hk]
          have h2 := flat_get (E := E) hx [] (f := 0) (v := (E.cells ys[j])[0]'(by omega)) (List.getElem?_eq_getElem (by omega))
          rw [hk] at h2
          simp only [List.append_nil, Nat.mul_one, Nat.add_zero] at h2
          rw [List.getElem?_eq_getElem (by omega), ← h2, hj]
        have h3 := hr.f1 hS hk hx hc
        rw [hA'] at h3
        simp only [blkA, offA] at h3
        by_cases hj0 : j = 0
        · subst hj0; simpa [Addr.add] using h3
        · simpa [Addr.add, hj0] using h3
      rw [hform] at hd
      have hrun := run_copy_row (P := P) w t t2 o.type e ad.block 0 n cap ⟨gb, go, none⟩ ys.length cap' (flat E xs ++ sp).toArray e (flat E ys) hsl.under hsz hg (by rw [hfl]; exact (Nat.min_eq_left (by omega)).symm) hsrc (by simp [hfl]; omega) (flat_one ys)
      rw [hA'] at hs
      have hcells : ((flat E xs ++ sp).toArray.toList.take 0 ++ flat E ys ++ (flat E xs ++ sp).toArray.toList.drop (0 + (flat E ys).length)) = flat E ys ++ sp := by
        simp only [List.take_zero, List.nil_append, Nat.zero_add]
        congr 1
        rw [show (flat E ys).length = (flat E xs).length from by rw [hfl, hfl, hl]]
        simp
      rw [hcells] at hrun
      have hS1 : Sh B (rowA (some ad) (flat E ys ++ sp) e ++ R) (w.setRow ad.block (flat E ys ++ sp).toArray) := Sh.setRowC (T := e) hS0
      refine wl_to hw ?_ (h _ hO' (back _ _ hS1))
      rw [show (flat E ys).length = n from by rw [hfl]; omega] at hrun
      simp [execOp, ho, resolve, invoke, builtin, hd, hs, hrun, goInt]

/-- make. -/
theorem wl_make {t e bytes : Nat} {l c : Operand} {kl kc : IntKind} {n m : Nat} {z : α} {zc : List Value} (hw : Region.wanted o (yielded ops a.tmps) = true) (ho : o.op = .makeSlice t l c)
    [hsl : SlTy P t e E.k] [hel : ElTy P e E.k bytes] [hz : Zero P e zc] (hk : E.k = 1) (hzc : zc = E.cells z) (hl : a.eval l = .int kl n) (hc : a.eval c = .int kc m) (hnm : n ≤ m) (hb : m * bytes ≤ 281474976710656) (hm : m ≤ 9223372036854775807) (hS : Sh B H w)
    (h : ∀ b w', OwnSl E (some ⟨b, 0, none⟩) (List.replicate n z) (List.replicate (m - n) (zc.headD undef)) m → Sh B (rowA (some ⟨b, 0, none⟩) (flat E (List.replicate n z) ++ List.replicate (m - n) (zc.headD undef)) e ++ H) w' → wpList P ops Q rest (a.put o.dst (.slice (some ⟨b, 0, none⟩) n m)) w') : wpList P ops Q (o :: rest) a w := by
  obtain ⟨i, z', h1, h2, h3, h4, h5⟩ := hel.out
  have hzz : z'.cells = zc.toArray := by
    obtain ⟨z2, hz1, hz2⟩ := hz.out
    simp only [h1, Option.bind_some, h2, Option.some.injEq] at hz1
    rw [hz1]; exact hz2
  have hlen : zc.length = 1 := by rw [hzc, E.len, hk]
  obtain ⟨v, hv⟩ : ∃ v, zc = [v] := List.length_eq_one_iff.1 hlen
  have hbb : (bytes : Int) * m ≤ 281474976710656 := by
    have h : ((bytes * m : Nat) : Int) ≤ 281474976710656 := by rw [Nat.mul_comm]; omega
    rwa [Int.natCast_mul] at h
  have hrun := run_make (P := P) w t e i z' hsl.under h1 h2 kl kc n m (by omega) (by omega) (by rw [h4]; exact hbb) (by omega)
  have hmade : madeCells z'.cells ((m : Int).toNat * i.size) = (flat E (List.replicate n z) ++ List.replicate (m - n) (zc.headD undef)).toArray := by
    have hf : ∀ k, flat E (List.replicate k z) = List.replicate k v := by
      intro k
      induction k with
      | zero => rfl
      | succ k ih => rw [List.replicate_succ, flat_cons, ih, ← hzc, hv]; rfl
    rw [hf, hv, hzz, hv, h3, hk]
    simp only [List.headD_cons, Int.toNat_natCast, Nat.mul_one, List.replicate_append_replicate, show n + (m - n) = m from by omega]
    unfold madeCells
    apply Array.ext
    · simp
    · intro j h1 h2
      simp [Nat.mod_one]
  rw [hmade] at hrun
  simp only [Int.toNat_natCast] at hrun
  refine wl_to hw ?_ (h _ _ ?_ (hS.alloc _))
  · simp only [execOp, ho, hl, hc, Sem.run_bind, hrun]; rfl
  · refine ⟨(fun e => nomatch e), fun ad e => by cases e; rfl, ?_, by unfold maxLen; omega⟩
    simp [hk]; omega
/-- A store of a row over a part of an own block. -/
theorem wl_strO {T n n1 n2 : Nat} {x y : Operand} {b off Tb : Nat} {l vs : List Value} (l' : List Value) (hw : Region.wanted o (yielded ops a.tmps) = true) (ho : o.op = .store T x y) [hT : IsRow P T n]
    (hx : a.eval x = .pointer (some ⟨b, off, none⟩)) (hy : a.eval y = .agg vs.toArray) [hv : RowOk vs n1] (hS : Sh B H w) {C : HL → HL} [hp : CtxCell H b l Tb C] (hl : l.length = n2) (e1 : n1 = n) (e2 : off + n ≤ n2) (hz : splice l off vs = l')
    (h : ∀ w', Sh B (C (cellB b l' Tb)) w' → wpList P ops Q rest (a.put o.dst undef) w') : wpList P ops Q (o :: rest) a w :=
  wl_str hw ho hx hy (hv.len.trans e1) hv.one hS (by omega) fun w' hS' => h w' (hz ▸ hS')
end
section
variable {P : Program} {ops : Array Oper} {Q : Exit → Act → World → Prop} {rest : List Oper} {o : Oper} {a : Act} {w : World}
/-- A guard that holds; one that doesn't. -/
theorem wl_ung {dst : Option Nat} {op : Op} {ty : TypeId} {pos : String} {after : Array Edge} {g : Nat × Bool} (hw : Region.wanted ⟨dst, op, ty, pos, after, some g⟩ (yielded ops a.tmps) = true)
    (h : wpList P ops Q (⟨dst, op, ty, pos, after, none⟩ :: rest) a w) : wpList P ops Q (⟨dst, op, ty, pos, after, some g⟩ :: rest) a w := by
  unfold wpList at h ⊢
  rw [if_pos hw]
  have h2 : Region.wanted ⟨dst, op, ty, pos, after, none⟩ (yielded ops a.tmps) = true := rfl
  rw [if_pos h2] at h
  exact h
theorem wl_nog {dst : Option Nat} {op : Op} {ty : TypeId} {pos : String} {after : Array Edge} {g : Nat × Bool} (hw : Region.wanted ⟨dst, op, ty, pos, after, some g⟩ (yielded ops a.tmps) = false)
    (h : wpList P ops Q rest (a.put dst undef) w) : wpList P ops Q (⟨dst, op, ty, pos, after, some g⟩ :: rest) a w := by
  unfold wpList
  rw [if_neg (by rw [hw]; decide)]
  exact h
/-- A guard that is known, or told apart. -/
theorem wl_hasg {j : Nat} {want : Bool} (hg : o.guard = some (j, want)) (h : wpList P ops Q (o :: rest) a w) : wpList P ops Q (o :: rest) a w := h
theorem wl_lit {j : Nat} {want : Bool} (b : Bool) (hg : o.guard = some (j, want)) (hy : yielded ops a.tmps j = some b) (h : wpList P ops Q (o :: rest) a w) : wpList P ops Q (o :: rest) a w := h
theorem wl_grd {j : Nat} {want b : Bool} (hg : o.guard = some (j, want)) (hy : yielded ops a.tmps j = some b) (h : ∀ c, b = c → wpList P ops Q (o :: rest) a w) : wpList P ops Q (o :: rest) a w := h b rfl
end
/-- A cut behind a piece of code: what the rest needs of it. -/
theorem wp_cutS {P : Program} {c : Code} {Q' : Exit → Act → World → Prop} {K : Act → World → Prop} {a0 : Act} {w0 : World} {σ : Type} (sig junk : List Nat) (enc : σ → List Value) (I : σ → World → Prop)
    (first : c.wp P (Exit.then (RoundEnd a0 sig junk enc I (fun _ => True)) Q') a0 w0)
    (rest : ∀ s J w, I s w → K (Frm a0 sig junk (enc s) J) w) : c.wp P (Exit.then K Q') a0 w0 := by
  refine Code.wp_mono ?_ first
  intro e a' w' h
  cases e <;> try exact h
  obtain ⟨s', hI', _, hv, hb, hd⟩ := h
  have ha' := frm_of hv hb hd
  show K a' w'
  rw [ha']
  exact rest s' _ w' hI'
section
variable {P : Program} {ops : Array Oper} {Q : Exit → Act → World → Prop} {rest : List Oper} {o : Oper} {a : Act} {B : Base} {H R : HL} {w : World}
variable {κ ν : Type} [DecidableEq κ] {kv : κ → Value} {vv : ν → Value}
/-- An entry of a map that is written out. -/
theorem wl_insert {t K V b : Nat} {x y z : Operand} [KeyTy P K kv] [MapTy P t K V] {es : Array MapEntry} {clock : Nat} {m : List (κ × ν)} {k : κ} {v : ν} (hm : MapIs kv vv es clock m) (hw : Region.wanted o (yielded ops a.tmps) = true) (ho : o.op = .insert t x y z)
    (hx : a.eval x = .map (some b)) (hy : a.eval y = kv k) (hz : a.eval z = vv v) (hS : Sh B H w) {C : HL → HL} [hp : CtxMap H b es clock C]
    (h : ∀ es' clock' w', Sh B (C (mapB b es' clock')) w' → MapIs kv vv es' clock' (mput m k v) → wpList P ops Q rest (a.put o.dst undef) w') : wpList P ops Q (o :: rest) a w := by
  obtain ⟨R, hS0, back⟩ := Sh.out (hp.eq ▸ hS) hp.ctx
  obtain ⟨m', hpm, hm0⟩ := hm.out
  obtain ⟨es', clock', w', hr, hS', hm'⟩ := run_mapUpdate (P := P) (t := t) hm0 hS0 k v
  exact wl_skip' hw (by simp [execOp, ho, hx, hy, hz, hr]) (h _ _ _ (back _ _ hS') ⟨_, mput_perm hm0.nodup hpm k v, hm'⟩)
end
theorem bodyPost_normal {P : Program} {fn : Func} {R : Ending → World → Prop} {a : Act} {w : World} (h : bodyPost P fn R .ret a w) : bodyPost P fn R .normal a w := by
  unfold bodyPost at *
  exact h
instance : IsN 3 3 := ⟨rfl⟩
instance : IsN 4 4 := ⟨rfl⟩
instance : IsN 5 5 := ⟨rfl⟩
instance : IsN 6 6 := ⟨rfl⟩
instance : IsN 7 7 := ⟨rfl⟩
instance : IsN 8 8 := ⟨rfl⟩
instance : IsN 9 9 := ⟨rfl⟩
instance : IsN 10 10 := ⟨rfl⟩
instance : IsN 11 11 := ⟨rfl⟩
instance : IsN 12 12 := ⟨rfl⟩
instance : IsN 13 13 := ⟨rfl⟩
instance : IsN 14 14 := ⟨rfl⟩
instance : IsN 15 15 := ⟨rfl⟩
instance : IsN 16 16 := ⟨rfl⟩
instance : IsN 17 17 := ⟨rfl⟩
instance : IsN 18 18 := ⟨rfl⟩
instance : IsN 19 19 := ⟨rfl⟩
instance : IsN 20 20 := ⟨rfl⟩
instance : IsN 21 21 := ⟨rfl⟩
instance : IsN 22 22 := ⟨rfl⟩
instance : IsN 23 23 := ⟨rfl⟩
instance : IsN 24 24 := ⟨rfl⟩
instance : IsN 25 25 := ⟨rfl⟩
instance : IsN 26 26 := ⟨rfl⟩
instance : IsN 27 27 := ⟨rfl⟩
instance : IsN 28 28 := ⟨rfl⟩
instance : IsN 29 29 := ⟨rfl⟩
instance : IsN 30 30 := ⟨rfl⟩
instance : IsN 31 31 := ⟨rfl⟩
instance : IsN 32 32 := ⟨rfl⟩
instance IsN.add {a b : Int} {i j : Nat} [h1 : IsN a i] [h2 : IsN b j] : IsN (a + b) (i + j) := ⟨by rw [h1.out, h2.out]; rfl⟩
end Go.Tk

set_option linter.unusedSectionVars false
set_option linter.unusedSimpArgs false
set_option linter.unusedVariables false
namespace Go.Tk
open Go.RowKit Go.Proofs Go.Shelf Go.Sort Go.Lib

section
variable {P : Program} {ρ : Ren} {α : Type} [Inhabited α] {E : Enc α} {B : Base} {H : HL} {w : World}
theorem sortWorld_sh {b T : Nat} {R : HL} {xs : List α} {sp : List Value} (hS : Sh B (rowA (some ⟨b, 0, none⟩) (flat E xs ++ sp) T ++ R) w) (m : Nat) (os : Array Obj) (dk : Array α) (hd : dk.size = xs.length) :
    Sh B (rowA (some ⟨b, 0, none⟩) (flat E dk.toList ++ sp) T ++ R) (sortWorldK E.cells E.k w b 0 m dk os) := by
  have hlen : dk.toList.length = xs.length := by simpa using hd
  have hb : w.heap[b]? = some (.cells (flat E xs ++ sp).toArray T (0, 0)) := hS.own (b, _) (by simp [rowA])
  refine Sh.growR ?_ _
  have hbn : (Sort.ahead w m).heap[b]? = some (.cells (flat E xs ++ sp).toArray T (0, 0)) := hb
  show Sh B _ (putRowK E.cells E.k (Sort.ahead w m) b 0 dk)
  unfold putRowK putRow
  rw [mapBlock_setB _ hbn]
  have hS2 : Sh B (rowA (some ⟨b, 0, none⟩) (flat E xs ++ sp) T ++ R) (Sort.ahead w m) := hS.drewN m
  have hfin := Sh.setB (H := R) (b := b) (o := .cells (flat E xs ++ sp).toArray T (0, 0)) hS2 (.cells (putCells id 0 (flatK E.cells E.k dk) (flat E xs ++ sp).toArray) T (0, 0))
  have ecell : putCells id 0 (flatK E.cells E.k dk) (flat E xs ++ sp).toArray = (flat E dk.toList ++ sp).toArray := by
    apply Array.ext'
    have e2 : flatK E.cells E.k dk = (flat E dk.toList).toArray := by apply Array.ext'; have := flatK_flat E dk.toList; simpa using this
    have hl2 : (flat E dk.toList).length = (flat E xs).length := by rw [flat_length, flat_length, hlen]
    rw [e2, putCells_id _ _ (by rw [hl2]; simp)]
    rw [hl2, List.drop_left]
  rw [ecell] at hfin ⊢
  exact hfin
/-- What is asked of the closure, in the worlds that the sort passes through. -/
def CmpIn {α : Type} (P : Program) (B : Base) (g : Nat) (cb : Array Value) (E : Enc α) (cf : α → α → Int) : Prop :=
  ∀ (x y : α) (H : HL) (W : World), Sh B H W → Calls P g (#[E.val x, E.val y] ++ cb) W fun e w' => e = .returned (.int .i64 (cf x y)) ∧ Sh (Base.of W) [] w'
theorem sortK2 (L : SlLaysF0.n6 P ρ) (aE : ∀ w, (isAgg (ρ.t 24)).run P w = .ok true w) (zE : ∀ w, (Go.sizeOf (ρ.t 24)).run P w = .ok E.k w) (hv : ∀ x, E.val x = .agg (E.cells x).toArray)
    {cf : α → α → Int} (hO : SWO (ltOf cf)) {g : Nat} {cb : Array Value} (eg : ∀ args w, (callFunc g args).run P w = .ok (.enter g args) w) (hcmp : CmpIn P B g cb E cf)
    {A : Option Addr} {xs : List α} {sp : List Value} {cap T : Nat} {C : HL → HL} (hOw : OwnSl E A xs sp cap) (hS : Sh B H w) [hp : CtxRow H A (flat E xs ++ sp) T C] (hmax : xs.length < 4611686018427387904) :
    Calls P (ρ.f 6) #[.slice A xs.length cap, .func (.func g) #[] cb] w (SortP E cf B A xs sp cap T C) := by
  cases xs with
  | nil =>
    refine (AnyF.slices_SortFunc_none L A cap _ w).mono fun e w' h => ⟨h.1, [], .refl _, .nil, hOw, ?_⟩
    rw [h.2]; exact hp.eq ▸ hS
  | cons x0 xr =>
    cases A with
    | none => exact absurd (hOw.nil rfl).1 (by simp)
    | some ad =>
      have had := hOw.form ad rfl
      obtain ⟨b, rfl⟩ : ∃ b, ad = ⟨b, 0, none⟩ := ⟨_, had⟩
      obtain ⟨R, hS, hC⟩ := Sh.out (hp.eq ▸ hS) hp.ctx
      generalize hxs : x0 :: xr = xs at *
      have hb : w.heap[b]? = some (.cells (flat E xs ++ sp).toArray T (0, 0)) := hS.own (b, _) (by simp [rowA])
      have hlt : b < w.heap.size := (Array.getElem?_eq_some_iff.1 hb).1
      have hH : HoldsK E.cells E.k w b 0 xs.toArray := by
        intro j hj
        have hj' : j < (flat E xs).length := by rw [flat_length]; simpa using hj
        have e1 : (flatK E.cells E.k xs.toArray)[j]! = (flat E xs)[j] := by
          rw [getElem!_pos (flatK E.cells E.k xs.toArray) j hj]
          have := congrArg (fun l => l[j]?) (flatK_flat E xs)
          simp only [Array.getElem?_toList, List.getElem?_eq_getElem hj', Array.getElem?_eq_getElem hj, Option.some.injEq] at this
          exact this
        refine ⟨?_, ?_⟩
        · simp only [World.cell?, hb, Nat.zero_add, e1, id]
          simp [List.getElem?_append_left hj', List.getElem?_eq_getElem hj']
        · simp [World.frozen?, hb]
      have hL : CmpLays P g cb E.cells E.k cf b 0 xs.toArray.size w := by
        intro m os dk hdk x y
        have := hcmp x y _ (sortWorldK E.cells E.k w b 0 m dk os) (sortWorld_sh hS m os dk (by simpa using hdk))
        rw [hv, hv] at this
        exact this.mono fun e w' h => ⟨h.1, h.2.growOf⟩
      have hcall := AnyQ.slices_SortFunc L E.k aE zE E.cells E.len (fun x v h => E.one x v h) cf hO g cb b 0 cap xs.toArray w eg hL hH hlt (by simpa using hmax)
      refine hcall.mono fun e w' h => ?_
      obtain ⟨he, d', n, os, hperm, hsort, rfl⟩ := h
      obtain ⟨hsz, _, hpm⟩ := hperm
      have ex1 : d'.extract 0 xs.toArray.size = d' := by rw [← hsz]; exact Array.extract_size
      rw [ex1, Array.extract_size] at hpm
      have hpm : d'.toList.Perm xs := by simpa using hpm
      have hlen : d'.toList.length = xs.length := hpm.length_eq
      refine ⟨he, d'.toList, hpm, ?_, ?_, ?_⟩
      · rw [List.pairwise_iff_getElem]
        intro i j hi hj hij
        have := hsort i j (Nat.zero_le _) hij (by simpa using (by omega : j < xs.length))
        rw [getElem!_pos d' j (by simpa using hj), getElem!_pos d' i (by simpa using hi)] at this
        simpa [ltOf] using this
      · exact ⟨(fun h => by cases h), hOw.form, by rw [hlen]; exact hOw.capEq, hOw.max⟩
      · refine hC _ _ ?_
        refine Sh.growR ?_ _
        have hbn : (Sort.ahead w n).heap[b]? = some (.cells (flat E xs ++ sp).toArray T (0, 0)) := hb
        show Sh B _ (putRowK E.cells E.k (Sort.ahead w n) b 0 d')
        unfold putRowK putRow
        rw [mapBlock_setB _ hbn]
        have hS2 : Sh B (rowA (some ⟨b, 0, none⟩) (flat E xs ++ sp) T ++ R) (Sort.ahead w n) := hS.drewN n
        have hfin := Sh.setB (H := R) (b := b) (o := .cells (flat E xs ++ sp).toArray T (0, 0)) hS2 (.cells (putCells id 0 (flatK E.cells E.k d') (flat E xs ++ sp).toArray) T (0, 0))
        have ecell : putCells id 0 (flatK E.cells E.k d') (flat E xs ++ sp).toArray = (flat E d'.toList ++ sp).toArray := by
          apply Array.ext'
          have e2 : flatK E.cells E.k d' = (flat E d'.toList).toArray := by apply Array.ext'; have := flatK_flat E d'.toList; simpa using this
          have hl2 : (flat E d'.toList).length = (flat E xs).length := by rw [flat_length, flat_length, hlen]
          rw [e2, putCells_id _ _ (by rw [hl2]; simp)]
          rw [hl2, List.drop_left]
        rw [ecell] at hfin ⊢
        exact hfin
end
end Go.Tk
