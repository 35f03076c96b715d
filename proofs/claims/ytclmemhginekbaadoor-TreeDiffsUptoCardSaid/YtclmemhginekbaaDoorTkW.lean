/- What the library writes into a slice of ints, in the symbolic heap. -/
import Derived.Test.YtclmemhginekbaaDoorTkV
import Derived.Sort.Row
import Derived.Sort.Grow
set_option linter.unusedSectionVars false
set_option linter.unusedSimpArgs false
set_option linter.unusedVariables false
namespace Go.Tk
open Go.RowKit Go.Proofs

theorem Sh.growW {B : Base} {H : HL} {w : World} (h : Sh B H w) (os' : Array Obj) : Sh B H (Go.Sort.grow w os') := {
  os := h.os
  tape := h.tape
  output := h.output
  drawn := h.drawn
  base b o hb := by
    have := h.base b o hb
    have hl := (Array.getElem?_eq_some_iff.1 this).1
    show (w.heap ++ os')[b]? = _
    rw [Array.getElem?_append_left hl, this]
  own p hp := by
    have := h.own p hp
    have hl := (Array.getElem?_eq_some_iff.1 this).1
    show (w.heap ++ os')[p.1]? = _
    rw [Array.getElem?_append_left hl, this]
  apart := h.apart
  nodup := h.nodup }
theorem putCells_mid {k : IntKind} (dead : List Value) (xs zs : List Int) (sp : List Value) (hl : zs.length = xs.length) :
    Go.Sort.putCells (Value.int k) dead.length zs.toArray (dead ++ (flat (intE k) xs ++ sp)).toArray = (dead ++ (flat (intE k) zs ++ sp)).toArray := by
  have hf : ∀ l : List Int, flat (intE k) l = l.map (Value.int k) := by
    intro l
    induction l with
    | nil => rfl
    | cons a l ih => show [Value.int k a] ++ flat (intE k) l = _; rw [ih]; rfl
  rw [hf, hf]
  apply Array.ext'
  apply List.ext_getElem?
  intro i
  simp only [Go.Sort.putCells, Array.getElem?_toList, Array.getElem?_mapIdx, List.getElem?_toArray, List.size_toArray]
  by_cases h1 : i < dead.length
  · rw [List.getElem?_append_left h1, List.getElem?_append_left h1]
    have : ¬ (dead.length ≤ i ∧ i < dead.length + zs.length) := by omega
    simp only [this, if_false, Option.map_id']
  · have a1 : (dead ++ (xs.map (Value.int k) ++ sp))[i]? = (xs.map (Value.int k) ++ sp)[i - dead.length]? := List.getElem?_append_right (by omega)
    have a2 : (dead ++ (zs.map (Value.int k) ++ sp))[i]? = (zs.map (Value.int k) ++ sp)[i - dead.length]? := List.getElem?_append_right (by omega)
    rw [a1, a2]
    have hx : (xs.map (Value.int k)).length = xs.length := List.length_map ..
    have hz : (zs.map (Value.int k)).length = zs.length := List.length_map ..
    by_cases h2 : i < dead.length + zs.length
    · have hc : (dead.length ≤ i ∧ i < dead.length + zs.length) := by omega
      have e1 : (xs.map (Value.int k) ++ sp)[i - dead.length]? = some (Value.int k (xs[i - dead.length]'(by omega))) := by
        rw [List.getElem?_append_left (by omega), List.getElem?_map, List.getElem?_eq_getElem (by omega)]; rfl
      have e2 : (zs.map (Value.int k) ++ sp)[i - dead.length]? = some (Value.int k (zs[i - dead.length]'(by omega))) := by
        rw [List.getElem?_append_left (by omega), List.getElem?_map, List.getElem?_eq_getElem (by omega)]; rfl
      have e3 : (zs.toArray)[i - dead.length]! = zs[i - dead.length]'(by omega) := by rw [getElem!_pos zs.toArray _ (by simp; omega)]; simp
      rw [e1, e2]
      simp only [hc, and_self, if_true, Option.map_some, e3]
    · have hc : ¬ (dead.length ≤ i ∧ i < dead.length + zs.length) := by omega
      simp only [hc, if_false, Option.map_id']
      have b1 : (xs.map (Value.int k) ++ sp)[i - dead.length]? = sp[i - dead.length - (xs.map (Value.int k)).length]? := List.getElem?_append_right (by omega)
      have b2 : (zs.map (Value.int k) ++ sp)[i - dead.length]? = sp[i - dead.length - (zs.map (Value.int k)).length]? := List.getElem?_append_right (by omega)
      rw [b1, b2, hx, hz, hl]
theorem mapBlock_setW {w : World} {b T : Nat} {c : Array Value} (f : Array Value → Array Value) (h : w.heap[b]? = some (.cells c T (0, 0))) : Go.Sort.mapBlock w b f = Tk.setB w b (.cells (f c) T (0, 0)) := by
  unfold Go.Sort.mapBlock Tk.setB
  congr 1
  apply Array.ext_getElem?
  intro i
  by_cases hi : b = i
  · subst hi
    have hl := (Array.getElem?_eq_some_iff.1 h).1
    rw [Array.getElem?_modify, Array.getElem?_setIfInBounds_self_of_lt hl]
    simp [h, Go.Sort.onCells]
  · rw [Array.getElem?_modify, Array.getElem?_setIfInBounds_ne hi]
    simp [hi]
section
variable {B : Base} {H R : HL} {w : World} {k : IntKind} {b n T : Nat} {dead sp : List Value} {xs zs : List Int}
theorem Sh.putI (hS : Sh B H w) {C : HL → HL} [hp : CtxRow H (some ⟨b, dead.length, none⟩) (dead ++ (flat (intE k) xs ++ sp)) T C] (hl : zs.length = xs.length) : Sh B (C (rowA (some ⟨b, dead.length, none⟩) (dead ++ (flat (intE k) zs ++ sp)) T)) (Go.Sort.putRow (Value.int k) (Go.Sort.ahead w n) b dead.length zs.toArray) := by
  obtain ⟨R, hS, hC⟩ := Sh.out (hp.eq ▸ hS) hp.ctx
  refine hC _ _ ?_
  have hb : w.heap[b]? = some (.cells (dead ++ (flat (intE k) xs ++ sp)).toArray T (0, 0)) := hS.own (b, _) (by simp [rowA])
  have hbn : (Go.Sort.ahead w n).heap[b]? = some (.cells (dead ++ (flat (intE k) xs ++ sp)).toArray T (0, 0)) := hb
  unfold Go.Sort.putRow
  rw [mapBlock_setW _ hbn, putCells_mid dead xs zs sp hl]
  have hS2 : Sh B (rowA (some ⟨b, dead.length, none⟩) (dead ++ (flat (intE k) xs ++ sp)) T ++ R) (Go.Sort.ahead w n) := hS.drewN n
  exact Sh.setB (H := R) (b := b) (o := .cells (dead ++ (flat (intE k) xs ++ sp)).toArray T (0, 0)) hS2 (.cells (dead ++ (flat (intE k) zs ++ sp)).toArray T (0, 0))
theorem Sh.holdsI (hS : Sh B H w) [hp : HasRow H (some ⟨b, dead.length, none⟩) (dead ++ (flat (intE k) xs ++ sp)) T R] : Go.Sort.Holds (Value.int k) w b dead.length xs.toArray ∧ b < w.heap.size := by
  have hS' := hS.pick hp.out
  have hb : w.heap[b]? = some (.cells (dead ++ (flat (intE k) xs ++ sp)).toArray T (0, 0)) := hS'.own (b, _) (by simp [rowA])
  refine ⟨?_, (Array.getElem?_eq_some_iff.1 hb).1⟩
  intro j hj
  have hj' : j < xs.length := by simpa using hj
  have e1 : (xs.toArray)[j]! = xs[j] := by rw [getElem!_pos xs.toArray _ hj]; simp
  refine ⟨?_, by simp [World.frozen?, hb]⟩
  have hg := flat_get (E := intE k) (List.getElem?_eq_getElem hj') sp (f := 0) (v := .int k xs[j]) rfl
  have hk : (intE k).k = 1 := rfl
  rw [hk, Nat.mul_one, Nat.add_zero] at hg
  simp only [World.cell?, hb, e1]
  simp only [List.getElem?_toArray]
  rw [List.getElem?_append_right (by omega), show dead.length + j - dead.length = j by omega]
  exact hg
end
end Go.Tk
