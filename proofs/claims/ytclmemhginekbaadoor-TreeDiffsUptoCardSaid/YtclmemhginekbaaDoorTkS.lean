/- slices.SortFunc over rows, by the shelf's contract, in the symbolic heap. -/
import Derived.Test.YtclmemhginekbaaDoorTkH
import Derived.Shelf.SlSortCmp.NoneTotal
set_option linter.unusedSectionVars false
set_option linter.unusedSimpArgs false
set_option linter.unusedVariables false
namespace Go.Tk
open Go.RowKit Go.Proofs Go.Shelf Go.Sort Go.Lib

theorem Sh.growOf {W w : World} {H : HL} (h : Sh (Base.of W) H w) : ∃ q os', w = grow (W.drewN q) os' := by
  refine ⟨w.drawn - W.drawn, w.heap.extract W.heap.size w.heap.size, ?_⟩
  have hd : W.drawn ≤ w.drawn := h.drawn
  have hsz : W.heap.size ≤ w.heap.size := by
    rcases Nat.eq_zero_or_pos W.heap.size with h0 | h0
    · omega
    · have hl : W.heap.size - 1 < W.heap.size := by omega
      have := h.base (W.heap.size - 1) W.heap[W.heap.size - 1] (by simp [Base.of, hl])
      have := (Array.getElem?_eq_some_iff.1 this).1
      omega
  have hh : w.heap = W.heap ++ w.heap.extract W.heap.size w.heap.size := by
    apply Array.ext_getElem?
    intro i
    by_cases hi : i < W.heap.size
    · rw [Array.getElem?_append_left hi]
      have := h.base i W.heap[i] (by simp [Base.of, hi])
      rw [this]; simp [hi]
    · rw [Array.getElem?_append_right (by omega), Array.getElem?_extract]
      by_cases h2 : i < w.heap.size
      · rw [if_pos (by omega)]; congr 1; omega
      · rw [if_neg (by omega)]; simp; omega
  have h1 := h.os; have h2 := h.tape; have h3 := h.output
  cases w
  simp only [grow, World.drewN] at *
  congr 1
  omega

theorem Sh.growR {B : Base} {H : HL} {w : World} (h : Sh B H w) (os' : Array Obj) : Sh B H (grow w os') := {
  os := h.os
  tape := h.tape
  output := h.output
  drawn := h.drawn
  base b o hb := by
    have := h.base b o hb
    have hl := (Array.getElem?_eq_some_iff.1 this).1
    show (w.heap ++ os')[b]? = _
    rw [Array.getElem?_append_left hl, this]
  own p hp := by
    have := h.own p hp
    have hl := (Array.getElem?_eq_some_iff.1 this).1
    show (w.heap ++ os')[p.1]? = _
    rw [Array.getElem?_append_left hl, this]
  apart := h.apart
  nodup := h.nodup }

theorem flatK_flat {α : Type} [Inhabited α] (E : Enc α) (d : List α) : (flatK E.cells E.k d.toArray).toList = flat E d := by
  apply List.ext_getElem?
  intro t
  by_cases ht : t < d.length * E.k
  · have hk := E.pos
    have hj : t / E.k < d.length := (Nat.div_lt_iff_lt_mul hk).2 ht
    have hx : d[t / E.k]? = some d[t / E.k] := List.getElem?_eq_getElem hj
    have hm : t % E.k < (E.cells d[t / E.k]).length := by rw [E.len]; exact Nat.mod_lt _ hk
    have hf := flat_get (E := E) hx [] (List.getElem?_eq_getElem hm)
    rw [List.append_nil, Nat.div_add_mod'] at hf
    rw [hf, Array.getElem?_toList]
    have hs : t < (flatK E.cells E.k d.toArray).size := by simpa using ht
    rw [Array.getElem?_eq_getElem hs]
    congr 1
    have := get_flatK E.cells E.k d.toArray t (by simpa using ht)
    rw [getElem!_pos (flatK E.cells E.k d.toArray) t hs] at this
    rw [this]
    have e1 : d.toArray[t / E.k]! = d[t / E.k] := by rw [getElem!_pos d.toArray _ (by simpa using hj)]; simp
    rw [e1, getElem!_pos (E.cells d[t / E.k]) (t % E.k) hm]
  · rw [List.getElem?_eq_none (by simp; omega), List.getElem?_eq_none (by rw [flat_length]; omega)]

theorem putCells_id (F c : List Value) (h : F.length ≤ c.length) : (putCells id 0 F.toArray c.toArray).toList = F ++ c.drop F.length := by
  apply List.ext_getElem?
  intro i
  simp only [putCells, Array.getElem?_toList, Array.getElem?_mapIdx, List.getElem?_toArray, List.size_toArray, Nat.zero_le, true_and, Nat.zero_add, Nat.sub_zero, id]
  by_cases hi : i < F.length
  · rw [List.getElem?_append_left hi, List.getElem?_eq_getElem (by omega : i < c.length), List.getElem?_eq_getElem hi]
    simp [hi]
  · rw [List.getElem?_append_right (by omega), List.getElem?_drop]
    simp only [hi, if_false, Option.map_id']
    congr 1; omega

theorem mapBlock_setB {w : World} {b T : Nat} {c : Array Value} (f : Array Value → Array Value) (h : w.heap[b]? = some (.cells c T (0, 0))) : mapBlock w b f = Tk.setB w b (.cells (f c) T (0, 0)) := by
  unfold mapBlock Tk.setB
  congr 1
  apply Array.ext_getElem?
  intro i
  by_cases hi : b = i
  · subst hi
    have hl := (Array.getElem?_eq_some_iff.1 h).1
    rw [Array.getElem?_modify, Array.getElem?_setIfInBounds_self_of_lt hl]
    simp [h, onCells]
  · rw [Array.getElem?_modify, Array.getElem?_setIfInBounds_ne hi]
    simp [hi]

/-- What is asked of the closure: it reads nothing, and what it lays stays its own. -/
def CmpPure {α : Type} (P : Program) (g : Nat) (cb : Array Value) (E : Enc α) (cf : α → α → Int) : Prop :=
  ∀ (x y : α) (W : World), Calls P g (#[E.val x, E.val y] ++ cb) W fun e w' => e = .returned (.int .i64 (cf x y)) ∧ Sh (Base.of W) [] w'

def SortP {α : Type} (E : Enc α) (cf : α → α → Int) (B : Base) (A : Option Addr) (xs : List α) (sp : List Value) (cap T : Nat) (C : HL → HL) (e : Ending) (w' : World) : Prop :=
  e = .returned (.tuple #[]) ∧ ∃ ys : List α, ys.Perm xs ∧ ys.Pairwise (fun x y => 0 ≤ cf y x) ∧ OwnSl E A ys sp cap ∧ Sh B (C (rowA A (flat E ys ++ sp) T)) w'

section
variable {P : Program} {ρ : Ren} {α : Type} [Inhabited α] {E : Enc α} {B : Base} {H : HL} {w : World}
theorem sortK (L : SlLaysF0.n6 P ρ) (aE : ∀ w, (isAgg (ρ.t 24)).run P w = .ok true w) (zE : ∀ w, (Go.sizeOf (ρ.t 24)).run P w = .ok E.k w) (hv : ∀ x, E.val x = .agg (E.cells x).toArray)
    {cf : α → α → Int} (hO : SWO (ltOf cf)) {g : Nat} {cb : Array Value} (eg : ∀ args w, (callFunc g args).run P w = .ok (.enter g args) w) (hcmp : CmpPure P g cb E cf)
    {A : Option Addr} {xs : List α} {sp : List Value} {cap T : Nat} {C : HL → HL} (hOw : OwnSl E A xs sp cap) (hS : Sh B H w) [hp : CtxRow H A (flat E xs ++ sp) T C] (hmax : xs.length < 4611686018427387904) :
    Calls P (ρ.f 6) #[.slice A xs.length cap, .func (.func g) #[] cb] w (SortP E cf B A xs sp cap T C) := by
  cases xs with
  | nil =>
    refine (AnyF.slices_SortFunc_none L A cap _ w).mono fun e w' h => ⟨h.1, [], .refl _, .nil, hOw, ?_⟩
    rw [h.2]; exact hp.eq ▸ hS
  | cons x0 xr =>
    cases A with
    | none => exact absurd (hOw.nil rfl).1 (by simp)
    | some ad =>
      have had := hOw.form ad rfl
      obtain ⟨b, rfl⟩ : ∃ b, ad = ⟨b, 0, none⟩ := ⟨_, had⟩
      obtain ⟨R, hS, hC⟩ := Sh.out (hp.eq ▸ hS) hp.ctx
      generalize hxs : x0 :: xr = xs at *
      have hb : w.heap[b]? = some (.cells (flat E xs ++ sp).toArray T (0, 0)) := hS.own (b, _) (by simp [rowA])
      have hlt : b < w.heap.size := (Array.getElem?_eq_some_iff.1 hb).1
      have hH : HoldsK E.cells E.k w b 0 xs.toArray := by
        intro j hj
        have hj' : j < (flat E xs).length := by rw [flat_length]; simpa using hj
        have e1 : (flatK E.cells E.k xs.toArray)[j]! = (flat E xs)[j] := by
          rw [getElem!_pos (flatK E.cells E.k xs.toArray) j hj]
          have := congrArg (fun l => l[j]?) (flatK_flat E xs)
          simp only [Array.getElem?_toList, List.getElem?_eq_getElem hj', Array.getElem?_eq_getElem hj, Option.some.injEq] at this
          exact this
        refine ⟨?_, ?_⟩
        · simp only [World.cell?, hb, Nat.zero_add, e1, id]
          simp [List.getElem?_append_left hj', List.getElem?_eq_getElem hj']
        · simp [World.frozen?, hb]
      have hL : CmpLays P g cb E.cells E.k cf b 0 xs.toArray.size w := by
        intro m os dk _ x y
        have := hcmp x y (sortWorldK E.cells E.k w b 0 m dk os)
        rw [hv, hv] at this
        exact this.mono fun e w' h => ⟨h.1, h.2.growOf⟩
      have hcall := AnyQ.slices_SortFunc L E.k aE zE E.cells E.len (fun x v h => E.one x v h) cf hO g cb b 0 cap xs.toArray w eg hL hH hlt (by simpa using hmax)
      refine hcall.mono fun e w' h => ?_
      obtain ⟨he, d', n, os, hperm, hsort, rfl⟩ := h
      obtain ⟨hsz, _, hpm⟩ := hperm
      have ex1 : d'.extract 0 xs.toArray.size = d' := by rw [← hsz]; exact Array.extract_size
      rw [ex1, Array.extract_size] at hpm
      have hpm : d'.toList.Perm xs := by simpa using hpm
      have hlen : d'.toList.length = xs.length := hpm.length_eq
      refine ⟨he, d'.toList, hpm, ?_, ?_, ?_⟩
      · rw [List.pairwise_iff_getElem]
        intro i j hi hj hij
        have := hsort i j (Nat.zero_le _) hij (by simpa using (by omega : j < xs.length))
        rw [getElem!_pos d' j (by simpa using hj), getElem!_pos d' i (by simpa using hi)] at this
        simpa [ltOf] using this
      · exact ⟨(fun h => by cases h), hOw.form, by rw [hlen]; exact hOw.capEq, hOw.max⟩
      · refine hC _ _ ?_
        refine Sh.growR ?_ _
        have hbn : (Sort.ahead w n).heap[b]? = some (.cells (flat E xs ++ sp).toArray T (0, 0)) := hb
        show Sh B _ (putRowK E.cells E.k (Sort.ahead w n) b 0 d')
        unfold putRowK putRow
        rw [mapBlock_setB _ hbn]
        have hS2 : Sh B (rowA (some ⟨b, 0, none⟩) (flat E xs ++ sp) T ++ R) (Sort.ahead w n) := hS.drewN n
        have hfin := Sh.setB (H := R) (b := b) (o := .cells (flat E xs ++ sp).toArray T (0, 0)) hS2 (.cells (putCells id 0 (flatK E.cells E.k d') (flat E xs ++ sp).toArray) T (0, 0))
        have ecell : putCells id 0 (flatK E.cells E.k d') (flat E xs ++ sp).toArray = (flat E d'.toList ++ sp).toArray := by
          apply Array.ext'
          have e2 : flatK E.cells E.k d' = (flat E d'.toList).toArray := by apply Array.ext'; have := flatK_flat E d'.toList; simpa using this
          have hl2 : (flat E d'.toList).length = (flat E xs).length := by rw [flat_length, flat_length, hlen]
          rw [e2, putCells_id _ _ (by rw [hl2]; simp)]
          rw [hl2, List.drop_left]
        rw [ecell] at hfin ⊢
        exact hfin
end
end Go.Tk
