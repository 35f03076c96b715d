/- slices.SortFunc over rows, where the closure may read what stays. -/
import Derived.Test.YtclmemhginekbaaDoorTkS
import Derived.Test.YtclmemhginekbaaDoorTkQ
set_option linter.unusedSectionVars false
set_option linter.unusedSimpArgs false
set_option linter.unusedVariables false
namespace Go.Tk
open Go.RowKit Go.Proofs Go.Shelf Go.Sort Go.Lib

section
variable {P : Program} {ρ : Ren} {α : Type} [Inhabited α] {E : Enc α} {B : Base} {H : HL} {w : World}
theorem sortWorld_sh {b T : Nat} {R : HL} {xs : List α} {sp : List Value} (hS : Sh B (rowA (some ⟨b, 0, none⟩) (flat E xs ++ sp) T ++ R) w) (m : Nat) (os : Array Obj) (dk : Array α) (hd : dk.size = xs.length) :
    Sh B (rowA (some ⟨b, 0, none⟩) (flat E dk.toList ++ sp) T ++ R) (sortWorldK E.cells E.k w b 0 m dk os) := by
  have hlen : dk.toList.length = xs.length := by simpa using hd
  have hb : w.heap[b]? = some (.cells (flat E xs ++ sp).toArray T (0, 0)) := hS.own (b, _) (by simp [rowA])
  refine Sh.growR ?_ _
  have hbn : (Sort.ahead w m).heap[b]? = some (.cells (flat E xs ++ sp).toArray T (0, 0)) := hb
  show Sh B _ (putRowK E.cells E.k (Sort.ahead w m) b 0 dk)
  unfold putRowK putRow
  rw [mapBlock_setB _ hbn]
  have hS2 : Sh B (rowA (some ⟨b, 0, none⟩) (flat E xs ++ sp) T ++ R) (Sort.ahead w m) := hS.drewN m
  have hfin := Sh.setB (H := R) (b := b) (o := .cells (flat E xs ++ sp).toArray T (0, 0)) hS2 (.cells (putCells id 0 (flatK E.cells E.k dk) (flat E xs ++ sp).toArray) T (0, 0))
  have ecell : putCells id 0 (flatK E.cells E.k dk) (flat E xs ++ sp).toArray = (flat E dk.toList ++ sp).toArray := by
    apply Array.ext'
    have e2 : flatK E.cells E.k dk = (flat E dk.toList).toArray := by apply Array.ext'; have := flatK_flat E dk.toList; simpa using this
    have hl2 : (flat E dk.toList).length = (flat E xs).length := by rw [flat_length, flat_length, hlen]
    rw [e2, putCells_id _ _ (by rw [hl2]; simp)]
    rw [hl2, List.drop_left]
  rw [ecell] at hfin ⊢
  exact hfin
/-- What is asked of the closure, in the worlds that the sort passes through. -/
def CmpIn {α : Type} (P : Program) (B : Base) (g : Nat) (cb : Array Value) (E : Enc α) (cf : α → α → Int) : Prop :=
  ∀ (x y : α) (H : HL) (W : World), Sh B H W → Calls P g (#[E.val x, E.val y] ++ cb) W fun e w' => e = .returned (.int .i64 (cf x y)) ∧ Sh (Base.of W) [] w'
theorem sortK2 (L : SlLaysF0.n6 P ρ) (aE : ∀ w, (isAgg (ρ.t 24)).run P w = .ok true w) (zE : ∀ w, (Go.sizeOf (ρ.t 24)).run P w = .ok E.k w) (hv : ∀ x, E.val x = .agg (E.cells x).toArray)
    {cf : α → α → Int} (hO : SWO (ltOf cf)) {g : Nat} {cb : Array Value} (eg : ∀ args w, (callFunc g args).run P w = .ok (.enter g args) w) (hcmp : CmpIn P B g cb E cf)
    {A : Option Addr} {xs : List α} {sp : List Value} {cap T : Nat} {C : HL → HL} (hOw : OwnSl E A xs sp cap) (hS : Sh B H w) [hp : CtxRow H A (flat E xs ++ sp) T C] (hmax : xs.length < 4611686018427387904) :
    Calls P (ρ.f 6) #[.slice A xs.length cap, .func (.func g) #[] cb] w (SortP E cf B A xs sp cap T C) := by
  cases xs with
  | nil =>
    refine (AnyF.slices_SortFunc_none L A cap _ w).mono fun e w' h => ⟨h.1, [], .refl _, .nil, hOw, ?_⟩
    rw [h.2]; exact hp.eq ▸ hS
  | cons x0 xr =>
    cases A with
    | none => exact absurd (hOw.nil rfl).1 (by simp)
    | some ad =>
      have had := hOw.form ad rfl
      obtain ⟨b, rfl⟩ : ∃ b, ad = ⟨b, 0, none⟩ := ⟨_, had⟩
      obtain ⟨R, hS, hC⟩ := Sh.out (hp.eq ▸ hS) hp.ctx
      generalize hxs : x0 :: xr = xs at *
      have hb : w.heap[b]? = some (.cells (flat E xs ++ sp).toArray T (0, 0)) := hS.own (b, _) (by simp [rowA])
      have hlt : b < w.heap.size := (Array.getElem?_eq_some_iff.1 hb).1
      have hH : HoldsK E.cells E.k w b 0 xs.toArray := by
        intro j hj
        have hj' : j < (flat E xs).length := by rw [flat_length]; simpa using hj
        have e1 : (flatK E.cells E.k xs.toArray)[j]! = (flat E xs)[j] := by
          rw [getElem!_pos (flatK E.cells E.k xs.toArray) j hj]
          have := congrArg (fun l => l[j]?) (flatK_flat E xs)
          simp only [Array.getElem?_toList, List.getElem?_eq_getElem hj', Array.getElem?_eq_getElem hj, Option.some.injEq] at this
          exact this
        refine ⟨?_, ?_⟩
        · simp only [World.cell?, hb, Nat.zero_add, e1, id]
          simp [List.getElem?_append_left hj', List.getElem?_eq_getElem hj']
        · simp [World.frozen?, hb]
      have hL : CmpLays P g cb E.cells E.k cf b 0 xs.toArray.size w := by
        intro m os dk hdk x y
        have := hcmp x y _ (sortWorldK E.cells E.k w b 0 m dk os) (sortWorld_sh hS m os dk (by simpa using hdk))
        rw [hv, hv] at this
        exact this.mono fun e w' h => ⟨h.1, h.2.growOf⟩
      have hcall := AnyQ.slices_SortFunc L E.k aE zE E.cells E.len (fun x v h => E.one x v h) cf hO g cb b 0 cap xs.toArray w eg hL hH hlt (by simpa using hmax)
      refine hcall.mono fun e w' h => ?_
      obtain ⟨he, d', n, os, hperm, hsort, rfl⟩ := h
      obtain ⟨hsz, _, hpm⟩ := hperm
      have ex1 : d'.extract 0 xs.toArray.size = d' := by rw [← hsz]; exact Array.extract_size
      rw [ex1, Array.extract_size] at hpm
      have hpm : d'.toList.Perm xs := by simpa using hpm
      have hlen : d'.toList.length = xs.length := hpm.length_eq
      refine ⟨he, d'.toList, hpm, ?_, ?_, ?_⟩
      · rw [List.pairwise_iff_getElem]
        intro i j hi hj hij
        have := hsort i j (Nat.zero_le _) hij (by simpa using (by omega : j < xs.length))
        rw [getElem!_pos d' j (by simpa using hj), getElem!_pos d' i (by simpa using hi)] at this
        simpa [ltOf] using this
      · exact ⟨(fun h => by cases h), hOw.form, by rw [hlen]; exact hOw.capEq, hOw.max⟩
      · refine hC _ _ ?_
        refine Sh.growR ?_ _
        have hbn : (Sort.ahead w n).heap[b]? = some (.cells (flat E xs ++ sp).toArray T (0, 0)) := hb
        show Sh B _ (putRowK E.cells E.k (Sort.ahead w n) b 0 d')
        unfold putRowK putRow
        rw [mapBlock_setB _ hbn]
        have hS2 : Sh B (rowA (some ⟨b, 0, none⟩) (flat E xs ++ sp) T ++ R) (Sort.ahead w n) := hS.drewN n
        have hfin := Sh.setB (H := R) (b := b) (o := .cells (flat E xs ++ sp).toArray T (0, 0)) hS2 (.cells (putCells id 0 (flatK E.cells E.k d') (flat E xs ++ sp).toArray) T (0, 0))
        have ecell : putCells id 0 (flatK E.cells E.k d') (flat E xs ++ sp).toArray = (flat E d'.toList ++ sp).toArray := by
          apply Array.ext'
          have e2 : flatK E.cells E.k d' = (flat E d'.toList).toArray := by apply Array.ext'; have := flatK_flat E d'.toList; simpa using this
          have hl2 : (flat E d'.toList).length = (flat E xs).length := by rw [flat_length, flat_length, hlen]
          rw [e2, putCells_id _ _ (by rw [hl2]; simp)]
          rw [hl2, List.drop_left]
        rw [ecell] at hfin ⊢
        exact hfin
end
end Go.Tk
