/- What a row over the tree asks: the library's tables, entries read. -/
import Derived.Test.YtclmemhginekbaaDoorP9
import Derived.Test.YtclmemhginekbaaDoorTkP
import Derived.Shelf.Vars
import Derived.Deep.DeepHandedRow
import Derived.Lib.LaidTab
set_option linter.unusedSectionVars false
set_option linter.unusedSimpArgs false
set_option linter.unusedVariables false
namespace Go.Tk
open Go.Proofs.YtclmemhginekbaaDoor
open Go.RowKit Go.Proofs Go.ChangeShapes Go.WideShapes Go.ChangeAt
theorem okWide_cap {P : Program} {w : World} {r : Reach} {base : Nat} {t e : TypeId} {A : Option Addr} {len cap : Nat} (ht : P.underlying t = some (.slice e)) (h : Value.okWide P w r base t (.slice A len cap)) : len ≤ cap := by
  simp only [Value.okWide, ht, Cell.okWide] at h
  cases A with
  | none =>
    cases len with
    | zero => exact Nat.zero_le _
    | succ n => simp [Cell.ok, ht] at h
  | some a => simp only [Cell.ok, ht] at h; exact h.1
set_option maxRecDepth 100000 in
theorem hasML {W : World} (h : W.ShapedOpen Tryd.prog) : HasML (Base.free W) := by
  obtain ⟨m, hm⟩ := cell_of_shapedOpen_int (P := Tryd.prog) (g := 0) (t := 3) (zero := #[.int .i64 0]) (k := .i64) h (by decide +kernel) (by kernel_rfl) rfl (by kernel_rfl) (by kernel_rfl) Tryd.underlying3
  refine ⟨m, ?_⟩
  unfold World.cell? at hm
  unfold Base.cell Base.free Base.of
  dsimp only at hm ⊢
  revert hm
  cases hk : W.heap[0]? with
  | none => intro hm; cases hm
  | some o => cases o <;> intro hm <;> simp_all
theorem Sh.belowF {W w : World} {H : HL} (h : Sh (Base.free W) H w) : Below W.heap.size W w := by
  have hb : ∀ k, k < W.heap.size → w.heap[k]? = W.heap[k]? := fun k hk => by
    rw [Array.getElem?_eq_getElem hk]
    exact h.base k _ (by simp [Base.free, Base.of, Array.getElem?_eq_getElem hk])
  refine ⟨h.os, h.tape, h.output, ?_, hb⟩
  rcases Nat.eq_zero_or_pos W.heap.size with h0 | h0
  · omega
  · have := hb (W.heap.size - 1) (by omega)
    rw [Array.getElem?_eq_getElem (show W.heap.size - 1 < W.heap.size by omega)] at this
    have := (Array.getElem?_eq_some_iff.1 this).1
    omega
section
variable {H : Type} {enc : TypeId × Value → H} {P : Program}
theorem post_trueF {f : Func} {s : ChangeSpec} {W W' : World} {args : Array Value} {ds : List (DataW H)} {before : List MemPlace} {tb : TypeId} {L : HL} (hl : laidOutB P = true) (hread : (f.params.toList.all fun t => P.readableRec t && decide (t < P.types.size)) = true)
    (hres : f.resultTypes = #[tb]) (hb : P.underlying tb = some .bool) (hvars : s.vars = [])
    (hW : DataW.Whole enc P f.params.toList s.vars false W args.toList ds [] before) (hs1 : (s.fn H ds).results = [.lit (.bool true)]) (hs2 : (s.fn H ds).args = ds) (hs3 : (s.fn H ds).vars = [])
    (hS : Sh (Base.free W) L W') : s.post enc P f false true false false W args (.bool true) W' := by
  have hbl := hS.belowF
  have hW' := hW
  obtain ⟨p, q, hA0, hV, rfl, hfz, hnd⟩ := hW
  rw [hvars] at hV
  have hq : q = [] := by
    obtain ⟨_, rfl⟩ := trodVars_none hV
    rfl
  subst hq
  have hlt : ∀ x ∈ p, x.block < W.heap.size := fun x hx => by simpa using hW'.lt x (by simp [hx])
  have hsame : ∀ x ∈ p, W.sameAt W' x := fun x hx => hbl.same (hlt x hx)
  have hd : ds ++ [] = ds := List.append_nil ds
  have hold : ∀ x ∈ p, (fun b => decide (b < W.heap.size)) x.block = true := fun x hx => by simpa using hlt x hx
  refine ⟨ds, [], p ++ [], [], p, [], hW', ?_, ?_, ?_, hbl.frame _, fun h => by cases h⟩
  · rw [hd, hs1, hres]
    exact trodAll_cons_mk (shut_bool hb true) trodAll_mk0
  · rw [hd, hs2]
    exact trodAll_stays hl (fun t ht => by have := List.all_eq_true.1 hread t ht; simpa using this) hA0 hsame hold
  · rw [hd, hs3, hvars]
    rfl
end
def enBulk (e : En) : Nat := e.path.size + e.data.size + 1
set_option maxRecDepth 100000 in
theorem opens_en : OpensAt Tryd.prog 37 enE (fun _ _ => True) enBulk := by
  intro H enc W fuel cs x h
  obtain ⟨ys, n, _, rfl, hl, hlen, hf⟩ := DataW.trod_struct Tryd.underlying37 h
  have hc : Tryd.prog.cellsOf 37 = 3 := by kernel_rfl
  have hl5 : cs.length = 3 := by rw [hl, hc]
  match cs, hl5, ys, hlen with
  | [c0, c1, c2], _, [y0, y1, y2], _ =>
    obtain ⟨k0, h0, o0, b0⟩ := opens_str (P := Tryd.prog) (t := 9) Tryd.underlying9 enc W n _ _ (hf 0 _ rfl)
    obtain ⟨k1, h1, o1, b1⟩ := opens_int (P := Tryd.prog) (t := 3) Tryd.underlying3 enc W n _ _ (hf 1 _ rfl)
    obtain ⟨k2, h2, o2, b2⟩ := opens_str (P := Tryd.prog) (t := 9) Tryd.underlying9 enc W n _ _ (hf 2 _ rfl)
    have e0 : [c0] = [Value.string k0] := h0
    have e1 : [c1] = [Value.int .i64 k1] := h1
    have e2 : [c2] = [Value.string k2] := h2
    simp only [List.cons.injEq, and_true] at e0 e1 e2
    subst e0 e1 e2
    refine ⟨⟨k0, k1, k2⟩, rfl, trivial, ?_⟩
    simp only [Rows.uptoBulk, Rows.uptoBulkAll, enBulk]
    have b0' : k0.size + 1 ≤ Rows.uptoBulk y0.1 := b0
    have b2' : k2.size + 1 ≤ Rows.uptoBulk y2.1 := b2
    simp only [List.map_cons, List.map_nil, Rows.uptoBulkAll]
    omega
theorem enBulk_le {xs : List En} {n : Nat} (h : (xs.map enBulk).sum ≤ n) : xs.length ≤ n ∧ ∀ e ∈ xs, e.path.size ≤ n ∧ e.data.size ≤ n := by
  induction xs generalizing n with
  | nil => exact ⟨Nat.zero_le _, fun e he => nomatch he⟩
  | cons x r ih =>
    rw [List.map_cons, List.sum_cons] at h
    unfold enBulk at h
    obtain ⟨h1, h2⟩ := ih (n := n - (x.path.size + x.data.size + 1)) (by unfold enBulk; omega)
    refine ⟨by rw [List.length_cons]; omega, fun e he => ?_⟩
    rcases List.mem_cons.1 he with rfl | he
    · omega
    · have := h2 e he; omega
def layCells (vs : List Value) : Obj → Obj
  | .cells _ t frozen => .cells vs.toArray t frozen
  | o => o
/-- A world for the witness: the library's tables laid. -/
noncomputable def laidW (os : Os) : World :=
  { World.holding Tryd.prog os ⟨#[], #[], []⟩ with heap := ((World.holding Tryd.prog os ⟨#[], #[], []⟩).heap.modify 1 (layCells (Go.Pinned.utf8FirstZ.map fun n : Nat => Value.int .u8 (n : Int)))).modify 2 (layCells ([128, 191, 160, 191, 128, 159, 144, 191, 128, 143, 0, 0, 0, 0, 0, 0, 0, 0, 0, 0, 0, 0, 0, 0, 0, 0, 0, 0, 0, 0, 0, 0].map fun n => Value.int .u8 n)) }
end Go.Tk
