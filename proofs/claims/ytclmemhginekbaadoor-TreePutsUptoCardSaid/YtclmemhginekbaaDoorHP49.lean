/- What was put is found, what was removed is not, and all else is as it was (the card), where what is read is of bulk at most 1048576. -/
import Derived.Test.YtclmemhginekbaaDoorGbbd447
import Derived.Test.YtclmemhginekbaaDoorG02e9c4
import Derived.Test.YtclmemhginekbaaDoorCards
import Derived.Test.YtclmemhginekbaaDoorTie
import Derived.WalkKit
import Derived.ProofKit
import Derived.OpenShut
import Derived.Deep.DeepHandedRow
import Derived.Lib.LaidTab
set_option linter.unusedSectionVars false
set_option linter.unusedSimpArgs false
set_option linter.unusedVariables false
namespace Go.Tk
open Go.Proofs.YtclmemhginekbaaDoor
open Go.RowKit Go.Proofs Go.ChangeShapes Go.WideShapes Go.ChangeAt
structure FourV where
  A : Option Addr
  n : Nat
  cap : Nat
  xs : List En
  x : En
  p : ByteArray
  q : ByteArray
def fourE : Enc FourV := {
  val v := .agg (fourC (.slice v.A v.n v.cap) v.x v.p v.q).toArray
  cells v := fourC (.slice v.A v.n v.cap) v.x v.p v.q
  valc _ := rfl
  k := 6
  pos := by decide
  len _ := rfl
  one v := by intro u hu; simp only [fourC, List.mem_cons, List.not_mem_nil, or_false] at hu; rcases hu with rfl | rfl | rfl | rfl | rfl | rfl <;> rfl }
def fourOk (B : Base) (v : FourV) : Prop := v.n = v.xs.length ∧ RdB enE B v.A v.xs
def fourB (v : FourV) : Nat := (v.xs.map enBulk).sum + enBulk v.x + v.p.size + v.q.size + 1
set_option maxRecDepth 100000 in
theorem opens_four : OpensAt Tryd.prog 55 fourE fourOk fourB := by
  intro H enc W fuel cs x h
  obtain ⟨ys, n, _, rfl, hl, hlen, hf⟩ := DataW.trod_struct Tryd.underlying55 h
  have hc : Tryd.prog.cellsOf 55 = 6 := by kernel_rfl
  have hl5 : cs.length = 6 := by rw [hl, hc]
  match cs, hl5, ys, hlen with
  | [c0, c1, c2, c3, c4, c5], _, [y0, y1, y2, y3], _ =>
    obtain ⟨s, h0, o0, b0⟩ := opens_slice (P := Tryd.prog) (t := 22) (E := enE) (ok := fun _ _ => True) (bulk := enBulk) Tryd.underlying22 (by kernel_rfl) opens_en enc W n _ _ (hf 0 _ rfl)
    obtain ⟨k1, h1, o1, b1⟩ := opens_en enc W n _ _ (hf 1 _ rfl)
    obtain ⟨k2, h2, o2, b2⟩ := opens_str (P := Tryd.prog) (t := 9) Tryd.underlying9 enc W n _ _ (hf 2 _ rfl)
    obtain ⟨k3, h3, o3, b3⟩ := opens_str (P := Tryd.prog) (t := 9) Tryd.underlying9 enc W n _ _ (hf 3 _ rfl)
    have e0 : [c0] = [Value.slice s.A s.n s.cap] := h0
    have e1 : [c1, c2, c3] = [Value.string k1.path, Value.int .i64 k1.kind, Value.string k1.data] := h1
    have e2 : [c4] = [Value.string k2] := h2
    have e3 : [c5] = [Value.string k3] := h3
    simp only [List.cons.injEq, and_true] at e0 e1 e2 e3
    obtain ⟨rfl, rfl, rfl⟩ := e1
    subst e0 e2 e3
    refine ⟨⟨s.A, s.n, s.cap, s.xs, k1, k2, k3⟩, rfl, ⟨o0.1, o0.2.1⟩, ?_⟩
    have b0' : (s.xs.map enBulk).sum + 1 ≤ Rows.uptoBulk y0.1 := b0
    have b1' : enBulk k1 ≤ Rows.uptoBulk y1.1 := b1
    have b2' : k2.size + 1 ≤ Rows.uptoBulk y2.1 := b2
    have b3' : k3.size + 1 ≤ Rows.uptoBulk y3.1 := b3
    simp only [Rows.uptoBulk, Rows.uptoBulkAll, fourB, List.map_cons, List.map_nil]
    omega
end Go.Tk
namespace Go.Proofs.YtclmemhginekbaaDoor
open Go.RowKit Go.Proofs Go.ChangeShapes Go.WideShapes Go.ChangeAt Go.Tk

namespace treePuts
theorem own : ownKnob Tryd.prog.godebug = none := by kernel_rfl
theorem laidOut : laidOutB Tryd.prog = true := by kernel_rfl
set_option maxRecDepth 100000 in
theorem contract (H : Type) (enc : TypeId × Value → H) (W : World) (base : Nat) (args : Array Value) (ds gs : List (DataW H)) (before : List MemPlace)
    (hval : ∀ (j : Nat) t v, Tryd.f10.params[j]? = some t → args[j]? = some v → Value.okWide Tryd.prog W .any base t v)
    (hW : DataW.Whole enc Tryd.prog Tryd.f10.params.toList Rows.treePutsSpec.vars false W args.toList ds gs before) (hk : Rows.uptoSmall H (ds ++ gs) = true) (hsh : W.ShapedOpen Tryd.prog) :
    Calls Tryd.prog 10 args W fun e W' => ∃ v, e = .returned v ∧ Rows.treePutsSpec.post enc Tryd.prog Tryd.f10 false true false false W args v W' := by
  have hW' := hW
  obtain ⟨p, q, hA0, hV, rfl, hfz, hnd⟩ := hW
  have hA : DataW.TrodAll enc Tryd.prog W 0 (fun _ => true) true Tryd.f10.params.toList args.toList ds p := hA0
  rw [Tryd.params10] at hA hval
  obtain ⟨v0, vs0, d0, ds0, p0, q0, hargs0, rfl, rfl, h0, r0⟩ := trodAll_cons hA
  obtain ⟨hargsN, rfl, rfl⟩ := trodAll_nil r0
  obtain rfl : args = #[v0] := by cases args; simp_all
  obtain ⟨rfl, rfl⟩ := trodVars_none hV
  obtain ⟨cs0, rfl, hcs0⟩ := okWide_struct Tryd.underlying55 (hval 0 55 v0 rfl rfl)
  obtain ⟨fuel0, hf0⟩ := h0
  obtain ⟨x0, hs0, ho0, hb0⟩ := opens_four enc W fuel0 _ _ hf0
  have hs0' : cs0.toList = (fourE).cells x0 := hs0
  obtain rfl : cs0 = ((fourE).cells x0).toArray := by rw [← hs0']
  simp only [List.append_nil] at hW' hk
  have hk2 : Rows.uptoBulkAll [d0] ≤ 1048576 := of_decide_eq_true hk
  simp only [Rows.uptoBulkAll] at hk2
  have hb0' : fourB x0 ≤ Rows.uptoBulk d0 := hb0
  unfold fourB at hb0'
  have hx0 : enBulk x0.x = x0.x.path.size + x0.x.data.size + 1 := rfl
  obtain ⟨hlen0, hsm0⟩ := enBulk_le (n := 1048576) (xs := x0.xs) (by omega)
  haveI := ho0.2.free
  haveI hml := hasML hsh
  have hw := Puts_any (Sh.free W) (cap := x0.cap) (t := x0.xs) (A := x0.A) (by omega) (fun e he => by have := hsm0 e he; omega) x0.x x0.p x0.q (by omega) (by omega) (by omega)
  rw [← ho0.1] at hw
  refine hw.mono fun e W' h => ⟨_, h.1, ?_⟩
  exact post_trueF laidOut (by kernel_rfl) rfl Tryd.underlying4 rfl hW' rfl rfl rfl h.2

theorem laid_met (os : Os) : laidMet Tryd.prog Rows.treePutsUptoRow.laid ((laidW os).forCall (fun _ _ => 0) ⟨#[], #[.agg #[.slice none 0 0, .string ⟨#[]⟩, .int .i64 0, .string ⟨#[]⟩, .string ⟨#[]⟩, .string ⟨#[]⟩]], []⟩).memory :=
  laidMet_of_run' 8 (by kernel_rfl) (by kernel_rfl)
theorem reads (os : Os) {H : Type} (enc : TypeId × Value → H) : ∃ places, DataW.whole enc Tryd.prog ((laidW os).forCall (fun _ _ => 0) ⟨#[], #[.agg #[.slice none 0 0, .string ⟨#[]⟩, .int .i64 0, .string ⟨#[]⟩, .string ⟨#[]⟩, .string ⟨#[]⟩]], []⟩).memory Tryd.f10.params.toList Rows.treePutsSpec.vars false #[.agg #[.slice none 0 0, .string ⟨#[]⟩, .int .i64 0, .string ⟨#[]⟩, .string ⟨#[]⟩, .string ⟨#[]⟩]].toList 8 = some ([.agg [.nil, .agg [.lit (.string []), .lit (.int .i64 0), .lit (.string [])], .lit (.string []), .lit (.string [])]], [], places) :=
  ⟨[], by kernel_rfl⟩
set_option maxRecDepth 100000 in
theorem lifted (os : Os) (started : os.Started) (H : Type) (enc : TypeId × Value → H) (F : Stop.Interp) :
    ReturnsInHanded {} Tryd.checked os 10 .any ((Rows.OpenSpec.upto Rows.treePutsSpec).preRow enc Tryd.prog Tryd.f10 Rows.treePutsUptoRow.domain false Rows.treePutsUptoRow.laid) (((Rows.OpenSpec.upto Rows.treePutsSpec).at F).post enc Tryd.prog Tryd.f10 false true false false) := by
  obtain ⟨places, hx⟩ := reads os enc
  refine returnsInHanded_of_row (C := Tryd.checked) (s := Rows.OpenSpec.upto Rows.treePutsSpec) own started (by kernel_rfl) Tryd.func10
    (witness_row_at (enc := enc) (C := Tryd.checked) false (laidW os) #[.agg #[.slice none 0 0, .string ⟨#[]⟩, .int .i64 0, .string ⟨#[]⟩, .string ⟨#[]⟩, .string ⟨#[]⟩]] rfl (by kernel_rfl) (by kernel_rfl) (by kernel_rfl)
      (OpenSpec.preRow_of_cond 8 hx (by kernel_rfl) (fun k hk => by cases hk; kernel_rfl) (by kernel_rfl) (laid_met os))) ?_
  intro W base args ds gs before hval hW _ hcond _ _ hsh _
  exact contract H enc W base args ds gs before hval hW (hcond _ rfl) hsh

theorem saidUpto : Rows.TreePutsUptoSaid :=
  OpenClaim.holds_of_cond 10 Tryd.f10 rfl rfl rfl rfl rfl rfl rfl ⟨rfl, rfl, rfl, rfl, rfl⟩ rfl rfl rfl rfl rfl (by kernel_rfl) Tryd.func10 (by kernel_rfl)
    (of_decide_eq_true (by kernel_rfl)) (by unfold Func.isWrapper; first | (rw [if_pos (by decide +kernel)]; kernel_rfl) | (rw [if_neg (by decide +kernel)]; exact ⟨rfl, rfl⟩))
    (fun os started H enc _ F => by rw [OpenClaim.pre_eq_preRow]; exact lifted os started H enc F)

theorem plain (f : FuncId) (fn : Func) (hf : Tryd.pinned.checked.prog.funcNamed "treadle/treadlelaw05.TreePuts" = some f) (hfn : Tryd.pinned.checked.prog.funcs[f]? = some fn) :
    false = Tryd.pinned.checked.prog.looks [] ∧ ∀ (j : Nat) t, fn.params[j]? = some t → Tryd.pinned.checked.prog.wantsStandIn t = false := by
  obtain rfl : f = 10 := Option.some.inj ((show Tryd.prog.funcNamed "treadle/treadlelaw05.TreePuts" = some 10 by kernel_rfl).symm.trans hf) |>.symm
  obtain rfl : fn = Tryd.f10 := (Option.some.inj (Tryd.func10.symm.trans hfn)).symm
  refine ⟨by kernel_rfl, fun j t ht => ?_⟩
  rw [Tryd.params10] at ht
  have hm : t ∈ [55] := by simpa using Array.mem_of_getElem? ht
  have hall : ([55] : List TypeId).all (fun t => !Tryd.prog.wantsStandIn t) = true := by kernel_rfl
  have := List.all_eq_true.1 hall t hm
  have h2 : Tryd.prog.wantsStandIn t = false := by simpa using this
  exact h2

theorem proved : Rows.TreePutsUptoCardSaid :=
  Claim7.holds_tied_plain_at .later [] _ _ _ _ saidUpto (fun _ h => by cases h) (by kernel_rfl) (fun _ h => by cases h) treePutsUpto_row_tie rfl ⟨rfl, rfl⟩ (by kernel_rfl) rfl plain (by kernel_rfl)
end treePuts
end Go.Proofs.YtclmemhginekbaaDoor
