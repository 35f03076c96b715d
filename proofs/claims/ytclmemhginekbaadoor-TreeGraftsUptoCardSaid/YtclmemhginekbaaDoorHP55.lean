/- What is cut out and put back leaves the tree as it was, and what is put in is what is cut out (the card), where what is read is of bulk at most 1048576. -/
import Derived.Test.YtclmemhginekbaaDoorG5a1754
import Derived.Test.YtclmemhginekbaaDoorG13ee41
import Derived.Test.YtclmemhginekbaaDoorCards
import Derived.Test.YtclmemhginekbaaDoorTie
import Derived.WalkKit
import Derived.ProofKit
import Derived.OpenShut
import Derived.Deep.DeepHandedRow
import Derived.Lib.LaidTab
set_option linter.unusedSectionVars false
set_option linter.unusedSimpArgs false
set_option linter.unusedVariables false
namespace Go.Proofs.YtclmemhginekbaaDoor
open Go.RowKit Go.Proofs Go.ChangeShapes Go.WideShapes Go.ChangeAt Go.Tk

namespace treeGrafts
theorem own : ownKnob Tryd.prog.godebug = none := by kernel_rfl
theorem laidOut : laidOutB Tryd.prog = true := by kernel_rfl
set_option maxRecDepth 100000 in
theorem contract (H : Type) (enc : TypeId × Value → H) (W : World) (base : Nat) (args : Array Value) (ds gs : List (DataW H)) (before : List MemPlace)
    (hval : ∀ (j : Nat) t v, Tryd.f11.params[j]? = some t → args[j]? = some v → Value.okWide Tryd.prog W .any base t v)
    (hW : DataW.Whole enc Tryd.prog Tryd.f11.params.toList Rows.treeGraftsSpec.vars false W args.toList ds gs before) (hk : Rows.uptoSmall H (ds ++ gs) = true) (hsh : W.ShapedOpen Tryd.prog) :
    Calls Tryd.prog 11 args W fun e W' => ∃ v, e = .returned v ∧ Rows.treeGraftsSpec.post enc Tryd.prog Tryd.f11 false true false false W args v W' := by
  have hW' := hW
  obtain ⟨p, q, hA0, hV, rfl, hfz, hnd⟩ := hW
  have hA : DataW.TrodAll enc Tryd.prog W 0 (fun _ => true) true Tryd.f11.params.toList args.toList ds p := hA0
  rw [Tryd.params11] at hA hval
  obtain ⟨v0, vs0, d0, ds0, p0, q0, hargs0, rfl, rfl, h0, r0⟩ := trodAll_cons hA
  obtain ⟨v1, vs1, d1, ds1, p1, q1, hargs1, rfl, rfl, h1, r1⟩ := trodAll_cons r0
  obtain ⟨v2, vs2, d2, ds2, p2, q2, hargs2, rfl, rfl, h2, r2⟩ := trodAll_cons r1
  obtain ⟨hargsN, rfl, rfl⟩ := trodAll_nil r2
  obtain rfl : args = #[v0, v1, v2] := by cases args; simp_all
  obtain ⟨rfl, rfl⟩ := trodVars_none hV
  obtain ⟨A0, len0, cap0, rfl⟩ := okWide_slice Tryd.underlying22 (hval 0 22 v0 rfl rfl)
  obtain ⟨fuel0, hf0⟩ := h0
  obtain ⟨s0, hs0, ho0, hb0⟩ := opens_slice (P := Tryd.prog) (E := enE) (ok := fun _ _ => True) (bulk := enBulk) Tryd.underlying22 (by kernel_rfl) opens_en enc W fuel0 _ _ hf0
  have hs0' : [Value.slice A0 len0 cap0] = [Value.slice s0.A s0.n s0.cap] := hs0
  simp only [List.cons.injEq, Value.slice.injEq, and_true] at hs0'
  obtain ⟨rfl, rfl, rfl⟩ := hs0'
  obtain ⟨hl0, hR0, hall0⟩ := ho0
  have hb0' : (s0.xs.map (enBulk)).sum + 1 ≤ Rows.uptoBulk d0 := hb0
  obtain ⟨s1, hsv1⟩ : ∃ s, v1 = .string s := okWide_string Tryd.underlying9 (hval 1 9 v1 rfl rfl)
  subst hsv1
  obtain ⟨fuel1, hf1⟩ := h1
  obtain ⟨y1, hy1, ho1, hb1⟩ := opens_str (P := Tryd.prog) Tryd.underlying9 enc W fuel1 _ _ hf1
  obtain rfl : s1 = y1 := by have h : [Value.string s1] = [Value.string y1] := hy1; simpa using h
  have hb1' : s1.size + 1 ≤ Rows.uptoBulk d1 := hb1
  obtain ⟨A2, len2, cap2, rfl⟩ := okWide_slice Tryd.underlying22 (hval 2 22 v2 rfl rfl)
  obtain ⟨fuel2, hf2⟩ := h2
  obtain ⟨s2, hs2, ho2, hb2⟩ := opens_slice (P := Tryd.prog) (E := enE) (ok := fun _ _ => True) (bulk := enBulk) Tryd.underlying22 (by kernel_rfl) opens_en enc W fuel2 _ _ hf2
  have hs2' : [Value.slice A2 len2 cap2] = [Value.slice s2.A s2.n s2.cap] := hs2
  simp only [List.cons.injEq, Value.slice.injEq, and_true] at hs2'
  obtain ⟨rfl, rfl, rfl⟩ := hs2'
  obtain ⟨hl2, hR2, hall2⟩ := ho2
  have hb2' : (s2.xs.map (enBulk)).sum + 1 ≤ Rows.uptoBulk d2 := hb2
  simp only [List.append_nil] at hW' hk
  have hk2 : Rows.uptoBulkAll [d0, d1, d2] ≤ 1048576 := of_decide_eq_true hk
  simp only [Rows.uptoBulkAll] at hk2
  obtain ⟨hlen0, hsm0⟩ := enBulk_le (n := 1048576) (xs := s0.xs) (by omega)
  obtain ⟨hlen2, hsm2⟩ := enBulk_le (n := 1048576) (xs := s2.xs) (by omega)
  haveI := hR0.free
  haveI := hR2.free
  haveI hml := hasML hsh
  have hw := Grafts_any (Sh.free W) (cap := s0.cap) (cap' := s2.cap) (t := s0.xs) (s := s2.xs) (A := s0.A) (A' := s2.A) (by omega) (by omega) (fun e he => by have := hsm0 e he; omega) (fun e he => by have := hsm2 e he; omega) s1 (by omega) (fun e he => (hsm0 e he).1) (fun e he => (hsm2 e he).1)
  rw [← hl0, ← hl2] at hw
  refine hw.mono fun e W' h => ⟨_, h.1, ?_⟩
  exact post_trueF laidOut (by kernel_rfl) rfl Tryd.underlying4 rfl hW' rfl rfl rfl h.2

theorem laid_met (os : Os) : laidMet Tryd.prog Rows.treeGraftsUptoRow.laid ((laidW os).forCall (fun _ _ => 0) ⟨#[], #[.slice none 0 0, .string ⟨#[]⟩, .slice none 0 0], []⟩).memory :=
  laidMet_of_run' 8 (by kernel_rfl) (by kernel_rfl)
theorem reads (os : Os) {H : Type} (enc : TypeId × Value → H) : ∃ places, DataW.whole enc Tryd.prog ((laidW os).forCall (fun _ _ => 0) ⟨#[], #[.slice none 0 0, .string ⟨#[]⟩, .slice none 0 0], []⟩).memory Tryd.f11.params.toList Rows.treeGraftsSpec.vars false #[.slice none 0 0, .string ⟨#[]⟩, .slice none 0 0].toList 8 = some ([.nil, .lit (.string []), .nil], [], places) :=
  ⟨[], by kernel_rfl⟩
set_option maxRecDepth 100000 in
theorem lifted (os : Os) (started : os.Started) (H : Type) (enc : TypeId × Value → H) (F : Stop.Interp) :
    ReturnsInHanded {} Tryd.checked os 11 .any ((Rows.OpenSpec.upto Rows.treeGraftsSpec).preRow enc Tryd.prog Tryd.f11 Rows.treeGraftsUptoRow.domain false Rows.treeGraftsUptoRow.laid) (((Rows.OpenSpec.upto Rows.treeGraftsSpec).at F).post enc Tryd.prog Tryd.f11 false true false false) := by
  obtain ⟨places, hx⟩ := reads os enc
  refine returnsInHanded_of_row (C := Tryd.checked) (s := Rows.OpenSpec.upto Rows.treeGraftsSpec) own started (by kernel_rfl) Tryd.func11
    (witness_row_at (enc := enc) (C := Tryd.checked) false (laidW os) #[.slice none 0 0, .string ⟨#[]⟩, .slice none 0 0] rfl (by kernel_rfl) (by kernel_rfl) (by kernel_rfl)
      (OpenSpec.preRow_of_cond 8 hx (by kernel_rfl) (fun k hk => by cases hk; kernel_rfl) (by kernel_rfl) (laid_met os))) ?_
  intro W base args ds gs before hval hW _ hcond _ _ hsh _
  exact contract H enc W base args ds gs before hval hW (hcond _ rfl) hsh

theorem saidUpto : Rows.TreeGraftsUptoSaid :=
  OpenClaim.holds_of_cond 11 Tryd.f11 rfl rfl rfl rfl rfl rfl rfl ⟨rfl, rfl, rfl, rfl, rfl⟩ rfl rfl rfl rfl rfl (by kernel_rfl) Tryd.func11 (by kernel_rfl)
    (of_decide_eq_true (by kernel_rfl)) (by unfold Func.isWrapper; first | (rw [if_pos (by decide +kernel)]; kernel_rfl) | (rw [if_neg (by decide +kernel)]; exact ⟨rfl, rfl⟩))
    (fun os started H enc _ F => by rw [OpenClaim.pre_eq_preRow]; exact lifted os started H enc F)

theorem plain (f : FuncId) (fn : Func) (hf : Tryd.pinned.checked.prog.funcNamed "treadle/treadlelaw05.TreeGrafts" = some f) (hfn : Tryd.pinned.checked.prog.funcs[f]? = some fn) :
    false = Tryd.pinned.checked.prog.looks [] ∧ ∀ (j : Nat) t, fn.params[j]? = some t → Tryd.pinned.checked.prog.wantsStandIn t = false := by
  obtain rfl : f = 11 := Option.some.inj ((show Tryd.prog.funcNamed "treadle/treadlelaw05.TreeGrafts" = some 11 by kernel_rfl).symm.trans hf) |>.symm
  obtain rfl : fn = Tryd.f11 := (Option.some.inj (Tryd.func11.symm.trans hfn)).symm
  refine ⟨by kernel_rfl, fun j t ht => ?_⟩
  rw [Tryd.params11] at ht
  have hm : t ∈ [22, 9, 22] := by simpa using Array.mem_of_getElem? ht
  have hall : ([22, 9, 22] : List TypeId).all (fun t => !Tryd.prog.wantsStandIn t) = true := by kernel_rfl
  have := List.all_eq_true.1 hall t hm
  have h2 : Tryd.prog.wantsStandIn t = false := by simpa using this
  exact h2

theorem proved : Rows.TreeGraftsUptoCardSaid :=
  Claim7.holds_tied_plain_at .later [] _ _ _ _ saidUpto (fun _ h => by cases h) (by kernel_rfl) (fun _ h => by cases h) treeGraftsUpto_row_tie rfl ⟨rfl, rfl⟩ (by kernel_rfl) rfl plain (by kernel_rfl)
end treeGrafts
end Go.Proofs.YtclmemhginekbaaDoor
