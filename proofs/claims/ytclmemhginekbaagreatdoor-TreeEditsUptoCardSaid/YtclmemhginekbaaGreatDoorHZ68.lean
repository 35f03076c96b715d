/- Every edit of a tree, behind every other one, gives the document's tree or error (the card), where what is read is of bulk at most 1048576. -/
import Derived.Test.YtclmemhginekbaaGreatDoorG443391
import Derived.Test.YtclmemhginekbaaGreatDoorGd64a72
import Derived.Test.YtclmemhginekbaaGreatDoorCards
import Derived.Test.YtclmemhginekbaaGreatDoorTie
import Derived.WalkKit
import Derived.ProofKit
import Derived.OpenShut
import Derived.Deep.DeepHandedRow
import Derived.Lib.LaidTab
set_option linter.unusedSectionVars false
set_option linter.unusedSimpArgs false
set_option linter.unusedVariables false
namespace Go.Proofs.YtclmemhginekbaaGreatDoor
open Go.RowKit Go.Proofs Go.ChangeShapes Go.WideShapes Go.ChangeAt Go.Tk

namespace treeEdits
theorem own : ownKnob Tryz.prog.godebug = none := by kernel_rfl
theorem laidOut : laidOutB Tryz.prog = true := by kernel_rfl
set_option maxRecDepth 100000 in
theorem contract (H : Type) (enc : TypeId × Value → H) (W : World) (base : Nat) (args : Array Value) (ds gs : List (DataW H)) (before : List MemPlace)
    (hval : ∀ (j : Nat) t v, Tryz.f4.params[j]? = some t → args[j]? = some v → Value.okWide Tryz.prog W .any base t v)
    (hW : DataW.Whole enc Tryz.prog Tryz.f4.params.toList Rows.treeEditsSpec.vars false W args.toList ds gs before) (hk : Rows.uptoSmall H (ds ++ gs) = true) (hsh : W.ShapedOpen Tryz.prog) :
    Calls Tryz.prog 4 args W fun e W' => ∃ v, e = .returned v ∧ Rows.treeEditsSpec.post enc Tryz.prog Tryz.f4 false true false false W args v W' := by
  have hW' := hW
  obtain ⟨p, q, hA0, hV, rfl, hfz, hnd⟩ := hW
  have hA : DataW.TrodAll enc Tryz.prog W 0 (fun _ => true) true Tryz.f4.params.toList args.toList ds p := hA0
  rw [Tryz.params4] at hA hval
  obtain ⟨v0, vs0, d0, ds0, p0, q0, hargs0, rfl, rfl, h0, r0⟩ := trodAll_cons hA
  obtain ⟨v1, vs1, d1, ds1, p1, q1, hargs1, rfl, rfl, h1, r1⟩ := trodAll_cons r0
  obtain ⟨hargsN, rfl, rfl⟩ := trodAll_nil r1
  obtain rfl : args = #[v0, v1] := by cases args; simp_all
  obtain ⟨rfl, rfl⟩ := trodVars_none hV
  obtain ⟨A0, len0, cap0, rfl⟩ := okWide_slice Tryz.underlying22 (hval 0 22 v0 rfl rfl)
  obtain ⟨fuel0, hf0⟩ := h0
  obtain ⟨s0, hs0, ho0, hb0⟩ := opens_slice (P := Tryz.prog) (E := enE) (ok := fun _ _ => True) (bulk := enBulk) Tryz.underlying22 (by kernel_rfl) opens_en enc W fuel0 _ _ hf0
  have hs0' : [Value.slice A0 len0 cap0] = [Value.slice s0.A s0.n s0.cap] := hs0
  simp only [List.cons.injEq, Value.slice.injEq, and_true] at hs0'
  obtain ⟨rfl, rfl, rfl⟩ := hs0'
  obtain ⟨hl0, hR0, hall0⟩ := ho0
  have hb0' : (s0.xs.map (enBulk)).sum + 1 ≤ Rows.uptoBulk d0 := hb0
  obtain ⟨A1, len1, cap1, rfl⟩ := okWide_slice Tryz.underlying36 (hval 1 36 v1 rfl rfl)
  obtain ⟨fuel1, hf1⟩ := h1
  obtain ⟨s1, hs1, ho1, hb1⟩ := opens_slice (P := Tryz.prog) (E := edE) (ok := edOk) (bulk := edBulk) Tryz.underlying36 (by kernel_rfl) opens_ed enc W fuel1 _ _ hf1
  have hs1' : [Value.slice A1 len1 cap1] = [Value.slice s1.A s1.n s1.cap] := hs1
  simp only [List.cons.injEq, Value.slice.injEq, and_true] at hs1'
  obtain ⟨rfl, rfl, rfl⟩ := hs1'
  obtain ⟨hl1, hR1, hall1⟩ := ho1
  have hb1' : (s1.xs.map (edBulk)).sum + 1 ≤ Rows.uptoBulk d1 := hb1
  simp only [List.append_nil] at hW' hk
  have hk2 : Rows.uptoBulkAll [d0, d1] ≤ 1048576 := of_decide_eq_true hk
  simp only [Rows.uptoBulkAll] at hk2
  obtain ⟨hlen0, hsm0⟩ := enBulk_le (n := 1048576) (xs := s0.xs) (by omega)
  obtain ⟨hlen1, hsm1⟩ := edBulk_le (n := 1048576) (xs := s1.xs) (by omega)
  have hcap0 : s0.n ≤ s0.cap := okWide_cap Tryz.underlying22 (hval 0 22 _ rfl rfl)
  haveI := hR0.free
  haveI := hR1.free
  haveI hml := hasML hsh
  have hw := Edits_any (Sh.free W) (cap := s0.cap) (cap' := s1.cap) (t := s0.xs) (os := s1.xs) (A := s0.A) (A' := s1.A) (by omega) (by omega) (fun e he => by have := hsm0 e he; omega) (by omega) (fun x hx => ⟨(hall1 x hx).1.free, (hall1 x hx).2, by have := (hsm1 x hx).2.2.1; omega, by have := (hsm1 x hx).1; omega, by have := (hsm1 x hx).2.1; omega, by have := (hsm1 x hx).2.1; omega, fun e he => by have := (hsm1 x hx).2.2.2 e he; omega⟩)
  rw [← hl0, ← hl1] at hw
  refine hw.mono fun e W' h => ⟨_, h.1, ?_⟩
  exact post_trueF laidOut (by kernel_rfl) rfl Tryz.underlying4 rfl hW' rfl rfl rfl h.2

theorem laid_met (os : Os) : laidMet Tryz.prog Rows.treeEditsUptoRow.laid ((laidW os).forCall (fun _ _ => 0) ⟨#[], #[.slice none 0 0, .slice none 0 0], []⟩).memory :=
  laidMet_of_run' 8 (by kernel_rfl) (by kernel_rfl)
theorem reads (os : Os) {H : Type} (enc : TypeId × Value → H) : ∃ places, DataW.whole enc Tryz.prog ((laidW os).forCall (fun _ _ => 0) ⟨#[], #[.slice none 0 0, .slice none 0 0], []⟩).memory Tryz.f4.params.toList Rows.treeEditsSpec.vars false #[.slice none 0 0, .slice none 0 0].toList 8 = some ([.nil, .nil], [], places) :=
  ⟨[], by kernel_rfl⟩
set_option maxRecDepth 100000 in
theorem lifted (os : Os) (started : os.Started) (H : Type) (enc : TypeId × Value → H) (F : Stop.Interp) :
    ReturnsInHanded {} Tryz.checked os 4 .any ((Rows.OpenSpec.upto Rows.treeEditsSpec).preRow enc Tryz.prog Tryz.f4 Rows.treeEditsUptoRow.domain false Rows.treeEditsUptoRow.laid) (((Rows.OpenSpec.upto Rows.treeEditsSpec).at F).post enc Tryz.prog Tryz.f4 false true false false) := by
  obtain ⟨places, hx⟩ := reads os enc
  refine returnsInHanded_of_row (C := Tryz.checked) (s := Rows.OpenSpec.upto Rows.treeEditsSpec) own started (by kernel_rfl) Tryz.func4
    (witness_row_at (enc := enc) (C := Tryz.checked) false (laidW os) #[.slice none 0 0, .slice none 0 0] rfl (by kernel_rfl) (by kernel_rfl) (by kernel_rfl)
      (OpenSpec.preRow_of_cond 8 hx (by kernel_rfl) (fun k hk => by cases hk; kernel_rfl) (by kernel_rfl) (laid_met os))) ?_
  intro W base args ds gs before hval hW _ hcond _ _ hsh _
  exact contract H enc W base args ds gs before hval hW (hcond _ rfl) hsh

theorem saidUpto : Rows.TreeEditsUptoSaid :=
  OpenClaim.holds_of_cond 4 Tryz.f4 rfl rfl rfl rfl rfl rfl rfl ⟨rfl, rfl, rfl, rfl, rfl⟩ rfl rfl rfl rfl rfl (by kernel_rfl) Tryz.func4 (by kernel_rfl)
    (of_decide_eq_true (by kernel_rfl)) (by unfold Func.isWrapper; first | (rw [if_pos (by decide +kernel)]; kernel_rfl) | (rw [if_neg (by decide +kernel)]; exact ⟨rfl, rfl⟩))
    (fun os started H enc _ F => by rw [OpenClaim.pre_eq_preRow]; exact lifted os started H enc F)

theorem plain (f : FuncId) (fn : Func) (hf : Tryz.pinned.checked.prog.funcNamed "treadle/treadlelaw05.TreeEdits" = some f) (hfn : Tryz.pinned.checked.prog.funcs[f]? = some fn) :
    false = Tryz.pinned.checked.prog.looks [] ∧ ∀ (j : Nat) t, fn.params[j]? = some t → Tryz.pinned.checked.prog.wantsStandIn t = false := by
  obtain rfl : f = 4 := Option.some.inj ((show Tryz.prog.funcNamed "treadle/treadlelaw05.TreeEdits" = some 4 by kernel_rfl).symm.trans hf) |>.symm
  obtain rfl : fn = Tryz.f4 := (Option.some.inj (Tryz.func4.symm.trans hfn)).symm
  refine ⟨by kernel_rfl, fun j t ht => ?_⟩
  rw [Tryz.params4] at ht
  have hm : t ∈ [22, 36] := by simpa using Array.mem_of_getElem? ht
  have hall : ([22, 36] : List TypeId).all (fun t => !Tryz.prog.wantsStandIn t) = true := by kernel_rfl
  have := List.all_eq_true.1 hall t hm
  have h2 : Tryz.prog.wantsStandIn t = false := by simpa using this
  exact h2

theorem proved : Rows.TreeEditsUptoCardSaid :=
  Claim7.holds_tied_plain_at .later [] _ _ _ _ saidUpto (fun _ h => by cases h) (by kernel_rfl) (fun _ h => by cases h) treeEditsUpto_row_tie rfl ⟨rfl, rfl⟩ (by kernel_rfl) rfl plain (by kernel_rfl)
end treeEdits
end Go.Proofs.YtclmemhginekbaaGreatDoor
