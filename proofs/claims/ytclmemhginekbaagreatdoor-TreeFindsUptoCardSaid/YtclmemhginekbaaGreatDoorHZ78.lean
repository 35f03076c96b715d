/- What stands at a path, in a directory and below it is told as the document says, of any entries (the card), where what is read is of bulk at most 1048576. -/
import Derived.Test.YtclmemhginekbaaGreatDoorGb7bbf8
import Derived.Test.YtclmemhginekbaaGreatDoorG983e5e
import Derived.Test.YtclmemhginekbaaGreatDoorCards
import Derived.Test.YtclmemhginekbaaGreatDoorTie
import Derived.WalkKit
import Derived.ProofKit
import Derived.OpenShut
import Derived.Deep.DeepHandedRow
import Derived.Lib.LaidTab
set_option linter.unusedSectionVars false
set_option linter.unusedSimpArgs false
set_option linter.unusedVariables false
namespace Go.Proofs.YtclmemhginekbaaGreatDoor
open Go.RowKit Go.Proofs Go.ChangeShapes Go.WideShapes Go.ChangeAt Go.Tk

namespace treeFinds
theorem own : ownKnob Tryz.prog.godebug = none := by kernel_rfl
theorem laidOut : laidOutB Tryz.prog = true := by kernel_rfl
set_option maxRecDepth 100000 in
theorem contract (H : Type) (enc : TypeId × Value → H) (W : World) (base : Nat) (args : Array Value) (ds gs : List (DataW H)) (before : List MemPlace)
    (hval : ∀ (j : Nat) t v, Tryz.f5.params[j]? = some t → args[j]? = some v → Value.okWide Tryz.prog W .any base t v)
    (hW : DataW.Whole enc Tryz.prog Tryz.f5.params.toList Rows.treeFindsSpec.vars false W args.toList ds gs before) (hk : Rows.uptoSmall H (ds ++ gs) = true) (hsh : W.ShapedOpen Tryz.prog) :
    Calls Tryz.prog 5 args W fun e W' => ∃ v, e = .returned v ∧ Rows.treeFindsSpec.post enc Tryz.prog Tryz.f5 false true false false W args v W' := by
  have hW' := hW
  obtain ⟨p, q, hA0, hV, rfl, hfz, hnd⟩ := hW
  have hA : DataW.TrodAll enc Tryz.prog W 0 (fun _ => true) true Tryz.f5.params.toList args.toList ds p := hA0
  rw [Tryz.params5] at hA hval
  obtain ⟨v0, vs0, d0, ds0, p0, q0, hargs0, rfl, rfl, h0, r0⟩ := trodAll_cons hA
  obtain ⟨v1, vs1, d1, ds1, p1, q1, hargs1, rfl, rfl, h1, r1⟩ := trodAll_cons r0
  obtain ⟨hargsN, rfl, rfl⟩ := trodAll_nil r1
  obtain rfl : args = #[v0, v1] := by cases args; simp_all
  obtain ⟨rfl, rfl⟩ := trodVars_none hV
  obtain ⟨A0, len0, cap0, rfl⟩ := okWide_slice Tryz.underlying22 (hval 0 22 v0 rfl rfl)
  obtain ⟨fuel0, hf0⟩ := h0
  obtain ⟨s0, hs0, ho0, hb0⟩ := opens_slice (P := Tryz.prog) (E := enE) (ok := fun _ _ => True) (bulk := enBulk) Tryz.underlying22 (by kernel_rfl) opens_en enc W fuel0 _ _ hf0
  have hs0' : [Value.slice A0 len0 cap0] = [Value.slice s0.A s0.n s0.cap] := hs0
  simp only [List.cons.injEq, Value.slice.injEq, and_true] at hs0'
  obtain ⟨rfl, rfl, rfl⟩ := hs0'
  obtain ⟨hl0, hR0, hall0⟩ := ho0
  have hb0' : (s0.xs.map (enBulk)).sum + 1 ≤ Rows.uptoBulk d0 := hb0
  obtain ⟨s1, hsv1⟩ : ∃ s, v1 = .string s := okWide_string Tryz.underlying9 (hval 1 9 v1 rfl rfl)
  subst hsv1
  obtain ⟨fuel1, hf1⟩ := h1
  obtain ⟨y1, hy1, ho1, hb1⟩ := opens_str (P := Tryz.prog) Tryz.underlying9 enc W fuel1 _ _ hf1
  obtain rfl : s1 = y1 := by have h : [Value.string s1] = [Value.string y1] := hy1; simpa using h
  have hb1' : s1.size + 1 ≤ Rows.uptoBulk d1 := hb1
  simp only [List.append_nil] at hW' hk
  have hk2 : Rows.uptoBulkAll [d0, d1] ≤ 1048576 := of_decide_eq_true hk
  simp only [Rows.uptoBulkAll] at hk2
  obtain ⟨hlen0, hsm0⟩ := enBulk_le (n := 1048576) (xs := s0.xs) (by omega)
  have hcap0 : s0.n ≤ s0.cap := okWide_cap Tryz.underlying22 (hval 0 22 _ rfl rfl)
  haveI := hR0.free
  haveI hml := hasML hsh
  have hw := Finds_any (Sh.free W) (cap := s0.cap) (t := s0.xs) (A := s0.A) (by omega) (by omega) (fun e he => by have := hsm0 e he; omega) s1 (by omega) (fun e he => (hsm0 e he).1)
  rw [← hl0] at hw
  refine hw.mono fun e W' h => ⟨_, h.1, ?_⟩
  exact post_trueF laidOut (by kernel_rfl) rfl Tryz.underlying4 rfl hW' rfl rfl rfl h.2

theorem laid_met (os : Os) : laidMet Tryz.prog Rows.treeFindsUptoRow.laid ((laidW os).forCall (fun _ _ => 0) ⟨#[], #[.slice none 0 0, .string ⟨#[]⟩], []⟩).memory :=
  laidMet_of_run' 8 (by kernel_rfl) (by kernel_rfl)
theorem reads (os : Os) {H : Type} (enc : TypeId × Value → H) : ∃ places, DataW.whole enc Tryz.prog ((laidW os).forCall (fun _ _ => 0) ⟨#[], #[.slice none 0 0, .string ⟨#[]⟩], []⟩).memory Tryz.f5.params.toList Rows.treeFindsSpec.vars false #[.slice none 0 0, .string ⟨#[]⟩].toList 8 = some ([.nil, .lit (.string [])], [], places) :=
  ⟨[], by kernel_rfl⟩
set_option maxRecDepth 100000 in
theorem lifted (os : Os) (started : os.Started) (H : Type) (enc : TypeId × Value → H) (F : Stop.Interp) :
    ReturnsInHanded {} Tryz.checked os 5 .any ((Rows.OpenSpec.upto Rows.treeFindsSpec).preRow enc Tryz.prog Tryz.f5 Rows.treeFindsUptoRow.domain false Rows.treeFindsUptoRow.laid) (((Rows.OpenSpec.upto Rows.treeFindsSpec).at F).post enc Tryz.prog Tryz.f5 false true false false) := by
  obtain ⟨places, hx⟩ := reads os enc
  refine returnsInHanded_of_row (C := Tryz.checked) (s := Rows.OpenSpec.upto Rows.treeFindsSpec) own started (by kernel_rfl) Tryz.func5
    (witness_row_at (enc := enc) (C := Tryz.checked) false (laidW os) #[.slice none 0 0, .string ⟨#[]⟩] rfl (by kernel_rfl) (by kernel_rfl) (by kernel_rfl)
      (OpenSpec.preRow_of_cond 8 hx (by kernel_rfl) (fun k hk => by cases hk; kernel_rfl) (by kernel_rfl) (laid_met os))) ?_
  intro W base args ds gs before hval hW _ hcond _ _ hsh _
  exact contract H enc W base args ds gs before hval hW (hcond _ rfl) hsh

theorem saidUpto : Rows.TreeFindsUptoSaid :=
  OpenClaim.holds_of_cond 5 Tryz.f5 rfl rfl rfl rfl rfl rfl rfl ⟨rfl, rfl, rfl, rfl, rfl⟩ rfl rfl rfl rfl rfl (by kernel_rfl) Tryz.func5 (by kernel_rfl)
    (of_decide_eq_true (by kernel_rfl)) (by unfold Func.isWrapper; first | (rw [if_pos (by decide +kernel)]; kernel_rfl) | (rw [if_neg (by decide +kernel)]; exact ⟨rfl, rfl⟩))
    (fun os started H enc _ F => by rw [OpenClaim.pre_eq_preRow]; exact lifted os started H enc F)

theorem plain (f : FuncId) (fn : Func) (hf : Tryz.pinned.checked.prog.funcNamed "treadle/treadlelaw05.TreeFinds" = some f) (hfn : Tryz.pinned.checked.prog.funcs[f]? = some fn) :
    false = Tryz.pinned.checked.prog.looks [] ∧ ∀ (j : Nat) t, fn.params[j]? = some t → Tryz.pinned.checked.prog.wantsStandIn t = false := by
  obtain rfl : f = 5 := Option.some.inj ((show Tryz.prog.funcNamed "treadle/treadlelaw05.TreeFinds" = some 5 by kernel_rfl).symm.trans hf) |>.symm
  obtain rfl : fn = Tryz.f5 := (Option.some.inj (Tryz.func5.symm.trans hfn)).symm
  refine ⟨by kernel_rfl, fun j t ht => ?_⟩
  rw [Tryz.params5] at ht
  have hm : t ∈ [22, 9] := by simpa using Array.mem_of_getElem? ht
  have hall : ([22, 9] : List TypeId).all (fun t => !Tryz.prog.wantsStandIn t) = true := by kernel_rfl
  have := List.all_eq_true.1 hall t hm
  have h2 : Tryz.prog.wantsStandIn t = false := by simpa using this
  exact h2

theorem proved : Rows.TreeFindsUptoCardSaid :=
  Claim7.holds_tied_plain_at .later [] _ _ _ _ saidUpto (fun _ h => by cases h) (by kernel_rfl) (fun _ h => by cases h) treeFindsUpto_row_tie rfl ⟨rfl, rfl⟩ (by kernel_rfl) rfl plain (by kernel_rfl)
end treeFinds
end Go.Proofs.YtclmemhginekbaaGreatDoor
