/- A queue and its clone go each its own way, where what is read is of bulk at most 1048576 -/
import Derived.Test.YteahpjecpdcpaaaQ35
set_option linter.unusedSectionVars false
set_option linter.unusedSimpArgs false
set_option linter.unusedVariables false
namespace Go.Tk
open Go.RowKit Go.Proofs Go.ChangeShapes Go.WideShapes Go.ChangeAt
structure TwoV where
  n : Int
  s1 : Sl ActV
  s2 : Sl ActV
  s3 : Sl ActV
def twoE : Enc TwoV := {
  val x := .agg #[.int .i64 x.n, .slice x.s1.A x.s1.n x.s1.cap, .slice x.s2.A x.s2.n x.s2.cap, .slice x.s3.A x.s3.n x.s3.cap]
  cells x := [.int .i64 x.n, .slice x.s1.A x.s1.n x.s1.cap, .slice x.s2.A x.s2.n x.s2.cap, .slice x.s3.A x.s3.n x.s3.cap]
  valc _ := rfl
  k := 4
  pos := by decide
  len _ := rfl
  one x := by intro v hv; simp only [List.mem_cons, List.not_mem_nil, or_false] at hv; rcases hv with rfl | rfl | rfl | rfl <;> rfl }
def scOk (B : Base) (s : Sl ActV) : Prop := s.n = s.xs.length ∧ RdB actE B s.A s.xs ∧ ∀ x ∈ s.xs, actOk B x
set_option maxRecDepth 100000 in
theorem opens_two : OpensAt Try.prog 60 twoE (fun B x => scOk B x.s1 ∧ scOk B x.s2 ∧ scOk B x.s3) (fun x => ((x.s1.xs.map actB).sum + 1) + ((x.s2.xs.map actB).sum + 1) + ((x.s3.xs.map actB).sum + 1)) := by
  intro H enc W fuel cs x h
  obtain ⟨ys, n, _, rfl, hl, hlen, hf⟩ := DataW.trod_struct Try.underlying60 h
  have hc : Try.prog.cellsOf 60 = 4 := by kernel_rfl
  have hl4 : cs.length = 4 := by rw [hl, hc]
  match cs, hl4, ys, hlen with
  | [c0, c1, c2, c3], _, [y0, y1, y2, y3], _ =>
    obtain ⟨m, h0, o0, b0⟩ := opens_int (P := Try.prog) (t := 3) Try.underlying3 enc W n _ _ (hf 0 _ rfl)
    obtain ⟨s1, h1, o1, b1⟩ := opens_slice (P := Try.prog) (t := 22) (E := actE) (ok := actOk) (bulk := actB) Try.underlying22 (by kernel_rfl) opens_act enc W n _ _ (hf 1 _ rfl)
    obtain ⟨s2, h2, o2, b2⟩ := opens_slice (P := Try.prog) (t := 22) (E := actE) (ok := actOk) (bulk := actB) Try.underlying22 (by kernel_rfl) opens_act enc W n _ _ (hf 2 _ rfl)
    obtain ⟨s3, h3, o3, b3⟩ := opens_slice (P := Try.prog) (t := 22) (E := actE) (ok := actOk) (bulk := actB) Try.underlying22 (by kernel_rfl) opens_act enc W n _ _ (hf 3 _ rfl)
    have e0 : [c0] = [Value.int .i64 m] := h0
    have e1 : [c1] = [Value.slice s1.A s1.n s1.cap] := h1
    have e2 : [c2] = [Value.slice s2.A s2.n s2.cap] := h2
    have e3 : [c3] = [Value.slice s3.A s3.n s3.cap] := h3
    simp only [List.cons.injEq, and_true] at e0 e1 e2 e3
    subst e0 e1 e2 e3
    refine ⟨⟨m, s1, s2, s3⟩, rfl, ⟨o1, o2, o3⟩, ?_⟩
    have b1' : (s1.xs.map actB).sum + 1 ≤ Go.Proofs.Yteahpjecpdcpaaa.Rows.uptoBulk y1.1 := b1
    have b2' : (s2.xs.map actB).sum + 1 ≤ Go.Proofs.Yteahpjecpdcpaaa.Rows.uptoBulk y2.1 := b2
    have b3' : (s3.xs.map actB).sum + 1 ≤ Go.Proofs.Yteahpjecpdcpaaa.Rows.uptoBulk y3.1 := b3
    simp only [Go.Proofs.Yteahpjecpdcpaaa.Rows.uptoBulk, Go.Proofs.Yteahpjecpdcpaaa.Rows.uptoBulkAll, List.map_cons, List.map_nil]
    omega
end Go.Tk
namespace Go.Proofs.Yteahpjecpdcpaaa
open Go.RowKit Go.Proofs Go.ChangeShapes Go.WideShapes Go.ChangeAt Go.Tk

namespace queueClones
theorem own : ownKnob Try.prog.godebug = none := by kernel_rfl
theorem laidOut : laidOutB Try.prog = true := by kernel_rfl
set_option maxRecDepth 100000 in
theorem contract (H : Type) (enc : TypeId × Value → H) (W : World) (base : Nat) (args : Array Value) (ds gs : List (DataW H)) (before : List MemPlace)
    (hval : ∀ (j : Nat) t v, Try.f7.params[j]? = some t → args[j]? = some v → Value.okWide Try.prog W .any base t v)
    (hW : DataW.Whole enc Try.prog Try.f7.params.toList Rows.queueClonesSpec.vars false W args.toList ds gs before) (hk : Rows.uptoSmall H (ds ++ gs) = true) :
    Calls Try.prog 7 args W fun e W' => ∃ v, e = .returned v ∧ Rows.queueClonesSpec.post enc Try.prog Try.f7 false true false false W args v W' := by
  have hW' := hW
  obtain ⟨p, q, hA0, hV, rfl, hfz, hnd⟩ := hW
  have hA : DataW.TrodAll enc Try.prog W 0 (fun _ => true) true Try.f7.params.toList args.toList ds p := hA0
  rw [Try.params7] at hA hval
  obtain ⟨v0, vs0, d0, ds0, p0, q0, hargs, rfl, rfl, h0, r0⟩ := trodAll_cons hA
  obtain ⟨hargs2, rfl, rfl⟩ := trodAll_nil r0
  obtain rfl : args = #[v0] := by cases args; simp_all
  obtain ⟨rfl, rfl⟩ := trodVars_none hV
  obtain ⟨cs, rfl, hcs⟩ := okWide_struct Try.underlying60 (hval 0 60 v0 rfl rfl)
  obtain ⟨fuel, hf⟩ := h0
  obtain ⟨x, hs, ho, hb⟩ := opens_two enc W fuel _ _ hf
  have hs' : cs.toList = twoE.cells x := hs
  obtain rfl : cs = (twoE.cells x).toArray := by rw [← hs']
  obtain ⟨⟨n1, R1, a1⟩, ⟨n2, R2, a2⟩, ⟨n3, R3, a3⟩⟩ := ho
  simp only [List.append_nil] at hW' hk
  have hk2 : Rows.uptoBulkAll [d0] ≤ 1048576 := of_decide_eq_true hk
  simp only [Rows.uptoBulkAll] at hk2
  have hb' : ((x.s1.xs.map actB).sum + 1) + ((x.s2.xs.map actB).sum + 1) + ((x.s3.xs.map actB).sum + 1) ≤ Rows.uptoBulk d0 := hb
  have hw := Clones_any (Sh.of W) x.n (c1 := x.s1.cap) (c2 := x.s2.cap) (c3 := x.s3.cap) R1 (script_okB (by omega) a1) R2 (script_okB (by omega) a2) R3 (script_okB (by omega) a3)
  rw [← n1, ← n2, ← n3] at hw
  refine hw.mono fun e W' h => ⟨_, h.1, ?_⟩
  exact post_true laidOut (by kernel_rfl) rfl Try.underlying4 rfl hW' rfl rfl rfl h.2

set_option maxRecDepth 100000 in
theorem lifted (os : Os) (started : os.Started) (H : Type) (enc : TypeId × Value → H) (F : Stop.Interp) :
    ReturnsInHanded {} Try.checked os 7 .any ((Rows.OpenSpec.upto Rows.queueClonesSpec).pre6 enc Try.prog Try.f7 Rows.queueClonesUptoRow.domain false) (((Rows.OpenSpec.upto Rows.queueClonesSpec).at F).post enc Try.prog Try.f7 false true false false) := by
  refine returnsInHanded_of_cond (C := Try.checked) (s := Rows.OpenSpec.upto Rows.queueClonesSpec) (k := Rows.uptoSmall) rfl own started (by kernel_rfl) Try.func7
    (OpenSpec.witness (enc := enc) (C := Try.checked) (s := Rows.OpenSpec.upto Rows.queueClonesSpec) (k := Rows.uptoSmall) rfl false ⟨#[], #[.agg #[.int .i64 0, .slice none 0 0, .slice none 0 0, .slice none 0 0]], []⟩ 8 (by kernel_rfl) (by kernel_rfl) (by kernel_rfl)
      (x := ([.agg [.lit (.int .i64 0), .nil, .nil, .nil]], [], [])) (by kernel_rfl) rfl (by kernel_rfl)) ?_
  intro W base args ds gs before hval hW _ hk _
  exact contract H enc W base args ds gs before hval hW hk

theorem proved : Rows.QueueClonesUptoSaid :=
  OpenClaim.holds_of_cond 7 Try.f7 rfl rfl rfl rfl rfl rfl rfl ⟨rfl, rfl, rfl, rfl, rfl⟩ rfl rfl rfl rfl rfl (by kernel_rfl) Try.func7 (by kernel_rfl)
    (of_decide_eq_true (by kernel_rfl)) (by unfold Func.isWrapper; first | (rw [if_pos (by decide +kernel)]; kernel_rfl) | (rw [if_neg (by decide +kernel)]; exact ⟨rfl, rfl⟩))
    (fun os started H enc _ F => lifted os started H enc F)
end queueClones
end Go.Proofs.Yteahpjecpdcpaaa

