/- Without requests that come back never more wait than may, where what is read is of bulk at most 1048576 -/
import Derived.Test.YteahpjecpdcpaaaQ11
import Derived.Test.YteahpjecpdcpaaaTkP
set_option linter.unusedSectionVars false
set_option linter.unusedSimpArgs false
set_option linter.unusedVariables false
namespace Go.Tk
open Go.Proofs.Yteahpjecpdcpaaa
open Go.RowKit Go.Proofs Go.ChangeShapes Go.WideShapes Go.ChangeAt

def actOk (B : Base) (a : ActV) : Prop := a.n = a.ks.length ∧ RdB (intE .u8) B a.A a.ks ∧ (Lit.int .i64 a.kind).wf = true ∧ (Lit.int .u64 a.id).wf = true ∧ (Lit.int .i64 a.until_).wf = true
def actB (a : ActV) : Nat := a.ks.length + 1
set_option maxRecDepth 100000 in
theorem opens_act : OpensAt Try.prog 31 actE actOk actB := by
  intro H enc W fuel cs x h
  obtain ⟨ys, n, _, rfl, hl, hlen, hf⟩ := DataW.trod_struct Try.underlying31 h
  have hc : Try.prog.cellsOf 31 = 5 := by kernel_rfl
  have hl5 : cs.length = 5 := by rw [hl, hc]
  match cs, hl5, ys, hlen with
  | [c0, c1, c2, c3, c4], _, [y0, y1, y2, y3, y4], _ =>
    obtain ⟨kind, h0, o0, b0⟩ := opens_int (P := Try.prog) (t := 3) Try.underlying3 enc W n _ _ (hf 0 _ rfl)
    obtain ⟨id, h1, o1, b1⟩ := opens_int (P := Try.prog) (t := 28) Try.underlying28 enc W n _ _ (hf 1 _ rfl)
    obtain ⟨key, h2, o2, b2⟩ := opens_int (P := Try.prog) (t := 5) Try.underlying5 enc W n _ _ (hf 2 _ rfl)
    obtain ⟨u, h3, o3, b3⟩ := opens_int (P := Try.prog) (t := 3) Try.underlying3 enc W n _ _ (hf 3 _ rfl)
    obtain ⟨s, h4, o4, b4⟩ := opens_slice (P := Try.prog) (t := 29) (E := intE .u8) (ok := fun _ n => (Lit.int .u8 n).wf = true) (bulk := fun _ => 1) Try.underlying29 (by kernel_rfl) (opens_int (P := Try.prog) (t := 5) Try.underlying5) enc W n _ _ (hf 4 _ rfl)
    have e0 : [c0] = [Value.int .i64 kind] := h0
    have e1 : [c1] = [Value.int .u64 id] := h1
    have e2 : [c2] = [Value.int .u8 key] := h2
    have e3 : [c3] = [Value.int .i64 u] := h3
    have e4 : [c4] = [Value.slice s.A s.n s.cap] := h4
    simp only [List.cons.injEq, and_true] at e0 e1 e2 e3 e4
    subst e0 e1 e2 e3 e4
    refine ⟨⟨kind, id, key, u, s.A, s.n, s.cap, s.xs⟩, rfl, ⟨o4.1, o4.2.1, o0, o1, o3⟩, ?_⟩
    have b4' : (s.xs.map (fun _ : Int => 1)).sum + 1 ≤ Rows.uptoBulk y4.1 := b4
    have hk := length_le_sum (f := fun _ : Int => 1) (fun _ => Nat.le_refl _) s.xs
    simp only [actB, Rows.uptoBulk, Rows.uptoBulkAll, List.map_cons, List.map_nil]
    omega

theorem script_short {H : Type} {d0 d1 : DataW H} {s : Sl ActV} (hk : Rows.uptoSmall H [d0, d1] = true) (hb : (s.xs.map actB).sum + 1 ≤ Rows.uptoBulk d1) : s.xs.length ≤ 1048576 := by
  have h : Rows.uptoBulkAll [d0, d1] ≤ 1048576 := of_decide_eq_true hk
  simp only [Rows.uptoBulkAll] at h
  have := length_le_sum (f := actB) (fun a => by unfold actB; omega) s.xs
  omega
end Go.Tk

namespace Go.Proofs.Yteahpjecpdcpaaa
open Go.RowKit Go.Proofs Go.ChangeShapes Go.WideShapes Go.ChangeAt Go.Tk

namespace queueBounds
theorem own : ownKnob Try.prog.godebug = none := by kernel_rfl
theorem laidOut : laidOutB Try.prog = true := by kernel_rfl
set_option maxRecDepth 100000 in
theorem contract (H : Type) (enc : TypeId × Value → H) (W : World) (base : Nat) (args : Array Value) (ds gs : List (DataW H)) (before : List MemPlace)
    (hval : ∀ (j : Nat) t v, Try.f3.params[j]? = some t → args[j]? = some v → Value.okWide Try.prog W .any base t v)
    (hW : DataW.Whole enc Try.prog Try.f3.params.toList Rows.queueBoundsSpec.vars false W args.toList ds gs before) (hk : Rows.uptoSmall H (ds ++ gs) = true) :
    Calls Try.prog 3 args W fun e W' => ∃ v, e = .returned v ∧ Rows.queueBoundsSpec.post enc Try.prog Try.f3 false true false false W args v W' := by
  have hW' := hW
  obtain ⟨p, q, hA0, hV, rfl, hfz, hnd⟩ := hW
  have hA : DataW.TrodAll enc Try.prog W 0 (fun _ => true) true Try.f3.params.toList args.toList ds p := hA0
  rw [Try.params3] at hA hval
  obtain ⟨v0, vs0, d0, ds0, p0, q0, hargs, rfl, rfl, h0, r0⟩ := trodAll_cons hA
  obtain ⟨v1, vs1, d1, ds1, p1, q1, hargs1, rfl, rfl, h1, r1⟩ := trodAll_cons r0
  obtain ⟨hargs2, rfl, rfl⟩ := trodAll_nil r1
  obtain rfl : args = #[v0, v1] := by cases args; simp_all
  obtain ⟨rfl, rfl⟩ := trodVars_none hV
  obtain ⟨n, rfl, rfl, rfl, hn⟩ := open_int Try.underlying3 (hval 0 3 v0 rfl rfl) h0
  obtain ⟨A, len, cap, rfl⟩ := okWide_slice Try.underlying22 (hval 1 22 v1 rfl rfl)
  obtain ⟨fuel, hf⟩ := h1
  obtain ⟨s, hs, ho, hb⟩ := opens_slice (P := Try.prog) (E := actE) (ok := actOk) (bulk := actB) Try.underlying22 (by kernel_rfl) opens_act enc W fuel _ _ hf
  have hs' : [Value.slice A len cap] = [Value.slice s.A s.n s.cap] := hs
  simp only [List.cons.injEq, Value.slice.injEq, and_true] at hs'
  obtain ⟨rfl, rfl, rfl⟩ := hs'
  obtain ⟨hn1, hR, _⟩ := ho
  simp only [List.append_nil] at hW' hk
  have hlen := script_short hk hb
  have hw := Bounds_any (Sh.of W) n (cap := s.cap) hR (by omega)
  rw [← hn1] at hw
  refine hw.mono fun e W' h => ⟨_, h.1, ?_⟩
  exact post_true laidOut (by kernel_rfl) rfl Try.underlying4 rfl hW' rfl rfl rfl h.2

set_option maxRecDepth 100000 in
theorem lifted (os : Os) (started : os.Started) (H : Type) (enc : TypeId × Value → H) (F : Stop.Interp) :
    ReturnsInHanded {} Try.checked os 3 .any ((Rows.OpenSpec.upto Rows.queueBoundsSpec).pre6 enc Try.prog Try.f3 Rows.queueBoundsUptoRow.domain false) (((Rows.OpenSpec.upto Rows.queueBoundsSpec).at F).post enc Try.prog Try.f3 false true false false) := by
  refine returnsInHanded_of_cond (C := Try.checked) (s := Rows.OpenSpec.upto Rows.queueBoundsSpec) (k := Rows.uptoSmall) rfl own started (by kernel_rfl) Try.func3
    (OpenSpec.witness (enc := enc) (C := Try.checked) (s := Rows.OpenSpec.upto Rows.queueBoundsSpec) (k := Rows.uptoSmall) rfl false ⟨#[], #[.int .i64 0, .slice none 0 0], []⟩ 8 (by kernel_rfl) (by kernel_rfl) (by kernel_rfl)
      (x := ([.lit (.int .i64 0), .nil], [], [])) (by kernel_rfl) rfl (by kernel_rfl)) ?_
  intro W base args ds gs before hval hW _ hk _
  exact contract H enc W base args ds gs before hval hW hk

theorem proved : Rows.QueueBoundsUptoSaid :=
  OpenClaim.holds_of_cond 3 Try.f3 rfl rfl rfl rfl rfl rfl rfl ⟨rfl, rfl, rfl, rfl, rfl⟩ rfl rfl rfl rfl rfl (by kernel_rfl) Try.func3 (by kernel_rfl)
    (of_decide_eq_true (by kernel_rfl)) (by unfold Func.isWrapper; first | (rw [if_pos (by decide +kernel)]; kernel_rfl) | (rw [if_neg (by decide +kernel)]; exact ⟨rfl, rfl⟩))
    (fun os started H enc _ F => lifted os started H enc F)
end queueBounds
end Go.Proofs.Yteahpjecpdcpaaa
