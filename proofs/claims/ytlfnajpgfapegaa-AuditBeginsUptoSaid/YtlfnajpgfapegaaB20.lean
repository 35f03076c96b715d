/- What stands behind a broken rule has no part, and a beginning of a log that passes breaks nothing within it, where what is read is of bulk at most 1048576. -/
import Derived.Test.YtlfnajpgfapegaaB19
set_option linter.unusedSectionVars false
set_option linter.unusedSimpArgs false
set_option linter.unusedVariables false
namespace Go.Tk
open Go.Proofs.Ytlfnajpgfapegaa
open Go.RowKit Go.Proofs Go.ChangeShapes Go.WideShapes Go.ChangeAt
theorem okWide_cap {P : Program} {w : World} {r : Reach} {base : Nat} {t e : TypeId} {A : Option Addr} {len cap : Nat} (ht : P.underlying t = some (.slice e)) (h : Value.okWide P w r base t (.slice A len cap)) : len ≤ cap := by
  simp only [Value.okWide, ht, Cell.okWide] at h
  cases A with
  | none =>
    cases len with
    | zero => exact Nat.zero_le _
    | succ n => simp [Cell.ok, ht] at h
  | some a => simp only [Cell.ok, ht] at h; exact h.1
def cfgE : Enc Cfg := {
  val x := .agg (cfgC x).toArray
  cells x := cfgC x
  valc _ := rfl
  k := 7
  pos := by decide
  len _ := rfl
  one x := by intro v hv; simp only [cfgC, List.mem_cons, List.not_mem_nil, or_false] at hv; rcases hv with rfl | rfl | rfl | rfl | rfl | rfl | rfl <;> rfl }
set_option maxRecDepth 100000 in
theorem opens_cfg : OpensAt Try.prog 23 cfgE (fun _ _ => True) (fun _ => 1) := by
  intro H enc W fuel cs x h
  obtain ⟨ys, n, _, rfl, hl, hlen, hf⟩ := DataW.trod_struct Try.underlying23 h
  have hc : Try.prog.cellsOf 23 = 7 := by kernel_rfl
  have hl5 : cs.length = 7 := by rw [hl, hc]
  match cs, hl5, ys, hlen with
  | [c0, c1, c2, c3, c4, c5, c6], _, [y0, y1, y2, y3, y4, y5, y6], _ =>
    obtain ⟨k0, h0, o0, b0⟩ := opens_int (P := Try.prog) (t := 3) Try.underlying3 enc W n _ _ (hf 0 _ rfl)
    obtain ⟨k1, h1, o1, b1⟩ := opens_int (P := Try.prog) (t := 3) Try.underlying3 enc W n _ _ (hf 1 _ rfl)
    obtain ⟨k2, h2, o2, b2⟩ := opens_int (P := Try.prog) (t := 3) Try.underlying3 enc W n _ _ (hf 2 _ rfl)
    obtain ⟨k3, h3, o3, b3⟩ := opens_int (P := Try.prog) (t := 3) Try.underlying3 enc W n _ _ (hf 3 _ rfl)
    obtain ⟨k4, h4, o4, b4⟩ := opens_int (P := Try.prog) (t := 3) Try.underlying3 enc W n _ _ (hf 4 _ rfl)
    obtain ⟨k5, h5, o5, b5⟩ := opens_int (P := Try.prog) (t := 3) Try.underlying3 enc W n _ _ (hf 5 _ rfl)
    obtain ⟨k6, h6, o6, b6⟩ := opens_int (P := Try.prog) (t := 3) Try.underlying3 enc W n _ _ (hf 6 _ rfl)
    have e0 : [c0] = [Value.int .i64 k0] := h0
    have e1 : [c1] = [Value.int .i64 k1] := h1
    have e2 : [c2] = [Value.int .i64 k2] := h2
    have e3 : [c3] = [Value.int .i64 k3] := h3
    have e4 : [c4] = [Value.int .i64 k4] := h4
    have e5 : [c5] = [Value.int .i64 k5] := h5
    have e6 : [c6] = [Value.int .i64 k6] := h6
    simp only [List.cons.injEq, and_true] at e0 e1 e2 e3 e4 e5 e6
    subst e0 e1 e2 e3 e4 e5 e6
    refine ⟨⟨k0, k1, k2, k3, k4, k5, k6⟩, rfl, trivial, ?_⟩
    simp only [Rows.uptoBulk]
    omega
set_option maxRecDepth 100000 in
theorem opens_ev : OpensAt Try.prog 48 evE (fun _ _ => True) (fun _ => 1) := by
  intro H enc W fuel cs x h
  obtain ⟨ys, n, _, rfl, hl, hlen, hf⟩ := DataW.trod_struct Try.underlying48 h
  have hc : Try.prog.cellsOf 48 = 4 := by kernel_rfl
  have hl5 : cs.length = 4 := by rw [hl, hc]
  match cs, hl5, ys, hlen with
  | [c0, c1, c2, c3], _, [y0, y1, y2, y3], _ =>
    obtain ⟨k0, h0, o0, b0⟩ := opens_int (P := Try.prog) (t := 3) Try.underlying3 enc W n _ _ (hf 0 _ rfl)
    obtain ⟨k1, h1, o1, b1⟩ := opens_int (P := Try.prog) (t := 46) Try.underlying46 enc W n _ _ (hf 1 _ rfl)
    obtain ⟨k2, h2, o2, b2⟩ := opens_int (P := Try.prog) (t := 3) Try.underlying3 enc W n _ _ (hf 2 _ rfl)
    obtain ⟨k3, h3, o3, b3⟩ := opens_int (P := Try.prog) (t := 3) Try.underlying3 enc W n _ _ (hf 3 _ rfl)
    have e0 : [c0] = [Value.int .i64 k0] := h0
    have e1 : [c1] = [Value.int .u64 k1] := h1
    have e2 : [c2] = [Value.int .i64 k2] := h2
    have e3 : [c3] = [Value.int .i64 k3] := h3
    simp only [List.cons.injEq, and_true] at e0 e1 e2 e3
    subst e0 e1 e2 e3
    refine ⟨⟨k0, k1, k2, k3⟩, rfl, trivial, ?_⟩
    simp only [Rows.uptoBulk]
    omega
end Go.Tk
namespace Go.Proofs.Ytlfnajpgfapegaa
open Go.RowKit Go.Proofs Go.ChangeShapes Go.WideShapes Go.ChangeAt Go.Tk

namespace auditBegins
theorem own : ownKnob Try.prog.godebug = none := by kernel_rfl
theorem laidOut : laidOutB Try.prog = true := by kernel_rfl
set_option maxRecDepth 100000 in
theorem contract (H : Type) (enc : TypeId × Value → H) (W : World) (base : Nat) (args : Array Value) (ds gs : List (DataW H)) (before : List MemPlace)
    (hval : ∀ (j : Nat) t v, Try.f3.params[j]? = some t → args[j]? = some v → Value.okWide Try.prog W .any base t v)
    (hW : DataW.Whole enc Try.prog Try.f3.params.toList Rows.auditBeginsSpec.vars false W args.toList ds gs before) (hk : Rows.uptoSmall H (ds ++ gs) = true) :
    Calls Try.prog 3 args W fun e W' => ∃ v, e = .returned v ∧ Rows.auditBeginsSpec.post enc Try.prog Try.f3 false true false false W args v W' := by
  have hW' := hW
  obtain ⟨p, q, hA0, hV, rfl, hfz, hnd⟩ := hW
  have hA : DataW.TrodAll enc Try.prog W 0 (fun _ => true) true Try.f3.params.toList args.toList ds p := hA0
  rw [Try.params3] at hA hval
  obtain ⟨v0, vs0, d0, ds0, p0, q0, hargs0, rfl, rfl, h0, r0⟩ := trodAll_cons hA
  obtain ⟨v1, vs1, d1, ds1, p1, q1, hargs1, rfl, rfl, h1, r1⟩ := trodAll_cons r0
  obtain ⟨v2, vs2, d2, ds2, p2, q2, hargs2, rfl, rfl, h2, r2⟩ := trodAll_cons r1
  obtain ⟨hargsN, rfl, rfl⟩ := trodAll_nil r2
  obtain rfl : args = #[v0, v1, v2] := by cases args; simp_all
  obtain ⟨rfl, rfl⟩ := trodVars_none hV
  obtain ⟨cs0, rfl, hcs0⟩ := okWide_struct Try.underlying23 (hval 0 23 v0 rfl rfl)
  obtain ⟨fuel0, hf0⟩ := h0
  obtain ⟨x0, hs0, ho0, hb0⟩ := opens_cfg enc W fuel0 _ _ hf0
  have hs0' : cs0.toList = (cfgE).cells x0 := hs0
  obtain rfl : cs0 = ((cfgE).cells x0).toArray := by rw [← hs0']
  obtain ⟨A1, len1, cap1, rfl⟩ := okWide_slice Try.underlying24 (hval 1 24 v1 rfl rfl)
  obtain ⟨fuel1, hf1⟩ := h1
  obtain ⟨s1, hs1, ho1, hb1⟩ := opens_slice (P := Try.prog) (E := evE) (ok := fun _ _ => True) (bulk := fun _ : Ev => 1) Try.underlying24 (by kernel_rfl) opens_ev enc W fuel1 _ _ hf1
  have hs1' : [Value.slice A1 len1 cap1] = [Value.slice s1.A s1.n s1.cap] := hs1
  simp only [List.cons.injEq, Value.slice.injEq, and_true] at hs1'
  obtain ⟨rfl, rfl, rfl⟩ := hs1'
  obtain ⟨hl1, hR1, hall1⟩ := ho1
  have hb1' : (s1.xs.map (fun _ : Ev => 1)).sum + 1 ≤ Rows.uptoBulk d1 := hb1
  obtain ⟨n2, rfl, rfl, rfl, hn2⟩ := open_int Try.underlying3 (hval 2 3 v2 rfl rfl) h2
  simp only [List.append_nil] at hW' hk
  have hk2 : Rows.uptoBulkAll [d0, d1, _] ≤ 1048576 := of_decide_eq_true hk
  simp only [Rows.uptoBulkAll] at hk2
  have hlen := length_le_sum (f := fun _ : Ev => 1) (fun _ => Nat.le_refl _) s1.xs
  have hcap : s1.n ≤ s1.cap := okWide_cap Try.underlying24 (hval 1 24 _ rfl rfl)
  have hw := Begins_any (Sh.of W) x0 (cap := s1.cap) hR1 (by omega) (by omega) n2
  rw [← hl1] at hw
  refine hw.mono fun e W' h => ⟨_, h.1, ?_⟩
  exact post_true laidOut (by kernel_rfl) rfl Try.underlying4 rfl hW' rfl rfl rfl h.2

set_option maxRecDepth 100000 in
theorem lifted (os : Os) (started : os.Started) (H : Type) (enc : TypeId × Value → H) (F : Stop.Interp) :
    ReturnsInHanded {} Try.checked os 3 .any ((Rows.OpenSpec.upto Rows.auditBeginsSpec).pre6 enc Try.prog Try.f3 Rows.auditBeginsUptoRow.domain false) (((Rows.OpenSpec.upto Rows.auditBeginsSpec).at F).post enc Try.prog Try.f3 false true false false) := by
  refine returnsInHanded_of_cond (C := Try.checked) (s := Rows.OpenSpec.upto Rows.auditBeginsSpec) (k := Rows.uptoSmall) rfl own started (by kernel_rfl) Try.func3
    (OpenSpec.witness (enc := enc) (C := Try.checked) (s := Rows.OpenSpec.upto Rows.auditBeginsSpec) (k := Rows.uptoSmall) rfl false ⟨#[], #[.agg #[.int .i64 0, .int .i64 0, .int .i64 0, .int .i64 0, .int .i64 0, .int .i64 0, .int .i64 0], .slice none 0 0, .int .i64 0], []⟩ 8 (by kernel_rfl) (by kernel_rfl) (by kernel_rfl)
      (x := ([.agg [.lit (.int .i64 0), .lit (.int .i64 0), .lit (.int .i64 0), .lit (.int .i64 0), .lit (.int .i64 0), .lit (.int .i64 0), .lit (.int .i64 0)], .nil, .lit (.int .i64 0)], [], [])) (by kernel_rfl) rfl (by kernel_rfl)) ?_
  intro W base args ds gs before hval hW _ hk _
  exact contract H enc W base args ds gs before hval hW hk

theorem proved : Rows.AuditBeginsUptoSaid :=
  OpenClaim.holds_of_cond 3 Try.f3 rfl rfl rfl rfl rfl rfl rfl ⟨rfl, rfl, rfl, rfl, rfl⟩ rfl rfl rfl rfl rfl (by kernel_rfl) Try.func3 (by kernel_rfl)
    (of_decide_eq_true (by kernel_rfl)) (by unfold Func.isWrapper; first | (rw [if_pos (by decide +kernel)]; kernel_rfl) | (rw [if_neg (by decide +kernel)]; exact ⟨rfl, rfl⟩))
    (fun os started H enc _ F => lifted os started H enc F)
end auditBegins
end Go.Proofs.Ytlfnajpgfapegaa
