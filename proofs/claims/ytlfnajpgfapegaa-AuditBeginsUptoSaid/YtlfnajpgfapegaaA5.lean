/- Whether an event is one: the document's answer. -/
import Derived.Test.YtlfnajpgfapegaaA4
set_option linter.unusedSectionVars false
set_option linter.unusedSimpArgs false
set_option linter.unusedVariables false
namespace Go.Tk
open Go.RowKit Go.Proofs

def okK (x : Ev) : Prop := 1 ≤ x.kind ∧ x.kind ≤ 17 ∧ (x.kind = 8 → 1 ≤ x.n ∧ x.n ≤ 6) ∧ (x.kind = 10 → 1 ≤ x.n) ∧ (x.kind = 14 → x.n = 1 ∨ x.n = 2)
theorem rightI_ok {x : Ev} (h : okK x) : rightI x = !badI (fieldsI x.kind).1 (fieldsI x.kind).2.1 (fieldsI x.kind).2.2 x := by
  obtain ⟨h1, h2, h8, h10, h14⟩ := h
  rw [rightI_is (i := (fieldsI x.kind).1) (wk := (fieldsI x.kind).2.1) (n := (fieldsI x.kind).2.2) rfl h1 h2]
  cases badI (fieldsI x.kind).1 (fieldsI x.kind).2.1 (fieldsI x.kind).2.2 x
  · simp only [Bool.false_eq_true, if_false, Bool.not_false]
    split
    · simp; exact h8 (by assumption)
    · split
      · have := h10 (by assumption); simp; omega
      · split
        · have := h14 (by assumption); simp; exact this
        · rfl
  · rfl
abbrev Sh.world {B : Base} {H : HL} {w : World} (_ : Sh B H w) : World := w
section
variable {B : Base} {R H : HL} {w : World}
set_option maxRecDepth 100000 in
set_option maxHeartbeats 4000000 in
theorem Is_any (hS : Sh B R w) (x : Ev) : Calls Try.prog 32 #[.agg x.cells.toArray] w fun e w' => e = .returned (.bool (rightI x)) ∧ Sh B R w' := by
  go_enter Try.func32, Try.ntmps32
  refine wp_seq_k fun K0 h0 => ?_
  have H0 := Lib.hid h0
  clear h0
  go_wp2_with (refine wl_box rfl rfl rfl rfl hS ?_; intro ab _ hS; (try simp only [Act.put, List.setIfInBounds_toArray, List.set_cons_zero, List.set_cons_succ]))
  refine H0.out _ _ ?_
  refine wp_seq_k fun K1 h1 => ?_
  have H1 := Lib.hid h1
  clear h1
  go_wp2
  refine H1.out _ _ ?_
  refine wp_seq_k fun K2 h2 => ?_
  have c0 := Sh.ldC (b := ab) (off := 0) (v := .int .i64 x.kind) hS rfl
  have c1 := Sh.ldC (b := ab) (off := 1) (v := .int .u64 x.id) hS rfl
  have c2 := Sh.ldC (b := ab) (off := 2) (v := .int .i64 x.worker) hS rfl
  have c3 := Sh.ldC (b := ab) (off := 3) (v := .int .i64 x.n) hS rfl
  clear H0 H1
  refine wp_cutS [3, 4, 5] [6, 7, 8, 9, 10, 11, 12, 13, 14, 15, 16, 17, 18, 19, 20, 21, 22, 23, 24, 25, 26, 27, 28, 29, 30, 31, 32, 33, 34, 35, 36, 37, 38, 39, 40, 41, 42, 43, 44, 45, 46, 47, 48, 49, 50] (fun s : Bool × Bool × Bool => [.bool s.1, .bool s.2.1, .bool s.2.2]) (fun s w => s = fieldsI x.kind ∧ okK x ∧ w = hS.world) ?_ ?_
  · clear h2
    go_wp2
    all_goals first | (refine ⟨(_, _, _), ⟨?_, ?_, rfl⟩, trivial, rfl, (by (simp only [blankT, junkT, List.cons_append, List.nil_append, List.setIfInBounds_toArray, List.set_cons_zero, List.set_cons_succ])), rfl⟩; (focus (clear c0 c1 c2 c3 hS; first | (subst_vars; rfl) | (simp_all [fieldsI]; done) | (trace "F"; trace_state; fail))); (focus (clear c0 c1 c2 c3 hS; unfold okK; first | omega | (simp only [beq_iff_eq, beq_eq_false_iff_ne, ne_eq] at *; omega) | (simp_all; done) | (simp_all; omega) | (trace "K"; trace_state; fail)))) | (go_ret; refine ⟨?_, hS.drop⟩; clear c0 c1 c2 c3 hS; first | (simp_all [rightI, fieldsI]; done) | (simp_all [rightI, fieldsI]; omega) | (simp only [beq_iff_eq, beq_eq_false_iff_ne, ne_eq] at *; simp_all [rightI, fieldsI]; omega) | (trace "R"; trace_state; fail))
  · rintro ⟨i, wk, n⟩ J w ⟨he, hk, rfl⟩
    refine h2 _ _ ?_
    clear h2
    have Hr := Lib.hid (rightI_ok hk)
    rw [← he] at Hr
    dsimp only at Hr ⊢
    clear hk he
    (simp only [Frm, setsT, junkT, List.setIfInBounds_toArray, List.set_cons_zero, List.set_cons_succ])
    go_wp2
    all_goals
      go_ret
      refine ⟨?_, hS.drop⟩
      rw [Hr.out]
      clear Hr c0 c1 c2 c3 hS
      first | (simp_all [badI]; done) | (simp_all [badI]; intros; omega) | (simp_all [badI, int_beq]; done) | (simp_all [badI, int_beq]; intros; omega) | (trace "T"; trace_state; fail)
end
end Go.Tk
