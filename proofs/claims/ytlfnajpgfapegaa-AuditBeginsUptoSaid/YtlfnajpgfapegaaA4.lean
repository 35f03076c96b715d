/- Whether an event is one: the program's answer and the document's. -/
import Derived.Test.YtlfnajpgfapegaaA3
import Derived.Deep.Cut
set_option linter.unusedSectionVars false
set_option linter.unusedSimpArgs false
set_option linter.unusedVariables false
namespace Go.Tk
open Go.RowKit Go.Proofs

instance (x : Ev) : CellAt (Ev.cells x) 0 (.int .i64 x.kind) := ⟨rfl⟩
instance (x : Ev) : CellAt (Ev.cells x) 1 (.int .u64 x.id) := ⟨rfl⟩
instance (x : Ev) : CellAt (Ev.cells x) 2 (.int .i64 x.worker) := ⟨rfl⟩
instance (x : Ev) : CellAt (Ev.cells x) 3 (.int .i64 x.n) := ⟨rfl⟩
instance (x : Ev) : CellAt (evE.cells x) 0 (.int .i64 x.kind) := ⟨rfl⟩
instance (x : Ev) : CellAt (evE.cells x) 1 (.int .u64 x.id) := ⟨rfl⟩
instance (x : Ev) : CellAt (evE.cells x) 2 (.int .i64 x.worker) := ⟨rfl⟩
instance (x : Ev) : CellAt (evE.cells x) 3 (.int .i64 x.n) := ⟨rfl⟩
instance (x : Ev) : RowOk (Ev.cells x) 4 := ⟨rfl, evE.one x⟩

def fieldsI (k : Int) : Bool × Bool × Bool :=
  if k = 1 ∨ k = 2 ∨ k = 3 ∨ k = 15 ∨ k = 16 then (true, false, false) else
  if k = 8 then (true, false, true) else
  if k = 6 ∨ k = 7 then (true, true, false) else
  if k = 10 ∨ k = 14 then (false, true, true) else
  if k = 13 then (false, false, true) else (false, true, false)
def rightI (e : Ev) : Bool :=
  if e.kind < 1 ∨ 17 < e.kind then false else
  if ((fieldsI e.kind).1 = false ∧ e.id ≠ 0) ∨ ((fieldsI e.kind).2.1 ≠ decide (0 < e.worker)) ∨ ((fieldsI e.kind).2.1 = false ∧ e.worker ≠ 0) ∨ ((fieldsI e.kind).2.2 = false ∧ e.n ≠ 0) then false else
  if e.kind = 8 then decide (1 ≤ e.n) && decide (e.n ≤ 6) else
  if e.kind = 10 then decide (0 < e.n) else
  if e.kind = 14 then decide (e.n = 1) || decide (e.n = 2) else true

abbrev Sh.heap {B : Base} {H : HL} {w : World} (_ : Sh B H w) : HL := H
section
variable {B : Base} {R H : HL} {w : World}
set_option maxRecDepth 100000 in
set_option maxHeartbeats 800000 in
theorem fields_any (k : Int) : Calls Try.prog 48 #[.int .i64 k] w fun e w' => e = .returned (.tuple #[.bool (fieldsI k).1, .bool (fieldsI k).2.1, .bool (fieldsI k).2.2]) ∧ w = w' := by
  go_enter Try.func48, Try.ntmps48
  go_wp2_with (first | (refine wl_isld rfl ?_; ((first | refine wl_value rfl (ex_l0 hS rfl rfl rfl CellAt.out) ?_ | refine wl_value rfl (ex_lf hS rfl rfl rfl CellAt.out) ?_ | refine wl_value rfl (ex_l1 hS rfl rfl rfl CellAt.out) ?_ | refine wl_value rfl (ex_ldC hS rfl rfl CellAt.out) ?_ | refine wl_value rfl (ex_l0 hS rfl rfl rfl rfl) ?_ | refine wl_value rfl (ex_lf hS rfl rfl rfl rfl) ?_ | refine wl_value rfl (ex_l1 hS rfl rfl rfl rfl) ?_ | refine wl_value rfl (ex_ldC hS rfl rfl rfl) ?_ | refine wl_value rfl (ex_l00 hS rfl rfl CellAt.out) ?_ | refine wl_value rfl (ex_l00 hS rfl rfl rfl) ?_ | refine wl_value rfl (ex_l0f hS rfl rfl CellAt.out) ?_ | refine wl_value rfl (ex_l0f hS rfl rfl rfl) ?_ | refine wl_value rfl (ex_lr hS rfl rfl rfl rfl) ?_ | refine wl_value rfl (ex_lr0 hS rfl rfl rfl) ?_ | refine wl_value rfl (ex_lrz hS rfl rfl rfl) ?_ | refine wl_value rfl (ex_lrf hS rfl rfl rfl) ?_ | refine wl_value rfl (ex_ldrC hS rfl rfl) ?_ | refine wl_value rfl (ex_ldr0 hS rfl rfl rfl) ?_); (try simp only [Act.put, List.setIfInBounds_toArray, List.set_cons_zero, List.set_cons_succ]))) | ((first | refine wl_value rfl (ex_ix hS rfl rfl rfl ?_) ?_); (focus (first | rfl | omega | (simp; done))); (try simp only [Act.put, List.setIfInBounds_toArray, List.set_cons_zero, List.set_cons_succ])) | ((first | refine wl_value rfl (ex_eqA rfl rfl rfl) ?_ | refine wl_value rfl (ex_neA rfl rfl rfl) ?_); (try simp only [Act.put, List.setIfInBounds_toArray, List.set_cons_zero, List.set_cons_succ])) | (refine wl_alloc rfl rfl hS ?_; intro _ _ hS; (try simp only [Act.put, List.setIfInBounds_toArray, List.set_cons_zero, List.set_cons_succ])) | (refine wl_box rfl rfl rfl rfl hS ?_; intro _ _ hS; (try simp only [Act.put, List.setIfInBounds_toArray, List.set_cons_zero, List.set_cons_succ])) | (refine wl_st rfl rfl rfl rfl rfl hS (of_decide_eq_true rfl) ?_; intro _ hS; (try simp only [evT, evC, List.getD_cons_succ, List.getD_cons_zero, List.set_cons_zero, List.set_cons_succ] at hS); (try simp only [List.set_cons_zero, List.set_cons_succ] at hS); (try simp only [Act.put, List.setIfInBounds_toArray, List.set_cons_zero, List.set_cons_succ])) | (refine wl_strC rfl rfl rfl rfl hS rfl rfl ?_; intro _ hS; (try simp only [evT, evC, List.getD_cons_succ, List.getD_cons_zero, List.set_cons_zero, List.set_cons_succ] at hS); (try simp only [Act.put, List.setIfInBounds_toArray, List.set_cons_zero, List.set_cons_succ])))
  all_goals
    refine bodyPost_res (rs := ([.tmp 2, .tmp 3, .tmp 4])) rfl ((.tmp (.tmp (.tmp .nil)))) rfl ?_
    refine ⟨?_, rfl⟩
    unfold fieldsI
    first
    | (subst_vars; rfl) | (simp_all [retV])
theorem fields_is {x : Ev} {i wk n : Bool} (hf : fieldsI x.kind = (i, wk, n)) (w : World) : Calls Try.prog 48 #[.int .i64 x.kind] w fun e w' => e = .returned (.tuple #[.bool i, .bool wk, .bool n]) ∧ w = w' := by
  have := fields_any (w := w) x.kind
  rw [hf] at this
  exact this
theorem int_beq (a b : Int) : (a == b) = decide (a = b) := by rw [Bool.eq_iff_iff]; simp
def badI (i wk n : Bool) (x : Ev) : Bool := (!i && decide (x.id ≠ 0)) || (wk != decide (0 < x.worker)) || (!wk && decide (x.worker ≠ 0)) || (!n && decide (x.n ≠ 0))
theorem rightI_is {x : Ev} {i wk n : Bool} (hf : fieldsI x.kind = (i, wk, n)) (h1 : 1 ≤ x.kind) (h2 : x.kind ≤ 17) : rightI x =
    if badI i wk n x = true then false else
    if x.kind = 8 then decide (1 ≤ x.n) && decide (x.n ≤ 6) else
    if x.kind = 10 then decide (0 < x.n) else
    if x.kind = 14 then decide (x.n = 1) || decide (x.n = 2) else true := by
  unfold rightI; rw [hf, if_neg (by omega)]
  have e : ((i = false ∧ x.id ≠ 0) ∨ (wk ≠ decide (0 < x.worker)) ∨ (wk = false ∧ x.worker ≠ 0) ∨ (n = false ∧ x.n ≠ 0)) ↔ badI i wk n x = true := by
    unfold badI
    cases i <;> cases wk <;> cases n <;> simp [or_assoc]
  simp only [e]
set_option maxRecDepth 100000 in
set_option maxHeartbeats 4000000 in
theorem right_in (hS : Sh B R w) (x : Ev) (h1 : ¬ x.kind < 1) (h2 : ¬ 17 < x.kind) : Calls Try.prog 27 #[.agg x.cells.toArray] w fun e w' => e = .returned (.bool (rightI x)) ∧ Sh B R w' := by
  obtain ⟨i, wk, n, hf⟩ : ∃ i wk n, fieldsI x.kind = (i, wk, n) := ⟨_, _, _, rfl⟩
  have hc := fun w => fields_is hf w
  have Hr := Lib.hid (rightI_is hf (by omega) (by omega))
  clear hf
  go_enter Try.func27, Try.ntmps27
  go_upto_region 1 with (refine wl_box rfl rfl rfl rfl hS ?_; intro ab _ hS; (try simp only [Act.put, List.setIfInBounds_toArray, List.set_cons_zero, List.set_cons_succ]))
  have c0 := Sh.ldC (b := ab) (off := 0) (v := .int .i64 x.kind) hS rfl
  have c1 := Sh.ldC (b := ab) (off := 1) (v := .int .u64 x.id) hS rfl
  have c2 := Sh.ldC (b := ab) (off := 2) (v := .int .i64 x.worker) hS rfl
  have c3 := Sh.ldC (b := ab) (off := 3) (v := .int .i64 x.n) hS rfl
  go_wp2_with ((go_at_call 48; refine ((hc _)).mono ?_; rintro e w' (⟨rfl, rfl⟩)))
  all_goals
    go_ret
    refine ⟨?_, hS.drop⟩
    rw [Hr.out]
    clear Hr hc c0 c1 c2 c3 hS
    first | (simp_all [badI]; done) | (simp_all [badI]; intros; omega) | (simp_all [badI, int_beq]; done) | (simp_all [badI, int_beq]; intros; omega) | (have hw0 : x.worker = 0 := (by omega); simp_all [badI, int_beq]; done)
set_option maxRecDepth 100000 in
set_option maxHeartbeats 800000 in
theorem right_any (hS : Sh B R w) (x : Ev) : Calls Try.prog 27 #[.agg x.cells.toArray] w fun e w' => e = .returned (.bool (rightI x)) ∧ Sh B R w' := by
  by_cases h1 : x.kind < 1
  · have hr := Lib.hid (show rightI x = false by unfold rightI; rw [if_pos (.inl h1)])
    go_enter Try.func27, Try.ntmps27
    go_wp2_with (first | (refine wl_isld rfl ?_; ((first | refine wl_value rfl (ex_l0 hS rfl rfl rfl CellAt.out) ?_ | refine wl_value rfl (ex_lf hS rfl rfl rfl CellAt.out) ?_ | refine wl_value rfl (ex_l1 hS rfl rfl rfl CellAt.out) ?_ | refine wl_value rfl (ex_ldC hS rfl rfl CellAt.out) ?_ | refine wl_value rfl (ex_l0 hS rfl rfl rfl rfl) ?_ | refine wl_value rfl (ex_lf hS rfl rfl rfl rfl) ?_ | refine wl_value rfl (ex_l1 hS rfl rfl rfl rfl) ?_ | refine wl_value rfl (ex_ldC hS rfl rfl rfl) ?_ | refine wl_value rfl (ex_l00 hS rfl rfl CellAt.out) ?_ | refine wl_value rfl (ex_l00 hS rfl rfl rfl) ?_ | refine wl_value rfl (ex_l0f hS rfl rfl CellAt.out) ?_ | refine wl_value rfl (ex_l0f hS rfl rfl rfl) ?_ | refine wl_value rfl (ex_lr hS rfl rfl rfl rfl) ?_ | refine wl_value rfl (ex_lr0 hS rfl rfl rfl) ?_ | refine wl_value rfl (ex_lrz hS rfl rfl rfl) ?_ | refine wl_value rfl (ex_lrf hS rfl rfl rfl) ?_ | refine wl_value rfl (ex_ldrC hS rfl rfl) ?_ | refine wl_value rfl (ex_ldr0 hS rfl rfl rfl) ?_); (try simp only [Act.put, List.setIfInBounds_toArray, List.set_cons_zero, List.set_cons_succ]))) | ((first | refine wl_value rfl (ex_ix hS rfl rfl rfl ?_) ?_); (focus (first | rfl | omega | (simp; done))); (try simp only [Act.put, List.setIfInBounds_toArray, List.set_cons_zero, List.set_cons_succ])) | ((first | refine wl_value rfl (ex_eqA rfl rfl rfl) ?_ | refine wl_value rfl (ex_neA rfl rfl rfl) ?_); (try simp only [Act.put, List.setIfInBounds_toArray, List.set_cons_zero, List.set_cons_succ])) | (refine wl_alloc rfl rfl hS ?_; intro _ _ hS; (try simp only [Act.put, List.setIfInBounds_toArray, List.set_cons_zero, List.set_cons_succ])) | (refine wl_box rfl rfl rfl rfl hS ?_; intro _ _ hS; (try simp only [Act.put, List.setIfInBounds_toArray, List.set_cons_zero, List.set_cons_succ])) | (refine wl_st rfl rfl rfl rfl rfl hS (of_decide_eq_true rfl) ?_; intro _ hS; (try simp only [evT, evC, List.getD_cons_succ, List.getD_cons_zero, List.set_cons_zero, List.set_cons_succ] at hS); (try simp only [List.set_cons_zero, List.set_cons_succ] at hS); (try simp only [Act.put, List.setIfInBounds_toArray, List.set_cons_zero, List.set_cons_succ])) | (refine wl_strC rfl rfl rfl rfl hS rfl rfl ?_; intro _ hS; (try simp only [evT, evC, List.getD_cons_succ, List.getD_cons_zero, List.set_cons_zero, List.set_cons_succ] at hS); (try simp only [Act.put, List.setIfInBounds_toArray, List.set_cons_zero, List.set_cons_succ])))
    go_ret
    rw [hr.out]
    exact ⟨rfl, hS.drop⟩
  · by_cases h2 : 17 < x.kind
    · have hr := Lib.hid (show rightI x = false by unfold rightI; rw [if_pos (.inr h2)])
      go_enter Try.func27, Try.ntmps27
      go_wp2_with (first | (refine wl_isld rfl ?_; ((first | refine wl_value rfl (ex_l0 hS rfl rfl rfl CellAt.out) ?_ | refine wl_value rfl (ex_lf hS rfl rfl rfl CellAt.out) ?_ | refine wl_value rfl (ex_l1 hS rfl rfl rfl CellAt.out) ?_ | refine wl_value rfl (ex_ldC hS rfl rfl CellAt.out) ?_ | refine wl_value rfl (ex_l0 hS rfl rfl rfl rfl) ?_ | refine wl_value rfl (ex_lf hS rfl rfl rfl rfl) ?_ | refine wl_value rfl (ex_l1 hS rfl rfl rfl rfl) ?_ | refine wl_value rfl (ex_ldC hS rfl rfl rfl) ?_ | refine wl_value rfl (ex_l00 hS rfl rfl CellAt.out) ?_ | refine wl_value rfl (ex_l00 hS rfl rfl rfl) ?_ | refine wl_value rfl (ex_l0f hS rfl rfl CellAt.out) ?_ | refine wl_value rfl (ex_l0f hS rfl rfl rfl) ?_ | refine wl_value rfl (ex_lr hS rfl rfl rfl rfl) ?_ | refine wl_value rfl (ex_lr0 hS rfl rfl rfl) ?_ | refine wl_value rfl (ex_lrz hS rfl rfl rfl) ?_ | refine wl_value rfl (ex_lrf hS rfl rfl rfl) ?_ | refine wl_value rfl (ex_ldrC hS rfl rfl) ?_ | refine wl_value rfl (ex_ldr0 hS rfl rfl rfl) ?_); (try simp only [Act.put, List.setIfInBounds_toArray, List.set_cons_zero, List.set_cons_succ]))) | ((first | refine wl_value rfl (ex_ix hS rfl rfl rfl ?_) ?_); (focus (first | rfl | omega | (simp; done))); (try simp only [Act.put, List.setIfInBounds_toArray, List.set_cons_zero, List.set_cons_succ])) | ((first | refine wl_value rfl (ex_eqA rfl rfl rfl) ?_ | refine wl_value rfl (ex_neA rfl rfl rfl) ?_); (try simp only [Act.put, List.setIfInBounds_toArray, List.set_cons_zero, List.set_cons_succ])) | (refine wl_alloc rfl rfl hS ?_; intro _ _ hS; (try simp only [Act.put, List.setIfInBounds_toArray, List.set_cons_zero, List.set_cons_succ])) | (refine wl_box rfl rfl rfl rfl hS ?_; intro _ _ hS; (try simp only [Act.put, List.setIfInBounds_toArray, List.set_cons_zero, List.set_cons_succ])) | (refine wl_st rfl rfl rfl rfl rfl hS (of_decide_eq_true rfl) ?_; intro _ hS; (try simp only [evT, evC, List.getD_cons_succ, List.getD_cons_zero, List.set_cons_zero, List.set_cons_succ] at hS); (try simp only [List.set_cons_zero, List.set_cons_succ] at hS); (try simp only [Act.put, List.setIfInBounds_toArray, List.set_cons_zero, List.set_cons_succ])) | (refine wl_strC rfl rfl rfl rfl hS rfl rfl ?_; intro _ hS; (try simp only [evT, evC, List.getD_cons_succ, List.getD_cons_zero, List.set_cons_zero, List.set_cons_succ] at hS); (try simp only [Act.put, List.setIfInBounds_toArray, List.set_cons_zero, List.set_cons_succ])))
      go_ret
      rw [hr.out]
      exact ⟨rfl, hS.drop⟩
    · exact right_in hS x h1 h2
end
end Go.Tk
