/- The tree's clone and sort. -/
import Derived.Test.YtclmemhginekbaaDoorP12
import Derived.Test.YtclmemhginekbaaDoorP13
import Derived.Test.YtclmemhginekbaaDoorTkU
set_option linter.unusedSectionVars false
set_option linter.unusedSimpArgs false
set_option linter.unusedVariables false
namespace Go.Tk
open Go.RowKit Go.Proofs

section
variable {P : Program} {ops : Array Oper} {Q : Exit → Act → World → Prop} {rest : List Oper} {o : Oper} {a : Act} {B : Base} {H R : HL} {w : World} {α : Type} {E : Enc α}
/-- []T{} -/
theorem wl_buildSlice0 {t e : Nat} (E : Enc α) [hsl : SlTy P t e E.k] (hw : Region.wanted o (yielded ops a.tmps) = true) (ho : o.op = .buildSlice t 0 #[]) (hS : Sh B H w)
    (h : ∀ b w', Sh B (rowA (some ⟨b, 0, none⟩) (flat E [] ++ []) e ++ H) w' → OwnSl E (some ⟨b, 0, none⟩) [] [] 0 → wpList P ops Q rest (a.put o.dst (.slice (some ⟨b, 0, none⟩) 0 0)) w') : wpList P ops Q (o :: rest) a w := by
  have hrun : (Instr.buildSlice t 0 #[]).run P w = .ok (.slice (some ⟨w.heap.size, 0, none⟩) 0 0) (w.alloc (.cells #[] e)) := by
    simp only [Instr.buildSlice, Sem.run_bind, run_underlying hsl.under, Result.andThen_ok, run_sizeOf hsl.size, gt_iff_lt, Nat.zero_mul, show ¬ (2 ^ 24 < 0) from by decide, if_false, if_true, Sem.run_pure]
    simp [Instr.fill, newRow, newObj, Sem.run]
    have h0 : (Array.range 0) = (#[] : Array Nat) := by apply Array.ext'; simp
    rw [h0]; simp
  refine wl_to hw (by simp only [execOp, ho, Sem.run_bind, Array.map_empty]; rw [hrun]; rfl) (h w.heap.size _ ?_ ⟨fun e => (by cases e), fun ad e => (by cases e; rfl), by simp, by simp⟩)
  exact hS.alloc _
end
section
variable {P : Program} {o : Oper} {a : Act} {w : World}
theorem ex_eqNil {t u e : TypeId} {x y : Operand} {A : Option Addr} {n c n2 c2 : Nat} (ht : P.underlying t = some (.slice e)) (ho : o.op = .binOp .eql t x y u) (hx : a.eval x = .slice A n c) (hy : a.eval y = .slice none n2 c2) : (execOp a.eval o).run P w = .ok (.value (.bool A.isNone)) w := by
  have := Lib.run_eql_slice_nil (P := P) w t e A n c n2 c2 ht
  have hg : eqGuard .eql t x y (.slice A n c) (.slice none n2 c2) = pure () := rfl
  simp [execOp, ho, hx, hy, Sem.run_bind, hg, this]
end
section
variable {B : Base} {R H H1 : HL} {w w' : World}
def CloneP (B : Base) (R : HL) (t : List En) (e : Ending) (w' : World) : Prop :=
  ∃ A2 sp cap2, e = .returned (.slice A2 t.length cap2) ∧ OwnSl enE A2 t sp cap2 ∧ Sh B (rowA A2 (flat enE t ++ sp) 37 ++ R) w'
set_option maxRecDepth 100000 in
set_option maxHeartbeats 800000 in
theorem CloneE_any (hS : Sh B R w) {A : Option Addr} {cap : Nat} {t : List En} [r : RdAt enE B R A t] (hl : t.length ≤ 16777216) :
    Calls Tryd.prog 39 #[.slice A t.length cap] w (CloneP B R t) := by
  cases A with
  | none =>
    have h0 : t = [] := by
      cases t with
      | nil => rfl
      | cons x r2 => obtain ⟨b, off, h⟩ := r.ok (by simp); cases h
    subst h0
    go_enter Tryd.func39, Tryd.ntmps39
    go_wp2_with (refine wl_value rfl ((ex_eqNil Tryd.underlying22 rfl rfl rfl)) ?_; (try simp only [Act.put, List.setIfInBounds_toArray, List.set_cons_zero, List.set_cons_succ]))
    go_ret
    exact ⟨none, [], 0, rfl, OwnSl.nothing, hS⟩
  | some ad =>
    go_enter Tryd.func39, Tryd.ntmps39
    go_wp2_with (first | (refine wl_value rfl ((ex_eqNil Tryd.underlying22 rfl rfl rfl)) ?_; (try simp only [Act.put, List.setIfInBounds_toArray, List.set_cons_zero, List.set_cons_succ])) | (refine wl_buildSlice0 enE rfl rfl hS ?_; intro nb _ hS hO; (try simp only [Act.put, List.setIfInBounds_toArray, List.set_cons_zero, List.set_cons_succ])) | (refine wl_ap (E := enE) rfl rfl rfl rfl hS ?_ ?_ ?_ ?_ ?_; (focus (first | rfl | omega)); (focus (first | rfl | omega)); (focus ((simp only [List.length_nil]; omega))); (focus decide); intro _ _ _ _ hO2 hS; (try simp only [Act.put, List.setIfInBounds_toArray, List.set_cons_zero, List.set_cons_succ])))
    go_ret
    rw [List.nil_append] at hO2 hS
    exact ⟨_, _, _, rfl, hO2, hS.to⟩
/-- Entries that may be compared. -/
abbrev GoodE := { e : En // okP e.path = true ∧ e.path.size ≤ 16777216 }
def goodE : Enc GoodE := {
  val x := enE.val x.1
  cells x := enE.cells x.1
  valc x := enE.valc x.1
  k := 3
  pos := by decide
  len x := enE.len x.1
  one x := enE.one x.1 }
theorem flat_good (xs : List GoodE) : flat goodE xs = flat enE (xs.map (·.1)) := by
  induction xs with
  | nil => rfl
  | cons x xs ih => rw [flat_cons, List.map_cons, flat_cons, ih]; rfl
theorem OwnSl.good {A : Option Addr} {xs : List GoodE} {sp : List Value} {cap : Nat} : OwnSl goodE A xs sp cap ↔ OwnSl enE A (xs.map (·.1)) sp cap :=
  ⟨fun h => ⟨fun e => by obtain ⟨h1, h2, h3⟩ := h.nil e; exact ⟨by rw [h1]; rfl, h2, h3⟩, h.form, by rw [List.length_map]; exact h.capEq, h.max⟩,
   fun h => ⟨fun e => by obtain ⟨h1, h2, h3⟩ := h.nil e; exact ⟨List.map_eq_nil_iff.1 h1, h2, h3⟩, h.form, by have := h.capEq; rw [List.length_map] at this; exact this, h.max⟩⟩
theorem swo_less : Go.Sort.SWO (ltOf fun x y : GoodE => lessI x.1.path y.1.path) := {
  irrefl x := by
    show decide (lessI x.1.path x.1.path < 0) = false
    rw [lessI_self]; rfl
  trans x y z h1 h2 := by
    simp only [ltOf, decide_eq_true_eq] at *
    exact lessI_trans x.2.1 y.2.1 z.2.1 h1 h2
  ntrans x y z h1 h2 := by
    simp only [ltOf, decide_eq_false_iff_not] at *
    obtain ⟨a, ha⟩ := okP_some x.2.1
    obtain ⟨b, hb⟩ := okP_some y.2.1
    obtain ⟨c, hc⟩ := okP_some z.2.1
    rw [lessI_of ha hb] at h1
    rw [lessI_of hb hc] at h2
    rw [lessI_of ha hc]
    have s1 := cmpL_swap a b
    have s2 := cmpL_swap b c
    have s3 := cmpL_swap a c
    have := (cmpL_trans (x := c) (y := b) (z := a) (by omega) (by omega)).1
    omega }
theorem ml_of {B : Base} {H : HL} {W : World} [HasML B] (h : Sh B H W) : HasML (Base.of W) := by
  obtain ⟨m, hm⟩ := HasML.out (B := B)
  refine ⟨m, ?_⟩
  unfold Base.cell at hm ⊢
  split at hm
  · rename_i c t fr hb
    show (match W.heap[0]? with | some (.cells c _ _) => c[0]? | _ => none) = _
    rw [h.base _ _ hb]
    exact hm
  · cases hm
set_option maxRecDepth 100000 in
theorem sortF_any [HasML B] (hS : Sh B R w) (x y : En) (hx : x.path.size ≤ 16777216) (hy : y.path.size ≤ 16777216) : Calls Tryd.prog 65 #[.agg x.cells.toArray, .agg y.cells.toArray] w fun e w' => e = .returned (.int .i64 (lessI x.path y.path)) ∧ Sh B R w' := by
  have hl := fun (w : World) (R : HL) (hS : Sh B R w) => Less_any hS x.path y.path hx hy
  go_enter Tryd.func65, Tryd.ntmps65
  go_wp2_with (first | (refine wl_box rfl rfl rfl rfl hS ?_; intro _ _ hS; (try simp only [Act.put, List.setIfInBounds_toArray, List.set_cons_zero, List.set_cons_succ])) | (go_at_call 32; refine ((hl _ _ hS)).mono ?_; rintro e w' (⟨rfl, hS⟩)) | (refine wl_isld rfl ?_; ((first | refine wl_value rfl (ex_l0 hS rfl rfl rfl CellAt.out) ?_ | refine wl_value rfl (ex_lf hS rfl rfl rfl CellAt.out) ?_ | refine wl_value rfl (ex_l1 hS rfl rfl rfl CellAt.out) ?_ | refine wl_value rfl (ex_ldC hS rfl rfl CellAt.out) ?_ | refine wl_value rfl (ex_l0 hS rfl rfl rfl rfl) ?_ | refine wl_value rfl (ex_lf hS rfl rfl rfl rfl) ?_ | refine wl_value rfl (ex_l1 hS rfl rfl rfl rfl) ?_ | refine wl_value rfl (ex_ldC hS rfl rfl rfl) ?_ | refine wl_value rfl (ex_l00 hS rfl rfl CellAt.out) ?_ | refine wl_value rfl (ex_l00 hS rfl rfl rfl) ?_ | refine wl_value rfl (ex_l0f hS rfl rfl CellAt.out) ?_ | refine wl_value rfl (ex_l0f hS rfl rfl rfl) ?_ | refine wl_value rfl (ex_lr hS rfl rfl rfl rfl) ?_ | refine wl_value rfl (ex_lr0 hS rfl rfl rfl) ?_ | refine wl_value rfl (ex_lrz hS rfl rfl rfl) ?_ | refine wl_value rfl (ex_lrf hS rfl rfl rfl) ?_ | refine wl_value rfl (ex_ldrC hS rfl rfl) ?_ | refine wl_value rfl (ex_ldr0 hS rfl rfl rfl) ?_); (try simp only [Act.put, List.setIfInBounds_toArray, List.set_cons_zero, List.set_cons_succ]))) | ((first | refine wl_value rfl (ex_ix hS rfl rfl rfl ?_) ?_); (focus (first | rfl | omega | (simp; done))); (try simp only [Act.put, List.setIfInBounds_toArray, List.set_cons_zero, List.set_cons_succ])) | ((first | refine wl_value rfl (ex_eqA rfl rfl rfl) ?_ | refine wl_value rfl (ex_neA rfl rfl rfl) ?_); (try simp only [Act.put, List.setIfInBounds_toArray, List.set_cons_zero, List.set_cons_succ])) | (refine wl_alloc rfl rfl hS ?_; intro _ _ hS; (try simp only [Act.put, List.setIfInBounds_toArray, List.set_cons_zero, List.set_cons_succ])) | (refine wl_box rfl rfl rfl rfl hS ?_; intro _ _ hS; (try simp only [Act.put, List.setIfInBounds_toArray, List.set_cons_zero, List.set_cons_succ])) | (refine wl_st rfl rfl rfl rfl rfl hS (of_decide_eq_true rfl) ?_; intro _ hS; (try simp only [evT, evC, List.getD_cons_succ, List.getD_cons_zero, List.set_cons_zero, List.set_cons_succ] at hS); (try simp only [List.set_cons_zero, List.set_cons_succ] at hS); (try simp only [Act.put, List.setIfInBounds_toArray, List.set_cons_zero, List.set_cons_succ])) | (refine wl_strC rfl rfl rfl rfl hS rfl rfl ?_; intro _ hS; (try simp only [evT, evC, List.getD_cons_succ, List.getD_cons_zero, List.set_cons_zero, List.set_cons_succ] at hS); (try simp only [Act.put, List.setIfInBounds_toArray, List.set_cons_zero, List.set_cons_succ])))
  go_ret
  exact ⟨rfl, hS.to⟩
def SortedP (B : Base) (A : Option Addr) (xs : List En) (sp : List Value) (cap : Nat) (C : HL → HL) (e : Ending) (w' : World) : Prop :=
  e = .returned (.tuple #[]) ∧ ∃ ys : List En, ys.Perm xs ∧ ys.Pairwise (fun x y => 0 ≤ lessI y.path x.path) ∧ OwnSl enE A ys sp cap ∧ Sh B (C (rowA A (flat enE ys ++ sp) 37)) w'
theorem SortFE_any [HasML B] {A : Option Addr} {xs : List En} {sp : List Value} {cap : Nat} {C : HL → HL} (hO : OwnSl enE A xs sp cap) (hS : Sh B H w) [hp : CtxRow H A (flat enE xs ++ sp) 37 C] (hl : xs.length ≤ 16777216) (hg : ∀ e ∈ xs, okP e.path = true ∧ e.path.size ≤ 16777216) :
    Calls Tryd.prog 64 #[.slice A xs.length cap, .func (.func 65) #[] #[]] w (SortedP B A xs sp cap C) := by
  obtain ⟨gs, hgs⟩ : ∃ gs : List GoodE, gs.map (·.1) = xs := ⟨xs.pmap Subtype.mk hg, by rw [List.map_pmap]; simp⟩
  subst hgs
  haveI : Inhabited GoodE := ⟨⟨⟨⟨#[]⟩, 0, ⟨#[]⟩⟩, rfl, by decide⟩⟩
  haveI hp2 : CtxRow H A (flat goodE gs ++ sp) 37 C := by rw [flat_good]; exact hp
  have hcmp : CmpIn Tryd.prog B 65 #[] goodE (fun x y => lessI x.1.path y.1.path) := by
    intro x y H W hW
    haveI := ml_of hW
    exact sortF_any (B := Base.of W) (R := []) (Sh.of W) x.1 y.1 x.2.2 y.2.2
  have h := sortK2 (E := goodE) Tryd.sortW (fun w => Tryd.isAgg37 w) (fun w => Tryd.sizeOf37 w) (fun x => rfl) swo_less (g := 65) (cb := #[]) (EntersC.out (P := Tryd.prog) (f := 65)) hcmp (OwnSl.good.2 hO) hS (hp := hp2) (by simp at hl ⊢; omega)
  rw [List.length_map]
  refine h.mono fun e w' h => ⟨h.1, ?_⟩
  obtain ⟨ys, h1, h2, h3, h4⟩ := h.2
  refine ⟨ys.map (·.1), h1.map _, ?_, OwnSl.good.1 h3, ?_⟩
  · rw [List.pairwise_map]; exact h2
  · rw [flat_good] at h4; exact h4
end
end Go.Tk
