/- Paths: above, compare, split; Paths, by the document: a name; pieces; the names of a path; Paths, by the document: text, split, compare; Paths, by the document: compare and split two; the tree's and the document's less and up; Entries of a tree: may one be? Where does a path stand?; What a row over the tree asks: the library's tables, entries read; A tree's first wrong entry, plainly; the document's search; slices.Sort over texts that stand in order already. -/
import Derived.Test.YtclmemhginekbaaGreatDoorGb7f0c3
import Derived.Test.YtclmemhginekbaaGreatDoorG498b9f
import Derived.Shelf.Vars
import Derived.Deep.DeepHandedRow
import Derived.Lib.LaidTab
set_option linter.unusedSectionVars false
set_option linter.unusedSimpArgs false
set_option linter.unusedVariables false
namespace Go.Tk
open Go.RowKit Go.Proofs

theorem namesL_len (s : ByteArray) : (namesL s).length ≤ 32 := by
  unfold namesL namesB
  split
  · simp
  · split
    · simp
    · split
      · simp only [Option.getD_some]; omega
      · simp
section
variable {B : Base} {R H H1 : HL} {w w' : World}
set_option maxRecDepth 100000 in
set_option maxHeartbeats 800000 in
theorem Above_any [HasML B] (hS : Sh B R w) (a b : ByteArray) (ha : a.size ≤ 16777216) (hb : b.size ≤ 16777216) : Calls Tryz.prog 64 #[.string a, .string b] w fun e w' => e = .returned (.tuple #[.bool (aboveB a b), .int .i64 (errB a b)]) ∧ Sh B R w' := by
  have h1 := fun (w : World) (R : HL) (hS : Sh B R w) => both_any hS a b ha hb
  by_cases he : errB a b = 0
  · obtain ⟨x, y, hx, hy⟩ := errB_0 he
    have hnx := (names_some hx).1
    have hny := (names_some hy).1
    have hab : aboveB a b = (decide (x.length < y.length) && decide (x = y.take x.length)) := by unfold aboveB; rw [hx, hy]
    unfold BothP at h1
    rw [hnx, hny] at h1
    have Hab := Lib.hid hab
    have He := Lib.hid he
    rw [he] at h1
    clear hnx hny hab hx hy
    by_cases hlt : x.length < y.length
    · have d1 : decide ((x.length : Int) < (y.length : Int)) = true := decide_eq_true (by omega)
      have d2 : decide (x.length < y.length) = true := decide_eq_true hlt
      have heq := fun (w : World) (R : HL) (A A2 : Option Addr) (cap cap2 : Nat) (hS : Sh B R w) (r : RdAt strE B R A x) (r2 : RdAt strE B R A2 (y.take x.length)) => EqS_any hS (cap := cap) (cap2 := cap2) (xs := x) (ys := y.take x.length) (r := r) (r2 := r2)
      rw [show (y.take x.length).length = x.length by rw [List.length_take]; omega] at heq
      rw [he]
      clear he
      go_enter Tryz.func64, Tryz.ntmps64
      go_wp2_with fail
      refine (h1 _ _ hS).mono ?_
      rintro e w' ⟨A, c, A2, c2, rfl, hO, hO2, hS⟩
      dsimp only
      have hle : x.length ≤ c2 := by have := hO2.len_le; omega
      have hrt : RdAt strE B (rowA A2 (flat strE y ++ []) 9 ++ (rowA A (flat strE x ++ []) 9 ++ R)) A2 (y.take x.length) := RdAt.take inferInstance _
      go_wp2_with (first | (refine wl_value rfl ((ex_cutH rfl rfl rfl hle)) ?_; (try simp only [Act.put, List.setIfInBounds_toArray, List.set_cons_zero, List.set_cons_succ])) | (go_at_call 79; refine ((heq _ _ _ _ _ _ hS inferInstance hrt)).mono ?_; rintro e w' (⟨rfl, hS⟩)) | (refine wl_isld rfl ?_; ((first | refine wl_value rfl (ex_l0 hS rfl rfl rfl CellAt.out) ?_ | refine wl_value rfl (ex_lf hS rfl rfl rfl CellAt.out) ?_ | refine wl_value rfl (ex_l1 hS rfl rfl rfl CellAt.out) ?_ | refine wl_value rfl (ex_ldC hS rfl rfl CellAt.out) ?_ | refine wl_value rfl (ex_l0 hS rfl rfl rfl rfl) ?_ | refine wl_value rfl (ex_lf hS rfl rfl rfl rfl) ?_ | refine wl_value rfl (ex_l1 hS rfl rfl rfl rfl) ?_ | refine wl_value rfl (ex_ldC hS rfl rfl rfl) ?_ | refine wl_value rfl (ex_l00 hS rfl rfl CellAt.out) ?_ | refine wl_value rfl (ex_l00 hS rfl rfl rfl) ?_ | refine wl_value rfl (ex_l0f hS rfl rfl CellAt.out) ?_ | refine wl_value rfl (ex_l0f hS rfl rfl rfl) ?_ | refine wl_value rfl (ex_lr hS rfl rfl rfl rfl) ?_ | refine wl_value rfl (ex_lr0 hS rfl rfl rfl) ?_ | refine wl_value rfl (ex_lrz hS rfl rfl rfl) ?_ | refine wl_value rfl (ex_lrf hS rfl rfl rfl) ?_ | refine wl_value rfl (ex_ldrC hS rfl rfl) ?_ | refine wl_value rfl (ex_ldr0 hS rfl rfl rfl) ?_); (try simp only [Act.put, List.setIfInBounds_toArray, List.set_cons_zero, List.set_cons_succ]))) | ((first | refine wl_value rfl (ex_ix hS rfl rfl rfl ?_) ?_); (focus (first | rfl | omega | (simp; done))); (try simp only [Act.put, List.setIfInBounds_toArray, List.set_cons_zero, List.set_cons_succ])) | ((first | refine wl_value rfl (ex_eqA rfl rfl rfl) ?_ | refine wl_value rfl (ex_neA rfl rfl rfl) ?_); (try simp only [Act.put, List.setIfInBounds_toArray, List.set_cons_zero, List.set_cons_succ])) | (refine wl_alloc rfl rfl hS ?_; intro _ _ hS; (try simp only [Act.put, List.setIfInBounds_toArray, List.set_cons_zero, List.set_cons_succ])) | (refine wl_box rfl rfl rfl rfl hS ?_; intro _ _ hS; (try simp only [Act.put, List.setIfInBounds_toArray, List.set_cons_zero, List.set_cons_succ])) | (refine wl_st rfl rfl rfl rfl rfl hS (of_decide_eq_true rfl) ?_; intro _ hS; (try simp only [evT, evC, List.getD_cons_succ, List.getD_cons_zero, List.set_cons_zero, List.set_cons_succ] at hS); (try simp only [List.set_cons_zero, List.set_cons_succ] at hS); (try simp only [Act.put, List.setIfInBounds_toArray, List.set_cons_zero, List.set_cons_succ])) | (refine wl_strC rfl rfl rfl rfl hS rfl rfl ?_; intro _ hS; (try simp only [evT, evC, List.getD_cons_succ, List.getD_cons_zero, List.set_cons_zero, List.set_cons_succ] at hS); (try simp only [Act.put, List.setIfInBounds_toArray, List.set_cons_zero, List.set_cons_succ])))
      go_ret2
      rw [Hab.out, d2, Bool.true_and]
      exact ⟨rfl, hS.to⟩
    · have d1 : decide ((x.length : Int) < (y.length : Int)) = false := decide_eq_false (by omega)
      have d2 : decide (x.length < y.length) = false := decide_eq_false hlt
      rw [he]
      clear he
      go_enter Tryz.func64, Tryz.ntmps64
      go_wp2_with fail
      refine (h1 _ _ hS).mono ?_
      rintro e w' ⟨A, c, A2, c2, rfl, hO, hO2, hS⟩
      dsimp only
      go_wp2_with (first | (refine wl_isld rfl ?_; ((first | refine wl_value rfl (ex_l0 hS rfl rfl rfl CellAt.out) ?_ | refine wl_value rfl (ex_lf hS rfl rfl rfl CellAt.out) ?_ | refine wl_value rfl (ex_l1 hS rfl rfl rfl CellAt.out) ?_ | refine wl_value rfl (ex_ldC hS rfl rfl CellAt.out) ?_ | refine wl_value rfl (ex_l0 hS rfl rfl rfl rfl) ?_ | refine wl_value rfl (ex_lf hS rfl rfl rfl rfl) ?_ | refine wl_value rfl (ex_l1 hS rfl rfl rfl rfl) ?_ | refine wl_value rfl (ex_ldC hS rfl rfl rfl) ?_ | refine wl_value rfl (ex_l00 hS rfl rfl CellAt.out) ?_ | refine wl_value rfl (ex_l00 hS rfl rfl rfl) ?_ | refine wl_value rfl (ex_l0f hS rfl rfl CellAt.out) ?_ | refine wl_value rfl (ex_l0f hS rfl rfl rfl) ?_ | refine wl_value rfl (ex_lr hS rfl rfl rfl rfl) ?_ | refine wl_value rfl (ex_lr0 hS rfl rfl rfl) ?_ | refine wl_value rfl (ex_lrz hS rfl rfl rfl) ?_ | refine wl_value rfl (ex_lrf hS rfl rfl rfl) ?_ | refine wl_value rfl (ex_ldrC hS rfl rfl) ?_ | refine wl_value rfl (ex_ldr0 hS rfl rfl rfl) ?_); (try simp only [Act.put, List.setIfInBounds_toArray, List.set_cons_zero, List.set_cons_succ]))) | ((first | refine wl_value rfl (ex_ix hS rfl rfl rfl ?_) ?_); (focus (first | rfl | omega | (simp; done))); (try simp only [Act.put, List.setIfInBounds_toArray, List.set_cons_zero, List.set_cons_succ])) | ((first | refine wl_value rfl (ex_eqA rfl rfl rfl) ?_ | refine wl_value rfl (ex_neA rfl rfl rfl) ?_); (try simp only [Act.put, List.setIfInBounds_toArray, List.set_cons_zero, List.set_cons_succ])) | (refine wl_alloc rfl rfl hS ?_; intro _ _ hS; (try simp only [Act.put, List.setIfInBounds_toArray, List.set_cons_zero, List.set_cons_succ])) | (refine wl_box rfl rfl rfl rfl hS ?_; intro _ _ hS; (try simp only [Act.put, List.setIfInBounds_toArray, List.set_cons_zero, List.set_cons_succ])) | (refine wl_st rfl rfl rfl rfl rfl hS (of_decide_eq_true rfl) ?_; intro _ hS; (try simp only [evT, evC, List.getD_cons_succ, List.getD_cons_zero, List.set_cons_zero, List.set_cons_succ] at hS); (try simp only [List.set_cons_zero, List.set_cons_succ] at hS); (try simp only [Act.put, List.setIfInBounds_toArray, List.set_cons_zero, List.set_cons_succ])) | (refine wl_strC rfl rfl rfl rfl hS rfl rfl ?_; intro _ hS; (try simp only [evT, evC, List.getD_cons_succ, List.getD_cons_zero, List.set_cons_zero, List.set_cons_succ] at hS); (try simp only [Act.put, List.setIfInBounds_toArray, List.set_cons_zero, List.set_cons_succ])))
      go_ret2
      rw [Hab.out, d2, Bool.false_and]
      exact ⟨rfl, hS.to⟩
  · have d1 : (errB a b != 0) = true := bne_no he
    have Hab := Lib.hid (errB_ne he).1
    clear he
    go_enter Tryz.func64, Tryz.ntmps64
    go_wp2_with fail
    refine (h1 _ _ hS).mono ?_
    rintro e w' ⟨A, c, A2, c2, rfl, hO, hO2, hS⟩
    dsimp only
    go_wp2_with (first | (refine wl_isld rfl ?_; ((first | refine wl_value rfl (ex_l0 hS rfl rfl rfl CellAt.out) ?_ | refine wl_value rfl (ex_lf hS rfl rfl rfl CellAt.out) ?_ | refine wl_value rfl (ex_l1 hS rfl rfl rfl CellAt.out) ?_ | refine wl_value rfl (ex_ldC hS rfl rfl CellAt.out) ?_ | refine wl_value rfl (ex_l0 hS rfl rfl rfl rfl) ?_ | refine wl_value rfl (ex_lf hS rfl rfl rfl rfl) ?_ | refine wl_value rfl (ex_l1 hS rfl rfl rfl rfl) ?_ | refine wl_value rfl (ex_ldC hS rfl rfl rfl) ?_ | refine wl_value rfl (ex_l00 hS rfl rfl CellAt.out) ?_ | refine wl_value rfl (ex_l00 hS rfl rfl rfl) ?_ | refine wl_value rfl (ex_l0f hS rfl rfl CellAt.out) ?_ | refine wl_value rfl (ex_l0f hS rfl rfl rfl) ?_ | refine wl_value rfl (ex_lr hS rfl rfl rfl rfl) ?_ | refine wl_value rfl (ex_lr0 hS rfl rfl rfl) ?_ | refine wl_value rfl (ex_lrz hS rfl rfl rfl) ?_ | refine wl_value rfl (ex_lrf hS rfl rfl rfl) ?_ | refine wl_value rfl (ex_ldrC hS rfl rfl) ?_ | refine wl_value rfl (ex_ldr0 hS rfl rfl rfl) ?_); (try simp only [Act.put, List.setIfInBounds_toArray, List.set_cons_zero, List.set_cons_succ]))) | ((first | refine wl_value rfl (ex_ix hS rfl rfl rfl ?_) ?_); (focus (first | rfl | omega | (simp; done))); (try simp only [Act.put, List.setIfInBounds_toArray, List.set_cons_zero, List.set_cons_succ])) | ((first | refine wl_value rfl (ex_eqA rfl rfl rfl) ?_ | refine wl_value rfl (ex_neA rfl rfl rfl) ?_); (try simp only [Act.put, List.setIfInBounds_toArray, List.set_cons_zero, List.set_cons_succ])) | (refine wl_alloc rfl rfl hS ?_; intro _ _ hS; (try simp only [Act.put, List.setIfInBounds_toArray, List.set_cons_zero, List.set_cons_succ])) | (refine wl_box rfl rfl rfl rfl hS ?_; intro _ _ hS; (try simp only [Act.put, List.setIfInBounds_toArray, List.set_cons_zero, List.set_cons_succ])) | (refine wl_st rfl rfl rfl rfl rfl hS (of_decide_eq_true rfl) ?_; intro _ hS; (try simp only [evT, evC, List.getD_cons_succ, List.getD_cons_zero, List.set_cons_zero, List.set_cons_succ] at hS); (try simp only [List.set_cons_zero, List.set_cons_succ] at hS); (try simp only [Act.put, List.setIfInBounds_toArray, List.set_cons_zero, List.set_cons_succ])) | (refine wl_strC rfl rfl rfl rfl hS rfl rfl ?_; intro _ hS; (try simp only [evT, evC, List.getD_cons_succ, List.getD_cons_zero, List.set_cons_zero, List.set_cons_succ] at hS); (try simp only [Act.put, List.setIfInBounds_toArray, List.set_cons_zero, List.set_cons_succ])))
    go_ret2
    rw [Hab.out]
    exact ⟨rfl, hS.to⟩
set_option maxRecDepth 100000 in
set_option maxHeartbeats 800000 in
theorem Compare_any [HasML B] (hS : Sh B R w) (a b : ByteArray) (ha : a.size ≤ 16777216) (hb : b.size ≤ 16777216) : Calls Tryz.prog 71 #[.string a, .string b] w fun e w' => e = .returned (.tuple #[.int .i64 (lessI a b), .int .i64 (errB a b)]) ∧ Sh B R w' := by
  have h1 := fun (w : World) (R : HL) (hS : Sh B R w) => both_any hS a b ha hb
  by_cases he : errB a b = 0
  · obtain ⟨x, y, hx, hy⟩ := errB_0 he
    have hnx := (names_some hx).1
    have hny := (names_some hy).1
    have hxl := namesL_len a
    have hyl := namesL_len b
    have hab : lessI a b = cmpL x y := by unfold lessI; rw [hx, hy]
    unfold BothP at h1
    rw [hnx] at hxl
    rw [hny] at hyl
    rw [hnx, hny, he] at h1
    rw [hab, he]
    have hcmp := fun (w : World) (R : HL) (A A2 : Option Addr) (cap cap2 : Nat) (hS : Sh B R w) (r : RdAt strE B R A x) (r2 : RdAt strE B R A2 y) => CmpL_any hS (cap := cap) (cap2 := cap2) (xs := x) (ys := y) (r := r) (r2 := r2) (by omega) (by omega)
    clear hnx hny hab hx hy he
    go_enter Tryz.func71, Tryz.ntmps71
    go_wp2_with fail
    refine (h1 _ _ hS).mono ?_
    rintro e w' ⟨A, c, A2, c2, rfl, hO, hO2, hS⟩
    dsimp only
    go_wp2_with (first | (go_at_call 94; refine ((hcmp _ _ _ _ _ _ hS inferInstance inferInstance)).mono ?_; rintro e w' (⟨rfl, hS⟩)) | (refine wl_isld rfl ?_; ((first | refine wl_value rfl (ex_l0 hS rfl rfl rfl CellAt.out) ?_ | refine wl_value rfl (ex_lf hS rfl rfl rfl CellAt.out) ?_ | refine wl_value rfl (ex_l1 hS rfl rfl rfl CellAt.out) ?_ | refine wl_value rfl (ex_ldC hS rfl rfl CellAt.out) ?_ | refine wl_value rfl (ex_l0 hS rfl rfl rfl rfl) ?_ | refine wl_value rfl (ex_lf hS rfl rfl rfl rfl) ?_ | refine wl_value rfl (ex_l1 hS rfl rfl rfl rfl) ?_ | refine wl_value rfl (ex_ldC hS rfl rfl rfl) ?_ | refine wl_value rfl (ex_l00 hS rfl rfl CellAt.out) ?_ | refine wl_value rfl (ex_l00 hS rfl rfl rfl) ?_ | refine wl_value rfl (ex_l0f hS rfl rfl CellAt.out) ?_ | refine wl_value rfl (ex_l0f hS rfl rfl rfl) ?_ | refine wl_value rfl (ex_lr hS rfl rfl rfl rfl) ?_ | refine wl_value rfl (ex_lr0 hS rfl rfl rfl) ?_ | refine wl_value rfl (ex_lrz hS rfl rfl rfl) ?_ | refine wl_value rfl (ex_lrf hS rfl rfl rfl) ?_ | refine wl_value rfl (ex_ldrC hS rfl rfl) ?_ | refine wl_value rfl (ex_ldr0 hS rfl rfl rfl) ?_); (try simp only [Act.put, List.setIfInBounds_toArray, List.set_cons_zero, List.set_cons_succ]))) | ((first | refine wl_value rfl (ex_ix hS rfl rfl rfl ?_) ?_); (focus (first | rfl | omega | (simp; done))); (try simp only [Act.put, List.setIfInBounds_toArray, List.set_cons_zero, List.set_cons_succ])) | ((first | refine wl_value rfl (ex_eqA rfl rfl rfl) ?_ | refine wl_value rfl (ex_neA rfl rfl rfl) ?_); (try simp only [Act.put, List.setIfInBounds_toArray, List.set_cons_zero, List.set_cons_succ])) | (refine wl_alloc rfl rfl hS ?_; intro _ _ hS; (try simp only [Act.put, List.setIfInBounds_toArray, List.set_cons_zero, List.set_cons_succ])) | (refine wl_box rfl rfl rfl rfl hS ?_; intro _ _ hS; (try simp only [Act.put, List.setIfInBounds_toArray, List.set_cons_zero, List.set_cons_succ])) | (refine wl_st rfl rfl rfl rfl rfl hS (of_decide_eq_true rfl) ?_; intro _ hS; (try simp only [evT, evC, List.getD_cons_succ, List.getD_cons_zero, List.set_cons_zero, List.set_cons_succ] at hS); (try simp only [List.set_cons_zero, List.set_cons_succ] at hS); (try simp only [Act.put, List.setIfInBounds_toArray, List.set_cons_zero, List.set_cons_succ])) | (refine wl_strC rfl rfl rfl rfl hS rfl rfl ?_; intro _ hS; (try simp only [evT, evC, List.getD_cons_succ, List.getD_cons_zero, List.set_cons_zero, List.set_cons_succ] at hS); (try simp only [Act.put, List.setIfInBounds_toArray, List.set_cons_zero, List.set_cons_succ])))
    go_ret2
    exact ⟨rfl, hS.to⟩
  · have d1 : (errB a b != 0) = true := bne_no he
    have Hab := Lib.hid (errB_ne he).2
    clear he
    go_enter Tryz.func71, Tryz.ntmps71
    go_wp2_with fail
    refine (h1 _ _ hS).mono ?_
    rintro e w' ⟨A, c, A2, c2, rfl, hO, hO2, hS⟩
    dsimp only
    go_wp2_with (first | (refine wl_isld rfl ?_; ((first | refine wl_value rfl (ex_l0 hS rfl rfl rfl CellAt.out) ?_ | refine wl_value rfl (ex_lf hS rfl rfl rfl CellAt.out) ?_ | refine wl_value rfl (ex_l1 hS rfl rfl rfl CellAt.out) ?_ | refine wl_value rfl (ex_ldC hS rfl rfl CellAt.out) ?_ | refine wl_value rfl (ex_l0 hS rfl rfl rfl rfl) ?_ | refine wl_value rfl (ex_lf hS rfl rfl rfl rfl) ?_ | refine wl_value rfl (ex_l1 hS rfl rfl rfl rfl) ?_ | refine wl_value rfl (ex_ldC hS rfl rfl rfl) ?_ | refine wl_value rfl (ex_l00 hS rfl rfl CellAt.out) ?_ | refine wl_value rfl (ex_l00 hS rfl rfl rfl) ?_ | refine wl_value rfl (ex_l0f hS rfl rfl CellAt.out) ?_ | refine wl_value rfl (ex_l0f hS rfl rfl rfl) ?_ | refine wl_value rfl (ex_lr hS rfl rfl rfl rfl) ?_ | refine wl_value rfl (ex_lr0 hS rfl rfl rfl) ?_ | refine wl_value rfl (ex_lrz hS rfl rfl rfl) ?_ | refine wl_value rfl (ex_lrf hS rfl rfl rfl) ?_ | refine wl_value rfl (ex_ldrC hS rfl rfl) ?_ | refine wl_value rfl (ex_ldr0 hS rfl rfl rfl) ?_); (try simp only [Act.put, List.setIfInBounds_toArray, List.set_cons_zero, List.set_cons_succ]))) | ((first | refine wl_value rfl (ex_ix hS rfl rfl rfl ?_) ?_); (focus (first | rfl | omega | (simp; done))); (try simp only [Act.put, List.setIfInBounds_toArray, List.set_cons_zero, List.set_cons_succ])) | ((first | refine wl_value rfl (ex_eqA rfl rfl rfl) ?_ | refine wl_value rfl (ex_neA rfl rfl rfl) ?_); (try simp only [Act.put, List.setIfInBounds_toArray, List.set_cons_zero, List.set_cons_succ])) | (refine wl_alloc rfl rfl hS ?_; intro _ _ hS; (try simp only [Act.put, List.setIfInBounds_toArray, List.set_cons_zero, List.set_cons_succ])) | (refine wl_box rfl rfl rfl rfl hS ?_; intro _ _ hS; (try simp only [Act.put, List.setIfInBounds_toArray, List.set_cons_zero, List.set_cons_succ])) | (refine wl_st rfl rfl rfl rfl rfl hS (of_decide_eq_true rfl) ?_; intro _ hS; (try simp only [evT, evC, List.getD_cons_succ, List.getD_cons_zero, List.set_cons_zero, List.set_cons_succ] at hS); (try simp only [List.set_cons_zero, List.set_cons_succ] at hS); (try simp only [Act.put, List.setIfInBounds_toArray, List.set_cons_zero, List.set_cons_succ])) | (refine wl_strC rfl rfl rfl rfl hS rfl rfl ?_; intro _ hS; (try simp only [evT, evC, List.getD_cons_succ, List.getD_cons_zero, List.set_cons_zero, List.set_cons_succ] at hS); (try simp only [Act.put, List.setIfInBounds_toArray, List.set_cons_zero, List.set_cons_succ])))
    go_ret2
    rw [Hab.out]
    exact ⟨rfl, hS.to⟩
def SplitV (x : ByteArray × ByteArray × Int) : Value := .tuple #[.string x.1, .string x.2.1, .int .i64 x.2.2]
set_option maxRecDepth 100000 in
set_option maxHeartbeats 800000 in
theorem SplitP_any [HasML B] [NoDraw B] (hS : Sh B R w) (a : ByteArray) (ha : a.size ≤ 16777216) : Calls Tryz.prog 51 #[.string a] w fun e w' => e = .returned (SplitV (splitP a)) ∧ Sh B R w' := by
  have h1 := fun (w : World) (R : HL) (hS : Sh B R w) => Names_any hS a ha
  cases hn : namesB a with
  | none =>
    have Hs := Lib.hid (show splitP a = (⟨#[]⟩, ⟨#[]⟩, 45) by unfold splitP; rw [hn])
    unfold NamesP at h1
    rw [(names_none hn).1, (names_none hn).2] at h1
    clear hn
    go_enter Tryz.func51, Tryz.ntmps51
    go_wp2_with fail
    refine (h1 _ _ hS).mono ?_
    rintro e w' ⟨A, c, rfl, hO, hS⟩
    dsimp only
    go_wp2_with (first | (refine wl_isld rfl ?_; ((first | refine wl_value rfl (ex_l0 hS rfl rfl rfl CellAt.out) ?_ | refine wl_value rfl (ex_lf hS rfl rfl rfl CellAt.out) ?_ | refine wl_value rfl (ex_l1 hS rfl rfl rfl CellAt.out) ?_ | refine wl_value rfl (ex_ldC hS rfl rfl CellAt.out) ?_ | refine wl_value rfl (ex_l0 hS rfl rfl rfl rfl) ?_ | refine wl_value rfl (ex_lf hS rfl rfl rfl rfl) ?_ | refine wl_value rfl (ex_l1 hS rfl rfl rfl rfl) ?_ | refine wl_value rfl (ex_ldC hS rfl rfl rfl) ?_ | refine wl_value rfl (ex_l00 hS rfl rfl CellAt.out) ?_ | refine wl_value rfl (ex_l00 hS rfl rfl rfl) ?_ | refine wl_value rfl (ex_l0f hS rfl rfl CellAt.out) ?_ | refine wl_value rfl (ex_l0f hS rfl rfl rfl) ?_ | refine wl_value rfl (ex_lr hS rfl rfl rfl rfl) ?_ | refine wl_value rfl (ex_lr0 hS rfl rfl rfl) ?_ | refine wl_value rfl (ex_lrz hS rfl rfl rfl) ?_ | refine wl_value rfl (ex_lrf hS rfl rfl rfl) ?_ | refine wl_value rfl (ex_ldrC hS rfl rfl) ?_ | refine wl_value rfl (ex_ldr0 hS rfl rfl rfl) ?_); (try simp only [Act.put, List.setIfInBounds_toArray, List.set_cons_zero, List.set_cons_succ]))) | ((first | refine wl_value rfl (ex_ix hS rfl rfl rfl ?_) ?_); (focus (first | rfl | omega | (simp; done))); (try simp only [Act.put, List.setIfInBounds_toArray, List.set_cons_zero, List.set_cons_succ])) | ((first | refine wl_value rfl (ex_eqA rfl rfl rfl) ?_ | refine wl_value rfl (ex_neA rfl rfl rfl) ?_); (try simp only [Act.put, List.setIfInBounds_toArray, List.set_cons_zero, List.set_cons_succ])) | (refine wl_alloc rfl rfl hS ?_; intro _ _ hS; (try simp only [Act.put, List.setIfInBounds_toArray, List.set_cons_zero, List.set_cons_succ])) | (refine wl_box rfl rfl rfl rfl hS ?_; intro _ _ hS; (try simp only [Act.put, List.setIfInBounds_toArray, List.set_cons_zero, List.set_cons_succ])) | (refine wl_st rfl rfl rfl rfl rfl hS (of_decide_eq_true rfl) ?_; intro _ hS; (try simp only [evT, evC, List.getD_cons_succ, List.getD_cons_zero, List.set_cons_zero, List.set_cons_succ] at hS); (try simp only [List.set_cons_zero, List.set_cons_succ] at hS); (try simp only [Act.put, List.setIfInBounds_toArray, List.set_cons_zero, List.set_cons_succ])) | (refine wl_strC rfl rfl rfl rfl hS rfl rfl ?_; intro _ hS; (try simp only [evT, evC, List.getD_cons_succ, List.getD_cons_zero, List.set_cons_zero, List.set_cons_succ] at hS); (try simp only [Act.put, List.setIfInBounds_toArray, List.set_cons_zero, List.set_cons_succ])))
    refine bodyPost_res (rs := ([.tmp 2, .tmp 3, .tmp 4])) rfl ((.tmp (.tmp (.tmp .nil)))) rfl ?_
    rw [Hs.out]
    exact ⟨rfl, hS.to⟩
  | some l =>
    unfold NamesP at h1
    rw [(names_some hn).1, (names_some hn).2] at h1
    have hll := namesL_len a
    rw [(names_some hn).1] at hll
    by_cases hl0 : l = []
    · subst hl0
      have Hs := Lib.hid (show splitP a = (⟨#[]⟩, ⟨#[]⟩, 46) by unfold splitP; rw [hn]; rfl)
      clear hn
      go_enter Tryz.func51, Tryz.ntmps51
      go_wp2_with fail
      refine (h1 _ _ hS).mono ?_
      rintro e w' ⟨A, c, rfl, hO, hS⟩
      dsimp only
      go_wp2_with (first | (refine wl_isld rfl ?_; ((first | refine wl_value rfl (ex_l0 hS rfl rfl rfl CellAt.out) ?_ | refine wl_value rfl (ex_lf hS rfl rfl rfl CellAt.out) ?_ | refine wl_value rfl (ex_l1 hS rfl rfl rfl CellAt.out) ?_ | refine wl_value rfl (ex_ldC hS rfl rfl CellAt.out) ?_ | refine wl_value rfl (ex_l0 hS rfl rfl rfl rfl) ?_ | refine wl_value rfl (ex_lf hS rfl rfl rfl rfl) ?_ | refine wl_value rfl (ex_l1 hS rfl rfl rfl rfl) ?_ | refine wl_value rfl (ex_ldC hS rfl rfl rfl) ?_ | refine wl_value rfl (ex_l00 hS rfl rfl CellAt.out) ?_ | refine wl_value rfl (ex_l00 hS rfl rfl rfl) ?_ | refine wl_value rfl (ex_l0f hS rfl rfl CellAt.out) ?_ | refine wl_value rfl (ex_l0f hS rfl rfl rfl) ?_ | refine wl_value rfl (ex_lr hS rfl rfl rfl rfl) ?_ | refine wl_value rfl (ex_lr0 hS rfl rfl rfl) ?_ | refine wl_value rfl (ex_lrz hS rfl rfl rfl) ?_ | refine wl_value rfl (ex_lrf hS rfl rfl rfl) ?_ | refine wl_value rfl (ex_ldrC hS rfl rfl) ?_ | refine wl_value rfl (ex_ldr0 hS rfl rfl rfl) ?_); (try simp only [Act.put, List.setIfInBounds_toArray, List.set_cons_zero, List.set_cons_succ]))) | ((first | refine wl_value rfl (ex_ix hS rfl rfl rfl ?_) ?_); (focus (first | rfl | omega | (simp; done))); (try simp only [Act.put, List.setIfInBounds_toArray, List.set_cons_zero, List.set_cons_succ])) | ((first | refine wl_value rfl (ex_eqA rfl rfl rfl) ?_ | refine wl_value rfl (ex_neA rfl rfl rfl) ?_); (try simp only [Act.put, List.setIfInBounds_toArray, List.set_cons_zero, List.set_cons_succ])) | (refine wl_alloc rfl rfl hS ?_; intro _ _ hS; (try simp only [Act.put, List.setIfInBounds_toArray, List.set_cons_zero, List.set_cons_succ])) | (refine wl_box rfl rfl rfl rfl hS ?_; intro _ _ hS; (try simp only [Act.put, List.setIfInBounds_toArray, List.set_cons_zero, List.set_cons_succ])) | (refine wl_st rfl rfl rfl rfl rfl hS (of_decide_eq_true rfl) ?_; intro _ hS; (try simp only [evT, evC, List.getD_cons_succ, List.getD_cons_zero, List.set_cons_zero, List.set_cons_succ] at hS); (try simp only [List.set_cons_zero, List.set_cons_succ] at hS); (try simp only [Act.put, List.setIfInBounds_toArray, List.set_cons_zero, List.set_cons_succ])) | (refine wl_strC rfl rfl rfl rfl hS rfl rfl ?_; intro _ hS; (try simp only [evT, evC, List.getD_cons_succ, List.getD_cons_zero, List.set_cons_zero, List.set_cons_succ] at hS); (try simp only [Act.put, List.setIfInBounds_toArray, List.set_cons_zero, List.set_cons_succ])))
      refine bodyPost_res (rs := ([.tmp 2, .tmp 3, .tmp 4])) rfl ((.tmp (.tmp (.tmp .nil)))) rfl ?_
      rw [Hs.out]
      exact ⟨rfl, hS.to⟩
    · obtain ⟨n, hnl⟩ : ∃ n, l.length = n + 1 := ⟨l.length - 1, by have := List.length_pos_iff.2 hl0; omega⟩
      have gx : Nth l n (l.getLast hl0) := ⟨by rw [List.getLast_eq_getElem]; simp only [hnl, Nat.add_sub_cancel]; exact List.getElem?_eq_getElem (by omega)⟩
      obtain ⟨x, hx⟩ : ∃ x, l.getLast hl0 = x := ⟨_, rfl⟩
      rw [hx] at gx
      have Hs := Lib.hid (show splitP a = (joinB (l.take n), x, 0) by unfold splitP; rw [hn]; dsimp only; rw [dif_neg hl0, hx, List.dropLast_eq_take, hnl]; rfl)
      have hjs : (joinB (l.take n)).size ≤ 16777216 := Nat.le_trans (joinB_take_le l n) (by rw [(namesL_join hn).1]; exact ha)
      have hj := fun (w : World) (R : HL) (A : Option Addr) (cap : Nat) (hS : Sh B R w) (r : RdAt strE B R A (l.take n)) (hc : n ≤ cap) => Join_any hS (cap := cap) (xs := l.take n) (r := r) (by rw [List.length_take]; omega) (by rw [List.length_take]; omega) hjs
      rw [show (l.take n).length = n by rw [List.length_take]; omega] at hj
      have hw : IntKind.i64.wrap ((l.length : Int) - 1) = (n : Int) := by rw [wrap_i64 (by omega)]; omega
      have hw2 : (l.length : Int) - 1 = (n : Int) := by omega
      clear hn hl0 hx
      go_enter Tryz.func51, Tryz.ntmps51
      go_wp2_with fail
      refine (h1 _ _ hS).mono ?_
      rintro e w' ⟨A, c, rfl, hO, hS⟩
      dsimp only
      have hle : n ≤ c := by have := hO.len_le; omega
      have hrt := Lib.hid (show RdAt strE B (rowA A (flat strE l ++ []) 9 ++ R) A (l.take n) from RdAt.take inferInstance _)
      go_wp2
      (refine wp_drawnF hS [(0, true), (1, true), (2, true), (4, true), (5, true), (6, true), (7, true), (3, false), (8, true), (9, true), (10, true)] (by kernel_rfl) (by kernel_rfl) (by intro d _ _ _ _ h; cases d <;> exact h) ?_; have hS := hS.drew; simp only [picks_cons, picks_nil, opAt, List.toList_toArray]; (refine wpF_U (v := ?_) rfl ?_ (Sh.to hS) ?_; rotate_left; (focus (intro _ _; go_simp; (try (rw [wrap_i64]; (rotate_left; omega))); (try with_reducible rfl))); (try simp only [Act.put, List.setIfInBounds_toArray, List.set_cons_zero, List.set_cons_succ])); (refine wpF_U (v := ?_) rfl ?_ (Sh.to hS) ?_; rotate_left; (focus (intro _ _; go_simp; (try (rw [wrap_i64]; (rotate_left; omega))); (try with_reducible rfl))); (try simp only [Act.put, List.setIfInBounds_toArray, List.set_cons_zero, List.set_cons_succ])); (first | (refine wpF_U rfl (fun _ hT => (ex_cutH rfl rfl rfl hle)) (Sh.to hS) ?_; (try simp only [Act.put, List.setIfInBounds_toArray, List.set_cons_zero, List.set_cons_succ])) | (refine wpF_U (v := ?_) rfl ?_ (Sh.to hS) ?_; rotate_left; (focus (intro _ _; go_simp; (try (rw [wrap_i64]; (rotate_left; omega))); (try with_reducible rfl))); (try simp only [Act.put, List.setIfInBounds_toArray, List.set_cons_zero, List.set_cons_succ]))); (refine wpF_U (v := ?_) rfl ?_ (Sh.to hS) ?_; rotate_left; (focus (intro _ _; go_simp; (try (rw [wrap_i64]; (rotate_left; omega))); (try with_reducible rfl))); (try simp only [Act.put, List.setIfInBounds_toArray, List.set_cons_zero, List.set_cons_succ])); (refine wpF_U (v := ?_) rfl ?_ (Sh.to hS) ?_; rotate_left; (focus (intro _ _; go_simp; (try (rw [wrap_i64]; (rotate_left; omega))); (try with_reducible rfl))); (try simp only [Act.put, List.setIfInBounds_toArray, List.set_cons_zero, List.set_cons_succ])); ((first | refine wpF_U rfl (fun _ hT => ex_ix hT rfl rfl rfl ?_) (Sh.to hS) ?_); (focus (first | rfl | omega | (simp; done))); (try simp only [Act.put, List.setIfInBounds_toArray, List.set_cons_zero, List.set_cons_succ])); ((first | refine wpF_U rfl (fun _ hT => ex_l0 hT rfl rfl rfl CellAt.out) (Sh.to hS) ?_ | refine wpF_U rfl (fun _ hT => ex_lf hT rfl rfl rfl CellAt.out) (Sh.to hS) ?_ | refine wpF_U rfl (fun _ hT => ex_l1 hT rfl rfl rfl CellAt.out) (Sh.to hS) ?_ | refine wpF_U rfl (fun _ hT => ex_ldC hT rfl rfl CellAt.out) (Sh.to hS) ?_ | refine wpF_U rfl (fun _ hT => ex_l0 hT rfl rfl rfl rfl) (Sh.to hS) ?_ | refine wpF_U rfl (fun _ hT => ex_lf hT rfl rfl rfl rfl) (Sh.to hS) ?_ | refine wpF_U rfl (fun _ hT => ex_l1 hT rfl rfl rfl rfl) (Sh.to hS) ?_ | refine wpF_U rfl (fun _ hT => ex_ldC hT rfl rfl rfl) (Sh.to hS) ?_ | refine wpF_U rfl (fun _ hT => ex_l00 hT rfl rfl CellAt.out) (Sh.to hS) ?_ | refine wpF_U rfl (fun _ hT => ex_l00 hT rfl rfl rfl) (Sh.to hS) ?_ | refine wpF_U rfl (fun _ hT => ex_l0f hT rfl rfl CellAt.out) (Sh.to hS) ?_ | refine wpF_U rfl (fun _ hT => ex_l0f hT rfl rfl rfl) (Sh.to hS) ?_ | refine wpF_U rfl (fun _ hT => ex_lr hT rfl rfl rfl rfl) (Sh.to hS) ?_ | refine wpF_U rfl (fun _ hT => ex_lr0 hT rfl rfl rfl) (Sh.to hS) ?_ | refine wpF_U rfl (fun _ hT => ex_lrz hT rfl rfl rfl) (Sh.to hS) ?_ | refine wpF_U rfl (fun _ hT => ex_lrf hT rfl rfl rfl) (Sh.to hS) ?_ | refine wpF_U rfl (fun _ hT => ex_ldrC hT rfl rfl) (Sh.to hS) ?_ | refine wpF_U rfl (fun _ hT => ex_ldr0 hT rfl rfl rfl) (Sh.to hS) ?_); (try simp only [Act.put, List.setIfInBounds_toArray, List.set_cons_zero, List.set_cons_succ])); (refine wpF_ex ?_); go_wp2_with (first | (go_at_call 66; refine ((hj _ _ _ _ hS hrt.out hle)).mono ?_; rintro e w' (⟨rfl, hS⟩)) | (refine wl_isld rfl ?_; ((first | refine wl_value rfl (ex_l0 hS rfl rfl rfl CellAt.out) ?_ | refine wl_value rfl (ex_lf hS rfl rfl rfl CellAt.out) ?_ | refine wl_value rfl (ex_l1 hS rfl rfl rfl CellAt.out) ?_ | refine wl_value rfl (ex_ldC hS rfl rfl CellAt.out) ?_ | refine wl_value rfl (ex_l0 hS rfl rfl rfl rfl) ?_ | refine wl_value rfl (ex_lf hS rfl rfl rfl rfl) ?_ | refine wl_value rfl (ex_l1 hS rfl rfl rfl rfl) ?_ | refine wl_value rfl (ex_ldC hS rfl rfl rfl) ?_ | refine wl_value rfl (ex_l00 hS rfl rfl CellAt.out) ?_ | refine wl_value rfl (ex_l00 hS rfl rfl rfl) ?_ | refine wl_value rfl (ex_l0f hS rfl rfl CellAt.out) ?_ | refine wl_value rfl (ex_l0f hS rfl rfl rfl) ?_ | refine wl_value rfl (ex_lr hS rfl rfl rfl rfl) ?_ | refine wl_value rfl (ex_lr0 hS rfl rfl rfl) ?_ | refine wl_value rfl (ex_lrz hS rfl rfl rfl) ?_ | refine wl_value rfl (ex_lrf hS rfl rfl rfl) ?_ | refine wl_value rfl (ex_ldrC hS rfl rfl) ?_ | refine wl_value rfl (ex_ldr0 hS rfl rfl rfl) ?_); (try simp only [Act.put, List.setIfInBounds_toArray, List.set_cons_zero, List.set_cons_succ]))) | ((first | refine wl_value rfl (ex_ix hS rfl rfl rfl ?_) ?_); (focus (first | rfl | omega | (simp; done))); (try simp only [Act.put, List.setIfInBounds_toArray, List.set_cons_zero, List.set_cons_succ])) | ((first | refine wl_value rfl (ex_eqA rfl rfl rfl) ?_ | refine wl_value rfl (ex_neA rfl rfl rfl) ?_); (try simp only [Act.put, List.setIfInBounds_toArray, List.set_cons_zero, List.set_cons_succ])) | (refine wl_alloc rfl rfl hS ?_; intro _ _ hS; (try simp only [Act.put, List.setIfInBounds_toArray, List.set_cons_zero, List.set_cons_succ])) | (refine wl_box rfl rfl rfl rfl hS ?_; intro _ _ hS; (try simp only [Act.put, List.setIfInBounds_toArray, List.set_cons_zero, List.set_cons_succ])) | (refine wl_st rfl rfl rfl rfl rfl hS (of_decide_eq_true rfl) ?_; intro _ hS; (try simp only [evT, evC, List.getD_cons_succ, List.getD_cons_zero, List.set_cons_zero, List.set_cons_succ] at hS); (try simp only [List.set_cons_zero, List.set_cons_succ] at hS); (try simp only [Act.put, List.setIfInBounds_toArray, List.set_cons_zero, List.set_cons_succ])) | (refine wl_strC rfl rfl rfl rfl hS rfl rfl ?_; intro _ hS; (try simp only [evT, evC, List.getD_cons_succ, List.getD_cons_zero, List.set_cons_zero, List.set_cons_succ] at hS); (try simp only [Act.put, List.setIfInBounds_toArray, List.set_cons_zero, List.set_cons_succ]))); (refine ⟨?_, ?_⟩; (focus (first | exact Sh.to hS | (refine Or.inr ?_; exact Sh.to hS)))); (refine wpF_U (v := ?_) rfl ?_ (Sh.to hS) ?_; rotate_left; (focus (intro _ _; go_simp; (try (rw [wrap_i64]; (rotate_left; omega))); (try with_reducible rfl))); (try simp only [Act.put, List.setIfInBounds_toArray, List.set_cons_zero, List.set_cons_succ])); (refine wpF_U (v := ?_) rfl ?_ (Sh.to hS) ?_; rotate_left; (focus (intro _ _; go_simp; (try (rw [wrap_i64]; (rotate_left; omega))); (try with_reducible rfl))); (try simp only [Act.put, List.setIfInBounds_toArray, List.set_cons_zero, List.set_cons_succ])); (refine wpF_U (v := ?_) rfl ?_ (Sh.to hS) ?_; rotate_left; (focus (intro _ _; go_simp; (try (rw [wrap_i64]; (rotate_left; omega))); (try with_reducible rfl))); (try simp only [Act.put, List.setIfInBounds_toArray, List.set_cons_zero, List.set_cons_succ])); (first | (refine wpF_done (by assumption) ?_) | (refine wpF_doneB (by assumption) ?_) | (refine wpF_nil ?_; (try simp only [Exit.inBlock, Exit.then]))))
      go_wp2_with (first | (refine wl_isld rfl ?_; ((first | refine wl_value rfl (ex_l0 hS rfl rfl rfl CellAt.out) ?_ | refine wl_value rfl (ex_lf hS rfl rfl rfl CellAt.out) ?_ | refine wl_value rfl (ex_l1 hS rfl rfl rfl CellAt.out) ?_ | refine wl_value rfl (ex_ldC hS rfl rfl CellAt.out) ?_ | refine wl_value rfl (ex_l0 hS rfl rfl rfl rfl) ?_ | refine wl_value rfl (ex_lf hS rfl rfl rfl rfl) ?_ | refine wl_value rfl (ex_l1 hS rfl rfl rfl rfl) ?_ | refine wl_value rfl (ex_ldC hS rfl rfl rfl) ?_ | refine wl_value rfl (ex_l00 hS rfl rfl CellAt.out) ?_ | refine wl_value rfl (ex_l00 hS rfl rfl rfl) ?_ | refine wl_value rfl (ex_l0f hS rfl rfl CellAt.out) ?_ | refine wl_value rfl (ex_l0f hS rfl rfl rfl) ?_ | refine wl_value rfl (ex_lr hS rfl rfl rfl rfl) ?_ | refine wl_value rfl (ex_lr0 hS rfl rfl rfl) ?_ | refine wl_value rfl (ex_lrz hS rfl rfl rfl) ?_ | refine wl_value rfl (ex_lrf hS rfl rfl rfl) ?_ | refine wl_value rfl (ex_ldrC hS rfl rfl) ?_ | refine wl_value rfl (ex_ldr0 hS rfl rfl rfl) ?_); (try simp only [Act.put, List.setIfInBounds_toArray, List.set_cons_zero, List.set_cons_succ]))) | ((first | refine wl_value rfl (ex_ix hS rfl rfl rfl ?_) ?_); (focus (first | rfl | omega | (simp; done))); (try simp only [Act.put, List.setIfInBounds_toArray, List.set_cons_zero, List.set_cons_succ])) | ((first | refine wl_value rfl (ex_eqA rfl rfl rfl) ?_ | refine wl_value rfl (ex_neA rfl rfl rfl) ?_); (try simp only [Act.put, List.setIfInBounds_toArray, List.set_cons_zero, List.set_cons_succ])) | (refine wl_alloc rfl rfl hS ?_; intro _ _ hS; (try simp only [Act.put, List.setIfInBounds_toArray, List.set_cons_zero, List.set_cons_succ])) | (refine wl_box rfl rfl rfl rfl hS ?_; intro _ _ hS; (try simp only [Act.put, List.setIfInBounds_toArray, List.set_cons_zero, List.set_cons_succ])) | (refine wl_st rfl rfl rfl rfl rfl hS (of_decide_eq_true rfl) ?_; intro _ hS; (try simp only [evT, evC, List.getD_cons_succ, List.getD_cons_zero, List.set_cons_zero, List.set_cons_succ] at hS); (try simp only [List.set_cons_zero, List.set_cons_succ] at hS); (try simp only [Act.put, List.setIfInBounds_toArray, List.set_cons_zero, List.set_cons_succ])) | (refine wl_strC rfl rfl rfl rfl hS rfl rfl ?_; intro _ hS; (try simp only [evT, evC, List.getD_cons_succ, List.getD_cons_zero, List.set_cons_zero, List.set_cons_succ] at hS); (try simp only [Act.put, List.setIfInBounds_toArray, List.set_cons_zero, List.set_cons_succ])))
      refine bodyPost_res (rs := ([.tmp 2, .tmp 3, .tmp 4])) rfl ((.tmp (.tmp (.tmp .nil)))) rfl ?_
      rw [Hs.out]
      exact ⟨rfl, hS.to⟩
end
end Go.Tk

set_option linter.unusedSectionVars false
set_option linter.unusedSimpArgs false
set_option linter.unusedVariables false
namespace Go.Tk
open Go.RowKit Go.Proofs

section
variable {B : Base} {R H H1 : HL} {w w' : World}
set_option maxRecDepth 100000 in
set_option maxHeartbeats 1600000 in
theorem NameR_bad (hS : Sh B R w) (s : ByteArray) (hs : s.size ≤ 16777216) (hb : nameB s = false) (hc : s.size < 1 ∨ 64 < s.size ∨ s.toList = [46] ∨ s.toList = [46, 46]) :
    Calls Tryz.prog 74 #[.string s] w fun e w' => e = .returned (.bool (nameB s)) ∧ Sh B R w' := by
  rw [hb]
  clear hb
  by_cases h1 : s.size < 1
  · have d1 : decide ((s.size : Int) < 1) = true := decide_eq_true (by omega)
    clear h1 hc
    go_enter Tryz.func74, Tryz.ntmps74
    go_wp2
    go_ret
    exact ⟨rfl, hS⟩
  have d1 : decide ((s.size : Int) < 1) = false := decide_eq_false (by omega)
  by_cases h2 : 64 < s.size
  · have d2 : decide (64 < (s.size : Int)) = true := decide_eq_true (by omega)
    clear h1 h2 hc
    go_enter Tryz.func74, Tryz.ntmps74
    go_wp2
    go_ret
    exact ⟨rfl, hS⟩
  have d2 : decide (64 < (s.size : Int)) = false := decide_eq_false (by omega)
  by_cases h3 : s.toList = [46]
  · have d3 : (s.toList == [46]) = true := by simp [h3]
    clear h1 h2 h3 hc
    go_enter Tryz.func74, Tryz.ntmps74
    go_wp2
    go_ret
    exact ⟨rfl, hS⟩
  have d3 : (s.toList == [46]) = false := beq_no h3
  have h4 : s.toList = [46, 46] := by
    rcases hc with h | h | h | h
    · exact absurd h h1
    · exact absurd h h2
    · exact absurd h h3
    · exact h
  have d4 : (s.toList == [46, 46]) = true := by simp [h4]
  clear h1 h2 h3 h4 hc
  go_enter Tryz.func74, Tryz.ntmps74
  go_wp2
  go_ret
  exact ⟨rfl, hS⟩
set_option maxRecDepth 100000 in
set_option maxHeartbeats 3200000 in
theorem NameR_ok (hS : Sh B R w) (s : ByteArray) (hs : s.size ≤ 16777216) (h1 : 1 ≤ s.size) (h2 : s.size ≤ 64) (h3 : ¬ s.toList = [46]) (h4 : ¬ s.toList = [46, 46]) (hn : s.data.toList.all okC = nameB s) :
    Calls Tryz.prog 74 #[.string s] w fun e w' => e = .returned (.bool (nameB s)) ∧ Sh B R w' := by
  have d1 : decide ((s.size : Int) < 1) = false := decide_eq_false (by omega)
  have d2 : decide (64 < (s.size : Int)) = false := decide_eq_false (by omega)
  have d3 : (s.toList == [46]) = false := beq_no h3
  have d4 : (s.toList == [46, 46]) = false := beq_no h4
  have Hn := Lib.hid hn
  obtain ⟨nb, hnb⟩ : ∃ nb, nameB s = nb := ⟨_, rfl⟩
  rw [hnb]
  have Hnb := Lib.hid hnb
  clear h1 h2 h3 h4 hn hnb
  go_enter Tryz.func74, Tryz.ntmps74
  go_wp2
  refine wp_loopS [3] [2, 4, 21, 22, 23, 24, 25, 26, 27, 28, 29, 30, 31, 32, 33, 34, 35, 36, 37, 38, 39, 40, 41, 42, 43, 44, 45, 46, 47, 48, 49, 50, 51, 52, 53, 54, 55, 56, 57, 58, 59, 60, 61, 62, 63, 64] (fun i : Nat => [.int .i64 i]) (NameI s R B) (fun i => s.size - i) ((0 : Nat)) rfl (⟨Nat.zero_le _, fun _ _ h => absurd h (Nat.not_lt_zero _), hS⟩) ?_
  clear hS
  rintro i J w ⟨hi, hok, hS⟩
  have Hok := Lib.hid hok
  clear hok
  (simp only [Frm, setsT, junkT, List.setIfInBounds_toArray, List.set_cons_zero, List.set_cons_succ])
  by_cases hlt : i < s.size
  · have Hc := Lib.hid (okC_int s[i])
    go_wp2
    all_goals first
      | (have hcf : okC s[i] = false := by
           rw [Hc.out]
           apply decide_eq_false
           clear hS Hok Hn Hc Hnb
           simp only [Bool.and_eq_true, Bool.or_eq_true, decide_eq_true_eq, bne_iff_ne, ne_eq, Bool.not_eq_true', Bool.not_eq_false', Bool.or_eq_false_iff, Bool.and_eq_false_iff, decide_eq_false_iff_not, beq_iff_eq, beq_eq_false_iff_ne, bne_eq_false_iff_eq] at *
           omega
         go_ret
         refine ⟨?_, hS⟩
         rw [← Hnb.out, nameB_no hlt hcf]
         rfl)
      | (have hct : okC s[i] = true := by
           rw [Hc.out]
           apply decide_eq_true
           clear hS Hok Hn Hc Hnb
           simp only [Bool.and_eq_true, Bool.or_eq_true, decide_eq_true_eq, bne_iff_ne, ne_eq, Bool.not_eq_true', Bool.not_eq_false', Bool.or_eq_false_iff, Bool.and_eq_false_iff, decide_eq_false_iff_not, beq_iff_eq, beq_eq_false_iff_ne, bne_eq_false_iff_eq] at *
           omega
         exact ⟨i + 1, ⟨hlt, fun j hj hji => by rcases Nat.lt_succ_iff_lt_or_eq.1 hji with h | h; exact Hok.out j hj h; subst h; exact hct, hS⟩, (by (try dsimp only); omega), rfl, (by (simp only [blankT, junkT, List.cons_append, List.nil_append, List.setIfInBounds_toArray, List.set_cons_zero, List.set_cons_succ])), rfl⟩)
  · have Hall := Lib.hid (show nb = true by
      rw [← Hnb.out, ← Hn.out, List.all_eq_true]
      intro c hc
      obtain ⟨j, hj, rfl⟩ := List.getElem_of_mem hc
      have hj' : j < s.size := by rw [ba_size]; exact hj
      exact Hok.out j hj' (by omega))
    go_wp2
    go_ret
    exact ⟨by rw [Hall.out]; rfl, hS⟩
theorem NameR_any (hS : Sh B R w) (s : ByteArray) (hs : s.size ≤ 16777216) : Calls Tryz.prog 74 #[.string s] w fun e w' => e = .returned (.bool (nameB s)) ∧ Sh B R w' := by
  by_cases hc : s.size < 1 ∨ 64 < s.size ∨ s.toList = [46] ∨ s.toList = [46, 46]
  · refine NameR_bad hS s hs ?_ hc
    unfold nameB
    rw [str_eq s [46], str_eq s [46, 46]]
    rcases hc with h | h | h | h
    · simp [h]; omega
    · simp; omega
    · simp [h]
    · simp [h]
  · have h1 : 1 ≤ s.size := by omega
    have h2 : s.size ≤ 64 := by omega
    have h3 : ¬ s.toList = [46] := fun h => hc (.inr (.inr (.inl h)))
    have h4 : ¬ s.toList = [46, 46] := fun h => hc (.inr (.inr (.inr h)))
    refine NameR_ok hS s hs h1 h2 h3 h4 ?_
    unfold nameB
    rw [str_eq s [46], str_eq s [46, 46]]
    simp [h1, h2, h3, h4]
theorem pc_hit {l : List UInt8} {f i : Nat} (hf : f ≤ i) (hi : l[i]? = some 47) (hno : (47 : UInt8) ∉ (l.drop f).take (i - f)) : splitL (l.drop f) = (l.drop f).take (i - f) :: splitL (l.drop (i + 1)) := by
  have h1 : l.drop f = (l.drop f).take (i - f) ++ 47 :: l.drop (i + 1) := by
    have h2 : (l.drop f).drop (i - f) = 47 :: l.drop (i + 1) := by
      rw [List.drop_drop, show f + (i - f) = i by omega]
      have hlt := (List.getElem?_eq_some_iff.1 hi).1
      have := (List.getElem?_eq_some_iff.1 hi).2
      rw [← this, List.getElem_cons_drop]
    rw [← h2, List.take_append_drop]
  conv => lhs; rw [h1]
  rw [splitL_hit hno]
theorem pc_end {l : List UInt8} {f : Nat} (hno : (47 : UInt8) ∉ (l.drop f).take (l.length - f)) : splitL (l.drop f) = [(l.drop f).take (l.length - f)] := by
  rw [List.take_of_length_le (by simp)] at hno ⊢
  exact splitL_miss hno
theorem pc_next {l : List UInt8} {f i : Nat} (hf : f ≤ i) {c : UInt8} (hi : l[i]? = some c) (hc : c ≠ 47) (hno : (47 : UInt8) ∉ (l.drop f).take (i - f)) : (47 : UInt8) ∉ (l.drop f).take (i + 1 - f) := by
  rw [show i + 1 - f = (i - f) + 1 by omega, List.take_add_one, List.getElem?_drop, show f + (i - f) = i by omega, hi]
  simp only [Option.toList_some, List.mem_append, List.mem_singleton, not_or]
  exact ⟨hno, fun h => hc h.symm⟩
theorem ba_get (s : ByteArray) {i : Nat} (h : i < s.size) : s.data.toList[i]? = some s[i] := by
  rw [Array.getElem?_toList]
  exact Array.getElem?_eq_getElem h
theorem ext_mk (s : ByteArray) (f i : Nat) : mkB ((s.data.toList.drop f).take (i - f)) = s.extract f i := by
  apply ba_ext
  rw [Lib.extract_data]
structure PcSt where
  i : Nat
  from_ : Nat
  A : Option Addr
  ls : List ByteArray
  sp : List Value
  cap : Nat
def PcI (B : Base) (R : HL) (s : ByteArray) (x : PcSt) (w : World) : Prop :=
  x.i ≤ s.size + 1 ∧ x.from_ ≤ x.i ∧ x.ls.length ≤ x.i ∧ (x.i ≤ s.size → piecesB s = x.ls ++ (splitL (s.data.toList.drop x.from_)).map mkB ∧ (47 : UInt8) ∉ (s.data.toList.drop x.from_).take (x.i - x.from_)) ∧ (s.size < x.i → piecesB s = x.ls) ∧
    OwnSl strE x.A x.ls x.sp x.cap ∧ Sh B (rowA x.A (flat strE x.ls ++ x.sp) 9 ++ R) w
def PiecesP (B : Base) (R : HL) (s : ByteArray) (e : Ending) (w' : World) : Prop :=
  ∃ A sp cap, e = .returned (.slice A (piecesB s).length cap) ∧ OwnSl strE A (piecesB s) sp cap ∧ Sh B (rowA A (flat strE (piecesB s) ++ sp) 9 ++ R) w'
set_option maxRecDepth 100000 in
set_option maxHeartbeats 1600000 in
theorem Pieces_any (hS : Sh B R w) (s : ByteArray) (hs : s.size ≤ 16777216) : Calls Tryz.prog 73 #[.string s] w (PiecesP B R s) := by
  go_enter Tryz.func73, Tryz.ntmps73
  go_wp2
  have h0 : PcI B R s ⟨0, 0, none, [], [], 0⟩ _ := ⟨Nat.zero_le _, Nat.le_refl _, Nat.le_refl _, fun _ => ⟨by simp [piecesB], by simp⟩, fun h => absurd h (by simp), OwnSl.nothing, hS⟩
  clear hS
  refine wp_loopS [3, 4, 5] [6, 7, 8, 9, 10, 11, 12, 13, 14, 15, 16, 17, 18, 19, 20, 21, 22, 23, 24, 25, 26, 27, 28, 29, 30] (fun x : PcSt => [.slice x.A x.ls.length x.cap, .int .i64 x.from_, .int .i64 x.i]) (PcI B R s) (fun x => s.size + 1 - x.i) (⟨0, 0, none, [], [], 0⟩) rfl (h0) ?_
  clear h0
  rintro ⟨i, f, A, ls, sp, cap⟩ J w ⟨hi, hf, hll, hin, hout, hO, hS⟩
  dsimp only at hi hf hll hin hout hO hS
  have Hin := Lib.hid hin
  have Hout := Lib.hid hout
  clear hin hout
  (simp only [Frm, setsT, junkT, List.setIfInBounds_toArray, List.set_cons_zero, List.set_cons_succ])
  by_cases hlt : i ≤ s.size
  · obtain ⟨hp, hno⟩ := Hin.out hlt
    have Hno := Lib.hid hno
    have Hp := Lib.hid hp
    clear hp hno
    by_cases hie : i = s.size
    · have d1 : ((i : Int) == (s.size : Int)) = true := by rw [hie]; simp
      have d2 : (i == s.size) = true := by simp [hie]
      have Hend := Lib.hid (show piecesB s = ls ++ [s.extract f i] by
        have hl : i = s.data.toList.length := by rw [hie, ba_size]
        rw [Hp.out]
        have := Hno.out
        rw [hl] at this
        rw [pc_end this, ← hl, List.map_cons, List.map_nil, ext_mk])
      have Hie := Lib.hid hie
      clear hie
      go_wp2_with (first | (refine wl_buildSlice (E := strE) ([s.extract f i]) rfl rfl (by simp only [List.map_toArray, List.map_cons, List.map_nil]; rfl) rfl (by decide) (by decide) hS ?_; intro _ _ hS hN; (try simp only [Act.put, List.setIfInBounds_toArray, List.set_cons_zero, List.set_cons_succ])) | (refine wl_ap (E := strE) rfl rfl rfl rfl hS ?_ ?_ ?_ ?_ ?_; (focus (first | rfl | omega)); (focus (first | rfl | omega)); (focus ((simp only [List.length_cons, List.length_nil]; omega))); (focus decide); intro _ _ _ _ hO2 hS; (try simp only [Act.put, List.setIfInBounds_toArray, List.set_cons_zero, List.set_cons_succ])) | (refine wl_isld rfl ?_; ((first | refine wl_value rfl (ex_l0 hS rfl rfl rfl CellAt.out) ?_ | refine wl_value rfl (ex_lf hS rfl rfl rfl CellAt.out) ?_ | refine wl_value rfl (ex_l1 hS rfl rfl rfl CellAt.out) ?_ | refine wl_value rfl (ex_ldC hS rfl rfl CellAt.out) ?_ | refine wl_value rfl (ex_l0 hS rfl rfl rfl rfl) ?_ | refine wl_value rfl (ex_lf hS rfl rfl rfl rfl) ?_ | refine wl_value rfl (ex_l1 hS rfl rfl rfl rfl) ?_ | refine wl_value rfl (ex_ldC hS rfl rfl rfl) ?_ | refine wl_value rfl (ex_l00 hS rfl rfl CellAt.out) ?_ | refine wl_value rfl (ex_l00 hS rfl rfl rfl) ?_ | refine wl_value rfl (ex_l0f hS rfl rfl CellAt.out) ?_ | refine wl_value rfl (ex_l0f hS rfl rfl rfl) ?_ | refine wl_value rfl (ex_lr hS rfl rfl rfl rfl) ?_ | refine wl_value rfl (ex_lr0 hS rfl rfl rfl) ?_ | refine wl_value rfl (ex_lrz hS rfl rfl rfl) ?_ | refine wl_value rfl (ex_lrf hS rfl rfl rfl) ?_ | refine wl_value rfl (ex_ldrC hS rfl rfl) ?_ | refine wl_value rfl (ex_ldr0 hS rfl rfl rfl) ?_); (try simp only [Act.put, List.setIfInBounds_toArray, List.set_cons_zero, List.set_cons_succ]))) | ((first | refine wl_value rfl (ex_ix hS rfl rfl rfl ?_) ?_); (focus (first | rfl | omega | (simp; done))); (try simp only [Act.put, List.setIfInBounds_toArray, List.set_cons_zero, List.set_cons_succ])) | ((first | refine wl_value rfl (ex_eqA rfl rfl rfl) ?_ | refine wl_value rfl (ex_neA rfl rfl rfl) ?_); (try simp only [Act.put, List.setIfInBounds_toArray, List.set_cons_zero, List.set_cons_succ])) | (refine wl_alloc rfl rfl hS ?_; intro _ _ hS; (try simp only [Act.put, List.setIfInBounds_toArray, List.set_cons_zero, List.set_cons_succ])) | (refine wl_box rfl rfl rfl rfl hS ?_; intro _ _ hS; (try simp only [Act.put, List.setIfInBounds_toArray, List.set_cons_zero, List.set_cons_succ])) | (refine wl_st rfl rfl rfl rfl rfl hS (of_decide_eq_true rfl) ?_; intro _ hS; (try simp only [evT, evC, List.getD_cons_succ, List.getD_cons_zero, List.set_cons_zero, List.set_cons_succ] at hS); (try simp only [List.set_cons_zero, List.set_cons_succ] at hS); (try simp only [Act.put, List.setIfInBounds_toArray, List.set_cons_zero, List.set_cons_succ])) | (refine wl_strC rfl rfl rfl rfl hS rfl rfl ?_; intro _ hS; (try simp only [evT, evC, List.getD_cons_succ, List.getD_cons_zero, List.set_cons_zero, List.set_cons_succ] at hS); (try simp only [Act.put, List.setIfInBounds_toArray, List.set_cons_zero, List.set_cons_succ])))
      (refine ⟨((⟨i + 1, i + 1, _, ls ++ [s.extract f i], _, _⟩ : PcSt)), (⟨(by show i + 1 ≤ s.size + 1; omega), Nat.le_refl _, (by simp; omega), (fun h => absurd (show i + 1 ≤ s.size from h) (by have := Hie.out; omega)), (fun _ => Hend.out), hO2, hS.to⟩), (by (try dsimp only); omega), rfl, (by (simp only [blankT, junkT, List.cons_append, List.nil_append, List.setIfInBounds_toArray, List.set_cons_zero, List.set_cons_succ])), rfl⟩)
    · have hil : i < s.size := by omega
      have d1 : ((i : Int) == (s.size : Int)) = false := beq_no (by omega)
      have d2 : (i == s.size) = false := beq_no hie
      have hg := ba_get s hil
      by_cases h47 : s[i] = 47
      · have d3 : ((s[i].toNat : Int) == 47) = true := by rw [h47]; rfl
        have Hhit := Lib.hid (show piecesB s = (ls ++ [s.extract f i]) ++ (splitL (s.data.toList.drop (i + 1))).map mkB by
          rw [Hp.out, pc_hit hf (by rw [hg, h47]) Hno.out, List.map_cons, ext_mk]; simp)
        clear hg h47 hie
        go_wp2_with (first | (refine wl_buildSlice (E := strE) ([s.extract f i]) rfl rfl (by simp only [List.map_toArray, List.map_cons, List.map_nil]; rfl) rfl (by decide) (by decide) hS ?_; intro _ _ hS hN; (try simp only [Act.put, List.setIfInBounds_toArray, List.set_cons_zero, List.set_cons_succ])) | (refine wl_ap (E := strE) rfl rfl rfl rfl hS ?_ ?_ ?_ ?_ ?_; (focus (first | rfl | omega)); (focus (first | rfl | omega)); (focus ((simp only [List.length_cons, List.length_nil]; omega))); (focus decide); intro _ _ _ _ hO2 hS; (try simp only [Act.put, List.setIfInBounds_toArray, List.set_cons_zero, List.set_cons_succ])) | (refine wl_isld rfl ?_; ((first | refine wl_value rfl (ex_l0 hS rfl rfl rfl CellAt.out) ?_ | refine wl_value rfl (ex_lf hS rfl rfl rfl CellAt.out) ?_ | refine wl_value rfl (ex_l1 hS rfl rfl rfl CellAt.out) ?_ | refine wl_value rfl (ex_ldC hS rfl rfl CellAt.out) ?_ | refine wl_value rfl (ex_l0 hS rfl rfl rfl rfl) ?_ | refine wl_value rfl (ex_lf hS rfl rfl rfl rfl) ?_ | refine wl_value rfl (ex_l1 hS rfl rfl rfl rfl) ?_ | refine wl_value rfl (ex_ldC hS rfl rfl rfl) ?_ | refine wl_value rfl (ex_l00 hS rfl rfl CellAt.out) ?_ | refine wl_value rfl (ex_l00 hS rfl rfl rfl) ?_ | refine wl_value rfl (ex_l0f hS rfl rfl CellAt.out) ?_ | refine wl_value rfl (ex_l0f hS rfl rfl rfl) ?_ | refine wl_value rfl (ex_lr hS rfl rfl rfl rfl) ?_ | refine wl_value rfl (ex_lr0 hS rfl rfl rfl) ?_ | refine wl_value rfl (ex_lrz hS rfl rfl rfl) ?_ | refine wl_value rfl (ex_lrf hS rfl rfl rfl) ?_ | refine wl_value rfl (ex_ldrC hS rfl rfl) ?_ | refine wl_value rfl (ex_ldr0 hS rfl rfl rfl) ?_); (try simp only [Act.put, List.setIfInBounds_toArray, List.set_cons_zero, List.set_cons_succ]))) | ((first | refine wl_value rfl (ex_ix hS rfl rfl rfl ?_) ?_); (focus (first | rfl | omega | (simp; done))); (try simp only [Act.put, List.setIfInBounds_toArray, List.set_cons_zero, List.set_cons_succ])) | ((first | refine wl_value rfl (ex_eqA rfl rfl rfl) ?_ | refine wl_value rfl (ex_neA rfl rfl rfl) ?_); (try simp only [Act.put, List.setIfInBounds_toArray, List.set_cons_zero, List.set_cons_succ])) | (refine wl_alloc rfl rfl hS ?_; intro _ _ hS; (try simp only [Act.put, List.setIfInBounds_toArray, List.set_cons_zero, List.set_cons_succ])) | (refine wl_box rfl rfl rfl rfl hS ?_; intro _ _ hS; (try simp only [Act.put, List.setIfInBounds_toArray, List.set_cons_zero, List.set_cons_succ])) | (refine wl_st rfl rfl rfl rfl rfl hS (of_decide_eq_true rfl) ?_; intro _ hS; (try simp only [evT, evC, List.getD_cons_succ, List.getD_cons_zero, List.set_cons_zero, List.set_cons_succ] at hS); (try simp only [List.set_cons_zero, List.set_cons_succ] at hS); (try simp only [Act.put, List.setIfInBounds_toArray, List.set_cons_zero, List.set_cons_succ])) | (refine wl_strC rfl rfl rfl rfl hS rfl rfl ?_; intro _ hS; (try simp only [evT, evC, List.getD_cons_succ, List.getD_cons_zero, List.set_cons_zero, List.set_cons_succ] at hS); (try simp only [Act.put, List.setIfInBounds_toArray, List.set_cons_zero, List.set_cons_succ])))
        (refine ⟨((⟨i + 1, i + 1, _, ls ++ [s.extract f i], _, _⟩ : PcSt)), (⟨(by show i + 1 ≤ s.size + 1; omega), Nat.le_refl _, (by simp; omega), (fun _ => ⟨Hhit.out, (by simp)⟩), (fun h => absurd (show s.size < i + 1 from h) (by omega)), hO2, hS.to⟩), (by (try dsimp only); omega), rfl, (by (simp only [blankT, junkT, List.cons_append, List.nil_append, List.setIfInBounds_toArray, List.set_cons_zero, List.set_cons_succ])), rfl⟩)
      · have d3 : ((s[i].toNat : Int) == 47) = false := beq_no (by
          intro h
          apply h47
          have h2 : s[i].toNat = 47 := by omega
          exact UInt8.toNat_inj.1 h2)
        have Hnx := Lib.hid (pc_next hf hg h47 Hno.out)
        clear hg h47 hie
        go_wp2_with (first | (refine wl_isld rfl ?_; ((first | refine wl_value rfl (ex_l0 hS rfl rfl rfl CellAt.out) ?_ | refine wl_value rfl (ex_lf hS rfl rfl rfl CellAt.out) ?_ | refine wl_value rfl (ex_l1 hS rfl rfl rfl CellAt.out) ?_ | refine wl_value rfl (ex_ldC hS rfl rfl CellAt.out) ?_ | refine wl_value rfl (ex_l0 hS rfl rfl rfl rfl) ?_ | refine wl_value rfl (ex_lf hS rfl rfl rfl rfl) ?_ | refine wl_value rfl (ex_l1 hS rfl rfl rfl rfl) ?_ | refine wl_value rfl (ex_ldC hS rfl rfl rfl) ?_ | refine wl_value rfl (ex_l00 hS rfl rfl CellAt.out) ?_ | refine wl_value rfl (ex_l00 hS rfl rfl rfl) ?_ | refine wl_value rfl (ex_l0f hS rfl rfl CellAt.out) ?_ | refine wl_value rfl (ex_l0f hS rfl rfl rfl) ?_ | refine wl_value rfl (ex_lr hS rfl rfl rfl rfl) ?_ | refine wl_value rfl (ex_lr0 hS rfl rfl rfl) ?_ | refine wl_value rfl (ex_lrz hS rfl rfl rfl) ?_ | refine wl_value rfl (ex_lrf hS rfl rfl rfl) ?_ | refine wl_value rfl (ex_ldrC hS rfl rfl) ?_ | refine wl_value rfl (ex_ldr0 hS rfl rfl rfl) ?_); (try simp only [Act.put, List.setIfInBounds_toArray, List.set_cons_zero, List.set_cons_succ]))) | ((first | refine wl_value rfl (ex_ix hS rfl rfl rfl ?_) ?_); (focus (first | rfl | omega | (simp; done))); (try simp only [Act.put, List.setIfInBounds_toArray, List.set_cons_zero, List.set_cons_succ])) | ((first | refine wl_value rfl (ex_eqA rfl rfl rfl) ?_ | refine wl_value rfl (ex_neA rfl rfl rfl) ?_); (try simp only [Act.put, List.setIfInBounds_toArray, List.set_cons_zero, List.set_cons_succ])) | (refine wl_alloc rfl rfl hS ?_; intro _ _ hS; (try simp only [Act.put, List.setIfInBounds_toArray, List.set_cons_zero, List.set_cons_succ])) | (refine wl_box rfl rfl rfl rfl hS ?_; intro _ _ hS; (try simp only [Act.put, List.setIfInBounds_toArray, List.set_cons_zero, List.set_cons_succ])) | (refine wl_st rfl rfl rfl rfl rfl hS (of_decide_eq_true rfl) ?_; intro _ hS; (try simp only [evT, evC, List.getD_cons_succ, List.getD_cons_zero, List.set_cons_zero, List.set_cons_succ] at hS); (try simp only [List.set_cons_zero, List.set_cons_succ] at hS); (try simp only [Act.put, List.setIfInBounds_toArray, List.set_cons_zero, List.set_cons_succ])) | (refine wl_strC rfl rfl rfl rfl hS rfl rfl ?_; intro _ hS; (try simp only [evT, evC, List.getD_cons_succ, List.getD_cons_zero, List.set_cons_zero, List.set_cons_succ] at hS); (try simp only [Act.put, List.setIfInBounds_toArray, List.set_cons_zero, List.set_cons_succ])))
        (refine ⟨((⟨i + 1, f, A, ls, sp, cap⟩ : PcSt)), (⟨(by show i + 1 ≤ s.size + 1; omega), (by show f ≤ i + 1; omega), (by show ls.length ≤ i + 1; omega), (fun _ => ⟨Hp.out, Hnx.out⟩), (fun h => absurd (show s.size < i + 1 from h) (by omega)), hO, hS⟩), (by (try dsimp only); omega), rfl, (by (simp only [blankT, junkT, List.cons_append, List.nil_append, List.setIfInBounds_toArray, List.set_cons_zero, List.set_cons_succ])), rfl⟩)
  · have He := Lib.hid (Hout.out (by omega))
    have d1 : decide ((i : Int) ≤ (s.size : Int)) = false := decide_eq_false (by omega)
    have d2 : decide (i ≤ s.size) = false := decide_eq_false hlt
    go_wp2_with (first | (refine wl_isld rfl ?_; ((first | refine wl_value rfl (ex_l0 hS rfl rfl rfl CellAt.out) ?_ | refine wl_value rfl (ex_lf hS rfl rfl rfl CellAt.out) ?_ | refine wl_value rfl (ex_l1 hS rfl rfl rfl CellAt.out) ?_ | refine wl_value rfl (ex_ldC hS rfl rfl CellAt.out) ?_ | refine wl_value rfl (ex_l0 hS rfl rfl rfl rfl) ?_ | refine wl_value rfl (ex_lf hS rfl rfl rfl rfl) ?_ | refine wl_value rfl (ex_l1 hS rfl rfl rfl rfl) ?_ | refine wl_value rfl (ex_ldC hS rfl rfl rfl) ?_ | refine wl_value rfl (ex_l00 hS rfl rfl CellAt.out) ?_ | refine wl_value rfl (ex_l00 hS rfl rfl rfl) ?_ | refine wl_value rfl (ex_l0f hS rfl rfl CellAt.out) ?_ | refine wl_value rfl (ex_l0f hS rfl rfl rfl) ?_ | refine wl_value rfl (ex_lr hS rfl rfl rfl rfl) ?_ | refine wl_value rfl (ex_lr0 hS rfl rfl rfl) ?_ | refine wl_value rfl (ex_lrz hS rfl rfl rfl) ?_ | refine wl_value rfl (ex_lrf hS rfl rfl rfl) ?_ | refine wl_value rfl (ex_ldrC hS rfl rfl) ?_ | refine wl_value rfl (ex_ldr0 hS rfl rfl rfl) ?_); (try simp only [Act.put, List.setIfInBounds_toArray, List.set_cons_zero, List.set_cons_succ]))) | ((first | refine wl_value rfl (ex_ix hS rfl rfl rfl ?_) ?_); (focus (first | rfl | omega | (simp; done))); (try simp only [Act.put, List.setIfInBounds_toArray, List.set_cons_zero, List.set_cons_succ])) | ((first | refine wl_value rfl (ex_eqA rfl rfl rfl) ?_ | refine wl_value rfl (ex_neA rfl rfl rfl) ?_); (try simp only [Act.put, List.setIfInBounds_toArray, List.set_cons_zero, List.set_cons_succ])) | (refine wl_alloc rfl rfl hS ?_; intro _ _ hS; (try simp only [Act.put, List.setIfInBounds_toArray, List.set_cons_zero, List.set_cons_succ])) | (refine wl_box rfl rfl rfl rfl hS ?_; intro _ _ hS; (try simp only [Act.put, List.setIfInBounds_toArray, List.set_cons_zero, List.set_cons_succ])) | (refine wl_st rfl rfl rfl rfl rfl hS (of_decide_eq_true rfl) ?_; intro _ hS; (try simp only [evT, evC, List.getD_cons_succ, List.getD_cons_zero, List.set_cons_zero, List.set_cons_succ] at hS); (try simp only [List.set_cons_zero, List.set_cons_succ] at hS); (try simp only [Act.put, List.setIfInBounds_toArray, List.set_cons_zero, List.set_cons_succ])) | (refine wl_strC rfl rfl rfl rfl hS rfl rfl ?_; intro _ hS; (try simp only [evT, evC, List.getD_cons_succ, List.getD_cons_zero, List.set_cons_zero, List.set_cons_succ] at hS); (try simp only [Act.put, List.setIfInBounds_toArray, List.set_cons_zero, List.set_cons_succ])))
    go_ret
    unfold PiecesP
    rw [He.out]
    exact ⟨A, sp, cap, rfl, hO, hS⟩
def okP (s : ByteArray) : Bool := (namesB s).isSome
def NamesRP (B : Base) (R : HL) (s : ByteArray) (e : Ending) (w' : World) : Prop :=
  ∃ A sp cap, e = .returned (.tuple #[.slice A (namesL s).length cap, .bool (okP s)]) ∧ OwnSl strE A (namesL s) sp cap ∧ Sh B (rowA A (flat strE (namesL s) ++ sp) 9 ++ R) w'
def NmI (B : Base) (A : Option Addr) (s : ByteArray) (sp : List Value) (R : HL) (i : Nat) (w : World) : Prop := i ≤ (piecesB s).length ∧ (∀ j x, (piecesB s)[j]? = some x → j < i → nameB x = true) ∧ Sh B (rowA A (flat strE (piecesB s) ++ sp) 9 ++ R) w
theorem namesR_none {s : ByteArray} (h : namesB s = none) : namesL s = [] ∧ okP s = false := by unfold namesL okP; rw [h]; exact ⟨rfl, rfl⟩
theorem namesR_some {s : ByteArray} {l : List ByteArray} (h : namesB s = some l) : namesL s = l ∧ okP s = true := by unfold namesL okP; rw [h]; exact ⟨rfl, rfl⟩
set_option maxRecDepth 100000 in
set_option maxHeartbeats 1600000 in
theorem NamesR_any (hS : Sh B R w) (s : ByteArray) (hs : s.size ≤ 16777216) : Calls Tryz.prog 58 #[.string s] w (NamesRP B R s) := by
  by_cases h0 : s.size = 0
  · have hn : namesB s = some [] := by unfold namesB; rw [if_pos h0]
    have d0 : s.toList = [] := by rw [ByteArray.toList_eq s]; have := ba_size s; rw [h0] at this; exact List.eq_nil_of_length_eq_zero this.symm
    have d1 : s.toList.isEmpty = true := by rw [d0]; rfl
    have Hn := Lib.hid (namesR_some hn)
    clear hn h0
    go_enter Tryz.func58, Tryz.ntmps58
    go_wp2
    go_ret2
    unfold NamesRP
    rw [Hn.out.1, Hn.out.2]
    exact ⟨none, [], 0, rfl, OwnSl.nothing, hS⟩
  · have d0 : ¬ s.toList = [] := by rw [ByteArray.toList_eq s]; intro h; apply h0; rw [ba_size, h]; rfl
    have d1 : s.toList.isEmpty = false := by rw [Bool.eq_false_iff]; simpa using d0
    have hsp := fun (w : World) (R : HL) (hS : Sh B R w) => Pieces_any hS s hs
    have Hall := Lib.hid (show (piecesB s).all nameB = true → (¬ 32 < (piecesB s).length → namesB s = some (piecesB s)) ∧ (32 < (piecesB s).length → namesB s = none) from fun h => ⟨fun h32 => by unfold namesB; rw [if_neg h0, if_neg h32, if_pos h], fun h32 => by unfold namesB; rw [if_neg h0, if_pos h32]⟩)
    have Hno := Lib.hid (show ∀ x, x ∈ piecesB s → nameB x = false → namesB s = none by
      intro x hx hf
      unfold namesB
      rw [if_neg h0]
      split
      · rfl
      · rw [if_neg]
        intro ha
        rw [List.all_eq_true] at ha
        rw [ha x hx] at hf
        cases hf)
    have hpl : (piecesB s).length ≤ 16777217 := by
      have h1 := Lib.countB_le slash (by decide) s.size s (Nat.le_refl _)
      rw [pieces_length]; omega
    clear h0
    go_enter Tryz.func58, Tryz.ntmps58
    go_wp2_with (first | (go_at_call 73; refine ((hsp _ _ hS)).mono ?_; rintro e w' (⟨A, sp, cap, rfl, hO, hS⟩)) | (refine wl_isld rfl ?_; ((first | refine wl_value rfl (ex_l0 hS rfl rfl rfl CellAt.out) ?_ | refine wl_value rfl (ex_lf hS rfl rfl rfl CellAt.out) ?_ | refine wl_value rfl (ex_l1 hS rfl rfl rfl CellAt.out) ?_ | refine wl_value rfl (ex_ldC hS rfl rfl CellAt.out) ?_ | refine wl_value rfl (ex_l0 hS rfl rfl rfl rfl) ?_ | refine wl_value rfl (ex_lf hS rfl rfl rfl rfl) ?_ | refine wl_value rfl (ex_l1 hS rfl rfl rfl rfl) ?_ | refine wl_value rfl (ex_ldC hS rfl rfl rfl) ?_ | refine wl_value rfl (ex_l00 hS rfl rfl CellAt.out) ?_ | refine wl_value rfl (ex_l00 hS rfl rfl rfl) ?_ | refine wl_value rfl (ex_l0f hS rfl rfl CellAt.out) ?_ | refine wl_value rfl (ex_l0f hS rfl rfl rfl) ?_ | refine wl_value rfl (ex_lr hS rfl rfl rfl rfl) ?_ | refine wl_value rfl (ex_lr0 hS rfl rfl rfl) ?_ | refine wl_value rfl (ex_lrz hS rfl rfl rfl) ?_ | refine wl_value rfl (ex_lrf hS rfl rfl rfl) ?_ | refine wl_value rfl (ex_ldrC hS rfl rfl) ?_ | refine wl_value rfl (ex_ldr0 hS rfl rfl rfl) ?_); (try simp only [Act.put, List.setIfInBounds_toArray, List.set_cons_zero, List.set_cons_succ]))) | ((first | refine wl_value rfl (ex_ix hS rfl rfl rfl ?_) ?_); (focus (first | rfl | omega | (simp; done))); (try simp only [Act.put, List.setIfInBounds_toArray, List.set_cons_zero, List.set_cons_succ])) | ((first | refine wl_value rfl (ex_eqA rfl rfl rfl) ?_ | refine wl_value rfl (ex_neA rfl rfl rfl) ?_); (try simp only [Act.put, List.setIfInBounds_toArray, List.set_cons_zero, List.set_cons_succ])) | (refine wl_alloc rfl rfl hS ?_; intro _ _ hS; (try simp only [Act.put, List.setIfInBounds_toArray, List.set_cons_zero, List.set_cons_succ])) | (refine wl_box rfl rfl rfl rfl hS ?_; intro _ _ hS; (try simp only [Act.put, List.setIfInBounds_toArray, List.set_cons_zero, List.set_cons_succ])) | (refine wl_st rfl rfl rfl rfl rfl hS (of_decide_eq_true rfl) ?_; intro _ hS; (try simp only [evT, evC, List.getD_cons_succ, List.getD_cons_zero, List.set_cons_zero, List.set_cons_succ] at hS); (try simp only [List.set_cons_zero, List.set_cons_succ] at hS); (try simp only [Act.put, List.setIfInBounds_toArray, List.set_cons_zero, List.set_cons_succ])) | (refine wl_strC rfl rfl rfl rfl hS rfl rfl ?_; intro _ hS; (try simp only [evT, evC, List.getD_cons_succ, List.getD_cons_zero, List.set_cons_zero, List.set_cons_succ] at hS); (try simp only [Act.put, List.setIfInBounds_toArray, List.set_cons_zero, List.set_cons_succ])))
    have h0 : NmI B A s sp R 0 _ := ⟨Nat.zero_le _, fun _ _ _ h => absurd h (Nat.not_lt_zero _), hS⟩
    clear hS
    refine wp_loopS [5] [2, 3, 10, 11, 12, 13, 14, 15, 16, 17, 18, 19, 20, 21] (fun i : Nat => [.int .i64 i]) (NmI B A s sp R) (fun i => (piecesB s).length - i) ((0 : Nat)) rfl (h0) ?_
    clear h0
    rintro i J w ⟨hi, hok, hS⟩
    have Hok := Lib.hid hok
    clear hok
    (simp only [Frm, setsT, junkT, List.setIfInBounds_toArray, List.set_cons_zero, List.set_cons_succ])
    by_cases hlt : i < (piecesB s).length
    · obtain ⟨x, gx⟩ := Nth.of hlt
      have hxs : x.size ≤ 16777216 := Nat.le_trans (pieces_small s x gx.mem) hs
      have hnm := fun (w : World) (R : HL) (hS : Sh B R w) => NameR_any hS x hxs
      cases hb : nameB x with
      | true =>
        rw [hb] at hnm
        have Hb := Lib.hid hb
        clear hb
        go_wp2_with (first | (go_at_call 74; refine ((hnm _ _ hS)).mono ?_; rintro e w' (⟨rfl, hS⟩)) | (refine wl_isld rfl ?_; ((first | refine wl_value rfl (ex_l0 hS rfl rfl rfl CellAt.out) ?_ | refine wl_value rfl (ex_lf hS rfl rfl rfl CellAt.out) ?_ | refine wl_value rfl (ex_l1 hS rfl rfl rfl CellAt.out) ?_ | refine wl_value rfl (ex_ldC hS rfl rfl CellAt.out) ?_ | refine wl_value rfl (ex_l0 hS rfl rfl rfl rfl) ?_ | refine wl_value rfl (ex_lf hS rfl rfl rfl rfl) ?_ | refine wl_value rfl (ex_l1 hS rfl rfl rfl rfl) ?_ | refine wl_value rfl (ex_ldC hS rfl rfl rfl) ?_ | refine wl_value rfl (ex_l00 hS rfl rfl CellAt.out) ?_ | refine wl_value rfl (ex_l00 hS rfl rfl rfl) ?_ | refine wl_value rfl (ex_l0f hS rfl rfl CellAt.out) ?_ | refine wl_value rfl (ex_l0f hS rfl rfl rfl) ?_ | refine wl_value rfl (ex_lr hS rfl rfl rfl rfl) ?_ | refine wl_value rfl (ex_lr0 hS rfl rfl rfl) ?_ | refine wl_value rfl (ex_lrz hS rfl rfl rfl) ?_ | refine wl_value rfl (ex_lrf hS rfl rfl rfl) ?_ | refine wl_value rfl (ex_ldrC hS rfl rfl) ?_ | refine wl_value rfl (ex_ldr0 hS rfl rfl rfl) ?_); (try simp only [Act.put, List.setIfInBounds_toArray, List.set_cons_zero, List.set_cons_succ]))) | ((first | refine wl_value rfl (ex_ix hS rfl rfl rfl ?_) ?_); (focus (first | rfl | omega | (simp; done))); (try simp only [Act.put, List.setIfInBounds_toArray, List.set_cons_zero, List.set_cons_succ])) | ((first | refine wl_value rfl (ex_eqA rfl rfl rfl) ?_ | refine wl_value rfl (ex_neA rfl rfl rfl) ?_); (try simp only [Act.put, List.setIfInBounds_toArray, List.set_cons_zero, List.set_cons_succ])) | (refine wl_alloc rfl rfl hS ?_; intro _ _ hS; (try simp only [Act.put, List.setIfInBounds_toArray, List.set_cons_zero, List.set_cons_succ])) | (refine wl_box rfl rfl rfl rfl hS ?_; intro _ _ hS; (try simp only [Act.put, List.setIfInBounds_toArray, List.set_cons_zero, List.set_cons_succ])) | (refine wl_st rfl rfl rfl rfl rfl hS (of_decide_eq_true rfl) ?_; intro _ hS; (try simp only [evT, evC, List.getD_cons_succ, List.getD_cons_zero, List.set_cons_zero, List.set_cons_succ] at hS); (try simp only [List.set_cons_zero, List.set_cons_succ] at hS); (try simp only [Act.put, List.setIfInBounds_toArray, List.set_cons_zero, List.set_cons_succ])) | (refine wl_strC rfl rfl rfl rfl hS rfl rfl ?_; intro _ hS; (try simp only [evT, evC, List.getD_cons_succ, List.getD_cons_zero, List.set_cons_zero, List.set_cons_succ] at hS); (try simp only [Act.put, List.setIfInBounds_toArray, List.set_cons_zero, List.set_cons_succ])))
        (refine ⟨((i + 1 : Nat)), (⟨hlt, fun j y hy hj => by rcases Nat.lt_succ_iff_lt_or_eq.1 hj with h | h; exact Hok.out j y hy h; subst h; rw [gx.get] at hy; cases hy; exact Hb.out, hS⟩), (by (try dsimp only); omega), rfl, (by (simp only [blankT, junkT, List.cons_append, List.nil_append, List.setIfInBounds_toArray, List.set_cons_zero, List.set_cons_succ])), rfl⟩)
      | false =>
        rw [hb] at hnm
        have Hn := Lib.hid (namesR_none (Hno.out x gx.mem hb))
        clear hb
        go_wp2_with (first | (go_at_call 74; refine ((hnm _ _ hS)).mono ?_; rintro e w' (⟨rfl, hS⟩)) | (refine wl_isld rfl ?_; ((first | refine wl_value rfl (ex_l0 hS rfl rfl rfl CellAt.out) ?_ | refine wl_value rfl (ex_lf hS rfl rfl rfl CellAt.out) ?_ | refine wl_value rfl (ex_l1 hS rfl rfl rfl CellAt.out) ?_ | refine wl_value rfl (ex_ldC hS rfl rfl CellAt.out) ?_ | refine wl_value rfl (ex_l0 hS rfl rfl rfl rfl) ?_ | refine wl_value rfl (ex_lf hS rfl rfl rfl rfl) ?_ | refine wl_value rfl (ex_l1 hS rfl rfl rfl rfl) ?_ | refine wl_value rfl (ex_ldC hS rfl rfl rfl) ?_ | refine wl_value rfl (ex_l00 hS rfl rfl CellAt.out) ?_ | refine wl_value rfl (ex_l00 hS rfl rfl rfl) ?_ | refine wl_value rfl (ex_l0f hS rfl rfl CellAt.out) ?_ | refine wl_value rfl (ex_l0f hS rfl rfl rfl) ?_ | refine wl_value rfl (ex_lr hS rfl rfl rfl rfl) ?_ | refine wl_value rfl (ex_lr0 hS rfl rfl rfl) ?_ | refine wl_value rfl (ex_lrz hS rfl rfl rfl) ?_ | refine wl_value rfl (ex_lrf hS rfl rfl rfl) ?_ | refine wl_value rfl (ex_ldrC hS rfl rfl) ?_ | refine wl_value rfl (ex_ldr0 hS rfl rfl rfl) ?_); (try simp only [Act.put, List.setIfInBounds_toArray, List.set_cons_zero, List.set_cons_succ]))) | ((first | refine wl_value rfl (ex_ix hS rfl rfl rfl ?_) ?_); (focus (first | rfl | omega | (simp; done))); (try simp only [Act.put, List.setIfInBounds_toArray, List.set_cons_zero, List.set_cons_succ])) | ((first | refine wl_value rfl (ex_eqA rfl rfl rfl) ?_ | refine wl_value rfl (ex_neA rfl rfl rfl) ?_); (try simp only [Act.put, List.setIfInBounds_toArray, List.set_cons_zero, List.set_cons_succ])) | (refine wl_alloc rfl rfl hS ?_; intro _ _ hS; (try simp only [Act.put, List.setIfInBounds_toArray, List.set_cons_zero, List.set_cons_succ])) | (refine wl_box rfl rfl rfl rfl hS ?_; intro _ _ hS; (try simp only [Act.put, List.setIfInBounds_toArray, List.set_cons_zero, List.set_cons_succ])) | (refine wl_st rfl rfl rfl rfl rfl hS (of_decide_eq_true rfl) ?_; intro _ hS; (try simp only [evT, evC, List.getD_cons_succ, List.getD_cons_zero, List.set_cons_zero, List.set_cons_succ] at hS); (try simp only [List.set_cons_zero, List.set_cons_succ] at hS); (try simp only [Act.put, List.setIfInBounds_toArray, List.set_cons_zero, List.set_cons_succ])) | (refine wl_strC rfl rfl rfl rfl hS rfl rfl ?_; intro _ hS; (try simp only [evT, evC, List.getD_cons_succ, List.getD_cons_zero, List.set_cons_zero, List.set_cons_succ] at hS); (try simp only [Act.put, List.setIfInBounds_toArray, List.set_cons_zero, List.set_cons_succ])))
        go_ret2
        unfold NamesRP
        rw [Hn.out.1, Hn.out.2]
        exact ⟨none, [], 0, rfl, OwnSl.nothing, hS.to⟩
    · have Ha := Hall.out (by
          rw [List.all_eq_true]
          intro x hx
          obtain ⟨j, hj⟩ := List.getElem?_of_mem hx
          exact Hok.out j x hj (by have := (List.getElem?_eq_some_iff.1 hj).1; omega))
      by_cases h32 : 32 < (piecesB s).length
      · have Hn := Lib.hid (namesR_none (Ha.2 h32))
        have d2 : decide ((32 : Int) < ((piecesB s).length : Int)) = true := decide_eq_true (by omega)
        have d3 : decide (32 < (piecesB s).length) = true := decide_eq_true h32
        clear Ha h32
        go_wp2_with (first | (refine wl_isld rfl ?_; ((first | refine wl_value rfl (ex_l0 hS rfl rfl rfl CellAt.out) ?_ | refine wl_value rfl (ex_lf hS rfl rfl rfl CellAt.out) ?_ | refine wl_value rfl (ex_l1 hS rfl rfl rfl CellAt.out) ?_ | refine wl_value rfl (ex_ldC hS rfl rfl CellAt.out) ?_ | refine wl_value rfl (ex_l0 hS rfl rfl rfl rfl) ?_ | refine wl_value rfl (ex_lf hS rfl rfl rfl rfl) ?_ | refine wl_value rfl (ex_l1 hS rfl rfl rfl rfl) ?_ | refine wl_value rfl (ex_ldC hS rfl rfl rfl) ?_ | refine wl_value rfl (ex_l00 hS rfl rfl CellAt.out) ?_ | refine wl_value rfl (ex_l00 hS rfl rfl rfl) ?_ | refine wl_value rfl (ex_l0f hS rfl rfl CellAt.out) ?_ | refine wl_value rfl (ex_l0f hS rfl rfl rfl) ?_ | refine wl_value rfl (ex_lr hS rfl rfl rfl rfl) ?_ | refine wl_value rfl (ex_lr0 hS rfl rfl rfl) ?_ | refine wl_value rfl (ex_lrz hS rfl rfl rfl) ?_ | refine wl_value rfl (ex_lrf hS rfl rfl rfl) ?_ | refine wl_value rfl (ex_ldrC hS rfl rfl) ?_ | refine wl_value rfl (ex_ldr0 hS rfl rfl rfl) ?_); (try simp only [Act.put, List.setIfInBounds_toArray, List.set_cons_zero, List.set_cons_succ]))) | ((first | refine wl_value rfl (ex_ix hS rfl rfl rfl ?_) ?_); (focus (first | rfl | omega | (simp; done))); (try simp only [Act.put, List.setIfInBounds_toArray, List.set_cons_zero, List.set_cons_succ])) | ((first | refine wl_value rfl (ex_eqA rfl rfl rfl) ?_ | refine wl_value rfl (ex_neA rfl rfl rfl) ?_); (try simp only [Act.put, List.setIfInBounds_toArray, List.set_cons_zero, List.set_cons_succ])) | (refine wl_alloc rfl rfl hS ?_; intro _ _ hS; (try simp only [Act.put, List.setIfInBounds_toArray, List.set_cons_zero, List.set_cons_succ])) | (refine wl_box rfl rfl rfl rfl hS ?_; intro _ _ hS; (try simp only [Act.put, List.setIfInBounds_toArray, List.set_cons_zero, List.set_cons_succ])) | (refine wl_st rfl rfl rfl rfl rfl hS (of_decide_eq_true rfl) ?_; intro _ hS; (try simp only [evT, evC, List.getD_cons_succ, List.getD_cons_zero, List.set_cons_zero, List.set_cons_succ] at hS); (try simp only [List.set_cons_zero, List.set_cons_succ] at hS); (try simp only [Act.put, List.setIfInBounds_toArray, List.set_cons_zero, List.set_cons_succ])) | (refine wl_strC rfl rfl rfl rfl hS rfl rfl ?_; intro _ hS; (try simp only [evT, evC, List.getD_cons_succ, List.getD_cons_zero, List.set_cons_zero, List.set_cons_succ] at hS); (try simp only [Act.put, List.setIfInBounds_toArray, List.set_cons_zero, List.set_cons_succ])))
        go_ret2
        unfold NamesRP
        rw [Hn.out.1, Hn.out.2]
        exact ⟨none, [], 0, rfl, OwnSl.nothing, hS.to⟩
      · have Hn := Lib.hid (namesR_some (Ha.1 h32))
        have d2 : decide ((32 : Int) < ((piecesB s).length : Int)) = false := decide_eq_false (by omega)
        have d3 : decide (32 < (piecesB s).length) = false := decide_eq_false h32
        clear Ha h32
        go_wp2_with (first | (refine wl_isld rfl ?_; ((first | refine wl_value rfl (ex_l0 hS rfl rfl rfl CellAt.out) ?_ | refine wl_value rfl (ex_lf hS rfl rfl rfl CellAt.out) ?_ | refine wl_value rfl (ex_l1 hS rfl rfl rfl CellAt.out) ?_ | refine wl_value rfl (ex_ldC hS rfl rfl CellAt.out) ?_ | refine wl_value rfl (ex_l0 hS rfl rfl rfl rfl) ?_ | refine wl_value rfl (ex_lf hS rfl rfl rfl rfl) ?_ | refine wl_value rfl (ex_l1 hS rfl rfl rfl rfl) ?_ | refine wl_value rfl (ex_ldC hS rfl rfl rfl) ?_ | refine wl_value rfl (ex_l00 hS rfl rfl CellAt.out) ?_ | refine wl_value rfl (ex_l00 hS rfl rfl rfl) ?_ | refine wl_value rfl (ex_l0f hS rfl rfl CellAt.out) ?_ | refine wl_value rfl (ex_l0f hS rfl rfl rfl) ?_ | refine wl_value rfl (ex_lr hS rfl rfl rfl rfl) ?_ | refine wl_value rfl (ex_lr0 hS rfl rfl rfl) ?_ | refine wl_value rfl (ex_lrz hS rfl rfl rfl) ?_ | refine wl_value rfl (ex_lrf hS rfl rfl rfl) ?_ | refine wl_value rfl (ex_ldrC hS rfl rfl) ?_ | refine wl_value rfl (ex_ldr0 hS rfl rfl rfl) ?_); (try simp only [Act.put, List.setIfInBounds_toArray, List.set_cons_zero, List.set_cons_succ]))) | ((first | refine wl_value rfl (ex_ix hS rfl rfl rfl ?_) ?_); (focus (first | rfl | omega | (simp; done))); (try simp only [Act.put, List.setIfInBounds_toArray, List.set_cons_zero, List.set_cons_succ])) | ((first | refine wl_value rfl (ex_eqA rfl rfl rfl) ?_ | refine wl_value rfl (ex_neA rfl rfl rfl) ?_); (try simp only [Act.put, List.setIfInBounds_toArray, List.set_cons_zero, List.set_cons_succ])) | (refine wl_alloc rfl rfl hS ?_; intro _ _ hS; (try simp only [Act.put, List.setIfInBounds_toArray, List.set_cons_zero, List.set_cons_succ])) | (refine wl_box rfl rfl rfl rfl hS ?_; intro _ _ hS; (try simp only [Act.put, List.setIfInBounds_toArray, List.set_cons_zero, List.set_cons_succ])) | (refine wl_st rfl rfl rfl rfl rfl hS (of_decide_eq_true rfl) ?_; intro _ hS; (try simp only [evT, evC, List.getD_cons_succ, List.getD_cons_zero, List.set_cons_zero, List.set_cons_succ] at hS); (try simp only [List.set_cons_zero, List.set_cons_succ] at hS); (try simp only [Act.put, List.setIfInBounds_toArray, List.set_cons_zero, List.set_cons_succ])) | (refine wl_strC rfl rfl rfl rfl hS rfl rfl ?_; intro _ hS; (try simp only [evT, evC, List.getD_cons_succ, List.getD_cons_zero, List.set_cons_zero, List.set_cons_succ] at hS); (try simp only [Act.put, List.setIfInBounds_toArray, List.set_cons_zero, List.set_cons_succ])))
        go_ret2
        unfold NamesRP
        rw [Hn.out.1, Hn.out.2]
        exact ⟨A, sp, cap, rfl, hO, hS⟩
set_option maxRecDepth 100000 in
theorem PathR_any (hS : Sh B R w) (s : ByteArray) (hs : s.size ≤ 16777216) : Calls Tryz.prog 36 #[.string s] w fun e w' => e = .returned (.bool (okP s)) ∧ Sh B R w' := by
  have hn := fun (w : World) (R : HL) (hS : Sh B R w) => NamesR_any hS s hs
  go_enter Tryz.func36, Tryz.ntmps36
  go_wp2_with (first | (go_at_call 58; refine ((hn _ _ hS)).mono ?_; rintro e w' (⟨A, sp, cap, rfl, hO, hS⟩)) | (refine wl_isld rfl ?_; ((first | refine wl_value rfl (ex_l0 hS rfl rfl rfl CellAt.out) ?_ | refine wl_value rfl (ex_lf hS rfl rfl rfl CellAt.out) ?_ | refine wl_value rfl (ex_l1 hS rfl rfl rfl CellAt.out) ?_ | refine wl_value rfl (ex_ldC hS rfl rfl CellAt.out) ?_ | refine wl_value rfl (ex_l0 hS rfl rfl rfl rfl) ?_ | refine wl_value rfl (ex_lf hS rfl rfl rfl rfl) ?_ | refine wl_value rfl (ex_l1 hS rfl rfl rfl rfl) ?_ | refine wl_value rfl (ex_ldC hS rfl rfl rfl) ?_ | refine wl_value rfl (ex_l00 hS rfl rfl CellAt.out) ?_ | refine wl_value rfl (ex_l00 hS rfl rfl rfl) ?_ | refine wl_value rfl (ex_l0f hS rfl rfl CellAt.out) ?_ | refine wl_value rfl (ex_l0f hS rfl rfl rfl) ?_ | refine wl_value rfl (ex_lr hS rfl rfl rfl rfl) ?_ | refine wl_value rfl (ex_lr0 hS rfl rfl rfl) ?_ | refine wl_value rfl (ex_lrz hS rfl rfl rfl) ?_ | refine wl_value rfl (ex_lrf hS rfl rfl rfl) ?_ | refine wl_value rfl (ex_ldrC hS rfl rfl) ?_ | refine wl_value rfl (ex_ldr0 hS rfl rfl rfl) ?_); (try simp only [Act.put, List.setIfInBounds_toArray, List.set_cons_zero, List.set_cons_succ]))) | ((first | refine wl_value rfl (ex_ix hS rfl rfl rfl ?_) ?_); (focus (first | rfl | omega | (simp; done))); (try simp only [Act.put, List.setIfInBounds_toArray, List.set_cons_zero, List.set_cons_succ])) | ((first | refine wl_value rfl (ex_eqA rfl rfl rfl) ?_ | refine wl_value rfl (ex_neA rfl rfl rfl) ?_); (try simp only [Act.put, List.setIfInBounds_toArray, List.set_cons_zero, List.set_cons_succ])) | (refine wl_alloc rfl rfl hS ?_; intro _ _ hS; (try simp only [Act.put, List.setIfInBounds_toArray, List.set_cons_zero, List.set_cons_succ])) | (refine wl_box rfl rfl rfl rfl hS ?_; intro _ _ hS; (try simp only [Act.put, List.setIfInBounds_toArray, List.set_cons_zero, List.set_cons_succ])) | (refine wl_st rfl rfl rfl rfl rfl hS (of_decide_eq_true rfl) ?_; intro _ hS; (try simp only [evT, evC, List.getD_cons_succ, List.getD_cons_zero, List.set_cons_zero, List.set_cons_succ] at hS); (try simp only [List.set_cons_zero, List.set_cons_succ] at hS); (try simp only [Act.put, List.setIfInBounds_toArray, List.set_cons_zero, List.set_cons_succ])) | (refine wl_strC rfl rfl rfl rfl hS rfl rfl ?_; intro _ hS; (try simp only [evT, evC, List.getD_cons_succ, List.getD_cons_zero, List.set_cons_zero, List.set_cons_succ] at hS); (try simp only [Act.put, List.setIfInBounds_toArray, List.set_cons_zero, List.set_cons_succ])))
  go_ret
  exact ⟨rfl, hS.to⟩
end
end Go.Tk

set_option linter.unusedSectionVars false
set_option linter.unusedSimpArgs false
set_option linter.unusedVariables false
namespace Go.Tk
open Go.RowKit Go.Proofs

theorem ba_app (a b : ByteArray) : (a ++ b).data.toList = a.data.toList ++ b.data.toList := by
  rw [ByteArray.data_append]; simp
theorem join_snoc (a : List (List UInt8)) (x : List UInt8) (h : a ≠ []) : Lib.join (a ++ [x]) [47] = Lib.join a [47] ++ [47] ++ x := by
  cases a with
  | nil => exact absurd rfl h
  | cons y r => rw [List.cons_append, Lib.join_cons, Lib.join_cons]; simp [Lib.joinTail]
theorem joinB_succ {l : List ByteArray} {i : Nat} {x : ByteArray} (hx : l[i]? = some x) (hi : 0 < i) : joinB (l.take (i + 1)) = (joinB (l.take i) ++ slash) ++ x := by
  apply ba_ext
  rw [List.take_add_one, hx]
  simp only [Option.toList_some]
  have hne : (l.take i).map (fun s : ByteArray => s.data.toList) ≠ [] := by
    have := (List.getElem?_eq_some_iff.1 hx).1
    intro h
    have h2 := congrArg List.length h
    simp only [List.length_map, List.length_take, List.length_nil] at h2
    omega
  unfold joinB
  rw [List.map_append, List.map_cons, List.map_nil, data_mkB, join_snoc _ _ hne]
  rw [ba_app, ba_app]
theorem joinB_one {l : List ByteArray} {x : ByteArray} (hx : l[0]? = some x) : joinB (l.take 1) = x := by
  cases l with
  | nil => simp at hx
  | cons y r =>
    simp only [List.getElem?_cons_zero, Option.some.injEq] at hx
    subst hx
    apply ba_ext
    unfold joinB
    simp [Lib.join_one]
section
variable {B : Base} {R H H1 : HL} {w w' : World}
structure TxSt where
  i : Nat
  t : ByteArray
def TxI (B : Base) (R : HL) (l : List ByteArray) (x : TxSt) (w : World) : Prop := x.i ≤ l.length ∧ x.t = joinB (l.take x.i) ∧ Sh B R w
set_option maxRecDepth 100000 in
set_option maxHeartbeats 1600000 in
theorem Text_any (hS : Sh B R w) {A : Option Addr} {cap : Nat} {l : List ByteArray} [r : RdAt strE B R A l] (hl : l.length ≤ 16777216) (hj : (joinB l).size ≤ 16777216) :
    Calls Tryz.prog 69 #[.slice A l.length cap] w fun e w' => e = .returned (.string (joinB l)) ∧ Sh B R w' := by
  have Hj := Lib.hid hj
  clear hj
  go_enter Tryz.func69, Tryz.ntmps69
  go_wp2
  have h0 : TxI B R l ⟨0, ⟨#[]⟩⟩ _ := ⟨Nat.zero_le _, rfl, hS⟩
  clear hS
  refine wp_loopS [3, 4] [5, 6, 7, 8, 9, 10, 11, 12, 13, 14, 15, 16, 17, 18, 19, 20] (fun x : TxSt => [.string x.t, .int .i64 x.i]) (TxI B R l) (fun x => l.length - x.i) (⟨0, ⟨#[]⟩⟩) rfl (h0) ?_
  clear h0
  rintro ⟨i, t⟩ J w ⟨hi, ht, hS⟩
  dsimp only at hi ht hS
  have Ht := Lib.hid ht
  clear ht
  (simp only [Frm, setsT, junkT, List.setIfInBounds_toArray, List.set_cons_zero, List.set_cons_succ])
  by_cases hlt : i < l.length
  · obtain ⟨x, gx⟩ := Nth.of hlt
    have htx : t.size ≤ 16777216 := by rw [Ht.out]; exact Nat.le_trans (joinB_take_le l i) Hj.out
    have hxx : x.size ≤ 16777216 := by
      have h1 := joinB_take_le l (i + 1)
      have h2 := Hj.out
      by_cases hi0 : i = 0
      · subst hi0; rw [Nat.zero_add, joinB_one gx.get] at h1; omega
      · rw [joinB_succ gx.get (by omega), ba_size ((joinB (l.take i) ++ slash) ++ x), ba_app, List.length_append, ← ba_size x] at h1; omega
    by_cases hi0 : i = 0
    · subst hi0
      have hz : ¬ 9223372036854775807 < t.size + x.size := by omega
      have Hn := Lib.hid (show t ++ x = joinB (l.take (0 + 1)) by rw [Ht.out, Nat.zero_add, joinB_one gx.get]; apply ba_ext; rw [ba_app]; rfl)
      go_wp2_with (first | (refine wl_isld rfl ?_; ((refine wl_value rfl (ex_l0 hS rfl rfl rfl rfl) ?_); (try simp only [Act.put, List.setIfInBounds_toArray, List.set_cons_zero, List.set_cons_succ]))) | ((refine wl_value rfl (ex_ix hS rfl rfl rfl ?_) ?_); (focus (rfl)); (try simp only [Act.put, List.setIfInBounds_toArray, List.set_cons_zero, List.set_cons_succ])))
      (refine ⟨((⟨0 + 1, t ++ x⟩ : TxSt)), (⟨hlt, Hn.out, hS⟩), (by (try dsimp only); omega), rfl, (by (simp only [blankT, junkT, List.cons_append, List.nil_append, List.setIfInBounds_toArray, List.set_cons_zero, List.set_cons_succ])), rfl⟩)
    · have d1 : decide ((0 : Int) < (i : Int)) = true := decide_eq_true (by omega)
      have d2 : decide (0 < i) = true := decide_eq_true (by omega)
      have hts : (t ++ slash).size = t.size + 1 := by rw [ba_size, ba_app, List.length_append, ← ba_size t]; rfl
      have hz : ¬ 9223372036854775807 < t.size + slash.size := by show ¬ 9223372036854775807 < t.size + 1; omega
      have hz1 : ¬ 9223372036854775807 < t.size + 1 := by omega
      have hz2 : ¬ 9223372036854775807 < (t ++ slash).size + x.size := by omega
      have Hn := Lib.hid (show (t ++ slash) ++ x = joinB (l.take (i + 1)) by rw [Ht.out, joinB_succ gx.get (by omega)])
      clear hts hi0
      go_wp2_with (first | (refine wl_isld rfl ?_; ((refine wl_value rfl (ex_l0 hS rfl rfl rfl rfl) ?_); (try simp only [Act.put, List.setIfInBounds_toArray, List.set_cons_zero, List.set_cons_succ]))) | ((refine wl_value rfl (ex_ix hS rfl rfl rfl ?_) ?_); (focus (rfl)); (try simp only [Act.put, List.setIfInBounds_toArray, List.set_cons_zero, List.set_cons_succ])))
      (refine ⟨((⟨i + 1, (t ++ slash) ++ x⟩ : TxSt)), (⟨hlt, Hn.out, hS⟩), (by (try dsimp only); omega), rfl, (by (simp only [blankT, junkT, List.cons_append, List.nil_append, List.setIfInBounds_toArray, List.set_cons_zero, List.set_cons_succ])), rfl⟩)
  · have He := Lib.hid (show t = joinB l by rw [Ht.out, List.take_of_length_le (by omega)])
    go_wp2_with (fail)
    go_ret
    exact ⟨by rw [← He.out]; rfl, hS⟩
def commonN : List ByteArray → List ByteArray → Nat
  | a :: l, b :: m => if a = b then commonN l m + 1 else 0
  | _, _ => 0
theorem cmpS_0 {a b : ByteArray} : cmpS a b = 0 ↔ a = b := by
  unfold cmpS
  constructor
  · intro h
    split at h
    · cases h
    · split at h
      · rename_i h2
        have h3 : a.toList = b.toList := by simpa using h2
        rw [ByteArray.toList_eq a, ByteArray.toList_eq b] at h3
        exact ba_ext h3
      · cases h
  · rintro rfl
    have : ltS a a = false := by unfold ltS; rw [bytesLess_eq]; simp
    rw [this]
    simp
theorem cmpS_ne {a b : ByteArray} (h : ¬ a = b) : cmpS a b = if ltS a b then -1 else 1 := by
  unfold cmpS
  have h2 : (a.toList == b.toList) = false := beq_no (fun e => h (by rw [ByteArray.toList_eq a, ByteArray.toList_eq b] at e; exact ba_ext e))
  rw [h2]
  simp
theorem cmpL_common : ∀ (x y : List ByteArray), cmpL x y = (if commonN x y = x.length ∧ commonN x y = y.length then 0 else if commonN x y = x.length then -1 else if commonN x y = y.length then 1 else
    if ltS (x.getD (commonN x y) ⟨#[]⟩) (y.getD (commonN x y) ⟨#[]⟩) then -1 else 1)
  | [], [] => by simp [cmpL, commonN]
  | [], b :: m => by simp [cmpL, commonN]
  | a :: l, [] => by simp [cmpL, commonN]
  | a :: l, b :: m => by
    by_cases h : a = b
    · have hc : commonN (a :: l) (b :: m) = commonN l m + 1 := by conv => lhs; unfold commonN; rw [if_pos h]
      rw [hc]
      unfold cmpL
      rw [if_pos (cmpS_0.2 h), cmpL_common l m]
      simp
    · have hc : commonN (a :: l) (b :: m) = 0 := by unfold commonN; rw [if_neg h]
      rw [hc]
      unfold cmpL
      rw [if_neg (fun e => h (cmpS_0.1 e)), cmpS_ne h]
      simp
theorem commonN_le : ∀ (x y : List ByteArray), commonN x y ≤ x.length ∧ commonN x y ≤ y.length
  | [], [] => by simp [commonN]
  | [], b :: m => by simp [commonN]
  | a :: l, [] => by simp [commonN]
  | a :: l, b :: m => by
    unfold commonN
    split
    · have := commonN_le l m; simp; omega
    · simp
theorem commonN_r (l : List ByteArray) : commonN l [] = 0 := by cases l <;> rfl
theorem commonN_l (l : List ByteArray) : commonN [] l = 0 := by cases l <;> rfl
def CmI (B : Base) (R : HL) (x y : List ByteArray) (i : Nat) (w : World) : Prop := i ≤ x.length ∧ i ≤ y.length ∧ i + commonN (x.drop i) (y.drop i) = commonN x y ∧ Sh B R w
set_option maxRecDepth 100000 in
set_option maxHeartbeats 1600000 in
theorem Common_any (hS : Sh B R w) {A A2 : Option Addr} {cap cap2 : Nat} {x y : List ByteArray} [r : RdAt strE B R A x] [r2 : RdAt strE B R A2 y] (hl : x.length ≤ 1000000) (hl2 : y.length ≤ 1000000) :
    Calls Tryz.prog 95 #[.slice A x.length cap, .slice A2 y.length cap2] w fun e w' => e = .returned (.int .i64 (commonN x y : Nat)) ∧ Sh B R w' := by
  go_enter Tryz.func95, Tryz.ntmps95
  go_wp2
  have h0 : CmI B R x y 0 _ := ⟨Nat.zero_le _, Nat.zero_le _, by simp, hS⟩
  clear hS
  refine wp_loopS [5] [6, 7, 8, 9, 10, 11, 12, 13, 14, 15, 16, 17, 18, 19, 20, 21, 22, 23, 24, 25, 26, 27, 28] (fun i : Nat => [.int .i64 i]) (CmI B R x y) (fun i => x.length - i) ((0 : Nat)) rfl (h0) ?_
  clear h0
  rintro i J w ⟨hi, hi2, hc, hS⟩
  have Hc := Lib.hid hc
  clear hc
  (simp only [Frm, setsT, junkT, List.setIfInBounds_toArray, List.set_cons_zero, List.set_cons_succ])
  by_cases hlt : i < x.length
  · obtain ⟨u, gu⟩ := Nth.of hlt
    have d1 : decide ((i : Int) < (x.length : Int)) = true := decide_eq_true (by omega)
    have e1 : decide (i < x.length) = true := decide_eq_true hlt
    by_cases hlt2 : i < y.length
    · obtain ⟨v, gv⟩ := Nth.of hlt2
      have d2 : decide ((i : Int) < (y.length : Int)) = true := decide_eq_true (by omega)
      have e2 : decide (i < y.length) = true := decide_eq_true hlt2
      by_cases huv : u = v
      · subst huv
        have d3 : (u.toList == u.toList) = true := by simp
        have Hn := Lib.hid (show (i + 1) + commonN (x.drop (i + 1)) (y.drop (i + 1)) = commonN x y by
          have := Hc.out
          rw [gu.drop, gv.drop] at this
          rw [show commonN (u :: x.drop (i + 1)) (u :: y.drop (i + 1)) = commonN (x.drop (i + 1)) (y.drop (i + 1)) + 1 from by rw [commonN]; simp] at this
          omega)
        go_wp2
        (refine wp_drawnF hS [(0, true), (1, true), (2, true), (3, true), (4, true), (5, true), (6, true), (7, true), (8, true), (9, true), (10, true), (11, true), (12, true), (13, true), (14, true), (15, true), (16, true), (17, true), (18, true), (19, true), (20, true)] (by kernel_rfl) (by kernel_rfl) (by intro d _ _ _ _ h; cases d <;> exact h) ?_; have hS := hS.drew; simp only [picks_cons, picks_nil, opAt, List.toList_toArray]; (refine wpF_U (v := ?_) rfl ?_ (Sh.to hS) ?_; rotate_left; (focus (intro _ _; go_simp; (try (rw [wrap_i64]; (rotate_left; omega))); (try with_reducible rfl))); (try simp only [Act.put, List.setIfInBounds_toArray, List.set_cons_zero, List.set_cons_succ])); (refine wpF_U (v := ?_) rfl ?_ (Sh.to hS) ?_; rotate_left; (focus (intro _ _; go_simp; (try (rw [wrap_i64]; (rotate_left; omega))); (try with_reducible rfl))); (try simp only [Act.put, List.setIfInBounds_toArray, List.set_cons_zero, List.set_cons_succ])); (refine wpF_U (v := ?_) rfl ?_ (Sh.to hS) ?_; rotate_left; (focus (intro _ _; go_simp; (try (rw [wrap_i64]; (rotate_left; omega))); (try with_reducible rfl))); (try simp only [Act.put, List.setIfInBounds_toArray, List.set_cons_zero, List.set_cons_succ])); (refine wpF_U (v := ?_) rfl ?_ (Sh.to hS) ?_; rotate_left; (focus (intro _ _; go_simp; (try (rw [wrap_i64]; (rotate_left; omega))); (try with_reducible rfl))); (try simp only [Act.put, List.setIfInBounds_toArray, List.set_cons_zero, List.set_cons_succ])); (refine wpF_U (v := ?_) rfl ?_ (Sh.to hS) ?_; rotate_left; (focus (intro _ _; go_simp; (try (rw [wrap_i64]; (rotate_left; omega))); (try with_reducible rfl))); (try simp only [Act.put, List.setIfInBounds_toArray, List.set_cons_zero, List.set_cons_succ])); ((refine wpF_U (v := ?_) rfl ?_ (Sh.to hS) ?_; rotate_left; (focus (intro _ _; go_simp; (try (rw [wrap_i64]; (rotate_left; omega))); (try with_reducible rfl))); (try simp only [Act.put, List.setIfInBounds_toArray, List.set_cons_zero, List.set_cons_succ]))); ((refine wpF_U (v := ?_) rfl ?_ (Sh.to hS) ?_; rotate_left; (focus (intro _ _; go_simp; (try (rw [wrap_i64]; (rotate_left; omega))); (try with_reducible rfl))); (try simp only [Act.put, List.setIfInBounds_toArray, List.set_cons_zero, List.set_cons_succ]))); ((refine wpF_U (v := ?_) rfl ?_ (Sh.to hS) ?_; rotate_left; (focus (intro _ _; go_simp; (try (rw [wrap_i64]; (rotate_left; omega))); (try with_reducible rfl))); (try simp only [Act.put, List.setIfInBounds_toArray, List.set_cons_zero, List.set_cons_succ]))); ((refine wpF_U (v := ?_) rfl ?_ (Sh.to hS) ?_; rotate_left; (focus (intro _ _; go_simp; (try (rw [wrap_i64]; (rotate_left; omega))); (try with_reducible rfl))); (try simp only [Act.put, List.setIfInBounds_toArray, List.set_cons_zero, List.set_cons_succ]))); (refine wpF_U (v := ?_) rfl ?_ (Sh.to hS) ?_; rotate_left; (focus (intro _ _; go_simp; (try (rw [wrap_i64]; (rotate_left; omega))); (try with_reducible rfl))); (try simp only [Act.put, List.setIfInBounds_toArray, List.set_cons_zero, List.set_cons_succ])); (refine wpF_U (v := ?_) rfl ?_ (Sh.to hS) ?_; rotate_left; (focus (intro _ _; go_simp; (try (rw [wrap_i64]; (rotate_left; omega))); (try with_reducible rfl))); (try simp only [Act.put, List.setIfInBounds_toArray, List.set_cons_zero, List.set_cons_succ])); ((refine wpF_U (v := ?_) rfl ?_ (Sh.to hS) ?_; rotate_left; (focus (intro _ _; go_simp; (try (rw [wrap_i64]; (rotate_left; omega))); (try with_reducible rfl))); (try simp only [Act.put, List.setIfInBounds_toArray, List.set_cons_zero, List.set_cons_succ]))); ((refine wpF_U (v := ?_) rfl ?_ (Sh.to hS) ?_; rotate_left; (focus (intro _ _; go_simp; (try (rw [wrap_i64]; (rotate_left; omega))); (try with_reducible rfl))); (try simp only [Act.put, List.setIfInBounds_toArray, List.set_cons_zero, List.set_cons_succ]))); (((refine wpF_U rfl (fun _ hT => ex_ix hT rfl rfl rfl ?_) (Sh.to hS) ?_); (focus (rfl)); (try simp only [Act.put, List.setIfInBounds_toArray, List.set_cons_zero, List.set_cons_succ]))); (((refine wpF_U rfl (fun _ hT => ex_l0 hT rfl rfl rfl rfl) (Sh.to hS) ?_); (try simp only [Act.put, List.setIfInBounds_toArray, List.set_cons_zero, List.set_cons_succ]))); ((refine wpF_U (v := ?_) rfl ?_ (Sh.to hS) ?_; rotate_left; (focus (intro _ _; go_simp; (try (rw [wrap_i64]; (rotate_left; omega))); (try with_reducible rfl))); (try simp only [Act.put, List.setIfInBounds_toArray, List.set_cons_zero, List.set_cons_succ]))); ((refine wpF_U (v := ?_) rfl ?_ (Sh.to hS) ?_; rotate_left; (focus (intro _ _; go_simp; (try (rw [wrap_i64]; (rotate_left; omega))); (try with_reducible rfl))); (try simp only [Act.put, List.setIfInBounds_toArray, List.set_cons_zero, List.set_cons_succ]))); (((refine wpF_U rfl (fun _ hT => ex_ix hT rfl rfl rfl ?_) (Sh.to hS) ?_); (focus (rfl)); (try simp only [Act.put, List.setIfInBounds_toArray, List.set_cons_zero, List.set_cons_succ]))); (((refine wpF_U rfl (fun _ hT => ex_l0 hT rfl rfl rfl rfl) (Sh.to hS) ?_); (try simp only [Act.put, List.setIfInBounds_toArray, List.set_cons_zero, List.set_cons_succ]))); ((refine wpF_U (v := ?_) rfl ?_ (Sh.to hS) ?_; rotate_left; (focus (intro _ _; go_simp; (try (rw [wrap_i64]; (rotate_left; omega))); (try with_reducible rfl))); (try simp only [Act.put, List.setIfInBounds_toArray, List.set_cons_zero, List.set_cons_succ]))); (refine wpF_U (v := ?_) rfl ?_ (Sh.to hS) ?_; rotate_left; (focus (intro _ _; go_simp; (try (rw [wrap_i64]; (rotate_left; omega))); (try with_reducible rfl))); (try simp only [Act.put, List.setIfInBounds_toArray, List.set_cons_zero, List.set_cons_succ])); ((refine wpF_done (by assumption) ?_)))
        go_wp2_with (fail)
        (refine ⟨((i + 1 : Nat)), (⟨hlt, hlt2, Hn.out, hS⟩), (by (try dsimp only); omega), rfl, (by (simp only [blankT, junkT, List.cons_append, List.nil_append, List.setIfInBounds_toArray, List.set_cons_zero, List.set_cons_succ])), rfl⟩)
      · have d3 : (u.toList == v.toList) = false := beq_no (fun e => huv (by rw [ByteArray.toList_eq u, ByteArray.toList_eq v] at e; exact ba_ext e))
        have Hn := Lib.hid (show commonN x y = i by
          have := Hc.out
          rw [gu.drop, gv.drop, commonN, if_neg huv] at this
          omega)
        clear huv
        go_wp2
        (refine wp_drawnF hS [(0, true), (1, true), (2, true), (3, true), (4, true), (5, true), (6, true), (7, true), (8, true), (9, true), (10, true), (11, true), (12, true), (13, true), (14, true), (15, true), (16, true), (17, true), (18, true), (19, true), (20, true)] (by kernel_rfl) (by kernel_rfl) (by intro d _ _ _ _ h; cases d <;> exact h) ?_; have hS := hS.drew; simp only [picks_cons, picks_nil, opAt, List.toList_toArray]; (refine wpF_U (v := ?_) rfl ?_ (Sh.to hS) ?_; rotate_left; (focus (intro _ _; go_simp; (try (rw [wrap_i64]; (rotate_left; omega))); (try with_reducible rfl))); (try simp only [Act.put, List.setIfInBounds_toArray, List.set_cons_zero, List.set_cons_succ])); (refine wpF_U (v := ?_) rfl ?_ (Sh.to hS) ?_; rotate_left; (focus (intro _ _; go_simp; (try (rw [wrap_i64]; (rotate_left; omega))); (try with_reducible rfl))); (try simp only [Act.put, List.setIfInBounds_toArray, List.set_cons_zero, List.set_cons_succ])); (refine wpF_U (v := ?_) rfl ?_ (Sh.to hS) ?_; rotate_left; (focus (intro _ _; go_simp; (try (rw [wrap_i64]; (rotate_left; omega))); (try with_reducible rfl))); (try simp only [Act.put, List.setIfInBounds_toArray, List.set_cons_zero, List.set_cons_succ])); (refine wpF_U (v := ?_) rfl ?_ (Sh.to hS) ?_; rotate_left; (focus (intro _ _; go_simp; (try (rw [wrap_i64]; (rotate_left; omega))); (try with_reducible rfl))); (try simp only [Act.put, List.setIfInBounds_toArray, List.set_cons_zero, List.set_cons_succ])); (refine wpF_U (v := ?_) rfl ?_ (Sh.to hS) ?_; rotate_left; (focus (intro _ _; go_simp; (try (rw [wrap_i64]; (rotate_left; omega))); (try with_reducible rfl))); (try simp only [Act.put, List.setIfInBounds_toArray, List.set_cons_zero, List.set_cons_succ])); ((refine wpF_U (v := ?_) rfl ?_ (Sh.to hS) ?_; rotate_left; (focus (intro _ _; go_simp; (try (rw [wrap_i64]; (rotate_left; omega))); (try with_reducible rfl))); (try simp only [Act.put, List.setIfInBounds_toArray, List.set_cons_zero, List.set_cons_succ]))); ((refine wpF_U (v := ?_) rfl ?_ (Sh.to hS) ?_; rotate_left; (focus (intro _ _; go_simp; (try (rw [wrap_i64]; (rotate_left; omega))); (try with_reducible rfl))); (try simp only [Act.put, List.setIfInBounds_toArray, List.set_cons_zero, List.set_cons_succ]))); ((refine wpF_U (v := ?_) rfl ?_ (Sh.to hS) ?_; rotate_left; (focus (intro _ _; go_simp; (try (rw [wrap_i64]; (rotate_left; omega))); (try with_reducible rfl))); (try simp only [Act.put, List.setIfInBounds_toArray, List.set_cons_zero, List.set_cons_succ]))); ((refine wpF_U (v := ?_) rfl ?_ (Sh.to hS) ?_; rotate_left; (focus (intro _ _; go_simp; (try (rw [wrap_i64]; (rotate_left; omega))); (try with_reducible rfl))); (try simp only [Act.put, List.setIfInBounds_toArray, List.set_cons_zero, List.set_cons_succ]))); (refine wpF_U (v := ?_) rfl ?_ (Sh.to hS) ?_; rotate_left; (focus (intro _ _; go_simp; (try (rw [wrap_i64]; (rotate_left; omega))); (try with_reducible rfl))); (try simp only [Act.put, List.setIfInBounds_toArray, List.set_cons_zero, List.set_cons_succ])); (refine wpF_U (v := ?_) rfl ?_ (Sh.to hS) ?_; rotate_left; (focus (intro _ _; go_simp; (try (rw [wrap_i64]; (rotate_left; omega))); (try with_reducible rfl))); (try simp only [Act.put, List.setIfInBounds_toArray, List.set_cons_zero, List.set_cons_succ])); ((refine wpF_U (v := ?_) rfl ?_ (Sh.to hS) ?_; rotate_left; (focus (intro _ _; go_simp; (try (rw [wrap_i64]; (rotate_left; omega))); (try with_reducible rfl))); (try simp only [Act.put, List.setIfInBounds_toArray, List.set_cons_zero, List.set_cons_succ]))); ((refine wpF_U (v := ?_) rfl ?_ (Sh.to hS) ?_; rotate_left; (focus (intro _ _; go_simp; (try (rw [wrap_i64]; (rotate_left; omega))); (try with_reducible rfl))); (try simp only [Act.put, List.setIfInBounds_toArray, List.set_cons_zero, List.set_cons_succ]))); (((refine wpF_U rfl (fun _ hT => ex_ix hT rfl rfl rfl ?_) (Sh.to hS) ?_); (focus (rfl)); (try simp only [Act.put, List.setIfInBounds_toArray, List.set_cons_zero, List.set_cons_succ]))); (((refine wpF_U rfl (fun _ hT => ex_l0 hT rfl rfl rfl rfl) (Sh.to hS) ?_); (try simp only [Act.put, List.setIfInBounds_toArray, List.set_cons_zero, List.set_cons_succ]))); ((refine wpF_U (v := ?_) rfl ?_ (Sh.to hS) ?_; rotate_left; (focus (intro _ _; go_simp; (try (rw [wrap_i64]; (rotate_left; omega))); (try with_reducible rfl))); (try simp only [Act.put, List.setIfInBounds_toArray, List.set_cons_zero, List.set_cons_succ]))); ((refine wpF_U (v := ?_) rfl ?_ (Sh.to hS) ?_; rotate_left; (focus (intro _ _; go_simp; (try (rw [wrap_i64]; (rotate_left; omega))); (try with_reducible rfl))); (try simp only [Act.put, List.setIfInBounds_toArray, List.set_cons_zero, List.set_cons_succ]))); (((refine wpF_U rfl (fun _ hT => ex_ix hT rfl rfl rfl ?_) (Sh.to hS) ?_); (focus (rfl)); (try simp only [Act.put, List.setIfInBounds_toArray, List.set_cons_zero, List.set_cons_succ]))); (((refine wpF_U rfl (fun _ hT => ex_l0 hT rfl rfl rfl rfl) (Sh.to hS) ?_); (try simp only [Act.put, List.setIfInBounds_toArray, List.set_cons_zero, List.set_cons_succ]))); ((refine wpF_U (v := ?_) rfl ?_ (Sh.to hS) ?_; rotate_left; (focus (intro _ _; go_simp; (try (rw [wrap_i64]; (rotate_left; omega))); (try with_reducible rfl))); (try simp only [Act.put, List.setIfInBounds_toArray, List.set_cons_zero, List.set_cons_succ]))); (refine wpF_U (v := ?_) rfl ?_ (Sh.to hS) ?_; rotate_left; (focus (intro _ _; go_simp; (try (rw [wrap_i64]; (rotate_left; omega))); (try with_reducible rfl))); (try simp only [Act.put, List.setIfInBounds_toArray, List.set_cons_zero, List.set_cons_succ])); ((refine wpF_done (by assumption) ?_)))
        go_wp2_with (fail)
        go_ret
        exact ⟨by rw [Hn.out]; rfl, hS⟩
    · have d2 : decide ((i : Int) < (y.length : Int)) = false := decide_eq_false (by omega)
      have e2 : decide (i < y.length) = false := decide_eq_false hlt2
      have Hn := Lib.hid (show commonN x y = i by
          have := Hc.out
          rw [gu.drop, List.drop_eq_nil_of_le (by omega : y.length ≤ i), commonN_r] at this
          omega)
      go_wp2
      (refine wp_drawnF hS [(0, true), (1, true), (2, true), (3, true), (4, true), (5, true), (6, true), (7, true), (8, true), (9, true), (10, true), (11, true), (12, true), (13, true), (14, true), (15, true), (16, true), (17, true), (18, true), (19, true), (20, true)] (by kernel_rfl) (by kernel_rfl) (by intro d _ _ _ _ h; cases d <;> exact h) ?_; have hS := hS.drew; simp only [picks_cons, picks_nil, opAt, List.toList_toArray]; (refine wpF_U (v := ?_) rfl ?_ (Sh.to hS) ?_; rotate_left; (focus (intro _ _; go_simp; (try (rw [wrap_i64]; (rotate_left; omega))); (try with_reducible rfl))); (try simp only [Act.put, List.setIfInBounds_toArray, List.set_cons_zero, List.set_cons_succ])); (refine wpF_U (v := ?_) rfl ?_ (Sh.to hS) ?_; rotate_left; (focus (intro _ _; go_simp; (try (rw [wrap_i64]; (rotate_left; omega))); (try with_reducible rfl))); (try simp only [Act.put, List.setIfInBounds_toArray, List.set_cons_zero, List.set_cons_succ])); (refine wpF_U (v := ?_) rfl ?_ (Sh.to hS) ?_; rotate_left; (focus (intro _ _; go_simp; (try (rw [wrap_i64]; (rotate_left; omega))); (try with_reducible rfl))); (try simp only [Act.put, List.setIfInBounds_toArray, List.set_cons_zero, List.set_cons_succ])); (refine wpF_U (v := ?_) rfl ?_ (Sh.to hS) ?_; rotate_left; (focus (intro _ _; go_simp; (try (rw [wrap_i64]; (rotate_left; omega))); (try with_reducible rfl))); (try simp only [Act.put, List.setIfInBounds_toArray, List.set_cons_zero, List.set_cons_succ])); (refine wpF_U (v := ?_) rfl ?_ (Sh.to hS) ?_; rotate_left; (focus (intro _ _; go_simp; (try (rw [wrap_i64]; (rotate_left; omega))); (try with_reducible rfl))); (try simp only [Act.put, List.setIfInBounds_toArray, List.set_cons_zero, List.set_cons_succ])); ((refine wpF_U (v := ?_) rfl ?_ (Sh.to hS) ?_; rotate_left; (focus (intro _ _; go_simp; (try (rw [wrap_i64]; (rotate_left; omega))); (try with_reducible rfl))); (try simp only [Act.put, List.setIfInBounds_toArray, List.set_cons_zero, List.set_cons_succ]))); ((refine wpF_U (v := ?_) rfl ?_ (Sh.to hS) ?_; rotate_left; (focus (intro _ _; go_simp; (try (rw [wrap_i64]; (rotate_left; omega))); (try with_reducible rfl))); (try simp only [Act.put, List.setIfInBounds_toArray, List.set_cons_zero, List.set_cons_succ]))); ((refine wpF_U (v := ?_) rfl ?_ (Sh.to hS) ?_; rotate_left; (focus (intro _ _; go_simp; (try (rw [wrap_i64]; (rotate_left; omega))); (try with_reducible rfl))); (try simp only [Act.put, List.setIfInBounds_toArray, List.set_cons_zero, List.set_cons_succ]))); ((refine wpF_U (v := ?_) rfl ?_ (Sh.to hS) ?_; rotate_left; (focus (intro _ _; go_simp; (try (rw [wrap_i64]; (rotate_left; omega))); (try with_reducible rfl))); (try simp only [Act.put, List.setIfInBounds_toArray, List.set_cons_zero, List.set_cons_succ]))); (refine wpF_U (v := ?_) rfl ?_ (Sh.to hS) ?_; rotate_left; (focus (intro _ _; go_simp; (try (rw [wrap_i64]; (rotate_left; omega))); (try with_reducible rfl))); (try simp only [Act.put, List.setIfInBounds_toArray, List.set_cons_zero, List.set_cons_succ])); (refine wpF_U (v := ?_) rfl ?_ (Sh.to hS) ?_; rotate_left; (focus (intro _ _; go_simp; (try (rw [wrap_i64]; (rotate_left; omega))); (try with_reducible rfl))); (try simp only [Act.put, List.setIfInBounds_toArray, List.set_cons_zero, List.set_cons_succ])); ((refine wpF_not rfl (Sh.to hS) ?_; (try simp only [Act.put, List.setIfInBounds_toArray, List.set_cons_zero, List.set_cons_succ]))); ((refine wpF_not rfl (Sh.to hS) ?_; (try simp only [Act.put, List.setIfInBounds_toArray, List.set_cons_zero, List.set_cons_succ]))); ((refine wpF_not rfl (Sh.to hS) ?_; (try simp only [Act.put, List.setIfInBounds_toArray, List.set_cons_zero, List.set_cons_succ]))); ((refine wpF_not rfl (Sh.to hS) ?_; (try simp only [Act.put, List.setIfInBounds_toArray, List.set_cons_zero, List.set_cons_succ]))); ((refine wpF_not rfl (Sh.to hS) ?_; (try simp only [Act.put, List.setIfInBounds_toArray, List.set_cons_zero, List.set_cons_succ]))); ((refine wpF_not rfl (Sh.to hS) ?_; (try simp only [Act.put, List.setIfInBounds_toArray, List.set_cons_zero, List.set_cons_succ]))); ((refine wpF_not rfl (Sh.to hS) ?_; (try simp only [Act.put, List.setIfInBounds_toArray, List.set_cons_zero, List.set_cons_succ]))); ((refine wpF_not rfl (Sh.to hS) ?_; (try simp only [Act.put, List.setIfInBounds_toArray, List.set_cons_zero, List.set_cons_succ]))); ((refine wpF_not rfl (Sh.to hS) ?_; (try simp only [Act.put, List.setIfInBounds_toArray, List.set_cons_zero, List.set_cons_succ]))); (refine wpF_U (v := ?_) rfl ?_ (Sh.to hS) ?_; rotate_left; (focus (intro _ _; go_simp; (try (rw [wrap_i64]; (rotate_left; omega))); (try with_reducible rfl))); (try simp only [Act.put, List.setIfInBounds_toArray, List.set_cons_zero, List.set_cons_succ])); ((refine wpF_done (by assumption) ?_)))
      go_wp2_with (fail)
      go_ret
      exact ⟨by rw [Hn.out]; rfl, hS⟩
  · have d1 : decide ((i : Int) < (x.length : Int)) = false := decide_eq_false (by omega)
    have e1 : decide (i < x.length) = false := decide_eq_false hlt
    have Hn := Lib.hid (show commonN x y = i by
          have := Hc.out
          rw [List.drop_eq_nil_of_le (by omega : x.length ≤ i), commonN_l] at this
          omega)
    go_wp2
    (refine wp_drawnF hS [(0, true), (1, true), (2, true), (3, true), (4, true), (5, true), (6, true), (7, true), (8, true), (9, true), (10, true), (11, true), (12, true), (13, true), (14, true), (15, true), (16, true), (17, true), (18, true), (19, true), (20, true)] (by kernel_rfl) (by kernel_rfl) (by intro d _ _ _ _ h; cases d <;> exact h) ?_; have hS := hS.drew; simp only [picks_cons, picks_nil, opAt, List.toList_toArray]; (refine wpF_U (v := ?_) rfl ?_ (Sh.to hS) ?_; rotate_left; (focus (intro _ _; go_simp; (try (rw [wrap_i64]; (rotate_left; omega))); (try with_reducible rfl))); (try simp only [Act.put, List.setIfInBounds_toArray, List.set_cons_zero, List.set_cons_succ])); (refine wpF_U (v := ?_) rfl ?_ (Sh.to hS) ?_; rotate_left; (focus (intro _ _; go_simp; (try (rw [wrap_i64]; (rotate_left; omega))); (try with_reducible rfl))); (try simp only [Act.put, List.setIfInBounds_toArray, List.set_cons_zero, List.set_cons_succ])); (refine wpF_U (v := ?_) rfl ?_ (Sh.to hS) ?_; rotate_left; (focus (intro _ _; go_simp; (try (rw [wrap_i64]; (rotate_left; omega))); (try with_reducible rfl))); (try simp only [Act.put, List.setIfInBounds_toArray, List.set_cons_zero, List.set_cons_succ])); (refine wpF_U (v := ?_) rfl ?_ (Sh.to hS) ?_; rotate_left; (focus (intro _ _; go_simp; (try (rw [wrap_i64]; (rotate_left; omega))); (try with_reducible rfl))); (try simp only [Act.put, List.setIfInBounds_toArray, List.set_cons_zero, List.set_cons_succ])); (refine wpF_U (v := ?_) rfl ?_ (Sh.to hS) ?_; rotate_left; (focus (intro _ _; go_simp; (try (rw [wrap_i64]; (rotate_left; omega))); (try with_reducible rfl))); (try simp only [Act.put, List.setIfInBounds_toArray, List.set_cons_zero, List.set_cons_succ])); ((refine wpF_not rfl (Sh.to hS) ?_; (try simp only [Act.put, List.setIfInBounds_toArray, List.set_cons_zero, List.set_cons_succ]))); ((refine wpF_not rfl (Sh.to hS) ?_; (try simp only [Act.put, List.setIfInBounds_toArray, List.set_cons_zero, List.set_cons_succ]))); ((refine wpF_not rfl (Sh.to hS) ?_; (try simp only [Act.put, List.setIfInBounds_toArray, List.set_cons_zero, List.set_cons_succ]))); ((refine wpF_not rfl (Sh.to hS) ?_; (try simp only [Act.put, List.setIfInBounds_toArray, List.set_cons_zero, List.set_cons_succ]))); (refine wpF_U (v := ?_) rfl ?_ (Sh.to hS) ?_; rotate_left; (focus (intro _ _; go_simp; (try (rw [wrap_i64]; (rotate_left; omega))); (try with_reducible rfl))); (try simp only [Act.put, List.setIfInBounds_toArray, List.set_cons_zero, List.set_cons_succ])); (refine wpF_U (v := ?_) rfl ?_ (Sh.to hS) ?_; rotate_left; (focus (intro _ _; go_simp; (try (rw [wrap_i64]; (rotate_left; omega))); (try with_reducible rfl))); (try simp only [Act.put, List.setIfInBounds_toArray, List.set_cons_zero, List.set_cons_succ])); ((refine wpF_not rfl (Sh.to hS) ?_; (try simp only [Act.put, List.setIfInBounds_toArray, List.set_cons_zero, List.set_cons_succ]))); ((refine wpF_not rfl (Sh.to hS) ?_; (try simp only [Act.put, List.setIfInBounds_toArray, List.set_cons_zero, List.set_cons_succ]))); ((refine wpF_not rfl (Sh.to hS) ?_; (try simp only [Act.put, List.setIfInBounds_toArray, List.set_cons_zero, List.set_cons_succ]))); ((refine wpF_not rfl (Sh.to hS) ?_; (try simp only [Act.put, List.setIfInBounds_toArray, List.set_cons_zero, List.set_cons_succ]))); ((refine wpF_not rfl (Sh.to hS) ?_; (try simp only [Act.put, List.setIfInBounds_toArray, List.set_cons_zero, List.set_cons_succ]))); ((refine wpF_not rfl (Sh.to hS) ?_; (try simp only [Act.put, List.setIfInBounds_toArray, List.set_cons_zero, List.set_cons_succ]))); ((refine wpF_not rfl (Sh.to hS) ?_; (try simp only [Act.put, List.setIfInBounds_toArray, List.set_cons_zero, List.set_cons_succ]))); ((refine wpF_not rfl (Sh.to hS) ?_; (try simp only [Act.put, List.setIfInBounds_toArray, List.set_cons_zero, List.set_cons_succ]))); ((refine wpF_not rfl (Sh.to hS) ?_; (try simp only [Act.put, List.setIfInBounds_toArray, List.set_cons_zero, List.set_cons_succ]))); (refine wpF_U (v := ?_) rfl ?_ (Sh.to hS) ?_; rotate_left; (focus (intro _ _; go_simp; (try (rw [wrap_i64]; (rotate_left; omega))); (try with_reducible rfl))); (try simp only [Act.put, List.setIfInBounds_toArray, List.set_cons_zero, List.set_cons_succ])); ((refine wpF_done (by assumption) ?_)))
    go_wp2_with (fail)
    go_ret
    exact ⟨by rw [Hn.out]; rfl, hS⟩
end
end Go.Tk

set_option linter.unusedSectionVars false
set_option linter.unusedSimpArgs false
set_option linter.unusedVariables false
namespace Go.Tk
open Go.RowKit Go.Proofs

section
variable {B : Base} {R H H1 : HL} {w w' : World}
theorem okP_errB {a b : ByteArray} : (okP a = true ∧ okP b = true ∧ errB a b = 0) ∨ ((okP a = false ∨ (okP a = true ∧ okP b = false)) ∧ errB a b = 45 ∧ lessI a b = 0) := by
  unfold okP errB lessI
  cases namesB a with
  | none => right; exact ⟨.inl rfl, rfl, rfl⟩
  | some x =>
    cases namesB b with
    | none => right; exact ⟨.inr ⟨rfl, rfl⟩, rfl, rfl⟩
    | some y => left; exact ⟨rfl, rfl, rfl⟩
set_option maxRecDepth 100000 in
set_option maxHeartbeats 1600000 in
theorem CompareR_any (hS : Sh B R w) (a b : ByteArray) (ha : a.size ≤ 16777216) (hb : b.size ≤ 16777216) : Calls Tryz.prog 72 #[.string a, .string b] w fun e w' => e = .returned (.tuple #[.int .i64 (lessI a b), .int .i64 (errB a b)]) ∧ Sh B R w' := by
  have h1 := fun (w : World) (R : HL) (hS : Sh B R w) => NamesR_any hS a ha
  have h2 := fun (w : World) (R : HL) (hS : Sh B R w) => NamesR_any hS b hb
  have hxl := namesL_len a
  have hyl := namesL_len b
  rcases okP_errB (a := a) (b := b) with ⟨oa, ob, he⟩ | ⟨ho, he, hle⟩
  · obtain ⟨x, y, hx, hy⟩ := errB_0 he
    have hnx := (names_some hx).1
    have hny := (names_some hy).1
    have hab : lessI a b = cmpL x y := by unfold lessI; rw [hx, hy]
    unfold NamesRP at h1 h2
    rw [hnx, oa] at h1
    rw [hny, ob] at h2
    rw [hnx] at hxl
    rw [hny] at hyl
    rw [hab, he]
    have hcm := cmpL_common x y
    have hcn := commonN_le x y
    have hcc := fun (w : World) (R : HL) (A A2 : Option Addr) (cap cap2 : Nat) (hS : Sh B R w) (r : RdAt strE B R A x) (r2 : RdAt strE B R A2 y) => Common_any hS (cap := cap) (cap2 := cap2) (x := x) (y := y) (r := r) (r2 := r2) (by omega) (by omega)
    obtain ⟨n, hn⟩ : ∃ n, commonN x y = n := ⟨_, rfl⟩
    rw [hn] at hcm hcn hcc
    clear hnx hny hab hx hy he oa ob hn
    by_cases c1 : n = x.length
    · by_cases c2 : n = y.length
      · rw [if_pos ⟨c1, c2⟩] at hcm
        have d1 : ((n : Int) == (x.length : Int)) = true := by simp [c1]
        have d2 : ((n : Int) == (y.length : Int)) = true := by simp [c2]
        have e1 : (n == x.length) = true := by simp [c1]
        have e2 : (n == y.length) = true := by simp [c2]
        rw [hcm]
        clear c1 c2 hcm
        go_enter Tryz.func72, Tryz.ntmps72
        go_wp2_with fail
        refine (h1 _ _ hS).mono ?_
        rintro e w' ⟨A, sp, c, rfl, hO, hS⟩
        dsimp only
        go_wp2_with fail
        refine (h2 _ _ hS).mono ?_
        rintro e w' ⟨A2, sp2, c2, rfl, hO2, hS⟩
        dsimp only
        go_wp2_with ((go_at_call 95; refine ((hcc _ _ _ _ _ _ hS inferInstance inferInstance)).mono ?_; rintro e w' (⟨rfl, hS⟩)))
        go_ret2
        exact ⟨rfl, hS.to⟩
      · rw [if_neg (fun h => c2 h.2), if_pos c1] at hcm
        have d1 : ((n : Int) == (x.length : Int)) = true := by simp [c1]
        have d2 : ((n : Int) == (y.length : Int)) = false := beq_no (by omega)
        have e1 : (n == x.length) = true := by simp [c1]
        have e2 : (n == y.length) = false := beq_no c2
        rw [hcm]
        clear c1 c2 hcm
        go_enter Tryz.func72, Tryz.ntmps72
        go_wp2_with fail
        refine (h1 _ _ hS).mono ?_
        rintro e w' ⟨A, sp, c, rfl, hO, hS⟩
        dsimp only
        go_wp2_with fail
        refine (h2 _ _ hS).mono ?_
        rintro e w' ⟨A2, sp2, c2, rfl, hO2, hS⟩
        dsimp only
        go_wp2_with ((go_at_call 95; refine ((hcc _ _ _ _ _ _ hS inferInstance inferInstance)).mono ?_; rintro e w' (⟨rfl, hS⟩)))
        go_ret2
        exact ⟨rfl, hS.to⟩
    · have d1 : ((n : Int) == (x.length : Int)) = false := beq_no (by omega)
      have e1 : (n == x.length) = false := beq_no c1
      by_cases c2 : n = y.length
      · rw [if_neg (fun h => c1 h.1), if_neg c1, if_pos c2] at hcm
        have d2 : ((n : Int) == (y.length : Int)) = true := by simp [c2]
        have e2 : (n == y.length) = true := by simp [c2]
        rw [hcm]
        clear c1 c2 hcm
        go_enter Tryz.func72, Tryz.ntmps72
        go_wp2_with fail
        refine (h1 _ _ hS).mono ?_
        rintro e w' ⟨A, sp, c, rfl, hO, hS⟩
        dsimp only
        go_wp2_with fail
        refine (h2 _ _ hS).mono ?_
        rintro e w' ⟨A2, sp2, c2, rfl, hO2, hS⟩
        dsimp only
        go_wp2_with ((go_at_call 95; refine ((hcc _ _ _ _ _ _ hS inferInstance inferInstance)).mono ?_; rintro e w' (⟨rfl, hS⟩)))
        go_ret2
        exact ⟨rfl, hS.to⟩
      · rw [if_neg (fun h => c1 h.1), if_neg c1, if_neg c2] at hcm
        have d2 : ((n : Int) == (y.length : Int)) = false := beq_no (by omega)
        have e2 : (n == y.length) = false := beq_no c2
        obtain ⟨u, gu⟩ := Nth.of (xs := x) (j := n) (by omega)
        obtain ⟨v, gv⟩ := Nth.of (xs := y) (j := n) (by omega)
        rw [List.getD_eq_getElem?_getD, List.getD_eq_getElem?_getD, gu.get, gv.get] at hcm
        simp only [Option.getD_some] at hcm
        cases huv : ltS u v with
        | true =>
          rw [if_pos huv] at hcm
          have d3 : Op.bytesLess u.toList v.toList = true := huv
          rw [hcm]
          clear c1 c2 hcm huv
          go_enter Tryz.func72, Tryz.ntmps72
          go_wp2_with fail
          refine (h1 _ _ hS).mono ?_
          rintro e w' ⟨A, sp, c, rfl, hO, hS⟩
          dsimp only
          go_wp2_with fail
          refine (h2 _ _ hS).mono ?_
          rintro e w' ⟨A2, sp2, c2, rfl, hO2, hS⟩
          dsimp only
          go_wp2_with ((go_at_call 95; refine ((hcc _ _ _ _ _ _ hS inferInstance inferInstance)).mono ?_; rintro e w' (⟨rfl, hS⟩)))
          (refine wp_drawnF hS [(0, true), (1, true), (2, true), (3, true), (4, true), (5, true), (6, true), (7, true), (8, true), (9, true)] (by kernel_rfl) (by kernel_rfl) (by intro d _ _ _ _ h; cases d <;> exact h) ?_; have hS := hS.drew; simp only [picks_cons, picks_nil, opAt, List.toList_toArray]; (refine wpF_U (v := ?_) rfl ?_ (Sh.to hS) ?_; rotate_left; (focus (intro _ _; go_simp; (try (rw [wrap_i64]; (rotate_left; omega))); (try with_reducible rfl))); (try simp only [Act.put, List.setIfInBounds_toArray, List.set_cons_zero, List.set_cons_succ])); (refine wpF_U (v := ?_) rfl ?_ (Sh.to hS) ?_; rotate_left; (focus (intro _ _; go_simp; (try (rw [wrap_i64]; (rotate_left; omega))); (try with_reducible rfl))); (try simp only [Act.put, List.setIfInBounds_toArray, List.set_cons_zero, List.set_cons_succ])); ((refine wpF_U rfl (fun _ hT => ex_ix hT rfl rfl rfl ?_) (Sh.to hS) ?_); (focus (rfl)); (try simp only [Act.put, List.setIfInBounds_toArray, List.set_cons_zero, List.set_cons_succ])); ((refine wpF_U rfl (fun _ hT => ex_l0 hT rfl rfl rfl rfl) (Sh.to hS) ?_); (try simp only [Act.put, List.setIfInBounds_toArray, List.set_cons_zero, List.set_cons_succ])); (refine wpF_U (v := ?_) rfl ?_ (Sh.to hS) ?_; rotate_left; (focus (intro _ _; go_simp; (try (rw [wrap_i64]; (rotate_left; omega))); (try with_reducible rfl))); (try simp only [Act.put, List.setIfInBounds_toArray, List.set_cons_zero, List.set_cons_succ])); (refine wpF_U (v := ?_) rfl ?_ (Sh.to hS) ?_; rotate_left; (focus (intro _ _; go_simp; (try (rw [wrap_i64]; (rotate_left; omega))); (try with_reducible rfl))); (try simp only [Act.put, List.setIfInBounds_toArray, List.set_cons_zero, List.set_cons_succ])); ((refine wpF_U rfl (fun _ hT => ex_ix hT rfl rfl rfl ?_) (Sh.to hS) ?_); (focus (rfl)); (try simp only [Act.put, List.setIfInBounds_toArray, List.set_cons_zero, List.set_cons_succ])); ((refine wpF_U rfl (fun _ hT => ex_l0 hT rfl rfl rfl rfl) (Sh.to hS) ?_); (try simp only [Act.put, List.setIfInBounds_toArray, List.set_cons_zero, List.set_cons_succ])); (refine wpF_U (v := ?_) rfl ?_ (Sh.to hS) ?_; rotate_left; (focus (intro _ _; go_simp; (try (rw [wrap_i64]; (rotate_left; omega))); (try with_reducible rfl))); (try simp only [Act.put, List.setIfInBounds_toArray, List.set_cons_zero, List.set_cons_succ])); (refine wpF_U (v := ?_) rfl ?_ (Sh.to hS) ?_; rotate_left; (focus (intro _ _; go_simp; (try (rw [wrap_i64]; (rotate_left; omega))); (try with_reducible rfl))); (try simp only [Act.put, List.setIfInBounds_toArray, List.set_cons_zero, List.set_cons_succ])); ((refine wpF_done (by assumption) ?_)))
          go_wp2_with (fail)
          go_ret2
          exact ⟨rfl, hS.to⟩
        | false =>
          rw [if_neg (by rw [huv]; simp)] at hcm
          have d3 : Op.bytesLess u.toList v.toList = false := huv
          rw [hcm]
          clear c1 c2 hcm huv
          go_enter Tryz.func72, Tryz.ntmps72
          go_wp2_with fail
          refine (h1 _ _ hS).mono ?_
          rintro e w' ⟨A, sp, c, rfl, hO, hS⟩
          dsimp only
          go_wp2_with fail
          refine (h2 _ _ hS).mono ?_
          rintro e w' ⟨A2, sp2, c2, rfl, hO2, hS⟩
          dsimp only
          go_wp2_with ((go_at_call 95; refine ((hcc _ _ _ _ _ _ hS inferInstance inferInstance)).mono ?_; rintro e w' (⟨rfl, hS⟩)))
          (refine wp_drawnF hS [(0, true), (1, true), (2, true), (3, true), (4, true), (5, true), (6, true), (7, true), (8, true), (9, true)] (by kernel_rfl) (by kernel_rfl) (by intro d _ _ _ _ h; cases d <;> exact h) ?_; have hS := hS.drew; simp only [picks_cons, picks_nil, opAt, List.toList_toArray]; (refine wpF_U (v := ?_) rfl ?_ (Sh.to hS) ?_; rotate_left; (focus (intro _ _; go_simp; (try (rw [wrap_i64]; (rotate_left; omega))); (try with_reducible rfl))); (try simp only [Act.put, List.setIfInBounds_toArray, List.set_cons_zero, List.set_cons_succ])); (refine wpF_U (v := ?_) rfl ?_ (Sh.to hS) ?_; rotate_left; (focus (intro _ _; go_simp; (try (rw [wrap_i64]; (rotate_left; omega))); (try with_reducible rfl))); (try simp only [Act.put, List.setIfInBounds_toArray, List.set_cons_zero, List.set_cons_succ])); ((refine wpF_U rfl (fun _ hT => ex_ix hT rfl rfl rfl ?_) (Sh.to hS) ?_); (focus (rfl)); (try simp only [Act.put, List.setIfInBounds_toArray, List.set_cons_zero, List.set_cons_succ])); ((refine wpF_U rfl (fun _ hT => ex_l0 hT rfl rfl rfl rfl) (Sh.to hS) ?_); (try simp only [Act.put, List.setIfInBounds_toArray, List.set_cons_zero, List.set_cons_succ])); (refine wpF_U (v := ?_) rfl ?_ (Sh.to hS) ?_; rotate_left; (focus (intro _ _; go_simp; (try (rw [wrap_i64]; (rotate_left; omega))); (try with_reducible rfl))); (try simp only [Act.put, List.setIfInBounds_toArray, List.set_cons_zero, List.set_cons_succ])); (refine wpF_U (v := ?_) rfl ?_ (Sh.to hS) ?_; rotate_left; (focus (intro _ _; go_simp; (try (rw [wrap_i64]; (rotate_left; omega))); (try with_reducible rfl))); (try simp only [Act.put, List.setIfInBounds_toArray, List.set_cons_zero, List.set_cons_succ])); ((refine wpF_U rfl (fun _ hT => ex_ix hT rfl rfl rfl ?_) (Sh.to hS) ?_); (focus (rfl)); (try simp only [Act.put, List.setIfInBounds_toArray, List.set_cons_zero, List.set_cons_succ])); ((refine wpF_U rfl (fun _ hT => ex_l0 hT rfl rfl rfl rfl) (Sh.to hS) ?_); (try simp only [Act.put, List.setIfInBounds_toArray, List.set_cons_zero, List.set_cons_succ])); (refine wpF_U (v := ?_) rfl ?_ (Sh.to hS) ?_; rotate_left; (focus (intro _ _; go_simp; (try (rw [wrap_i64]; (rotate_left; omega))); (try with_reducible rfl))); (try simp only [Act.put, List.setIfInBounds_toArray, List.set_cons_zero, List.set_cons_succ])); (refine wpF_U (v := ?_) rfl ?_ (Sh.to hS) ?_; rotate_left; (focus (intro _ _; go_simp; (try (rw [wrap_i64]; (rotate_left; omega))); (try with_reducible rfl))); (try simp only [Act.put, List.setIfInBounds_toArray, List.set_cons_zero, List.set_cons_succ])); ((refine wpF_done (by assumption) ?_)))
          go_wp2_with (fail)
          go_ret2
          exact ⟨rfl, hS.to⟩
  · rw [he, hle]
    unfold NamesRP at h1 h2
    rcases ho with o1 | ⟨o1, o2⟩
    · rw [o1] at h1
      clear he hle o1
      go_enter Tryz.func72, Tryz.ntmps72
      go_wp2_with fail
      refine (h1 _ _ hS).mono ?_
      rintro e w' ⟨A, sp, c, rfl, hO, hS⟩
      dsimp only
      go_wp2_with fail
      refine (h2 _ _ hS).mono ?_
      rintro e w' ⟨A2, sp2, c2, rfl, hO2, hS⟩
      dsimp only
      go_wp2_with (fail)
      go_ret2
      exact ⟨rfl, hS.to⟩
    · rw [o1] at h1
      rw [o2] at h2
      clear he hle o1 o2
      go_enter Tryz.func72, Tryz.ntmps72
      go_wp2_with fail
      refine (h1 _ _ hS).mono ?_
      rintro e w' ⟨A, sp, c, rfl, hO, hS⟩
      dsimp only
      go_wp2_with fail
      refine (h2 _ _ hS).mono ?_
      rintro e w' ⟨A2, sp2, c2, rfl, hO2, hS⟩
      dsimp only
      go_wp2_with (fail)
      go_ret2
      exact ⟨rfl, hS.to⟩
set_option maxRecDepth 100000 in
set_option maxHeartbeats 800000 in
theorem SplitR_any (hS : Sh B R w) (a : ByteArray) (ha : a.size ≤ 16777216) : Calls Tryz.prog 53 #[.string a] w fun e w' => e = .returned (SplitV (splitP a)) ∧ Sh B R w' := by
  have h1 := fun (w : World) (R : HL) (hS : Sh B R w) => NamesR_any hS a ha
  cases hn : namesB a with
  | none =>
    have Hs := Lib.hid (show splitP a = (⟨#[]⟩, ⟨#[]⟩, 45) by unfold splitP; rw [hn])
    unfold NamesRP at h1
    rw [(namesR_none hn).1, (namesR_none hn).2] at h1
    clear hn
    go_enter Tryz.func53, Tryz.ntmps53
    go_wp2_with fail
    refine (h1 _ _ hS).mono ?_
    rintro e w' ⟨A, sp, c, rfl, hO, hS⟩
    dsimp only
    go_wp2_with (fail)
    refine bodyPost_res (rs := ([.tmp 2, .tmp 3, .tmp 4])) rfl ((.tmp (.tmp (.tmp .nil)))) rfl ?_
    rw [Hs.out]
    exact ⟨rfl, hS.to⟩
  | some l =>
    unfold NamesRP at h1
    rw [(namesR_some hn).1, (namesR_some hn).2] at h1
    have hll := namesL_len a
    rw [(names_some hn).1] at hll
    by_cases hl0 : l = []
    · subst hl0
      have Hs := Lib.hid (show splitP a = (⟨#[]⟩, ⟨#[]⟩, 46) by unfold splitP; rw [hn]; rfl)
      clear hn
      go_enter Tryz.func53, Tryz.ntmps53
      go_wp2_with fail
      refine (h1 _ _ hS).mono ?_
      rintro e w' ⟨A, sp, c, rfl, hO, hS⟩
      dsimp only
      go_wp2_with (fail)
      refine bodyPost_res (rs := ([.tmp 2, .tmp 3, .tmp 4])) rfl ((.tmp (.tmp (.tmp .nil)))) rfl ?_
      rw [Hs.out]
      exact ⟨rfl, hS.to⟩
    · obtain ⟨n, hnl⟩ : ∃ n, l.length = n + 1 := ⟨l.length - 1, by have := List.length_pos_iff.2 hl0; omega⟩
      have gx : Nth l n (l.getLast hl0) := ⟨by rw [List.getLast_eq_getElem]; simp only [hnl, Nat.add_sub_cancel]; exact List.getElem?_eq_getElem (by omega)⟩
      obtain ⟨x, hx⟩ : ∃ x, l.getLast hl0 = x := ⟨_, rfl⟩
      rw [hx] at gx
      have Hs := Lib.hid (show splitP a = (joinB (l.take n), x, 0) by unfold splitP; rw [hn]; dsimp only; rw [dif_neg hl0, hx, List.dropLast_eq_take, hnl]; rfl)
      have hjs : (joinB (l.take n)).size ≤ 16777216 := Nat.le_trans (joinB_take_le l n) (by rw [(namesL_join hn).1]; exact ha)
      have hj := fun (w : World) (R : HL) (A : Option Addr) (cap : Nat) (hS : Sh B R w) (r : RdAt strE B R A (l.take n)) => Text_any hS (cap := cap) (l := l.take n) (r := r) (by rw [List.length_take]; omega) hjs
      rw [show (l.take n).length = n by rw [List.length_take]; omega] at hj
      have hw : IntKind.i64.wrap ((l.length : Int) - 1) = (n : Int) := by rw [wrap_i64 (by omega)]; omega
      have hw2 : (l.length : Int) - 1 = (n : Int) := by omega
      have d1 : ((l.length : Int) == 0) = false := beq_no (by omega)
      have e1 : (l.length == 0) = false := beq_no (by omega)
      clear hn hl0 hx
      go_enter Tryz.func53, Tryz.ntmps53
      go_wp2_with fail
      refine (h1 _ _ hS).mono ?_
      rintro e w' ⟨A, sp, c, rfl, hO, hS⟩
      dsimp only
      have hle : n ≤ c := by have := hO.len_le; omega
      have hrt := Lib.hid (show RdAt strE B (rowA A (flat strE l ++ sp) 9 ++ R) A (l.take n) from RdAt.take inferInstance _)
      go_wp2
      (refine wp_drawnF hS [(0, true), (1, true), (2, true), (3, true), (4, true), (6, true), (7, true), (8, true), (9, true), (10, true), (11, true), (5, false), (12, true), (13, true), (14, true)] (by kernel_rfl) (by kernel_rfl) (by intro d _ _ _ _ h; cases d <;> exact h) ?_; have hS := hS.drew; simp only [picks_cons, picks_nil, opAt, List.toList_toArray]; (refine wpF_U (v := ?_) rfl ?_ (Sh.to hS) ?_; rotate_left; (focus (intro _ _; go_simp; (try (rw [wrap_i64]; (rotate_left; omega))); (try with_reducible rfl))); (try simp only [Act.put, List.setIfInBounds_toArray, List.set_cons_zero, List.set_cons_succ])); (refine wpF_U (v := ?_) rfl ?_ (Sh.to hS) ?_; rotate_left; (focus (intro _ _; go_simp; (try (rw [wrap_i64]; (rotate_left; omega))); (try with_reducible rfl))); (try simp only [Act.put, List.setIfInBounds_toArray, List.set_cons_zero, List.set_cons_succ])); (refine wpF_U (v := ?_) rfl ?_ (Sh.to hS) ?_; rotate_left; (focus (intro _ _; go_simp; (try (rw [wrap_i64]; (rotate_left; omega))); (try with_reducible rfl))); (try simp only [Act.put, List.setIfInBounds_toArray, List.set_cons_zero, List.set_cons_succ])); ((refine wpF_U (v := ?_) rfl ?_ (Sh.to hS) ?_; rotate_left; (focus (intro _ _; go_simp; (try (rw [wrap_i64]; (rotate_left; omega))); (try with_reducible rfl))); (try simp only [Act.put, List.setIfInBounds_toArray, List.set_cons_zero, List.set_cons_succ]))); ((refine wpF_U rfl (fun _ hT => (ex_cutH rfl rfl rfl hle)) (Sh.to hS) ?_; (try simp only [Act.put, List.setIfInBounds_toArray, List.set_cons_zero, List.set_cons_succ]))); (refine wpF_U (v := ?_) rfl ?_ (Sh.to hS) ?_; rotate_left; (focus (intro _ _; go_simp; (try (rw [wrap_i64]; (rotate_left; omega))); (try with_reducible rfl))); (try simp only [Act.put, List.setIfInBounds_toArray, List.set_cons_zero, List.set_cons_succ])); (refine wpF_U (v := ?_) rfl ?_ (Sh.to hS) ?_; rotate_left; (focus (intro _ _; go_simp; (try (rw [wrap_i64]; (rotate_left; omega))); (try with_reducible rfl))); (try simp only [Act.put, List.setIfInBounds_toArray, List.set_cons_zero, List.set_cons_succ])); (refine wpF_U (v := ?_) rfl ?_ (Sh.to hS) ?_; rotate_left; (focus (intro _ _; go_simp; (try (rw [wrap_i64]; (rotate_left; omega))); (try with_reducible rfl))); (try simp only [Act.put, List.setIfInBounds_toArray, List.set_cons_zero, List.set_cons_succ])); ((refine wpF_U (v := ?_) rfl ?_ (Sh.to hS) ?_; rotate_left; (focus (intro _ _; go_simp; (try (rw [wrap_i64]; (rotate_left; omega))); (try with_reducible rfl))); (try simp only [Act.put, List.setIfInBounds_toArray, List.set_cons_zero, List.set_cons_succ]))); ((refine wpF_U rfl (fun _ hT => ex_ix hT rfl rfl rfl ?_) (Sh.to hS) ?_); (focus (omega)); (try simp only [Act.put, List.setIfInBounds_toArray, List.set_cons_zero, List.set_cons_succ])); ((refine wpF_U rfl (fun _ hT => ex_l0 hT rfl rfl rfl rfl) (Sh.to hS) ?_); (try simp only [Act.put, List.setIfInBounds_toArray, List.set_cons_zero, List.set_cons_succ])); (refine wpF_ex ?_); go_wp2_with ((go_at_call 69; refine ((hj _ _ _ _ hS hrt.out)).mono ?_; rintro e w' (⟨rfl, hS⟩))); (refine ⟨?_, ?_⟩; (focus ((refine Or.inr ?_; exact Sh.to hS)))); (refine wpF_U (v := ?_) rfl ?_ (Sh.to hS) ?_; rotate_left; (focus (intro _ _; go_simp; (try (rw [wrap_i64]; (rotate_left; omega))); (try with_reducible rfl))); (try simp only [Act.put, List.setIfInBounds_toArray, List.set_cons_zero, List.set_cons_succ])); (refine wpF_U (v := ?_) rfl ?_ (Sh.to hS) ?_; rotate_left; (focus (intro _ _; go_simp; (try (rw [wrap_i64]; (rotate_left; omega))); (try with_reducible rfl))); (try simp only [Act.put, List.setIfInBounds_toArray, List.set_cons_zero, List.set_cons_succ])); (refine wpF_U (v := ?_) rfl ?_ (Sh.to hS) ?_; rotate_left; (focus (intro _ _; go_simp; (try (rw [wrap_i64]; (rotate_left; omega))); (try with_reducible rfl))); (try simp only [Act.put, List.setIfInBounds_toArray, List.set_cons_zero, List.set_cons_succ])); ((refine wpF_done (by assumption) ?_)))
      go_wp2_with (fail)
      refine bodyPost_res (rs := ([.tmp 2, .tmp 3, .tmp 4])) rfl ((.tmp (.tmp (.tmp .nil)))) rfl ?_
      rw [Hs.out]
      exact ⟨rfl, hS.to⟩
def upP (s : ByteArray) : ByteArray := (splitP s).1
set_option maxRecDepth 100000 in
theorem Up_any [HasML B] [NoDraw B] (hS : Sh B R w) (s : ByteArray) (hs : s.size ≤ 16777216) : Calls Tryz.prog 40 #[.string s] w fun e w' => e = .returned (.string (upP s)) ∧ Sh B R w' := by
  have hn := fun (w : World) (R : HL) (hS : Sh B R w) => SplitP_any hS s hs
  unfold SplitV at hn
  go_enter Tryz.func40, Tryz.ntmps40
  go_wp2_with ((go_at_call 51; refine ((hn _ _ hS)).mono ?_; rintro e w' (⟨rfl, hS⟩)))
  go_ret
  exact ⟨rfl, hS.to⟩
set_option maxRecDepth 100000 in
theorem UpR_any (hS : Sh B R w) (s : ByteArray) (hs : s.size ≤ 16777216) : Calls Tryz.prog 30 #[.string s] w fun e w' => e = .returned (.string (upP s)) ∧ Sh B R w' := by
  have hn := fun (w : World) (R : HL) (hS : Sh B R w) => SplitR_any hS s hs
  unfold SplitV at hn
  go_enter Tryz.func30, Tryz.ntmps30
  go_wp2_with ((go_at_call 53; refine ((hn _ _ hS)).mono ?_; rintro e w' (⟨rfl, hS⟩)))
  go_ret
  exact ⟨rfl, hS.to⟩
set_option maxRecDepth 100000 in
theorem Less_any [HasML B] (hS : Sh B R w) (a b : ByteArray) (ha : a.size ≤ 16777216) (hb : b.size ≤ 16777216) : Calls Tryz.prog 56 #[.string a, .string b] w fun e w' => e = .returned (.int .i64 (lessI a b)) ∧ Sh B R w' := by
  have hn := fun (w : World) (R : HL) (hS : Sh B R w) => Compare_any hS a b ha hb
  go_enter Tryz.func56, Tryz.ntmps56
  go_wp2_with ((go_at_call 71; refine ((hn _ _ hS)).mono ?_; rintro e w' (⟨rfl, hS⟩)))
  go_ret
  exact ⟨rfl, hS.to⟩
set_option maxRecDepth 100000 in
theorem LessR_any (hS : Sh B R w) (a b : ByteArray) (ha : a.size ≤ 16777216) (hb : b.size ≤ 16777216) : Calls Tryz.prog 57 #[.string a, .string b] w fun e w' => e = .returned (.bool (decide (lessI a b < 0))) ∧ Sh B R w' := by
  have hn := fun (w : World) (R : HL) (hS : Sh B R w) => CompareR_any hS a b ha hb
  go_enter Tryz.func57, Tryz.ntmps57
  go_wp2_with ((go_at_call 72; refine ((hn _ _ hS)).mono ?_; rintro e w' (⟨rfl, hS⟩)))
  go_ret
  exact ⟨rfl, hS.to⟩
end
end Go.Tk

set_option linter.unusedSectionVars false
set_option linter.unusedSimpArgs false
set_option linter.unusedVariables false
namespace Go.Tk
open Go.RowKit Go.Proofs

structure En where
  path : ByteArray
  kind : Int
  data : ByteArray
deriving DecidableEq
def En.cells (x : En) : List Value := [.string x.path, .int .i64 x.kind, .string x.data]
def enE : Enc En := {
  val x := .agg x.cells.toArray
  cells := En.cells
  valc _ := rfl
  k := 3
  pos := by decide
  len _ := rfl
  one x := by intro v hv; simp only [En.cells, List.mem_cons, List.not_mem_nil, or_false] at hv; rcases hv with rfl | rfl | rfl <;> rfl }
instance (x : En) : CellAt (enE.cells x) 0 (.string x.path) := ⟨rfl⟩
instance (x : En) : CellAt (enE.cells x) 1 (.int .i64 x.kind) := ⟨rfl⟩
instance (x : En) : CellAt (enE.cells x) 2 (.string x.data) := ⟨rfl⟩
instance (x : En) : CellAt x.cells 0 (.string x.path) := ⟨rfl⟩
instance (x : En) : CellAt x.cells 1 (.int .i64 x.kind) := ⟨rfl⟩
instance (x : En) : CellAt x.cells 2 (.string x.data) := ⟨rfl⟩
instance (x : En) : RowOk x.cells 3 := ⟨rfl, enE.one x⟩
def mayB (e : En) : Bool :=
  okP e.path && !decide (e.path.size = 0) && (if e.kind = 1 then decide (e.data.size ≤ 65536) else if e.kind = 2 then decide (e.data.size = 0) else if e.kind = 3 then decide (1 ≤ e.data.size) && decide (e.data.size ≤ 4096) else false)
theorem empty_iff (s : ByteArray) : s.toList.isEmpty = decide (s.size = 0) := by
  rw [ByteArray.toList_eq s, ba_size s]
  generalize s.data.toList = l
  cases l <;> simp
theorem empty_prop (s : ByteArray) : s.toList = [] ↔ s.size = 0 := by
  rw [ByteArray.toList_eq s, ba_size s]
  generalize s.data.toList = l
  cases l <;> simp
theorem errN_ok (s : ByteArray) : errN s = if okP s then 0 else 45 := rfl
section
variable {B : Base} {R H H1 : HL} {w w' : World}
theorem may_cases (e : En) {G : Prop} (h0 : e.path.size = 0 → mayB e = false → G) (h1 : e.path.size ≠ 0 → okP e.path = false → mayB e = false → G)
    (h2 : e.path.size ≠ 0 → okP e.path = true → (e.kind = 1 ∧ mayB e = decide (e.data.size ≤ 65536)) ∨ (e.kind ≠ 1 ∧ e.kind = 2 ∧ mayB e = decide (e.data.size = 0)) ∨ (e.kind ≠ 1 ∧ e.kind ≠ 2 ∧ e.kind = 3 ∧ mayB e = (decide (1 ≤ e.data.size) && decide (e.data.size ≤ 4096))) ∨ (e.kind ≠ 1 ∧ e.kind ≠ 2 ∧ e.kind ≠ 3 ∧ mayB e = false) → G) : G := by
  by_cases p0 : e.path.size = 0
  · exact h0 p0 (by unfold mayB; simp [p0])
  cases ok : okP e.path with
  | false => exact h1 p0 ok (by unfold mayB; simp [ok])
  | true =>
    refine h2 p0 ok ?_
    unfold mayB
    by_cases k1 : e.kind = 1
    · left; simp [ok, p0, k1]
    · by_cases k2 : e.kind = 2
      · right; left; simp [ok, p0, k2]
      · by_cases k3 : e.kind = 3
        · right; right; left; simp [ok, p0, k3]
        · right; right; right; simp [k1, k2, k3]
set_option maxRecDepth 100000 in
set_option maxHeartbeats 1600000 in
theorem May_any [HasML B] (hS : Sh B R w) (e : En) (hp : e.path.size ≤ 16777216) : Calls Tryz.prog 38 #[.agg e.cells.toArray] w fun e' w' => e' = .returned (.bool (mayB e)) ∧ Sh B R w' := by
  have hck := fun (w : World) (R : HL) (hS : Sh B R w) => Check_any hS e.path hp
  rw [errN_ok] at hck
  refine may_cases e (fun p0 hm => ?_) (fun p0 ok hm => ?_) (fun p0 ok hm => ?_)
  · have d0 : e.path.toList = [] := (empty_prop _).2 p0
    have d1 : e.path.toList.isEmpty = true := by rw [empty_iff]; simp [p0]
    rw [hm]
    clear p0 hm hck
    go_enter Tryz.func38, Tryz.ntmps38
    go_wp2_with (first | (refine wl_box rfl rfl rfl rfl hS ?_; intro eb _ hS; (try simp only [Act.put, List.setIfInBounds_toArray, List.set_cons_zero, List.set_cons_succ])) | (refine wl_isld rfl ?_; ((first | refine wl_value rfl (ex_l0 hS rfl rfl rfl CellAt.out) ?_ | refine wl_value rfl (ex_lf hS rfl rfl rfl CellAt.out) ?_ | refine wl_value rfl (ex_l1 hS rfl rfl rfl CellAt.out) ?_ | refine wl_value rfl (ex_ldC hS rfl rfl CellAt.out) ?_ | refine wl_value rfl (ex_l0 hS rfl rfl rfl rfl) ?_ | refine wl_value rfl (ex_lf hS rfl rfl rfl rfl) ?_ | refine wl_value rfl (ex_l1 hS rfl rfl rfl rfl) ?_ | refine wl_value rfl (ex_ldC hS rfl rfl rfl) ?_ | refine wl_value rfl (ex_l00 hS rfl rfl CellAt.out) ?_ | refine wl_value rfl (ex_l00 hS rfl rfl rfl) ?_ | refine wl_value rfl (ex_l0f hS rfl rfl CellAt.out) ?_ | refine wl_value rfl (ex_l0f hS rfl rfl rfl) ?_ | refine wl_value rfl (ex_lr hS rfl rfl rfl rfl) ?_ | refine wl_value rfl (ex_lr0 hS rfl rfl rfl) ?_ | refine wl_value rfl (ex_lrz hS rfl rfl rfl) ?_ | refine wl_value rfl (ex_lrf hS rfl rfl rfl) ?_ | refine wl_value rfl (ex_ldrC hS rfl rfl) ?_ | refine wl_value rfl (ex_ldr0 hS rfl rfl rfl) ?_); (try simp only [Act.put, List.setIfInBounds_toArray, List.set_cons_zero, List.set_cons_succ]))) | ((first | refine wl_value rfl (ex_ix hS rfl rfl rfl ?_) ?_); (focus (first | rfl | omega | (simp; done))); (try simp only [Act.put, List.setIfInBounds_toArray, List.set_cons_zero, List.set_cons_succ])) | ((first | refine wl_value rfl (ex_eqA rfl rfl rfl) ?_ | refine wl_value rfl (ex_neA rfl rfl rfl) ?_); (try simp only [Act.put, List.setIfInBounds_toArray, List.set_cons_zero, List.set_cons_succ])) | (refine wl_alloc rfl rfl hS ?_; intro _ _ hS; (try simp only [Act.put, List.setIfInBounds_toArray, List.set_cons_zero, List.set_cons_succ])) | (refine wl_box rfl rfl rfl rfl hS ?_; intro _ _ hS; (try simp only [Act.put, List.setIfInBounds_toArray, List.set_cons_zero, List.set_cons_succ])) | (refine wl_st rfl rfl rfl rfl rfl hS (of_decide_eq_true rfl) ?_; intro _ hS; (try simp only [evT, evC, List.getD_cons_succ, List.getD_cons_zero, List.set_cons_zero, List.set_cons_succ] at hS); (try simp only [List.set_cons_zero, List.set_cons_succ] at hS); (try simp only [Act.put, List.setIfInBounds_toArray, List.set_cons_zero, List.set_cons_succ])) | (refine wl_strC rfl rfl rfl rfl hS rfl rfl ?_; intro _ hS; (try simp only [evT, evC, List.getD_cons_succ, List.getD_cons_zero, List.set_cons_zero, List.set_cons_succ] at hS); (try simp only [Act.put, List.setIfInBounds_toArray, List.set_cons_zero, List.set_cons_succ])))
    go_ret
    exact ⟨rfl, hS.to⟩
  · have d0 : ¬ e.path.toList = [] := fun h => p0 ((empty_prop _).1 h)
    have d1 : e.path.toList.isEmpty = false := by rw [empty_iff]; simp [p0]
    rw [ok] at hck
    rw [hm]
    clear p0 hm ok
    go_enter Tryz.func38, Tryz.ntmps38
    go_wp2_with (first | (refine wl_box rfl rfl rfl rfl hS ?_; intro eb _ hS; (try simp only [Act.put, List.setIfInBounds_toArray, List.set_cons_zero, List.set_cons_succ])) | (go_at_call 45; refine ((hck _ _ hS)).mono ?_; rintro e w' (⟨rfl, hS⟩)) | (refine wl_isld rfl ?_; ((first | refine wl_value rfl (ex_l0 hS rfl rfl rfl CellAt.out) ?_ | refine wl_value rfl (ex_lf hS rfl rfl rfl CellAt.out) ?_ | refine wl_value rfl (ex_l1 hS rfl rfl rfl CellAt.out) ?_ | refine wl_value rfl (ex_ldC hS rfl rfl CellAt.out) ?_ | refine wl_value rfl (ex_l0 hS rfl rfl rfl rfl) ?_ | refine wl_value rfl (ex_lf hS rfl rfl rfl rfl) ?_ | refine wl_value rfl (ex_l1 hS rfl rfl rfl rfl) ?_ | refine wl_value rfl (ex_ldC hS rfl rfl rfl) ?_ | refine wl_value rfl (ex_l00 hS rfl rfl CellAt.out) ?_ | refine wl_value rfl (ex_l00 hS rfl rfl rfl) ?_ | refine wl_value rfl (ex_l0f hS rfl rfl CellAt.out) ?_ | refine wl_value rfl (ex_l0f hS rfl rfl rfl) ?_ | refine wl_value rfl (ex_lr hS rfl rfl rfl rfl) ?_ | refine wl_value rfl (ex_lr0 hS rfl rfl rfl) ?_ | refine wl_value rfl (ex_lrz hS rfl rfl rfl) ?_ | refine wl_value rfl (ex_lrf hS rfl rfl rfl) ?_ | refine wl_value rfl (ex_ldrC hS rfl rfl) ?_ | refine wl_value rfl (ex_ldr0 hS rfl rfl rfl) ?_); (try simp only [Act.put, List.setIfInBounds_toArray, List.set_cons_zero, List.set_cons_succ]))) | ((first | refine wl_value rfl (ex_ix hS rfl rfl rfl ?_) ?_); (focus (first | rfl | omega | (simp; done))); (try simp only [Act.put, List.setIfInBounds_toArray, List.set_cons_zero, List.set_cons_succ])) | ((first | refine wl_value rfl (ex_eqA rfl rfl rfl) ?_ | refine wl_value rfl (ex_neA rfl rfl rfl) ?_); (try simp only [Act.put, List.setIfInBounds_toArray, List.set_cons_zero, List.set_cons_succ])) | (refine wl_alloc rfl rfl hS ?_; intro _ _ hS; (try simp only [Act.put, List.setIfInBounds_toArray, List.set_cons_zero, List.set_cons_succ])) | (refine wl_box rfl rfl rfl rfl hS ?_; intro _ _ hS; (try simp only [Act.put, List.setIfInBounds_toArray, List.set_cons_zero, List.set_cons_succ])) | (refine wl_st rfl rfl rfl rfl rfl hS (of_decide_eq_true rfl) ?_; intro _ hS; (try simp only [evT, evC, List.getD_cons_succ, List.getD_cons_zero, List.set_cons_zero, List.set_cons_succ] at hS); (try simp only [List.set_cons_zero, List.set_cons_succ] at hS); (try simp only [Act.put, List.setIfInBounds_toArray, List.set_cons_zero, List.set_cons_succ])) | (refine wl_strC rfl rfl rfl rfl hS rfl rfl ?_; intro _ hS; (try simp only [evT, evC, List.getD_cons_succ, List.getD_cons_zero, List.set_cons_zero, List.set_cons_succ] at hS); (try simp only [Act.put, List.setIfInBounds_toArray, List.set_cons_zero, List.set_cons_succ])))
    go_ret
    exact ⟨rfl, hS.to⟩
  · have d0 : ¬ e.path.toList = [] := fun h => p0 ((empty_prop _).1 h)
    have d1 : e.path.toList.isEmpty = false := by rw [empty_iff]; simp [p0]
    rw [ok] at hck
    clear p0 ok
    rcases hm with ⟨k1, hm⟩ | ⟨n1, k2, hm⟩ | ⟨n1, n2, k3, hm⟩ | ⟨n1, n2, n3, hm⟩
    · have c1 : (e.kind == 1) = true := by simp [k1]
      have Hm := Lib.hid (show mayB e = decide ((e.data.size : Int) ≤ 65536) by rw [hm]; congr 1; rw [eq_iff_iff]; omega)
      clear k1 hm
      go_enter Tryz.func38, Tryz.ntmps38
      go_wp2_with (first | (refine wl_box rfl rfl rfl rfl hS ?_; intro eb _ hS; (try simp only [Act.put, List.setIfInBounds_toArray, List.set_cons_zero, List.set_cons_succ])) | (go_at_call 45; refine ((hck _ _ hS)).mono ?_; rintro e w' (⟨rfl, hS⟩)) | (refine wl_isld rfl ?_; ((first | refine wl_value rfl (ex_l0 hS rfl rfl rfl CellAt.out) ?_ | refine wl_value rfl (ex_lf hS rfl rfl rfl CellAt.out) ?_ | refine wl_value rfl (ex_l1 hS rfl rfl rfl CellAt.out) ?_ | refine wl_value rfl (ex_ldC hS rfl rfl CellAt.out) ?_ | refine wl_value rfl (ex_l0 hS rfl rfl rfl rfl) ?_ | refine wl_value rfl (ex_lf hS rfl rfl rfl rfl) ?_ | refine wl_value rfl (ex_l1 hS rfl rfl rfl rfl) ?_ | refine wl_value rfl (ex_ldC hS rfl rfl rfl) ?_ | refine wl_value rfl (ex_l00 hS rfl rfl CellAt.out) ?_ | refine wl_value rfl (ex_l00 hS rfl rfl rfl) ?_ | refine wl_value rfl (ex_l0f hS rfl rfl CellAt.out) ?_ | refine wl_value rfl (ex_l0f hS rfl rfl rfl) ?_ | refine wl_value rfl (ex_lr hS rfl rfl rfl rfl) ?_ | refine wl_value rfl (ex_lr0 hS rfl rfl rfl) ?_ | refine wl_value rfl (ex_lrz hS rfl rfl rfl) ?_ | refine wl_value rfl (ex_lrf hS rfl rfl rfl) ?_ | refine wl_value rfl (ex_ldrC hS rfl rfl) ?_ | refine wl_value rfl (ex_ldr0 hS rfl rfl rfl) ?_); (try simp only [Act.put, List.setIfInBounds_toArray, List.set_cons_zero, List.set_cons_succ]))) | ((first | refine wl_value rfl (ex_ix hS rfl rfl rfl ?_) ?_); (focus (first | rfl | omega | (simp; done))); (try simp only [Act.put, List.setIfInBounds_toArray, List.set_cons_zero, List.set_cons_succ])) | ((first | refine wl_value rfl (ex_eqA rfl rfl rfl) ?_ | refine wl_value rfl (ex_neA rfl rfl rfl) ?_); (try simp only [Act.put, List.setIfInBounds_toArray, List.set_cons_zero, List.set_cons_succ])) | (refine wl_alloc rfl rfl hS ?_; intro _ _ hS; (try simp only [Act.put, List.setIfInBounds_toArray, List.set_cons_zero, List.set_cons_succ])) | (refine wl_box rfl rfl rfl rfl hS ?_; intro _ _ hS; (try simp only [Act.put, List.setIfInBounds_toArray, List.set_cons_zero, List.set_cons_succ])) | (refine wl_st rfl rfl rfl rfl rfl hS (of_decide_eq_true rfl) ?_; intro _ hS; (try simp only [evT, evC, List.getD_cons_succ, List.getD_cons_zero, List.set_cons_zero, List.set_cons_succ] at hS); (try simp only [List.set_cons_zero, List.set_cons_succ] at hS); (try simp only [Act.put, List.setIfInBounds_toArray, List.set_cons_zero, List.set_cons_succ])) | (refine wl_strC rfl rfl rfl rfl hS rfl rfl ?_; intro _ hS; (try simp only [evT, evC, List.getD_cons_succ, List.getD_cons_zero, List.set_cons_zero, List.set_cons_succ] at hS); (try simp only [Act.put, List.setIfInBounds_toArray, List.set_cons_zero, List.set_cons_succ])))
      go_ret
      rw [Hm.out]
      exact ⟨rfl, hS.to⟩
    · have c1 : (e.kind == 1) = false := beq_no n1
      have c2 : (e.kind == 2) = true := by simp [k2]
      have Hm := Lib.hid (show mayB e = e.data.toList.isEmpty by rw [hm, empty_iff])
      clear n1 k2 hm
      go_enter Tryz.func38, Tryz.ntmps38
      go_wp2_with (first | (refine wl_box rfl rfl rfl rfl hS ?_; intro eb _ hS; (try simp only [Act.put, List.setIfInBounds_toArray, List.set_cons_zero, List.set_cons_succ])) | (go_at_call 45; refine ((hck _ _ hS)).mono ?_; rintro e w' (⟨rfl, hS⟩)) | (refine wl_isld rfl ?_; ((first | refine wl_value rfl (ex_l0 hS rfl rfl rfl CellAt.out) ?_ | refine wl_value rfl (ex_lf hS rfl rfl rfl CellAt.out) ?_ | refine wl_value rfl (ex_l1 hS rfl rfl rfl CellAt.out) ?_ | refine wl_value rfl (ex_ldC hS rfl rfl CellAt.out) ?_ | refine wl_value rfl (ex_l0 hS rfl rfl rfl rfl) ?_ | refine wl_value rfl (ex_lf hS rfl rfl rfl rfl) ?_ | refine wl_value rfl (ex_l1 hS rfl rfl rfl rfl) ?_ | refine wl_value rfl (ex_ldC hS rfl rfl rfl) ?_ | refine wl_value rfl (ex_l00 hS rfl rfl CellAt.out) ?_ | refine wl_value rfl (ex_l00 hS rfl rfl rfl) ?_ | refine wl_value rfl (ex_l0f hS rfl rfl CellAt.out) ?_ | refine wl_value rfl (ex_l0f hS rfl rfl rfl) ?_ | refine wl_value rfl (ex_lr hS rfl rfl rfl rfl) ?_ | refine wl_value rfl (ex_lr0 hS rfl rfl rfl) ?_ | refine wl_value rfl (ex_lrz hS rfl rfl rfl) ?_ | refine wl_value rfl (ex_lrf hS rfl rfl rfl) ?_ | refine wl_value rfl (ex_ldrC hS rfl rfl) ?_ | refine wl_value rfl (ex_ldr0 hS rfl rfl rfl) ?_); (try simp only [Act.put, List.setIfInBounds_toArray, List.set_cons_zero, List.set_cons_succ]))) | ((first | refine wl_value rfl (ex_ix hS rfl rfl rfl ?_) ?_); (focus (first | rfl | omega | (simp; done))); (try simp only [Act.put, List.setIfInBounds_toArray, List.set_cons_zero, List.set_cons_succ])) | ((first | refine wl_value rfl (ex_eqA rfl rfl rfl) ?_ | refine wl_value rfl (ex_neA rfl rfl rfl) ?_); (try simp only [Act.put, List.setIfInBounds_toArray, List.set_cons_zero, List.set_cons_succ])) | (refine wl_alloc rfl rfl hS ?_; intro _ _ hS; (try simp only [Act.put, List.setIfInBounds_toArray, List.set_cons_zero, List.set_cons_succ])) | (refine wl_box rfl rfl rfl rfl hS ?_; intro _ _ hS; (try simp only [Act.put, List.setIfInBounds_toArray, List.set_cons_zero, List.set_cons_succ])) | (refine wl_st rfl rfl rfl rfl rfl hS (of_decide_eq_true rfl) ?_; intro _ hS; (try simp only [evT, evC, List.getD_cons_succ, List.getD_cons_zero, List.set_cons_zero, List.set_cons_succ] at hS); (try simp only [List.set_cons_zero, List.set_cons_succ] at hS); (try simp only [Act.put, List.setIfInBounds_toArray, List.set_cons_zero, List.set_cons_succ])) | (refine wl_strC rfl rfl rfl rfl hS rfl rfl ?_; intro _ hS; (try simp only [evT, evC, List.getD_cons_succ, List.getD_cons_zero, List.set_cons_zero, List.set_cons_succ] at hS); (try simp only [Act.put, List.setIfInBounds_toArray, List.set_cons_zero, List.set_cons_succ])))
      go_ret
      rw [Hm.out]
      exact ⟨rfl, hS.to⟩
    · have c1 : (e.kind == 1) = false := beq_no n1
      have c2 : (e.kind == 2) = false := beq_no n2
      have c3 : (e.kind == 3) = true := by simp [k3]
      have Hm := Lib.hid (show mayB e = (decide ((1 : Int) ≤ (e.data.size : Int)) && decide ((e.data.size : Int) ≤ 4096)) by
        rw [hm]
        have h1 : decide (1 ≤ e.data.size) = decide ((1 : Int) ≤ (e.data.size : Int)) := by congr 1; rw [eq_iff_iff]; omega
        have h2 : decide (e.data.size ≤ 4096) = decide ((e.data.size : Int) ≤ 4096) := by congr 1; rw [eq_iff_iff]; omega
        rw [h1, h2])
      clear n1 n2 k3 hm
      by_cases hd : 1 ≤ e.data.size
      · have c4 : decide ((1 : Int) ≤ (e.data.size : Int)) = true := decide_eq_true (by omega)
        clear hd
        go_enter Tryz.func38, Tryz.ntmps38
        go_wp2_with (first | (refine wl_box rfl rfl rfl rfl hS ?_; intro eb _ hS; (try simp only [Act.put, List.setIfInBounds_toArray, List.set_cons_zero, List.set_cons_succ])) | (go_at_call 45; refine ((hck _ _ hS)).mono ?_; rintro e w' (⟨rfl, hS⟩)) | (refine wl_isld rfl ?_; ((first | refine wl_value rfl (ex_l0 hS rfl rfl rfl CellAt.out) ?_ | refine wl_value rfl (ex_lf hS rfl rfl rfl CellAt.out) ?_ | refine wl_value rfl (ex_l1 hS rfl rfl rfl CellAt.out) ?_ | refine wl_value rfl (ex_ldC hS rfl rfl CellAt.out) ?_ | refine wl_value rfl (ex_l0 hS rfl rfl rfl rfl) ?_ | refine wl_value rfl (ex_lf hS rfl rfl rfl rfl) ?_ | refine wl_value rfl (ex_l1 hS rfl rfl rfl rfl) ?_ | refine wl_value rfl (ex_ldC hS rfl rfl rfl) ?_ | refine wl_value rfl (ex_l00 hS rfl rfl CellAt.out) ?_ | refine wl_value rfl (ex_l00 hS rfl rfl rfl) ?_ | refine wl_value rfl (ex_l0f hS rfl rfl CellAt.out) ?_ | refine wl_value rfl (ex_l0f hS rfl rfl rfl) ?_ | refine wl_value rfl (ex_lr hS rfl rfl rfl rfl) ?_ | refine wl_value rfl (ex_lr0 hS rfl rfl rfl) ?_ | refine wl_value rfl (ex_lrz hS rfl rfl rfl) ?_ | refine wl_value rfl (ex_lrf hS rfl rfl rfl) ?_ | refine wl_value rfl (ex_ldrC hS rfl rfl) ?_ | refine wl_value rfl (ex_ldr0 hS rfl rfl rfl) ?_); (try simp only [Act.put, List.setIfInBounds_toArray, List.set_cons_zero, List.set_cons_succ]))) | ((first | refine wl_value rfl (ex_ix hS rfl rfl rfl ?_) ?_); (focus (first | rfl | omega | (simp; done))); (try simp only [Act.put, List.setIfInBounds_toArray, List.set_cons_zero, List.set_cons_succ])) | ((first | refine wl_value rfl (ex_eqA rfl rfl rfl) ?_ | refine wl_value rfl (ex_neA rfl rfl rfl) ?_); (try simp only [Act.put, List.setIfInBounds_toArray, List.set_cons_zero, List.set_cons_succ])) | (refine wl_alloc rfl rfl hS ?_; intro _ _ hS; (try simp only [Act.put, List.setIfInBounds_toArray, List.set_cons_zero, List.set_cons_succ])) | (refine wl_box rfl rfl rfl rfl hS ?_; intro _ _ hS; (try simp only [Act.put, List.setIfInBounds_toArray, List.set_cons_zero, List.set_cons_succ])) | (refine wl_st rfl rfl rfl rfl rfl hS (of_decide_eq_true rfl) ?_; intro _ hS; (try simp only [evT, evC, List.getD_cons_succ, List.getD_cons_zero, List.set_cons_zero, List.set_cons_succ] at hS); (try simp only [List.set_cons_zero, List.set_cons_succ] at hS); (try simp only [Act.put, List.setIfInBounds_toArray, List.set_cons_zero, List.set_cons_succ])) | (refine wl_strC rfl rfl rfl rfl hS rfl rfl ?_; intro _ hS; (try simp only [evT, evC, List.getD_cons_succ, List.getD_cons_zero, List.set_cons_zero, List.set_cons_succ] at hS); (try simp only [Act.put, List.setIfInBounds_toArray, List.set_cons_zero, List.set_cons_succ])))
        go_ret
        rw [Hm.out, c4]
        exact ⟨rfl, hS.to⟩
      · have c4 : decide ((1 : Int) ≤ (e.data.size : Int)) = false := decide_eq_false (by omega)
        clear hd
        go_enter Tryz.func38, Tryz.ntmps38
        go_wp2_with (first | (refine wl_box rfl rfl rfl rfl hS ?_; intro eb _ hS; (try simp only [Act.put, List.setIfInBounds_toArray, List.set_cons_zero, List.set_cons_succ])) | (go_at_call 45; refine ((hck _ _ hS)).mono ?_; rintro e w' (⟨rfl, hS⟩)) | (refine wl_isld rfl ?_; ((first | refine wl_value rfl (ex_l0 hS rfl rfl rfl CellAt.out) ?_ | refine wl_value rfl (ex_lf hS rfl rfl rfl CellAt.out) ?_ | refine wl_value rfl (ex_l1 hS rfl rfl rfl CellAt.out) ?_ | refine wl_value rfl (ex_ldC hS rfl rfl CellAt.out) ?_ | refine wl_value rfl (ex_l0 hS rfl rfl rfl rfl) ?_ | refine wl_value rfl (ex_lf hS rfl rfl rfl rfl) ?_ | refine wl_value rfl (ex_l1 hS rfl rfl rfl rfl) ?_ | refine wl_value rfl (ex_ldC hS rfl rfl rfl) ?_ | refine wl_value rfl (ex_l00 hS rfl rfl CellAt.out) ?_ | refine wl_value rfl (ex_l00 hS rfl rfl rfl) ?_ | refine wl_value rfl (ex_l0f hS rfl rfl CellAt.out) ?_ | refine wl_value rfl (ex_l0f hS rfl rfl rfl) ?_ | refine wl_value rfl (ex_lr hS rfl rfl rfl rfl) ?_ | refine wl_value rfl (ex_lr0 hS rfl rfl rfl) ?_ | refine wl_value rfl (ex_lrz hS rfl rfl rfl) ?_ | refine wl_value rfl (ex_lrf hS rfl rfl rfl) ?_ | refine wl_value rfl (ex_ldrC hS rfl rfl) ?_ | refine wl_value rfl (ex_ldr0 hS rfl rfl rfl) ?_); (try simp only [Act.put, List.setIfInBounds_toArray, List.set_cons_zero, List.set_cons_succ]))) | ((first | refine wl_value rfl (ex_ix hS rfl rfl rfl ?_) ?_); (focus (first | rfl | omega | (simp; done))); (try simp only [Act.put, List.setIfInBounds_toArray, List.set_cons_zero, List.set_cons_succ])) | ((first | refine wl_value rfl (ex_eqA rfl rfl rfl) ?_ | refine wl_value rfl (ex_neA rfl rfl rfl) ?_); (try simp only [Act.put, List.setIfInBounds_toArray, List.set_cons_zero, List.set_cons_succ])) | (refine wl_alloc rfl rfl hS ?_; intro _ _ hS; (try simp only [Act.put, List.setIfInBounds_toArray, List.set_cons_zero, List.set_cons_succ])) | (refine wl_box rfl rfl rfl rfl hS ?_; intro _ _ hS; (try simp only [Act.put, List.setIfInBounds_toArray, List.set_cons_zero, List.set_cons_succ])) | (refine wl_st rfl rfl rfl rfl rfl hS (of_decide_eq_true rfl) ?_; intro _ hS; (try simp only [evT, evC, List.getD_cons_succ, List.getD_cons_zero, List.set_cons_zero, List.set_cons_succ] at hS); (try simp only [List.set_cons_zero, List.set_cons_succ] at hS); (try simp only [Act.put, List.setIfInBounds_toArray, List.set_cons_zero, List.set_cons_succ])) | (refine wl_strC rfl rfl rfl rfl hS rfl rfl ?_; intro _ hS; (try simp only [evT, evC, List.getD_cons_succ, List.getD_cons_zero, List.set_cons_zero, List.set_cons_succ] at hS); (try simp only [Act.put, List.setIfInBounds_toArray, List.set_cons_zero, List.set_cons_succ])))
        go_ret
        rw [Hm.out, c4]
        exact ⟨rfl, hS.to⟩
    · have c1 : (e.kind == 1) = false := beq_no n1
      have c2 : (e.kind == 2) = false := beq_no n2
      have c3 : (e.kind == 3) = false := beq_no n3
      rw [hm]
      clear n1 n2 n3 hm
      go_enter Tryz.func38, Tryz.ntmps38
      go_wp2_with (first | (refine wl_box rfl rfl rfl rfl hS ?_; intro eb _ hS; (try simp only [Act.put, List.setIfInBounds_toArray, List.set_cons_zero, List.set_cons_succ])) | (go_at_call 45; refine ((hck _ _ hS)).mono ?_; rintro e w' (⟨rfl, hS⟩)) | (refine wl_isld rfl ?_; ((first | refine wl_value rfl (ex_l0 hS rfl rfl rfl CellAt.out) ?_ | refine wl_value rfl (ex_lf hS rfl rfl rfl CellAt.out) ?_ | refine wl_value rfl (ex_l1 hS rfl rfl rfl CellAt.out) ?_ | refine wl_value rfl (ex_ldC hS rfl rfl CellAt.out) ?_ | refine wl_value rfl (ex_l0 hS rfl rfl rfl rfl) ?_ | refine wl_value rfl (ex_lf hS rfl rfl rfl rfl) ?_ | refine wl_value rfl (ex_l1 hS rfl rfl rfl rfl) ?_ | refine wl_value rfl (ex_ldC hS rfl rfl rfl) ?_ | refine wl_value rfl (ex_l00 hS rfl rfl CellAt.out) ?_ | refine wl_value rfl (ex_l00 hS rfl rfl rfl) ?_ | refine wl_value rfl (ex_l0f hS rfl rfl CellAt.out) ?_ | refine wl_value rfl (ex_l0f hS rfl rfl rfl) ?_ | refine wl_value rfl (ex_lr hS rfl rfl rfl rfl) ?_ | refine wl_value rfl (ex_lr0 hS rfl rfl rfl) ?_ | refine wl_value rfl (ex_lrz hS rfl rfl rfl) ?_ | refine wl_value rfl (ex_lrf hS rfl rfl rfl) ?_ | refine wl_value rfl (ex_ldrC hS rfl rfl) ?_ | refine wl_value rfl (ex_ldr0 hS rfl rfl rfl) ?_); (try simp only [Act.put, List.setIfInBounds_toArray, List.set_cons_zero, List.set_cons_succ]))) | ((first | refine wl_value rfl (ex_ix hS rfl rfl rfl ?_) ?_); (focus (first | rfl | omega | (simp; done))); (try simp only [Act.put, List.setIfInBounds_toArray, List.set_cons_zero, List.set_cons_succ])) | ((first | refine wl_value rfl (ex_eqA rfl rfl rfl) ?_ | refine wl_value rfl (ex_neA rfl rfl rfl) ?_); (try simp only [Act.put, List.setIfInBounds_toArray, List.set_cons_zero, List.set_cons_succ])) | (refine wl_alloc rfl rfl hS ?_; intro _ _ hS; (try simp only [Act.put, List.setIfInBounds_toArray, List.set_cons_zero, List.set_cons_succ])) | (refine wl_box rfl rfl rfl rfl hS ?_; intro _ _ hS; (try simp only [Act.put, List.setIfInBounds_toArray, List.set_cons_zero, List.set_cons_succ])) | (refine wl_st rfl rfl rfl rfl rfl hS (of_decide_eq_true rfl) ?_; intro _ hS; (try simp only [evT, evC, List.getD_cons_succ, List.getD_cons_zero, List.set_cons_zero, List.set_cons_succ] at hS); (try simp only [List.set_cons_zero, List.set_cons_succ] at hS); (try simp only [Act.put, List.setIfInBounds_toArray, List.set_cons_zero, List.set_cons_succ])) | (refine wl_strC rfl rfl rfl rfl hS rfl rfl ?_; intro _ hS; (try simp only [evT, evC, List.getD_cons_succ, List.getD_cons_zero, List.set_cons_zero, List.set_cons_succ] at hS); (try simp only [Act.put, List.setIfInBounds_toArray, List.set_cons_zero, List.set_cons_succ])))
      go_ret
      exact ⟨rfl, hS.to⟩
set_option maxRecDepth 100000 in
set_option maxHeartbeats 1600000 in
theorem MayR_any (hS : Sh B R w) (e : En) (hp : e.path.size ≤ 16777216) : Calls Tryz.prog 28 #[.agg e.cells.toArray] w fun e' w' => e' = .returned (.bool (mayB e)) ∧ Sh B R w' := by
  have hck := fun (w : World) (R : HL) (hS : Sh B R w) => PathR_any hS e.path hp
  refine may_cases e (fun p0 hm => ?_) (fun p0 ok hm => ?_) (fun p0 ok hm => ?_)
  · have d0 : e.path.toList = [] := (empty_prop _).2 p0
    have d1 : e.path.toList.isEmpty = true := by rw [empty_iff]; simp [p0]
    have ok : okP e.path = true := by unfold okP namesB; rw [if_pos p0]; rfl
    rw [ok] at hck
    rw [hm]
    clear p0 hm ok
    go_enter Tryz.func28, Tryz.ntmps28
    go_wp2_with (first | (refine wl_box rfl rfl rfl rfl hS ?_; intro eb _ hS; (try simp only [Act.put, List.setIfInBounds_toArray, List.set_cons_zero, List.set_cons_succ])) | (go_at_call 36; refine ((hck _ _ hS)).mono ?_; rintro e w' (⟨rfl, hS⟩)) | (refine wl_isld rfl ?_; ((first | refine wl_value rfl (ex_l0 hS rfl rfl rfl CellAt.out) ?_ | refine wl_value rfl (ex_lf hS rfl rfl rfl CellAt.out) ?_ | refine wl_value rfl (ex_l1 hS rfl rfl rfl CellAt.out) ?_ | refine wl_value rfl (ex_ldC hS rfl rfl CellAt.out) ?_ | refine wl_value rfl (ex_l0 hS rfl rfl rfl rfl) ?_ | refine wl_value rfl (ex_lf hS rfl rfl rfl rfl) ?_ | refine wl_value rfl (ex_l1 hS rfl rfl rfl rfl) ?_ | refine wl_value rfl (ex_ldC hS rfl rfl rfl) ?_ | refine wl_value rfl (ex_l00 hS rfl rfl CellAt.out) ?_ | refine wl_value rfl (ex_l00 hS rfl rfl rfl) ?_ | refine wl_value rfl (ex_l0f hS rfl rfl CellAt.out) ?_ | refine wl_value rfl (ex_l0f hS rfl rfl rfl) ?_ | refine wl_value rfl (ex_lr hS rfl rfl rfl rfl) ?_ | refine wl_value rfl (ex_lr0 hS rfl rfl rfl) ?_ | refine wl_value rfl (ex_lrz hS rfl rfl rfl) ?_ | refine wl_value rfl (ex_lrf hS rfl rfl rfl) ?_ | refine wl_value rfl (ex_ldrC hS rfl rfl) ?_ | refine wl_value rfl (ex_ldr0 hS rfl rfl rfl) ?_); (try simp only [Act.put, List.setIfInBounds_toArray, List.set_cons_zero, List.set_cons_succ]))) | ((first | refine wl_value rfl (ex_ix hS rfl rfl rfl ?_) ?_); (focus (first | rfl | omega | (simp; done))); (try simp only [Act.put, List.setIfInBounds_toArray, List.set_cons_zero, List.set_cons_succ])) | ((first | refine wl_value rfl (ex_eqA rfl rfl rfl) ?_ | refine wl_value rfl (ex_neA rfl rfl rfl) ?_); (try simp only [Act.put, List.setIfInBounds_toArray, List.set_cons_zero, List.set_cons_succ])) | (refine wl_alloc rfl rfl hS ?_; intro _ _ hS; (try simp only [Act.put, List.setIfInBounds_toArray, List.set_cons_zero, List.set_cons_succ])) | (refine wl_box rfl rfl rfl rfl hS ?_; intro _ _ hS; (try simp only [Act.put, List.setIfInBounds_toArray, List.set_cons_zero, List.set_cons_succ])) | (refine wl_st rfl rfl rfl rfl rfl hS (of_decide_eq_true rfl) ?_; intro _ hS; (try simp only [evT, evC, List.getD_cons_succ, List.getD_cons_zero, List.set_cons_zero, List.set_cons_succ] at hS); (try simp only [List.set_cons_zero, List.set_cons_succ] at hS); (try simp only [Act.put, List.setIfInBounds_toArray, List.set_cons_zero, List.set_cons_succ])) | (refine wl_strC rfl rfl rfl rfl hS rfl rfl ?_; intro _ hS; (try simp only [evT, evC, List.getD_cons_succ, List.getD_cons_zero, List.set_cons_zero, List.set_cons_succ] at hS); (try simp only [Act.put, List.setIfInBounds_toArray, List.set_cons_zero, List.set_cons_succ])))
    go_ret
    exact ⟨rfl, hS.to⟩
  · have d0 : ¬ e.path.toList = [] := fun h => p0 ((empty_prop _).1 h)
    have d1 : e.path.toList.isEmpty = false := by rw [empty_iff]; simp [p0]
    rw [ok] at hck
    rw [hm]
    clear p0 hm ok
    go_enter Tryz.func28, Tryz.ntmps28
    go_wp2_with (first | (refine wl_box rfl rfl rfl rfl hS ?_; intro eb _ hS; (try simp only [Act.put, List.setIfInBounds_toArray, List.set_cons_zero, List.set_cons_succ])) | (go_at_call 36; refine ((hck _ _ hS)).mono ?_; rintro e w' (⟨rfl, hS⟩)) | (refine wl_isld rfl ?_; ((first | refine wl_value rfl (ex_l0 hS rfl rfl rfl CellAt.out) ?_ | refine wl_value rfl (ex_lf hS rfl rfl rfl CellAt.out) ?_ | refine wl_value rfl (ex_l1 hS rfl rfl rfl CellAt.out) ?_ | refine wl_value rfl (ex_ldC hS rfl rfl CellAt.out) ?_ | refine wl_value rfl (ex_l0 hS rfl rfl rfl rfl) ?_ | refine wl_value rfl (ex_lf hS rfl rfl rfl rfl) ?_ | refine wl_value rfl (ex_l1 hS rfl rfl rfl rfl) ?_ | refine wl_value rfl (ex_ldC hS rfl rfl rfl) ?_ | refine wl_value rfl (ex_l00 hS rfl rfl CellAt.out) ?_ | refine wl_value rfl (ex_l00 hS rfl rfl rfl) ?_ | refine wl_value rfl (ex_l0f hS rfl rfl CellAt.out) ?_ | refine wl_value rfl (ex_l0f hS rfl rfl rfl) ?_ | refine wl_value rfl (ex_lr hS rfl rfl rfl rfl) ?_ | refine wl_value rfl (ex_lr0 hS rfl rfl rfl) ?_ | refine wl_value rfl (ex_lrz hS rfl rfl rfl) ?_ | refine wl_value rfl (ex_lrf hS rfl rfl rfl) ?_ | refine wl_value rfl (ex_ldrC hS rfl rfl) ?_ | refine wl_value rfl (ex_ldr0 hS rfl rfl rfl) ?_); (try simp only [Act.put, List.setIfInBounds_toArray, List.set_cons_zero, List.set_cons_succ]))) | ((first | refine wl_value rfl (ex_ix hS rfl rfl rfl ?_) ?_); (focus (first | rfl | omega | (simp; done))); (try simp only [Act.put, List.setIfInBounds_toArray, List.set_cons_zero, List.set_cons_succ])) | ((first | refine wl_value rfl (ex_eqA rfl rfl rfl) ?_ | refine wl_value rfl (ex_neA rfl rfl rfl) ?_); (try simp only [Act.put, List.setIfInBounds_toArray, List.set_cons_zero, List.set_cons_succ])) | (refine wl_alloc rfl rfl hS ?_; intro _ _ hS; (try simp only [Act.put, List.setIfInBounds_toArray, List.set_cons_zero, List.set_cons_succ])) | (refine wl_box rfl rfl rfl rfl hS ?_; intro _ _ hS; (try simp only [Act.put, List.setIfInBounds_toArray, List.set_cons_zero, List.set_cons_succ])) | (refine wl_st rfl rfl rfl rfl rfl hS (of_decide_eq_true rfl) ?_; intro _ hS; (try simp only [evT, evC, List.getD_cons_succ, List.getD_cons_zero, List.set_cons_zero, List.set_cons_succ] at hS); (try simp only [List.set_cons_zero, List.set_cons_succ] at hS); (try simp only [Act.put, List.setIfInBounds_toArray, List.set_cons_zero, List.set_cons_succ])) | (refine wl_strC rfl rfl rfl rfl hS rfl rfl ?_; intro _ hS; (try simp only [evT, evC, List.getD_cons_succ, List.getD_cons_zero, List.set_cons_zero, List.set_cons_succ] at hS); (try simp only [Act.put, List.setIfInBounds_toArray, List.set_cons_zero, List.set_cons_succ])))
    go_ret
    exact ⟨rfl, hS.to⟩
  · have d0 : ¬ e.path.toList = [] := fun h => p0 ((empty_prop _).1 h)
    have d1 : e.path.toList.isEmpty = false := by rw [empty_iff]; simp [p0]
    rw [ok] at hck
    clear p0 ok
    rcases hm with ⟨k1, hm⟩ | ⟨n1, k2, hm⟩ | ⟨n1, n2, k3, hm⟩ | ⟨n1, n2, n3, hm⟩
    · have c1 : (e.kind == 1) = true := by simp [k1]
      have Hm := Lib.hid (show mayB e = decide ((e.data.size : Int) ≤ 65536) by rw [hm]; congr 1; rw [eq_iff_iff]; omega)
      clear k1 hm
      go_enter Tryz.func28, Tryz.ntmps28
      go_wp2_with (first | (refine wl_box rfl rfl rfl rfl hS ?_; intro eb _ hS; (try simp only [Act.put, List.setIfInBounds_toArray, List.set_cons_zero, List.set_cons_succ])) | (go_at_call 36; refine ((hck _ _ hS)).mono ?_; rintro e w' (⟨rfl, hS⟩)) | (refine wl_isld rfl ?_; ((first | refine wl_value rfl (ex_l0 hS rfl rfl rfl CellAt.out) ?_ | refine wl_value rfl (ex_lf hS rfl rfl rfl CellAt.out) ?_ | refine wl_value rfl (ex_l1 hS rfl rfl rfl CellAt.out) ?_ | refine wl_value rfl (ex_ldC hS rfl rfl CellAt.out) ?_ | refine wl_value rfl (ex_l0 hS rfl rfl rfl rfl) ?_ | refine wl_value rfl (ex_lf hS rfl rfl rfl rfl) ?_ | refine wl_value rfl (ex_l1 hS rfl rfl rfl rfl) ?_ | refine wl_value rfl (ex_ldC hS rfl rfl rfl) ?_ | refine wl_value rfl (ex_l00 hS rfl rfl CellAt.out) ?_ | refine wl_value rfl (ex_l00 hS rfl rfl rfl) ?_ | refine wl_value rfl (ex_l0f hS rfl rfl CellAt.out) ?_ | refine wl_value rfl (ex_l0f hS rfl rfl rfl) ?_ | refine wl_value rfl (ex_lr hS rfl rfl rfl rfl) ?_ | refine wl_value rfl (ex_lr0 hS rfl rfl rfl) ?_ | refine wl_value rfl (ex_lrz hS rfl rfl rfl) ?_ | refine wl_value rfl (ex_lrf hS rfl rfl rfl) ?_ | refine wl_value rfl (ex_ldrC hS rfl rfl) ?_ | refine wl_value rfl (ex_ldr0 hS rfl rfl rfl) ?_); (try simp only [Act.put, List.setIfInBounds_toArray, List.set_cons_zero, List.set_cons_succ]))) | ((first | refine wl_value rfl (ex_ix hS rfl rfl rfl ?_) ?_); (focus (first | rfl | omega | (simp; done))); (try simp only [Act.put, List.setIfInBounds_toArray, List.set_cons_zero, List.set_cons_succ])) | ((first | refine wl_value rfl (ex_eqA rfl rfl rfl) ?_ | refine wl_value rfl (ex_neA rfl rfl rfl) ?_); (try simp only [Act.put, List.setIfInBounds_toArray, List.set_cons_zero, List.set_cons_succ])) | (refine wl_alloc rfl rfl hS ?_; intro _ _ hS; (try simp only [Act.put, List.setIfInBounds_toArray, List.set_cons_zero, List.set_cons_succ])) | (refine wl_box rfl rfl rfl rfl hS ?_; intro _ _ hS; (try simp only [Act.put, List.setIfInBounds_toArray, List.set_cons_zero, List.set_cons_succ])) | (refine wl_st rfl rfl rfl rfl rfl hS (of_decide_eq_true rfl) ?_; intro _ hS; (try simp only [evT, evC, List.getD_cons_succ, List.getD_cons_zero, List.set_cons_zero, List.set_cons_succ] at hS); (try simp only [List.set_cons_zero, List.set_cons_succ] at hS); (try simp only [Act.put, List.setIfInBounds_toArray, List.set_cons_zero, List.set_cons_succ])) | (refine wl_strC rfl rfl rfl rfl hS rfl rfl ?_; intro _ hS; (try simp only [evT, evC, List.getD_cons_succ, List.getD_cons_zero, List.set_cons_zero, List.set_cons_succ] at hS); (try simp only [Act.put, List.setIfInBounds_toArray, List.set_cons_zero, List.set_cons_succ])))
      go_ret
      rw [Hm.out]
      exact ⟨rfl, hS.to⟩
    · have c1 : (e.kind == 1) = false := beq_no n1
      have c2 : (e.kind == 2) = true := by simp [k2]
      have Hm := Lib.hid (show mayB e = e.data.toList.isEmpty by rw [hm, empty_iff])
      clear n1 k2 hm
      go_enter Tryz.func28, Tryz.ntmps28
      go_wp2_with (first | (refine wl_box rfl rfl rfl rfl hS ?_; intro eb _ hS; (try simp only [Act.put, List.setIfInBounds_toArray, List.set_cons_zero, List.set_cons_succ])) | (go_at_call 36; refine ((hck _ _ hS)).mono ?_; rintro e w' (⟨rfl, hS⟩)) | (refine wl_isld rfl ?_; ((first | refine wl_value rfl (ex_l0 hS rfl rfl rfl CellAt.out) ?_ | refine wl_value rfl (ex_lf hS rfl rfl rfl CellAt.out) ?_ | refine wl_value rfl (ex_l1 hS rfl rfl rfl CellAt.out) ?_ | refine wl_value rfl (ex_ldC hS rfl rfl CellAt.out) ?_ | refine wl_value rfl (ex_l0 hS rfl rfl rfl rfl) ?_ | refine wl_value rfl (ex_lf hS rfl rfl rfl rfl) ?_ | refine wl_value rfl (ex_l1 hS rfl rfl rfl rfl) ?_ | refine wl_value rfl (ex_ldC hS rfl rfl rfl) ?_ | refine wl_value rfl (ex_l00 hS rfl rfl CellAt.out) ?_ | refine wl_value rfl (ex_l00 hS rfl rfl rfl) ?_ | refine wl_value rfl (ex_l0f hS rfl rfl CellAt.out) ?_ | refine wl_value rfl (ex_l0f hS rfl rfl rfl) ?_ | refine wl_value rfl (ex_lr hS rfl rfl rfl rfl) ?_ | refine wl_value rfl (ex_lr0 hS rfl rfl rfl) ?_ | refine wl_value rfl (ex_lrz hS rfl rfl rfl) ?_ | refine wl_value rfl (ex_lrf hS rfl rfl rfl) ?_ | refine wl_value rfl (ex_ldrC hS rfl rfl) ?_ | refine wl_value rfl (ex_ldr0 hS rfl rfl rfl) ?_); (try simp only [Act.put, List.setIfInBounds_toArray, List.set_cons_zero, List.set_cons_succ]))) | ((first | refine wl_value rfl (ex_ix hS rfl rfl rfl ?_) ?_); (focus (first | rfl | omega | (simp; done))); (try simp only [Act.put, List.setIfInBounds_toArray, List.set_cons_zero, List.set_cons_succ])) | ((first | refine wl_value rfl (ex_eqA rfl rfl rfl) ?_ | refine wl_value rfl (ex_neA rfl rfl rfl) ?_); (try simp only [Act.put, List.setIfInBounds_toArray, List.set_cons_zero, List.set_cons_succ])) | (refine wl_alloc rfl rfl hS ?_; intro _ _ hS; (try simp only [Act.put, List.setIfInBounds_toArray, List.set_cons_zero, List.set_cons_succ])) | (refine wl_box rfl rfl rfl rfl hS ?_; intro _ _ hS; (try simp only [Act.put, List.setIfInBounds_toArray, List.set_cons_zero, List.set_cons_succ])) | (refine wl_st rfl rfl rfl rfl rfl hS (of_decide_eq_true rfl) ?_; intro _ hS; (try simp only [evT, evC, List.getD_cons_succ, List.getD_cons_zero, List.set_cons_zero, List.set_cons_succ] at hS); (try simp only [List.set_cons_zero, List.set_cons_succ] at hS); (try simp only [Act.put, List.setIfInBounds_toArray, List.set_cons_zero, List.set_cons_succ])) | (refine wl_strC rfl rfl rfl rfl hS rfl rfl ?_; intro _ hS; (try simp only [evT, evC, List.getD_cons_succ, List.getD_cons_zero, List.set_cons_zero, List.set_cons_succ] at hS); (try simp only [Act.put, List.setIfInBounds_toArray, List.set_cons_zero, List.set_cons_succ])))
      go_ret
      rw [Hm.out]
      exact ⟨rfl, hS.to⟩
    · have c1 : (e.kind == 1) = false := beq_no n1
      have c2 : (e.kind == 2) = false := beq_no n2
      have c3 : (e.kind == 3) = true := by simp [k3]
      have Hm := Lib.hid (show mayB e = (decide ((1 : Int) ≤ (e.data.size : Int)) && decide ((e.data.size : Int) ≤ 4096)) by
        rw [hm]
        have h1 : decide (1 ≤ e.data.size) = decide ((1 : Int) ≤ (e.data.size : Int)) := by congr 1; rw [eq_iff_iff]; omega
        have h2 : decide (e.data.size ≤ 4096) = decide ((e.data.size : Int) ≤ 4096) := by congr 1; rw [eq_iff_iff]; omega
        rw [h1, h2])
      clear n1 n2 k3 hm
      by_cases hd : 1 ≤ e.data.size
      · have c4 : decide ((1 : Int) ≤ (e.data.size : Int)) = true := decide_eq_true (by omega)
        clear hd
        go_enter Tryz.func28, Tryz.ntmps28
        go_wp2_with (first | (refine wl_box rfl rfl rfl rfl hS ?_; intro eb _ hS; (try simp only [Act.put, List.setIfInBounds_toArray, List.set_cons_zero, List.set_cons_succ])) | (go_at_call 36; refine ((hck _ _ hS)).mono ?_; rintro e w' (⟨rfl, hS⟩)) | (refine wl_isld rfl ?_; ((first | refine wl_value rfl (ex_l0 hS rfl rfl rfl CellAt.out) ?_ | refine wl_value rfl (ex_lf hS rfl rfl rfl CellAt.out) ?_ | refine wl_value rfl (ex_l1 hS rfl rfl rfl CellAt.out) ?_ | refine wl_value rfl (ex_ldC hS rfl rfl CellAt.out) ?_ | refine wl_value rfl (ex_l0 hS rfl rfl rfl rfl) ?_ | refine wl_value rfl (ex_lf hS rfl rfl rfl rfl) ?_ | refine wl_value rfl (ex_l1 hS rfl rfl rfl rfl) ?_ | refine wl_value rfl (ex_ldC hS rfl rfl rfl) ?_ | refine wl_value rfl (ex_l00 hS rfl rfl CellAt.out) ?_ | refine wl_value rfl (ex_l00 hS rfl rfl rfl) ?_ | refine wl_value rfl (ex_l0f hS rfl rfl CellAt.out) ?_ | refine wl_value rfl (ex_l0f hS rfl rfl rfl) ?_ | refine wl_value rfl (ex_lr hS rfl rfl rfl rfl) ?_ | refine wl_value rfl (ex_lr0 hS rfl rfl rfl) ?_ | refine wl_value rfl (ex_lrz hS rfl rfl rfl) ?_ | refine wl_value rfl (ex_lrf hS rfl rfl rfl) ?_ | refine wl_value rfl (ex_ldrC hS rfl rfl) ?_ | refine wl_value rfl (ex_ldr0 hS rfl rfl rfl) ?_); (try simp only [Act.put, List.setIfInBounds_toArray, List.set_cons_zero, List.set_cons_succ]))) | ((first | refine wl_value rfl (ex_ix hS rfl rfl rfl ?_) ?_); (focus (first | rfl | omega | (simp; done))); (try simp only [Act.put, List.setIfInBounds_toArray, List.set_cons_zero, List.set_cons_succ])) | ((first | refine wl_value rfl (ex_eqA rfl rfl rfl) ?_ | refine wl_value rfl (ex_neA rfl rfl rfl) ?_); (try simp only [Act.put, List.setIfInBounds_toArray, List.set_cons_zero, List.set_cons_succ])) | (refine wl_alloc rfl rfl hS ?_; intro _ _ hS; (try simp only [Act.put, List.setIfInBounds_toArray, List.set_cons_zero, List.set_cons_succ])) | (refine wl_box rfl rfl rfl rfl hS ?_; intro _ _ hS; (try simp only [Act.put, List.setIfInBounds_toArray, List.set_cons_zero, List.set_cons_succ])) | (refine wl_st rfl rfl rfl rfl rfl hS (of_decide_eq_true rfl) ?_; intro _ hS; (try simp only [evT, evC, List.getD_cons_succ, List.getD_cons_zero, List.set_cons_zero, List.set_cons_succ] at hS); (try simp only [List.set_cons_zero, List.set_cons_succ] at hS); (try simp only [Act.put, List.setIfInBounds_toArray, List.set_cons_zero, List.set_cons_succ])) | (refine wl_strC rfl rfl rfl rfl hS rfl rfl ?_; intro _ hS; (try simp only [evT, evC, List.getD_cons_succ, List.getD_cons_zero, List.set_cons_zero, List.set_cons_succ] at hS); (try simp only [Act.put, List.setIfInBounds_toArray, List.set_cons_zero, List.set_cons_succ])))
        go_ret
        rw [Hm.out, c4]
        exact ⟨rfl, hS.to⟩
      · have c4 : decide ((1 : Int) ≤ (e.data.size : Int)) = false := decide_eq_false (by omega)
        clear hd
        go_enter Tryz.func28, Tryz.ntmps28
        go_wp2_with (first | (refine wl_box rfl rfl rfl rfl hS ?_; intro eb _ hS; (try simp only [Act.put, List.setIfInBounds_toArray, List.set_cons_zero, List.set_cons_succ])) | (go_at_call 36; refine ((hck _ _ hS)).mono ?_; rintro e w' (⟨rfl, hS⟩)) | (refine wl_isld rfl ?_; ((first | refine wl_value rfl (ex_l0 hS rfl rfl rfl CellAt.out) ?_ | refine wl_value rfl (ex_lf hS rfl rfl rfl CellAt.out) ?_ | refine wl_value rfl (ex_l1 hS rfl rfl rfl CellAt.out) ?_ | refine wl_value rfl (ex_ldC hS rfl rfl CellAt.out) ?_ | refine wl_value rfl (ex_l0 hS rfl rfl rfl rfl) ?_ | refine wl_value rfl (ex_lf hS rfl rfl rfl rfl) ?_ | refine wl_value rfl (ex_l1 hS rfl rfl rfl rfl) ?_ | refine wl_value rfl (ex_ldC hS rfl rfl rfl) ?_ | refine wl_value rfl (ex_l00 hS rfl rfl CellAt.out) ?_ | refine wl_value rfl (ex_l00 hS rfl rfl rfl) ?_ | refine wl_value rfl (ex_l0f hS rfl rfl CellAt.out) ?_ | refine wl_value rfl (ex_l0f hS rfl rfl rfl) ?_ | refine wl_value rfl (ex_lr hS rfl rfl rfl rfl) ?_ | refine wl_value rfl (ex_lr0 hS rfl rfl rfl) ?_ | refine wl_value rfl (ex_lrz hS rfl rfl rfl) ?_ | refine wl_value rfl (ex_lrf hS rfl rfl rfl) ?_ | refine wl_value rfl (ex_ldrC hS rfl rfl) ?_ | refine wl_value rfl (ex_ldr0 hS rfl rfl rfl) ?_); (try simp only [Act.put, List.setIfInBounds_toArray, List.set_cons_zero, List.set_cons_succ]))) | ((first | refine wl_value rfl (ex_ix hS rfl rfl rfl ?_) ?_); (focus (first | rfl | omega | (simp; done))); (try simp only [Act.put, List.setIfInBounds_toArray, List.set_cons_zero, List.set_cons_succ])) | ((first | refine wl_value rfl (ex_eqA rfl rfl rfl) ?_ | refine wl_value rfl (ex_neA rfl rfl rfl) ?_); (try simp only [Act.put, List.setIfInBounds_toArray, List.set_cons_zero, List.set_cons_succ])) | (refine wl_alloc rfl rfl hS ?_; intro _ _ hS; (try simp only [Act.put, List.setIfInBounds_toArray, List.set_cons_zero, List.set_cons_succ])) | (refine wl_box rfl rfl rfl rfl hS ?_; intro _ _ hS; (try simp only [Act.put, List.setIfInBounds_toArray, List.set_cons_zero, List.set_cons_succ])) | (refine wl_st rfl rfl rfl rfl rfl hS (of_decide_eq_true rfl) ?_; intro _ hS; (try simp only [evT, evC, List.getD_cons_succ, List.getD_cons_zero, List.set_cons_zero, List.set_cons_succ] at hS); (try simp only [List.set_cons_zero, List.set_cons_succ] at hS); (try simp only [Act.put, List.setIfInBounds_toArray, List.set_cons_zero, List.set_cons_succ])) | (refine wl_strC rfl rfl rfl rfl hS rfl rfl ?_; intro _ hS; (try simp only [evT, evC, List.getD_cons_succ, List.getD_cons_zero, List.set_cons_zero, List.set_cons_succ] at hS); (try simp only [Act.put, List.setIfInBounds_toArray, List.set_cons_zero, List.set_cons_succ])))
        go_ret
        rw [Hm.out, c4]
        exact ⟨rfl, hS.to⟩
    · have c1 : (e.kind == 1) = false := beq_no n1
      have c2 : (e.kind == 2) = false := beq_no n2
      have c3 : (e.kind == 3) = false := beq_no n3
      rw [hm]
      clear n1 n2 n3 hm
      go_enter Tryz.func28, Tryz.ntmps28
      go_wp2_with (first | (refine wl_box rfl rfl rfl rfl hS ?_; intro eb _ hS; (try simp only [Act.put, List.setIfInBounds_toArray, List.set_cons_zero, List.set_cons_succ])) | (go_at_call 36; refine ((hck _ _ hS)).mono ?_; rintro e w' (⟨rfl, hS⟩)) | (refine wl_isld rfl ?_; ((first | refine wl_value rfl (ex_l0 hS rfl rfl rfl CellAt.out) ?_ | refine wl_value rfl (ex_lf hS rfl rfl rfl CellAt.out) ?_ | refine wl_value rfl (ex_l1 hS rfl rfl rfl CellAt.out) ?_ | refine wl_value rfl (ex_ldC hS rfl rfl CellAt.out) ?_ | refine wl_value rfl (ex_l0 hS rfl rfl rfl rfl) ?_ | refine wl_value rfl (ex_lf hS rfl rfl rfl rfl) ?_ | refine wl_value rfl (ex_l1 hS rfl rfl rfl rfl) ?_ | refine wl_value rfl (ex_ldC hS rfl rfl rfl) ?_ | refine wl_value rfl (ex_l00 hS rfl rfl CellAt.out) ?_ | refine wl_value rfl (ex_l00 hS rfl rfl rfl) ?_ | refine wl_value rfl (ex_l0f hS rfl rfl CellAt.out) ?_ | refine wl_value rfl (ex_l0f hS rfl rfl rfl) ?_ | refine wl_value rfl (ex_lr hS rfl rfl rfl rfl) ?_ | refine wl_value rfl (ex_lr0 hS rfl rfl rfl) ?_ | refine wl_value rfl (ex_lrz hS rfl rfl rfl) ?_ | refine wl_value rfl (ex_lrf hS rfl rfl rfl) ?_ | refine wl_value rfl (ex_ldrC hS rfl rfl) ?_ | refine wl_value rfl (ex_ldr0 hS rfl rfl rfl) ?_); (try simp only [Act.put, List.setIfInBounds_toArray, List.set_cons_zero, List.set_cons_succ]))) | ((first | refine wl_value rfl (ex_ix hS rfl rfl rfl ?_) ?_); (focus (first | rfl | omega | (simp; done))); (try simp only [Act.put, List.setIfInBounds_toArray, List.set_cons_zero, List.set_cons_succ])) | ((first | refine wl_value rfl (ex_eqA rfl rfl rfl) ?_ | refine wl_value rfl (ex_neA rfl rfl rfl) ?_); (try simp only [Act.put, List.setIfInBounds_toArray, List.set_cons_zero, List.set_cons_succ])) | (refine wl_alloc rfl rfl hS ?_; intro _ _ hS; (try simp only [Act.put, List.setIfInBounds_toArray, List.set_cons_zero, List.set_cons_succ])) | (refine wl_box rfl rfl rfl rfl hS ?_; intro _ _ hS; (try simp only [Act.put, List.setIfInBounds_toArray, List.set_cons_zero, List.set_cons_succ])) | (refine wl_st rfl rfl rfl rfl rfl hS (of_decide_eq_true rfl) ?_; intro _ hS; (try simp only [evT, evC, List.getD_cons_succ, List.getD_cons_zero, List.set_cons_zero, List.set_cons_succ] at hS); (try simp only [List.set_cons_zero, List.set_cons_succ] at hS); (try simp only [Act.put, List.setIfInBounds_toArray, List.set_cons_zero, List.set_cons_succ])) | (refine wl_strC rfl rfl rfl rfl hS rfl rfl ?_; intro _ hS; (try simp only [evT, evC, List.getD_cons_succ, List.getD_cons_zero, List.set_cons_zero, List.set_cons_succ] at hS); (try simp only [Act.put, List.setIfInBounds_toArray, List.set_cons_zero, List.set_cons_succ])))
      go_ret
      exact ⟨rfl, hS.to⟩
end
end Go.Tk

set_option linter.unusedSectionVars false
set_option linter.unusedSimpArgs false
set_option linter.unusedVariables false
namespace Go.Tk
open Go.Proofs.YtclmemhginekbaaGreatDoor
open Go.RowKit Go.Proofs Go.ChangeShapes Go.WideShapes Go.ChangeAt
theorem okWide_cap {P : Program} {w : World} {r : Reach} {base : Nat} {t e : TypeId} {A : Option Addr} {len cap : Nat} (ht : P.underlying t = some (.slice e)) (h : Value.okWide P w r base t (.slice A len cap)) : len ≤ cap := by
  simp only [Value.okWide, ht, Cell.okWide] at h
  cases A with
  | none =>
    cases len with
    | zero => exact Nat.zero_le _
    | succ n => simp [Cell.ok, ht] at h
  | some a => simp only [Cell.ok, ht] at h; exact h.1
set_option maxRecDepth 100000 in
theorem hasML {W : World} (h : W.ShapedOpen Tryz.prog) : HasML (Base.free W) := by
  obtain ⟨m, hm⟩ := cell_of_shapedOpen_int (P := Tryz.prog) (g := 0) (t := 3) (zero := #[.int .i64 0]) (k := .i64) h (by decide +kernel) (by kernel_rfl) rfl (by kernel_rfl) (by kernel_rfl) Tryz.underlying3
  refine ⟨m, ?_⟩
  unfold World.cell? at hm
  unfold Base.cell Base.free Base.of
  dsimp only at hm ⊢
  revert hm
  cases hk : W.heap[0]? with
  | none => intro hm; cases hm
  | some o => cases o <;> intro hm <;> simp_all
theorem Sh.belowF {W w : World} {H : HL} (h : Sh (Base.free W) H w) : Below W.heap.size W w := by
  have hb : ∀ k, k < W.heap.size → w.heap[k]? = W.heap[k]? := fun k hk => by
    rw [Array.getElem?_eq_getElem hk]
    exact h.base k _ (by simp [Base.free, Base.of, Array.getElem?_eq_getElem hk])
  refine ⟨h.os, h.tape, h.output, ?_, hb⟩
  rcases Nat.eq_zero_or_pos W.heap.size with h0 | h0
  · omega
  · have := hb (W.heap.size - 1) (by omega)
    rw [Array.getElem?_eq_getElem (show W.heap.size - 1 < W.heap.size by omega)] at this
    have := (Array.getElem?_eq_some_iff.1 this).1
    omega
section
variable {H : Type} {enc : TypeId × Value → H} {P : Program}
theorem post_trueF {f : Func} {s : ChangeSpec} {W W' : World} {args : Array Value} {ds : List (DataW H)} {before : List MemPlace} {tb : TypeId} {L : HL} (hl : laidOutB P = true) (hread : (f.params.toList.all fun t => P.readableRec t && decide (t < P.types.size)) = true)
    (hres : f.resultTypes = #[tb]) (hb : P.underlying tb = some .bool) (hvars : s.vars = [])
    (hW : DataW.Whole enc P f.params.toList s.vars false W args.toList ds [] before) (hs1 : (s.fn H ds).results = [.lit (.bool true)]) (hs2 : (s.fn H ds).args = ds) (hs3 : (s.fn H ds).vars = [])
    (hS : Sh (Base.free W) L W') : s.post enc P f false true false false W args (.bool true) W' := by
  have hbl := hS.belowF
  have hW' := hW
  obtain ⟨p, q, hA0, hV, rfl, hfz, hnd⟩ := hW
  rw [hvars] at hV
  have hq : q = [] := by
    obtain ⟨_, rfl⟩ := trodVars_none hV
    rfl
  subst hq
  have hlt : ∀ x ∈ p, x.block < W.heap.size := fun x hx => by simpa using hW'.lt x (by simp [hx])
  have hsame : ∀ x ∈ p, W.sameAt W' x := fun x hx => hbl.same (hlt x hx)
  have hd : ds ++ [] = ds := List.append_nil ds
  have hold : ∀ x ∈ p, (fun b => decide (b < W.heap.size)) x.block = true := fun x hx => by simpa using hlt x hx
  refine ⟨ds, [], p ++ [], [], p, [], hW', ?_, ?_, ?_, hbl.frame _, fun h => by cases h⟩
  · rw [hd, hs1, hres]
    exact trodAll_cons_mk (shut_bool hb true) trodAll_mk0
  · rw [hd, hs2]
    exact trodAll_stays hl (fun t ht => by have := List.all_eq_true.1 hread t ht; simpa using this) hA0 hsame hold
  · rw [hd, hs3, hvars]
    rfl
end
def enBulk (e : En) : Nat := e.path.size + e.data.size + 1
set_option maxRecDepth 100000 in
theorem opens_en : OpensAt Tryz.prog 24 enE (fun _ _ => True) enBulk := by
  intro H enc W fuel cs x h
  obtain ⟨ys, n, _, rfl, hl, hlen, hf⟩ := DataW.trod_struct Tryz.underlying24 h
  have hc : Tryz.prog.cellsOf 24 = 3 := by kernel_rfl
  have hl5 : cs.length = 3 := by rw [hl, hc]
  match cs, hl5, ys, hlen with
  | [c0, c1, c2], _, [y0, y1, y2], _ =>
    obtain ⟨k0, h0, o0, b0⟩ := opens_str (P := Tryz.prog) (t := 9) Tryz.underlying9 enc W n _ _ (hf 0 _ rfl)
    obtain ⟨k1, h1, o1, b1⟩ := opens_int (P := Tryz.prog) (t := 3) Tryz.underlying3 enc W n _ _ (hf 1 _ rfl)
    obtain ⟨k2, h2, o2, b2⟩ := opens_str (P := Tryz.prog) (t := 9) Tryz.underlying9 enc W n _ _ (hf 2 _ rfl)
    have e0 : [c0] = [Value.string k0] := h0
    have e1 : [c1] = [Value.int .i64 k1] := h1
    have e2 : [c2] = [Value.string k2] := h2
    simp only [List.cons.injEq, and_true] at e0 e1 e2
    subst e0 e1 e2
    refine ⟨⟨k0, k1, k2⟩, rfl, trivial, ?_⟩
    simp only [Rows.uptoBulk, Rows.uptoBulkAll, enBulk]
    have b0' : k0.size + 1 ≤ Rows.uptoBulk y0.1 := b0
    have b2' : k2.size + 1 ≤ Rows.uptoBulk y2.1 := b2
    simp only [List.map_cons, List.map_nil, Rows.uptoBulkAll]
    omega
theorem enBulk_le {xs : List En} {n : Nat} (h : (xs.map enBulk).sum ≤ n) : xs.length ≤ n ∧ ∀ e ∈ xs, e.path.size ≤ n ∧ e.data.size ≤ n := by
  induction xs generalizing n with
  | nil => exact ⟨Nat.zero_le _, fun e he => nomatch he⟩
  | cons x r ih =>
    rw [List.map_cons, List.sum_cons] at h
    unfold enBulk at h
    obtain ⟨h1, h2⟩ := ih (n := n - (x.path.size + x.data.size + 1)) (by unfold enBulk; omega)
    refine ⟨by rw [List.length_cons]; omega, fun e he => ?_⟩
    rcases List.mem_cons.1 he with rfl | he
    · omega
    · have := h2 e he; omega
def layCells (vs : List Value) : Obj → Obj
  | .cells _ t frozen => .cells vs.toArray t frozen
  | o => o
/-- A world for the witness: the library's tables laid. -/
noncomputable def laidW (os : Os) : World :=
  { World.holding Tryz.prog os ⟨#[], #[], []⟩ with heap := ((World.holding Tryz.prog os ⟨#[], #[], []⟩).heap.modify 1 (layCells (Go.Pinned.utf8FirstZ.map fun n : Nat => Value.int .u8 (n : Int)))).modify 2 (layCells ([128, 191, 160, 191, 128, 159, 144, 191, 128, 143, 0, 0, 0, 0, 0, 0, 0, 0, 0, 0, 0, 0, 0, 0, 0, 0, 0, 0, 0, 0, 0, 0].map fun n => Value.int .u8 n)) }
end Go.Tk

set_option linter.unusedSectionVars false
set_option linter.unusedSimpArgs false
set_option linter.unusedVariables false
namespace Go.Tk
open Go.RowKit Go.Proofs

def findI (t : List En) (p : ByteArray) : Int := match t.findIdx? (fun e => decide (e.path = p)) with | some i => (i : Int) | none => -1
def isDirF (t : List En) (p : ByteArray) : Bool := decide (p.size = 0) || (match t.find? (fun e => decide (e.path = p)) with | some e => decide (e.kind = 2) | none => false)
def isDirA (t : List En) (p : ByteArray) : Bool := decide (p.size = 0) || t.any (fun e => decide (e.kind = 2) && decide (e.path = p))
/-- The first wrong entry, by what is asked of a directory. -/
def checkG (dir : List En → ByteArray → Bool) (t : List En) : Nat → Int → List En → Int × Int
  | i, sum, [] => (0, 0)
  | i, sum, e :: r =>
    if mayB e = false then ((i : Int), 50) else
    if 0 < i ∧ ¬ lessI ((t.getD (i - 1) e).path) e.path < 0 then ((i : Int), 51) else
    if dir (t.take i) (upP e.path) = false then ((i : Int), 52) else
    if 1048576 < sum + e.data.size then ((i : Int), 54) else checkG dir t (i + 1) (sum + e.data.size) r
def checkA (t : List En) : Int × Int := if 1024 < t.length then (1024, 53) else checkG isDirA t 0 0 t
def checkF (t : List En) : Int × Int := if 1024 < t.length then (1024, 53) else checkG isDirF t 0 0 t
/-- How great the data may be. -/
def SmallE (t : List En) : Prop := ∀ e ∈ t, e.path.size ≤ 16777216 ∧ e.data.size ≤ 16777216
theorem strEq {a b : ByteArray} : (a.toList == b.toList) = decide (a = b) := by
  rw [ByteArray.toList_eq a, ByteArray.toList_eq b, Bool.eq_iff_iff]
  simp only [beq_iff_eq, decide_eq_true_eq]
  exact ⟨fun h => ba_ext h, fun h => by rw [h]⟩
section
variable {B : Base} {R H H1 : HL} {w w' : World}
def FdI (B : Base) (R : HL) (t : List En) (p : ByteArray) (i : Nat) (w : World) : Prop := i ≤ t.length ∧ (∀ j e, t[j]? = some e → j < i → ¬ e.path = p) ∧ Sh B R w
theorem findI_at {t : List En} {p : ByteArray} {i : Nat} {e : En} (h : ∀ j e, t[j]? = some e → j < i → ¬ e.path = p) (he : t[i]? = some e) (hp : e.path = p) : findI t p = i := by
  unfold findI
  have : t.findIdx? (fun e => decide (e.path = p)) = some i := by
    rw [List.findIdx?_eq_some_iff_getElem]
    obtain ⟨hi, hx⟩ := List.getElem?_eq_some_iff.1 he
    refine ⟨hi, by rw [hx]; simpa using hp, fun j hj => ?_⟩
    have := h j t[j] (List.getElem?_eq_getElem (by omega)) hj
    simpa using this
  rw [this]
theorem findI_no {t : List En} {p : ByteArray} (h : ∀ e ∈ t, ¬ e.path = p) : findI t p = -1 := by
  unfold findI
  have : t.findIdx? (fun e => decide (e.path = p)) = none := by rw [List.findIdx?_eq_none_iff]; intro e he; simpa using h e he
  rw [this]
set_option maxRecDepth 100000 in
set_option maxHeartbeats 800000 in
theorem FindR_any (hS : Sh B R w) {A : Option Addr} {cap : Nat} {t : List En} [r : RdAt enE B R A t] (hl : t.length ≤ 16777216) (p : ByteArray) :
    Calls Tryz.prog 20 #[.slice A t.length cap, .string p] w fun e w' => e = .returned (.int .i64 (findI t p)) ∧ Sh B R w' := by
  go_enter Tryz.func20, Tryz.ntmps20
  go_wp2
  have h0 : FdI B R t p 0 _ := ⟨Nat.zero_le _, fun _ _ _ h => absurd h (Nat.not_lt_zero _), hS⟩
  clear hS
  refine wp_loopS [5] [4, 6, 7, 8, 9, 10, 11, 12, 13, 14, 15, 16, 17, 18, 19] (fun i : Nat => [.int .i64 i]) (FdI B R t p) (fun i => t.length - i) ((0 : Nat)) rfl (h0) ?_
  clear h0
  rintro i J w ⟨hi, hno, hS⟩
  have Hno := Lib.hid hno
  clear hno
  (simp only [Frm, setsT, junkT, List.setIfInBounds_toArray, List.set_cons_zero, List.set_cons_succ])
  by_cases hlt : i < t.length
  · obtain ⟨x, gx⟩ := Nth.of hlt
    by_cases hx : x.path = p
    · have d1 : (x.path.toList == p.toList) = true := by rw [strEq]; simp [hx]
      have Hf := Lib.hid (findI_at Hno.out gx.get hx)
      clear hx
      go_wp2_with (first | (refine wl_isld rfl ?_; ((first | refine wl_value rfl (ex_l0 hS rfl rfl rfl CellAt.out) ?_ | refine wl_value rfl (ex_lf hS rfl rfl rfl CellAt.out) ?_ | refine wl_value rfl (ex_l1 hS rfl rfl rfl CellAt.out) ?_ | refine wl_value rfl (ex_ldC hS rfl rfl CellAt.out) ?_ | refine wl_value rfl (ex_l0 hS rfl rfl rfl rfl) ?_ | refine wl_value rfl (ex_lf hS rfl rfl rfl rfl) ?_ | refine wl_value rfl (ex_l1 hS rfl rfl rfl rfl) ?_ | refine wl_value rfl (ex_ldC hS rfl rfl rfl) ?_ | refine wl_value rfl (ex_l00 hS rfl rfl CellAt.out) ?_ | refine wl_value rfl (ex_l00 hS rfl rfl rfl) ?_ | refine wl_value rfl (ex_l0f hS rfl rfl CellAt.out) ?_ | refine wl_value rfl (ex_l0f hS rfl rfl rfl) ?_ | refine wl_value rfl (ex_lr hS rfl rfl rfl rfl) ?_ | refine wl_value rfl (ex_lr0 hS rfl rfl rfl) ?_ | refine wl_value rfl (ex_lrz hS rfl rfl rfl) ?_ | refine wl_value rfl (ex_lrf hS rfl rfl rfl) ?_ | refine wl_value rfl (ex_ldrC hS rfl rfl) ?_ | refine wl_value rfl (ex_ldr0 hS rfl rfl rfl) ?_); (try simp only [Act.put, List.setIfInBounds_toArray, List.set_cons_zero, List.set_cons_succ]))) | ((first | refine wl_value rfl (ex_ix hS rfl rfl rfl ?_) ?_); (focus (first | rfl | omega | (simp; done))); (try simp only [Act.put, List.setIfInBounds_toArray, List.set_cons_zero, List.set_cons_succ])) | ((first | refine wl_value rfl (ex_eqA rfl rfl rfl) ?_ | refine wl_value rfl (ex_neA rfl rfl rfl) ?_); (try simp only [Act.put, List.setIfInBounds_toArray, List.set_cons_zero, List.set_cons_succ])) | (refine wl_alloc rfl rfl hS ?_; intro _ _ hS; (try simp only [Act.put, List.setIfInBounds_toArray, List.set_cons_zero, List.set_cons_succ])) | (refine wl_box rfl rfl rfl rfl hS ?_; intro _ _ hS; (try simp only [Act.put, List.setIfInBounds_toArray, List.set_cons_zero, List.set_cons_succ])) | (refine wl_st rfl rfl rfl rfl rfl hS (of_decide_eq_true rfl) ?_; intro _ hS; (try simp only [evT, evC, List.getD_cons_succ, List.getD_cons_zero, List.set_cons_zero, List.set_cons_succ] at hS); (try simp only [List.set_cons_zero, List.set_cons_succ] at hS); (try simp only [Act.put, List.setIfInBounds_toArray, List.set_cons_zero, List.set_cons_succ])) | (refine wl_strC rfl rfl rfl rfl hS rfl rfl ?_; intro _ hS; (try simp only [evT, evC, List.getD_cons_succ, List.getD_cons_zero, List.set_cons_zero, List.set_cons_succ] at hS); (try simp only [Act.put, List.setIfInBounds_toArray, List.set_cons_zero, List.set_cons_succ])))
      go_ret
      exact ⟨by rw [Hf.out]; rfl, hS⟩
    · have d1 : (x.path.toList == p.toList) = false := by rw [strEq]; simp [hx]
      have Hx := Lib.hid hx
      clear hx
      go_wp2_with (first | (refine wl_isld rfl ?_; ((first | refine wl_value rfl (ex_l0 hS rfl rfl rfl CellAt.out) ?_ | refine wl_value rfl (ex_lf hS rfl rfl rfl CellAt.out) ?_ | refine wl_value rfl (ex_l1 hS rfl rfl rfl CellAt.out) ?_ | refine wl_value rfl (ex_ldC hS rfl rfl CellAt.out) ?_ | refine wl_value rfl (ex_l0 hS rfl rfl rfl rfl) ?_ | refine wl_value rfl (ex_lf hS rfl rfl rfl rfl) ?_ | refine wl_value rfl (ex_l1 hS rfl rfl rfl rfl) ?_ | refine wl_value rfl (ex_ldC hS rfl rfl rfl) ?_ | refine wl_value rfl (ex_l00 hS rfl rfl CellAt.out) ?_ | refine wl_value rfl (ex_l00 hS rfl rfl rfl) ?_ | refine wl_value rfl (ex_l0f hS rfl rfl CellAt.out) ?_ | refine wl_value rfl (ex_l0f hS rfl rfl rfl) ?_ | refine wl_value rfl (ex_lr hS rfl rfl rfl rfl) ?_ | refine wl_value rfl (ex_lr0 hS rfl rfl rfl) ?_ | refine wl_value rfl (ex_lrz hS rfl rfl rfl) ?_ | refine wl_value rfl (ex_lrf hS rfl rfl rfl) ?_ | refine wl_value rfl (ex_ldrC hS rfl rfl) ?_ | refine wl_value rfl (ex_ldr0 hS rfl rfl rfl) ?_); (try simp only [Act.put, List.setIfInBounds_toArray, List.set_cons_zero, List.set_cons_succ]))) | ((first | refine wl_value rfl (ex_ix hS rfl rfl rfl ?_) ?_); (focus (first | rfl | omega | (simp; done))); (try simp only [Act.put, List.setIfInBounds_toArray, List.set_cons_zero, List.set_cons_succ])) | ((first | refine wl_value rfl (ex_eqA rfl rfl rfl) ?_ | refine wl_value rfl (ex_neA rfl rfl rfl) ?_); (try simp only [Act.put, List.setIfInBounds_toArray, List.set_cons_zero, List.set_cons_succ])) | (refine wl_alloc rfl rfl hS ?_; intro _ _ hS; (try simp only [Act.put, List.setIfInBounds_toArray, List.set_cons_zero, List.set_cons_succ])) | (refine wl_box rfl rfl rfl rfl hS ?_; intro _ _ hS; (try simp only [Act.put, List.setIfInBounds_toArray, List.set_cons_zero, List.set_cons_succ])) | (refine wl_st rfl rfl rfl rfl rfl hS (of_decide_eq_true rfl) ?_; intro _ hS; (try simp only [evT, evC, List.getD_cons_succ, List.getD_cons_zero, List.set_cons_zero, List.set_cons_succ] at hS); (try simp only [List.set_cons_zero, List.set_cons_succ] at hS); (try simp only [Act.put, List.setIfInBounds_toArray, List.set_cons_zero, List.set_cons_succ])) | (refine wl_strC rfl rfl rfl rfl hS rfl rfl ?_; intro _ hS; (try simp only [evT, evC, List.getD_cons_succ, List.getD_cons_zero, List.set_cons_zero, List.set_cons_succ] at hS); (try simp only [Act.put, List.setIfInBounds_toArray, List.set_cons_zero, List.set_cons_succ])))
      (refine ⟨((i + 1 : Nat)), (⟨hlt, fun j y hy hj => by rcases Nat.lt_succ_iff_lt_or_eq.1 hj with h | h; exact Hno.out j y hy h; subst h; rw [gx.get] at hy; cases hy; exact Hx.out, hS⟩), (by (try dsimp only); omega), rfl, (by (simp only [blankT, junkT, List.cons_append, List.nil_append, List.setIfInBounds_toArray, List.set_cons_zero, List.set_cons_succ])), rfl⟩)
  · have Hf := Lib.hid (show findI t p = -1 from findI_no fun e he => by
      obtain ⟨j, hj⟩ := List.getElem?_of_mem he
      exact Hno.out j e hj (by have := (List.getElem?_eq_some_iff.1 hj).1; omega))
    go_wp2_with (first | (refine wl_isld rfl ?_; ((first | refine wl_value rfl (ex_l0 hS rfl rfl rfl CellAt.out) ?_ | refine wl_value rfl (ex_lf hS rfl rfl rfl CellAt.out) ?_ | refine wl_value rfl (ex_l1 hS rfl rfl rfl CellAt.out) ?_ | refine wl_value rfl (ex_ldC hS rfl rfl CellAt.out) ?_ | refine wl_value rfl (ex_l0 hS rfl rfl rfl rfl) ?_ | refine wl_value rfl (ex_lf hS rfl rfl rfl rfl) ?_ | refine wl_value rfl (ex_l1 hS rfl rfl rfl rfl) ?_ | refine wl_value rfl (ex_ldC hS rfl rfl rfl) ?_ | refine wl_value rfl (ex_l00 hS rfl rfl CellAt.out) ?_ | refine wl_value rfl (ex_l00 hS rfl rfl rfl) ?_ | refine wl_value rfl (ex_l0f hS rfl rfl CellAt.out) ?_ | refine wl_value rfl (ex_l0f hS rfl rfl rfl) ?_ | refine wl_value rfl (ex_lr hS rfl rfl rfl rfl) ?_ | refine wl_value rfl (ex_lr0 hS rfl rfl rfl) ?_ | refine wl_value rfl (ex_lrz hS rfl rfl rfl) ?_ | refine wl_value rfl (ex_lrf hS rfl rfl rfl) ?_ | refine wl_value rfl (ex_ldrC hS rfl rfl) ?_ | refine wl_value rfl (ex_ldr0 hS rfl rfl rfl) ?_); (try simp only [Act.put, List.setIfInBounds_toArray, List.set_cons_zero, List.set_cons_succ]))) | ((first | refine wl_value rfl (ex_ix hS rfl rfl rfl ?_) ?_); (focus (first | rfl | omega | (simp; done))); (try simp only [Act.put, List.setIfInBounds_toArray, List.set_cons_zero, List.set_cons_succ])) | ((first | refine wl_value rfl (ex_eqA rfl rfl rfl) ?_ | refine wl_value rfl (ex_neA rfl rfl rfl) ?_); (try simp only [Act.put, List.setIfInBounds_toArray, List.set_cons_zero, List.set_cons_succ])) | (refine wl_alloc rfl rfl hS ?_; intro _ _ hS; (try simp only [Act.put, List.setIfInBounds_toArray, List.set_cons_zero, List.set_cons_succ])) | (refine wl_box rfl rfl rfl rfl hS ?_; intro _ _ hS; (try simp only [Act.put, List.setIfInBounds_toArray, List.set_cons_zero, List.set_cons_succ])) | (refine wl_st rfl rfl rfl rfl rfl hS (of_decide_eq_true rfl) ?_; intro _ hS; (try simp only [evT, evC, List.getD_cons_succ, List.getD_cons_zero, List.set_cons_zero, List.set_cons_succ] at hS); (try simp only [List.set_cons_zero, List.set_cons_succ] at hS); (try simp only [Act.put, List.setIfInBounds_toArray, List.set_cons_zero, List.set_cons_succ])) | (refine wl_strC rfl rfl rfl rfl hS rfl rfl ?_; intro _ hS; (try simp only [evT, evC, List.getD_cons_succ, List.getD_cons_zero, List.set_cons_zero, List.set_cons_succ] at hS); (try simp only [Act.put, List.setIfInBounds_toArray, List.set_cons_zero, List.set_cons_succ])))
    go_ret
    exact ⟨by rw [Hf.out]; rfl, hS⟩
theorem findI_cases (t : List En) (p : ByteArray) : (findI t p = -1 ∧ t.find? (fun e => decide (e.path = p)) = none) ∨ ∃ (i : Nat) (e : En), findI t p = i ∧ t[i]? = some e ∧ e.path = p ∧ t.find? (fun e => decide (e.path = p)) = some e := by
  unfold findI
  cases h : t.findIdx? (fun e => decide (e.path = p)) with
  | none =>
    left
    rw [List.findIdx?_eq_none_iff] at h
    refine ⟨rfl, ?_⟩
    rw [List.find?_eq_none]
    intro e he
    simpa using h e he
  | some i =>
    right
    have h2 := h
    rw [List.findIdx?_eq_some_iff_getElem] at h
    obtain ⟨hi, hx, hj⟩ := h
    refine ⟨i, t[i], rfl, List.getElem?_eq_getElem hi, by simpa using hx, ?_⟩
    rw [List.find?_eq_some_iff_getElem]
    refine ⟨hx, i, hi, rfl, fun j hj2 => ?_⟩
    have := hj j hj2
    simpa using this
set_option maxRecDepth 100000 in
set_option maxHeartbeats 800000 in
theorem IsDirR_any (hS : Sh B R w) {A : Option Addr} {cap : Nat} {t : List En} [r : RdAt enE B R A t] (hl : t.length ≤ 16777216) (p : ByteArray) :
    Calls Tryz.prog 32 #[.slice A t.length cap, .string p] w fun e w' => e = .returned (.bool (isDirF t p)) ∧ Sh B R w' := by
  by_cases p0 : p.size = 0
  · have d0 : p.toList = [] := (empty_prop _).2 p0
    have d1 : p.toList.isEmpty = true := by rw [empty_iff]; simp [p0]
    have Hd := Lib.hid (show isDirF t p = true by unfold isDirF; simp [p0])
    clear p0
    go_enter Tryz.func32, Tryz.ntmps32
    go_wp2
    go_ret
    exact ⟨by rw [Hd.out]; rfl, hS⟩
  · have d0 : ¬ p.toList = [] := fun h => p0 ((empty_prop _).1 h)
    have d1 : p.toList.isEmpty = false := by rw [empty_iff]; simp [p0]
    have hf := fun (w : World) (R : HL) (hS : Sh B R w) (r : RdAt enE B R A t) => FindR_any hS (cap := cap) (t := t) (r := r) hl p
    rcases findI_cases t p with ⟨hn, hfi⟩ | ⟨i, e, hn, hi, hp, hfi⟩
    · rw [hn] at hf
      have Hd := Lib.hid (show isDirF t p = false by unfold isDirF; rw [hfi]; simp [p0])
      clear p0 hn hfi
      go_enter Tryz.func32, Tryz.ntmps32
      go_wp2_with (first | (go_at_call 20; refine ((hf _ _ hS inferInstance)).mono ?_; rintro e w' (⟨rfl, hS⟩)) | (refine wl_isld rfl ?_; ((first | refine wl_value rfl (ex_l0 hS rfl rfl rfl CellAt.out) ?_ | refine wl_value rfl (ex_lf hS rfl rfl rfl CellAt.out) ?_ | refine wl_value rfl (ex_l1 hS rfl rfl rfl CellAt.out) ?_ | refine wl_value rfl (ex_ldC hS rfl rfl CellAt.out) ?_ | refine wl_value rfl (ex_l0 hS rfl rfl rfl rfl) ?_ | refine wl_value rfl (ex_lf hS rfl rfl rfl rfl) ?_ | refine wl_value rfl (ex_l1 hS rfl rfl rfl rfl) ?_ | refine wl_value rfl (ex_ldC hS rfl rfl rfl) ?_ | refine wl_value rfl (ex_l00 hS rfl rfl CellAt.out) ?_ | refine wl_value rfl (ex_l00 hS rfl rfl rfl) ?_ | refine wl_value rfl (ex_l0f hS rfl rfl CellAt.out) ?_ | refine wl_value rfl (ex_l0f hS rfl rfl rfl) ?_ | refine wl_value rfl (ex_lr hS rfl rfl rfl rfl) ?_ | refine wl_value rfl (ex_lr0 hS rfl rfl rfl) ?_ | refine wl_value rfl (ex_lrz hS rfl rfl rfl) ?_ | refine wl_value rfl (ex_lrf hS rfl rfl rfl) ?_ | refine wl_value rfl (ex_ldrC hS rfl rfl) ?_ | refine wl_value rfl (ex_ldr0 hS rfl rfl rfl) ?_); (try simp only [Act.put, List.setIfInBounds_toArray, List.set_cons_zero, List.set_cons_succ]))) | ((first | refine wl_value rfl (ex_ix hS rfl rfl rfl ?_) ?_); (focus (first | rfl | omega | (simp; done))); (try simp only [Act.put, List.setIfInBounds_toArray, List.set_cons_zero, List.set_cons_succ])) | ((first | refine wl_value rfl (ex_eqA rfl rfl rfl) ?_ | refine wl_value rfl (ex_neA rfl rfl rfl) ?_); (try simp only [Act.put, List.setIfInBounds_toArray, List.set_cons_zero, List.set_cons_succ])) | (refine wl_alloc rfl rfl hS ?_; intro _ _ hS; (try simp only [Act.put, List.setIfInBounds_toArray, List.set_cons_zero, List.set_cons_succ])) | (refine wl_box rfl rfl rfl rfl hS ?_; intro _ _ hS; (try simp only [Act.put, List.setIfInBounds_toArray, List.set_cons_zero, List.set_cons_succ])) | (refine wl_st rfl rfl rfl rfl rfl hS (of_decide_eq_true rfl) ?_; intro _ hS; (try simp only [evT, evC, List.getD_cons_succ, List.getD_cons_zero, List.set_cons_zero, List.set_cons_succ] at hS); (try simp only [List.set_cons_zero, List.set_cons_succ] at hS); (try simp only [Act.put, List.setIfInBounds_toArray, List.set_cons_zero, List.set_cons_succ])) | (refine wl_strC rfl rfl rfl rfl hS rfl rfl ?_; intro _ hS; (try simp only [evT, evC, List.getD_cons_succ, List.getD_cons_zero, List.set_cons_zero, List.set_cons_succ] at hS); (try simp only [Act.put, List.setIfInBounds_toArray, List.set_cons_zero, List.set_cons_succ])))
      go_ret
      exact ⟨by rw [Hd.out]; rfl, hS⟩
    · rw [hn] at hf
      have gx : Nth t i e := ⟨hi⟩
      have Hd := Lib.hid (show isDirF t p = (e.kind == 2) by unfold isDirF; rw [hfi]; simp [p0]; rw [Bool.eq_iff_iff]; simp)
      have d2 : decide ((0 : Int) ≤ (i : Int)) = true := decide_eq_true (by omega)
      clear p0 hn hfi hp
      go_enter Tryz.func32, Tryz.ntmps32
      go_wp2_with (first | (go_at_call 20; refine ((hf _ _ hS inferInstance)).mono ?_; rintro e w' (⟨rfl, hS⟩)) | (refine wl_isld rfl ?_; ((first | refine wl_value rfl (ex_l0 hS rfl rfl rfl CellAt.out) ?_ | refine wl_value rfl (ex_lf hS rfl rfl rfl CellAt.out) ?_ | refine wl_value rfl (ex_l1 hS rfl rfl rfl CellAt.out) ?_ | refine wl_value rfl (ex_ldC hS rfl rfl CellAt.out) ?_ | refine wl_value rfl (ex_l0 hS rfl rfl rfl rfl) ?_ | refine wl_value rfl (ex_lf hS rfl rfl rfl rfl) ?_ | refine wl_value rfl (ex_l1 hS rfl rfl rfl rfl) ?_ | refine wl_value rfl (ex_ldC hS rfl rfl rfl) ?_ | refine wl_value rfl (ex_l00 hS rfl rfl CellAt.out) ?_ | refine wl_value rfl (ex_l00 hS rfl rfl rfl) ?_ | refine wl_value rfl (ex_l0f hS rfl rfl CellAt.out) ?_ | refine wl_value rfl (ex_l0f hS rfl rfl rfl) ?_ | refine wl_value rfl (ex_lr hS rfl rfl rfl rfl) ?_ | refine wl_value rfl (ex_lr0 hS rfl rfl rfl) ?_ | refine wl_value rfl (ex_lrz hS rfl rfl rfl) ?_ | refine wl_value rfl (ex_lrf hS rfl rfl rfl) ?_ | refine wl_value rfl (ex_ldrC hS rfl rfl) ?_ | refine wl_value rfl (ex_ldr0 hS rfl rfl rfl) ?_); (try simp only [Act.put, List.setIfInBounds_toArray, List.set_cons_zero, List.set_cons_succ]))) | ((first | refine wl_value rfl (ex_ix hS rfl rfl rfl ?_) ?_); (focus (first | rfl | omega | (simp; done))); (try simp only [Act.put, List.setIfInBounds_toArray, List.set_cons_zero, List.set_cons_succ])) | ((first | refine wl_value rfl (ex_eqA rfl rfl rfl) ?_ | refine wl_value rfl (ex_neA rfl rfl rfl) ?_); (try simp only [Act.put, List.setIfInBounds_toArray, List.set_cons_zero, List.set_cons_succ])) | (refine wl_alloc rfl rfl hS ?_; intro _ _ hS; (try simp only [Act.put, List.setIfInBounds_toArray, List.set_cons_zero, List.set_cons_succ])) | (refine wl_box rfl rfl rfl rfl hS ?_; intro _ _ hS; (try simp only [Act.put, List.setIfInBounds_toArray, List.set_cons_zero, List.set_cons_succ])) | (refine wl_st rfl rfl rfl rfl rfl hS (of_decide_eq_true rfl) ?_; intro _ hS; (try simp only [evT, evC, List.getD_cons_succ, List.getD_cons_zero, List.set_cons_zero, List.set_cons_succ] at hS); (try simp only [List.set_cons_zero, List.set_cons_succ] at hS); (try simp only [Act.put, List.setIfInBounds_toArray, List.set_cons_zero, List.set_cons_succ])) | (refine wl_strC rfl rfl rfl rfl hS rfl rfl ?_; intro _ hS; (try simp only [evT, evC, List.getD_cons_succ, List.getD_cons_zero, List.set_cons_zero, List.set_cons_succ] at hS); (try simp only [Act.put, List.setIfInBounds_toArray, List.set_cons_zero, List.set_cons_succ])))
      go_ret
      exact ⟨by rw [Hd.out]; rfl, hS⟩
end
end Go.Tk

set_option linter.unusedSectionVars false
set_option linter.unusedSimpArgs false
set_option linter.unusedVariables false
namespace Go.Tk
open Go.RowKit Go.Proofs Go.Shelf Go.Sort Go.Lib
section
variable {B : Base} {H : HL} {w : World}
theorem SortS_any {A : Option Addr} {xs : List ByteArray} {sp : List Value} {cap T : Nat} {C : HL → HL} (hOw : OwnSl strE A xs sp cap) (hS : Sh B H w) [hp : CtxRow H A (flat strE xs ++ sp) T C] (hmax : xs.length < 4611686018427387904)
    (hs : (xs.map fun x => x.data.toList).Pairwise fun x y => x ≤ y) :
    Calls Tryz.prog 52 #[.slice A xs.length cap] w fun e w' => e = .returned (.tuple #[]) ∧ Sh B H w' := by
  cases xs with
  | nil =>
    refine (Tryz.slices_Sort_string_none A cap w).mono fun e w' h => ⟨h.1, ?_⟩
    rw [h.2]; exact hS
  | cons x0 xr =>
    cases A with
    | none => exact absurd (hOw.nil rfl).1 (by simp)
    | some ad =>
      have had := hOw.form ad rfl
      obtain ⟨b, rfl⟩ : ∃ b, ad = ⟨b, 0, none⟩ := ⟨_, had⟩
      have hS0 := hS
      obtain ⟨R, hS, hC⟩ := Sh.out (hp.eq ▸ hS) hp.ctx
      generalize hxs : x0 :: xr = xs at *
      have hb : w.heap[b]? = some (.cells (flat strE xs ++ sp).toArray T (0, 0)) := hS.own (b, _) (by simp [rowA])
      have hlt : b < w.heap.size := (Array.getElem?_eq_some_iff.1 hb).1
      obtain ⟨ss, hss⟩ : ∃ ss, (xs.map fun x => x.data.toList) = ss := ⟨_, rfl⟩
      rw [hss] at hs
      have hlen : ss.length = xs.length := by rw [← hss, List.length_map]
      have hcell : ∀ j (hj : j < ss.length), (flat strE xs ++ sp)[j]? = some (encStr ss.toArray[j]!) := by
        intro j hj
        have hx : xs[j]? = some xs[j] := List.getElem?_eq_getElem (by omega)
        have h2 := flat_get (E := strE) hx sp (f := 0) (v := .string xs[j]) rfl
        rw [show j * strE.k + 0 = j from by show j * 1 + 0 = j; omega] at h2
        rw [h2]
        congr 1
        rw [getElem!_pos ss.toArray j (by simpa using hj)]
        subst hss
        simp [encStr]
      have hH : Holds encStr w b 0 ss.toArray := by
        intro j hj
        have hj' : j < ss.length := by simpa using hj
        refine ⟨?_, ?_⟩
        · simp only [World.cell?, hb, Nat.zero_add, id]
          have := hcell j hj'
          simpa using this
        · simp [World.frozen?, hb]
      have hcall := Tryz.slices_Sort_string b 0 cap ss w hH hlt (by omega)
      rw [hlen] at hcall
      refine hcall.mono fun e w' h => ⟨h.1, ?_⟩
      obtain ⟨n, os, rfl⟩ := h.2
      have hms : (ss.mergeSort fun x y => decide (x ≤ y)) = ss := List.mergeSort_of_pairwise (hs.imp fun {x y} h => decide_eq_true h)
      rw [hms]
      refine Sh.growR ?_ _
      have hid : putRow encStr (Sort.ahead w n) b 0 ss.toArray = Sort.ahead w n := by
        unfold putRow
        refine mapBlock_id _ _ _ ?_
        intro c e fr hc
        have hc2 : w.heap[b]? = some (.cells c e fr) := hc
        rw [hb] at hc2
        cases hc2
        apply Array.ext_getElem?
        intro i
        unfold putCells
        simp only [Array.getElem?_mapIdx, List.getElem?_toArray, Nat.zero_le, true_and, Nat.zero_add, Nat.sub_zero, List.size_toArray]
        by_cases hi : i < ss.length
        · rw [hcell i hi]
          simp [hi]
        · simp only [hi, if_false, Option.map_id']
      rw [hid]
      exact hS0.drewN n
end
end Go.Tk
