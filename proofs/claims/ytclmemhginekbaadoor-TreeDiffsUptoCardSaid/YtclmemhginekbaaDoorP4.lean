/- Paths: two of them held against each other; what one splits into. -/
import Derived.Test.YtclmemhginekbaaDoorP3
set_option linter.unusedSectionVars false
set_option linter.unusedSimpArgs false
set_option linter.unusedVariables false
namespace Go.Tk
open Go.RowKit Go.Proofs

theorem join_splitL : ∀ (s : List UInt8), Lib.join (splitL s) [47] = s
  | [] => by simp [splitL, Lib.join_one]
  | c :: t => by
    have ih := join_splitL t
    unfold splitL
    by_cases hc : c = 47
    · subst hc
      rw [if_pos rfl, Lib.join_cons, List.nil_append]
      cases hs : splitL t with
      | nil => exact absurd hs (splitL_ne t)
      | cons h r =>
        rw [hs, Lib.join_cons] at ih
        simp only [Lib.joinTail, List.map_cons, List.flatten_cons] at ih ⊢
        rw [List.cons_append, List.nil_append, List.cons_append, ih]
    · rw [if_neg hc]
      cases hs : splitL t with
      | nil => exact absurd hs (splitL_ne t)
      | cons h r =>
        rw [hs, Lib.join_cons] at ih
        show Lib.join ((c :: h) :: r) [47] = c :: t
        rw [Lib.join_cons, List.cons_append, ih]
theorem joinB_pieces (s : ByteArray) : joinB (piecesB s) = s := by
  unfold joinB piecesB
  rw [List.map_map, show ((fun x : ByteArray => x.data.toList) ∘ mkB) = id from funext fun l => rfl, List.map_id, join_splitL, mkB_data]
theorem join_append_le (a b : List (List UInt8)) : (Lib.join a [47]).length ≤ (Lib.join (a ++ b) [47]).length := by
  cases a with
  | nil => simp [Lib.join_nil]
  | cons x r =>
    rw [List.cons_append, Lib.join_cons, Lib.join_cons]
    simp [Lib.joinTail]
theorem joinB_take_le (l : List ByteArray) (n : Nat) : (joinB (l.take n)).size ≤ (joinB l).size := by
  unfold joinB
  rw [ba_size, ba_size]
  show (Lib.join ((l.take n).map _) [47]).length ≤ (Lib.join (l.map _) [47]).length
  conv => rhs; rw [← List.take_append_drop n l, List.map_append]
  exact join_append_le _ _
theorem namesL_join {s : ByteArray} {l : List ByteArray} (h : namesB s = some l) : joinB l = s ∧ (l = [] ↔ s.size = 0) := by
  unfold namesB at h
  split at h
  · rename_i h0
    simp only [Option.some.injEq] at h
    subst h
    refine ⟨?_, by simp [h0]⟩
    apply ba_ext
    rw [ba_size] at h0
    rw [List.eq_nil_of_length_eq_zero h0]
    rfl
  · rename_i h0
    split at h
    · cases h
    · split at h
      · simp only [Option.some.injEq] at h
        subst h
        refine ⟨joinB_pieces s, ?_⟩
        have : piecesB s ≠ [] := by
          intro h
          have := pieces_length s
          rw [h] at this
          simp at this
        simp [this, h0]
      · cases h
section
variable {B : Base} {R H H1 : HL} {w w' : World}
theorem or_errB (a b : ByteArray) : orI [errN a, errN b] = errB a b := by
  unfold errN errB orI
  cases (namesB a).isSome <;> cases (namesB b).isSome <;> rfl
theorem errB_0 {a b : ByteArray} (h : errB a b = 0) : ∃ x y, namesB a = some x ∧ namesB b = some y := by
  unfold errB at h
  cases ha : namesB a with
  | none => rw [ha] at h; simp at h
  | some x =>
    cases hb : namesB b with
    | none => rw [ha, hb] at h; simp at h
    | some y => exact ⟨x, y, rfl, rfl⟩
theorem errB_ne {a b : ByteArray} (h : errB a b ≠ 0) : aboveB a b = false ∧ lessI a b = 0 := by
  unfold errB at h
  unfold aboveB lessI
  cases ha : namesB a with
  | none => exact ⟨rfl, rfl⟩
  | some x =>
    cases hb : namesB b with
    | none => exact ⟨rfl, rfl⟩
    | some y => rw [ha, hb] at h; simp at h
def BothP (B : Base) (R : HL) (a b : ByteArray) (e : Ending) (w' : World) : Prop :=
  ∃ A c A2 c2, e = .returned (.tuple #[.slice A (namesL a).length c, .slice A2 (namesL b).length c2, .int .i64 (errB a b)]) ∧ OwnSl strE A (namesL a) [] c ∧ OwnSl strE A2 (namesL b) [] c2 ∧
    Sh B (rowA A2 (flat strE (namesL b) ++ []) 9 ++ (rowA A (flat strE (namesL a) ++ []) 9 ++ R)) w'
set_option maxRecDepth 100000 in
set_option maxHeartbeats 800000 in
theorem both_any [HasML B] (hS : Sh B R w) (a b : ByteArray) (ha : a.size ≤ 16777216) (hb : b.size ≤ 16777216) : Calls Tryd.prog 72 #[.string a, .string b] w (BothP B R a b) := by
  have h1 := fun (w : World) (R : HL) (hS : Sh B R w) => Names_any hS a ha
  have h2 := fun (w : World) (R : HL) (hS : Sh B R w) => Names_any hS b hb
  have h3 := fun (w : World) (R : HL) (A : Option Addr) (cap : Nat) (hS : Sh B R w) (r : RdAt (intE .i64) B R A [errN a, errN b]) => Or_any hS (A := A) (cap := cap) (xs := [errN a, errN b]) (by simp) (r := r)
  rw [or_errB] at h3
  go_enter Tryd.func72, Tryd.ntmps72
  go_wp2_with fail
  refine (h1 _ _ hS).mono ?_
  rintro e w' ⟨A, c, rfl, hO, hS⟩
  dsimp only
  go_wp2_with fail
  refine (h2 _ _ hS).mono ?_
  rintro e w' ⟨A2, c2, rfl, hO2, hS⟩
  dsimp only
  go_wp2_with (first | (refine wl_buildSlice (E := (intE .i64)) ([errN a, errN b]) rfl rfl (by simp only [List.map_toArray, List.map_cons, List.map_nil]; rfl) rfl (by decide) (by decide) hS ?_; intro _ _ hS hN; (try simp only [Act.put, List.setIfInBounds_toArray, List.set_cons_zero, List.set_cons_succ])) | (go_at_call 85; refine ((h3 _ _ _ _ hS inferInstance)).mono ?_; rintro e w' (⟨rfl, hS⟩)) | (refine wl_isld rfl ?_; ((first | refine wl_value rfl (ex_l0 hS rfl rfl rfl CellAt.out) ?_ | refine wl_value rfl (ex_lf hS rfl rfl rfl CellAt.out) ?_ | refine wl_value rfl (ex_l1 hS rfl rfl rfl CellAt.out) ?_ | refine wl_value rfl (ex_ldC hS rfl rfl CellAt.out) ?_ | refine wl_value rfl (ex_l0 hS rfl rfl rfl rfl) ?_ | refine wl_value rfl (ex_lf hS rfl rfl rfl rfl) ?_ | refine wl_value rfl (ex_l1 hS rfl rfl rfl rfl) ?_ | refine wl_value rfl (ex_ldC hS rfl rfl rfl) ?_ | refine wl_value rfl (ex_l00 hS rfl rfl CellAt.out) ?_ | refine wl_value rfl (ex_l00 hS rfl rfl rfl) ?_ | refine wl_value rfl (ex_l0f hS rfl rfl CellAt.out) ?_ | refine wl_value rfl (ex_l0f hS rfl rfl rfl) ?_ | refine wl_value rfl (ex_lr hS rfl rfl rfl rfl) ?_ | refine wl_value rfl (ex_lr0 hS rfl rfl rfl) ?_ | refine wl_value rfl (ex_lrz hS rfl rfl rfl) ?_ | refine wl_value rfl (ex_lrf hS rfl rfl rfl) ?_ | refine wl_value rfl (ex_ldrC hS rfl rfl) ?_ | refine wl_value rfl (ex_ldr0 hS rfl rfl rfl) ?_); (try simp only [Act.put, List.setIfInBounds_toArray, List.set_cons_zero, List.set_cons_succ]))) | ((first | refine wl_value rfl (ex_ix hS rfl rfl rfl ?_) ?_); (focus (first | rfl | omega | (simp; done))); (try simp only [Act.put, List.setIfInBounds_toArray, List.set_cons_zero, List.set_cons_succ])) | ((first | refine wl_value rfl (ex_eqA rfl rfl rfl) ?_ | refine wl_value rfl (ex_neA rfl rfl rfl) ?_); (try simp only [Act.put, List.setIfInBounds_toArray, List.set_cons_zero, List.set_cons_succ])) | (refine wl_alloc rfl rfl hS ?_; intro _ _ hS; (try simp only [Act.put, List.setIfInBounds_toArray, List.set_cons_zero, List.set_cons_succ])) | (refine wl_box rfl rfl rfl rfl hS ?_; intro _ _ hS; (try simp only [Act.put, List.setIfInBounds_toArray, List.set_cons_zero, List.set_cons_succ])) | (refine wl_st rfl rfl rfl rfl rfl hS (of_decide_eq_true rfl) ?_; intro _ hS; (try simp only [evT, evC, List.getD_cons_succ, List.getD_cons_zero, List.set_cons_zero, List.set_cons_succ] at hS); (try simp only [List.set_cons_zero, List.set_cons_succ] at hS); (try simp only [Act.put, List.setIfInBounds_toArray, List.set_cons_zero, List.set_cons_succ])) | (refine wl_strC rfl rfl rfl rfl hS rfl rfl ?_; intro _ hS; (try simp only [evT, evC, List.getD_cons_succ, List.getD_cons_zero, List.set_cons_zero, List.set_cons_succ] at hS); (try simp only [Act.put, List.setIfInBounds_toArray, List.set_cons_zero, List.set_cons_succ])))
  refine bodyPost_res (rs := ([.tmp 4, .tmp 5, .tmp 6])) rfl ((.tmp (.tmp (.tmp .nil)))) rfl ?_
  exact ⟨A, c, A2, c2, rfl, hO, hO2, hS.to⟩
theorem EqS_any (hS : Sh B R w) {A A2 : Option Addr} {cap cap2 : Nat} {xs ys : List ByteArray} [r : RdAt strE B R A xs] [r2 : RdAt strE B R A2 ys] :
    Calls Tryd.prog 84 #[.slice A xs.length cap, .slice A2 ys.length cap2] w fun e w' => e = .returned (.bool (decide (xs = ys))) ∧ Sh B R w' := by
  by_cases hl : xs.length = ys.length
  · cases hx : xs with
    | nil =>
      have hy : ys = [] := by rw [hx] at hl; exact List.eq_nil_of_length_eq_zero hl.symm
      subst hy
      refine (Tryd.slices_Equal_string_empty A A2 cap 0 cap2 w (by decide)).mono fun e w' h => ⟨by rw [h.1]; rfl, by rw [h.2]; exact hS⟩
    | cons x0 xr =>
      rw [← hx]
      have h0 : 0 < xs.length := by rw [hx]; simp
      have hA := r.ok.form h0
      have hA2 := r2.ok.form (by omega)
      rw [hA, hA2]
      have g : ∀ (zs : List ByteArray) (Z : Option Addr) (rz : RdAt strE B R Z zs) j, j < zs.length → w.cell? ⟨blkA Z, offA Z + j, none⟩ = some (.string (zs.getD j ByteArray.empty)) := by
        intro zs Z rz j hj
        have hz : zs[j]? = some zs[j] := List.getElem?_eq_getElem hj
        have := rz.f1 hS rfl hz (v := .string zs[j]) rfl
        rw [this, List.getD_eq_getElem?_getD, hz]; rfl
      refine (Tryd.slices_Equal_string (blkA A) (offA A) xs.length cap (blkA A2) (offA A2) ys.length cap2 xs ys w (Nat.le_refl _) (Nat.le_refl _) r.max r2.max (g xs A r) (g ys A2 r2)).mono fun e w' h => ⟨by rw [h.1, List.take_length, List.take_length], ?_⟩
      obtain ⟨q, hq⟩ := h.2
      rw [hq]; exact hS.drewN q
  · refine (Tryd.slices_Equal_string_lens A A2 xs.length cap ys.length cap2 w hl).mono fun e w' h => ⟨?_, by rw [h.2]; exact hS⟩
    rw [h.1, decide_eq_false]
    intro h; exact hl (by rw [h])
theorem Join_any [NoDraw B] (hS : Sh B R w) {A : Option Addr} {cap : Nat} {xs : List ByteArray} [r : RdAt strE B R A xs] (hc : xs.length ≤ cap) (hl : xs.length ≤ 16777216) (hj : (joinB xs).size ≤ 16777216) :
    Calls Tryd.prog 70 #[.slice A xs.length cap, .string slash] w fun e w' => e = .returned (.string (joinB xs)) ∧ Sh B R w' := by
  cases hx : xs with
  | nil => exact (Tryd.strings_Join_none A cap slash w).mono fun e w' h => ⟨by rw [h.1]; rfl, by rw [h.2]; exact hS⟩
  | cons x0 xr =>
    rw [← hx]
    have h0 : 0 < xs.length := by rw [hx]; simp
    rw [r.ok.form h0]
    have hcell : ∀ (j : Nat) x, xs[j]? = some x → w.cell? ⟨blkA A, offA A + j, none⟩ = some (.string x) := fun j x hx => r.f1 hS rfl hx rfl
    have hbk : blkA A < w.heap.size := by
      have := hcell 0 x0 (by rw [hx]; rfl)
      unfold World.cell? at this
      split at this
      · rename_i hh
        exact (Array.getElem?_eq_some_iff.1 hh).1
      all_goals simp_all
    have hj' : (Lib.join (xs.map (·.data.toList)) slash.data.toList).length ≤ 140737488355328 := by
      have : (Lib.join (xs.map (·.data.toList)) [47]).length ≤ 16777216 := hj
      exact Nat.le_trans this (by decide)
    refine (Tryd.strings_Join (blkA A) (offA A) cap xs slash w hcell hbk (by omega) hc hj').mono fun e w' h => ⟨by rw [h.1]; rfl, hS.ofBelow h.2⟩
end
end Go.Tk
