/- The queue's First. -/
import Derived.Test.YteahpjecpdcpaaaQ7
set_option linter.unusedSectionVars false
set_option linter.unusedSimpArgs false
set_option linter.unusedVariables false
namespace Go.Tk
open Go.RowKit Go.Proofs

def hitK (ks : List Dig) (w : Wait) : Bool := ks.isEmpty || decide (w.key ∈ ks)
def QS.first (q : QS) (ks : List Dig) : Wait × Bool := match (q.rows false).find? (hitK ks) with | some w => (w, true) | none => (Wait.zero, false)
def FirstP (B : Base) (R : HL) (q : QS) (b mi mk : Nat) (ks : List Dig) (e : Ending) (w' : World) : Prop :=
  e = .returned (.tuple #[.agg (q.first ks).1.cells.toArray, .bool (q.first ks).2]) ∧ QAt B q b mi mk R w'

theorem find_hit {α : Type} {l : List α} {f : α → Bool} {i : Nat} {x : α} (h : ∀ j, j < i → ∀ y, l[j]? = some y → f y = false) (hi : l[i]? = some x) (hx : f x = true) : l.find? f = some x := by
  rw [List.find?_eq_some_iff_getElem]
  obtain ⟨h1, h2⟩ := List.getElem?_eq_some_iff.1 hi
  refine ⟨hx, i, h1, h2, fun j hj => ?_⟩
  have := h j hj l[j] (List.getElem?_eq_getElem (by omega))
  simp [this]
theorem find_miss {α : Type} {l : List α} {f : α → Bool} (h : ∀ j, j < l.length → ∀ y, l[j]? = some y → f y = false) : l.find? f = none := by
  rw [List.find?_eq_none]
  intro x hx
  obtain ⟨j, hj, rfl⟩ := List.getElem_of_mem hx
  simp [h j hj _ (List.getElem?_eq_getElem hj)]
theorem key_range {B : Base} {H R : HL} {w : World} {b : Nat} {T : TypeId} {x : Wait} [hp : HasCell H b x.cells T R] (hS : Sh B H w) : w.rangeAt b 1 x.key.cells := by
  have := Sh.rangeC (b := b) hS 1 32
  rwa [x.key_] at this
def FirstI (B : Base) (H : HL) (l : List Wait) (ks : List Dig) (i : Nat) (w : World) : Prop := i ≤ l.length ∧ (∀ j, j < i → ∀ x, l[j]? = some x → hitK ks x = false) ∧ Sh B H w

section
variable {B : Base} {R : HL} {w : World} {q : QS} {b mi mk : Nat}
set_option maxRecDepth 100000 in
set_option maxHeartbeats 800000 in
theorem First_any {KA : Option Addr} {ks : List Dig} {ksp : List Value} {kcap : Nat} (hQ : QAt B q b mi mk (rowA KA (flat digE ks ++ ksp) 35 ++ R) w) (hK : OwnSl digE KA ks ksp kcap) (hO : q.Ord) :
    Calls Try.prog 20 #[.pointer (some ⟨b, 0, none⟩), .slice KA ks.length kcap] w (FirstP B (rowA KA (flat digE ks ++ ksp) 35 ++ R) q b mi mk ks) := by
  obtain ⟨es1, c1, es2, c2, hS, hm1, hm2⟩ := hQ.out
  go_enter Try.func20, Try.ntmps20
  go_wp2_with (first | (refine wl_alloc rfl rfl hS ?_; intro rb _ hS; (try simp only [Act.put, List.setIfInBounds_toArray, List.set_cons_zero, List.set_cons_succ])) | (go_at_call 31; refine ((rows_any (QAt.of b mi mk hS hm1 hm2) hO _)).mono ?_; rintro e w' (⟨A, sp, cap, rfl, hA, ⟨es1, c1, es2, c2, hS, hm1, hm2⟩⟩)))
  have hmax : (q.rows false).length ≤ 9223372036854775807 := Nat.le_trans hA.len_le hA.max
  refine wp_loopS [11] [5, 7, 12, 13, 14, 15, 16, 17, 18, 19, 20, 21, 22, 23, 24, 25] (fun i : Nat => [.int .i64 i]) (FirstI B _ (q.rows false) ks) (fun i => (q.rows false).length - i) 0 rfl ⟨Nat.zero_le _, fun j h => absurd h (Nat.not_lt_zero _), hS⟩ ?_
  clear hS
  rintro i J w ⟨hi, hno, hS⟩
  (simp only [Frm, setsT, junkT, List.setIfInBounds_toArray, List.set_cons_zero, List.set_cons_succ])
  by_cases hlt : i < (q.rows false).length
  · obtain ⟨x, hx⟩ := at_ hlt
    have Hx := Lib.hid hx
    clear hx
    have hlt' : (i : Int) < (q.rows false).length := by omega
    cases hh : hitK ks x with
    | true =>
      have hf : q.first ks = (x, true) := by unfold QS.first; rw [find_hit hno Hx.out hh]
      have Hf := Lib.hid hf
      clear hf
      by_cases hks : ks = []
      · subst hks
        go_wp2_with (first | (refine wl_idx rfl rfl rfl rfl ((by omega)) hlt' hA.ok ?_; (try simp only [Int.toNat_natCast]); (try simp only [Act.put, List.setIfInBounds_toArray, List.set_cons_zero, List.set_cons_succ])) | (refine wl_ldr rfl rfl rfl (show World.rangeAt _ _ _ x.cells from RdAt.range (OwnSl.at_ hA) hS Hx.out) x.len ?_; (try simp only [Act.put, List.setIfInBounds_toArray, List.set_cons_zero, List.set_cons_succ])) | (refine wl_alloc rfl rfl hS ?_; intro wb _ hS; (try simp only [Act.put, List.setIfInBounds_toArray, List.set_cons_zero, List.set_cons_succ])) | (refine wl_ldr rfl rfl rfl (Sh.rangeAll (b := wb) hS) x.len ?_; (try simp only [Act.put, List.setIfInBounds_toArray, List.set_cons_zero, List.set_cons_succ])) | (refine wl_str0 rfl rfl rfl rfl x.len x.one hS rfl ?_; intro _ hS; (try simp only [evT, evC, List.getD_cons_succ, List.getD_cons_zero, List.set_cons_zero, List.set_cons_succ] at hS); (try simp only [Act.put, List.setIfInBounds_toArray, List.set_cons_zero, List.set_cons_succ])))
        refine bodyPost_res (rs := [.cell 4 38, .tmp 5]) rfl (.cell rfl (ldv_row (Sh.rangeAll (b := rb) hS) x.len) (.tmp .nil)) rfl ?_
        unfold FirstP
        rw [Hf.out]
        simp only [flat_nil, List.nil_append] at hS
        exact ⟨rfl, _, _, _, _, hS.to, hm1, hm2⟩
      · have hkl : ¬ (ks.length : Int) = 0 := fun h => hks (List.length_eq_zero_iff.1 (by omega))
        have hm : x.key ∈ ks := by simpa [hitK, hks] using hh
        have hkb : ((ks.length : Int) == 0) = false := by simpa using hkl
        go_wp2_with (first | (simp only [hkb]) | (refine wl_idx rfl rfl rfl rfl ((by omega)) hlt' hA.ok ?_; (try simp only [Int.toNat_natCast]); (try simp only [Act.put, List.setIfInBounds_toArray, List.set_cons_zero, List.set_cons_succ])) | (refine wl_ldr rfl rfl rfl (show World.rangeAt _ _ _ x.cells from RdAt.range (OwnSl.at_ hA) hS Hx.out) x.len ?_; (try simp only [Act.put, List.setIfInBounds_toArray, List.set_cons_zero, List.set_cons_succ])) | (refine wl_alloc rfl rfl hS ?_; intro wb _ hS; (try simp only [Act.put, List.setIfInBounds_toArray, List.set_cons_zero, List.set_cons_succ])) | (refine wl_ldr rfl rfl rfl (Sh.rangeAll (b := wb) hS) x.len ?_; (try simp only [Act.put, List.setIfInBounds_toArray, List.set_cons_zero, List.set_cons_succ])) | (refine wl_ldr rfl rfl rfl (key_range (b := wb) hS) x.key.len ?_; (try simp only [Act.put, List.setIfInBounds_toArray, List.set_cons_zero, List.set_cons_succ])) | (refine wl_str0 rfl rfl rfl rfl x.len x.one hS rfl ?_; intro _ hS; (try simp only [evT, evC, List.getD_cons_succ, List.getD_cons_zero, List.set_cons_zero, List.set_cons_succ] at hS); (try simp only [Act.put, List.setIfInBounds_toArray, List.set_cons_zero, List.set_cons_succ])) | (go_at_call 33; refine ((Contains_any hS hK x.key)).mono ?_; rintro e w' (⟨rfl, hS⟩)))
        refine bodyPost_res (rs := [.cell 4 38, .tmp 5]) rfl (.cell rfl (ldv_row (Sh.rangeAll (b := rb) hS) x.len) (.tmp .nil)) rfl ?_
        unfold FirstP
        rw [Hf.out]
        exact ⟨rfl, _, _, _, _, hS.to, hm1, hm2⟩
    | false =>
      have hks : ks ≠ [] := by rintro rfl; simp [hitK] at hh
      have hkl : ¬ (ks.length : Int) = 0 := fun h => hks (List.length_eq_zero_iff.1 (by omega))
      have hm : ¬ x.key ∈ ks := by simpa [hitK, hks] using hh
      have hkb : ((ks.length : Int) == 0) = false := by simpa using hkl
      have hno' : ∀ j, j < i + 1 → ∀ y, (q.rows false)[j]? = some y → hitK ks y = false := by
        intro j hj y hy
        by_cases hji : j = i
        · subst hji; rw [Hx.out] at hy; cases hy; exact hh
        · exact hno j (by omega) y hy
      go_wp2_with (first | (simp only [hkb]) | (refine wl_idx rfl rfl rfl rfl ((by omega)) hlt' hA.ok ?_; (try simp only [Int.toNat_natCast]); (try simp only [Act.put, List.setIfInBounds_toArray, List.set_cons_zero, List.set_cons_succ])) | (refine wl_ldr rfl rfl rfl (show World.rangeAt _ _ _ x.cells from RdAt.range (OwnSl.at_ hA) hS Hx.out) x.len ?_; (try simp only [Act.put, List.setIfInBounds_toArray, List.set_cons_zero, List.set_cons_succ])) | (refine wl_alloc rfl rfl hS ?_; intro wb _ hS; (try simp only [Act.put, List.setIfInBounds_toArray, List.set_cons_zero, List.set_cons_succ])) | (refine wl_ldr rfl rfl rfl (Sh.rangeAll (b := wb) hS) x.len ?_; (try simp only [Act.put, List.setIfInBounds_toArray, List.set_cons_zero, List.set_cons_succ])) | (refine wl_ldr rfl rfl rfl (key_range (b := wb) hS) x.key.len ?_; (try simp only [Act.put, List.setIfInBounds_toArray, List.set_cons_zero, List.set_cons_succ])) | (refine wl_str0 rfl rfl rfl rfl x.len x.one hS rfl ?_; intro _ hS; (try simp only [evT, evC, List.getD_cons_succ, List.getD_cons_zero, List.set_cons_zero, List.set_cons_succ] at hS); (try simp only [Act.put, List.setIfInBounds_toArray, List.set_cons_zero, List.set_cons_succ])) | (go_at_call 33; refine ((Contains_any hS hK x.key)).mono ?_; rintro e w' (⟨rfl, hS⟩)))
      refine ⟨i + 1, ⟨by omega, hno', hS.drop⟩, by omega, rfl, ?_, rfl⟩
      (simp only [blankT, junkT, List.cons_append, List.nil_append, List.setIfInBounds_toArray, List.set_cons_zero, List.set_cons_succ])
  · have hf : q.first ks = (Wait.zero, false) := by unfold QS.first; rw [find_miss fun j hj => hno j (by omega)]
    have Hf := Lib.hid hf
    clear hf
    have hlt' : ¬ (i : Int) < (q.rows false).length := by omega
    go_wp2_with (first | (refine wl_str0 rfl rfl rfl rfl Wait.zero.len Wait.zero.one hS rfl ?_; intro _ hS; (try simp only [evT, evC, List.getD_cons_succ, List.getD_cons_zero, List.set_cons_zero, List.set_cons_succ] at hS); (try simp only [Act.put, List.setIfInBounds_toArray, List.set_cons_zero, List.set_cons_succ])))
    refine bodyPost_res (rs := [.cell 4 38, .tmp 5]) rfl (.cell rfl (ldv_row (show World.rangeAt _ _ _ Wait.zero.cells from Sh.rangeAll (b := rb) hS) Wait.zero.len) (.tmp .nil)) rfl ?_
    unfold FirstP
    rw [Hf.out]
    exact ⟨rfl, _, _, _, _, hS.to, hm1, hm2⟩
end
end Go.Tk
