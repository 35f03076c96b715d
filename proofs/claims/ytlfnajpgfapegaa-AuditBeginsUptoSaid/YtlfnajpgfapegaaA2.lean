/- The wire's reader: numbers, counts, its end. -/
import Derived.Test.YtlfnajpgfapegaaA1
set_option linter.unusedSectionVars false
set_option linter.unusedSimpArgs false
set_option linter.unusedVariables false
namespace Go.Tk
open Go.RowKit Go.Proofs

def RdS.ok (s : RdS) : Prop := s.why = 0 ∧ s.wat = 0
instance (s : RdS) : Decidable s.ok := inferInstanceAs (Decidable (s.why = 0 ∧ s.wat = 0))
def uintS (bs : List Int) (s : RdS) : Int × RdS :=
  if s.ok then (if (numI bs s.at_).2.2 = 0 then ((numI bs s.at_).1, { s with at_ := s.at_ + (numI bs s.at_).2.1 }) else (0, { s with why := (numI bs s.at_).2.2, wat := s.at_ })) else (0, s)
def countS (bs : List Int) (most : Int) (s : RdS) : Int × RdS :=
  if s.ok then (if (numI bs s.at_).2.2 = 0 then (if most < (numI bs s.at_).1 then (0, { s with why := 11, wat := s.at_ }) else ((numI bs s.at_).1, { s with at_ := s.at_ + (numI bs s.at_).2.1 })) else (0, { s with why := (numI bs s.at_).2.2, wat := s.at_ })) else (0, s)
def endS (bs : List Int) (s : RdS) : RdS := if s.ok ∧ s.at_ < bs.length then { s with why := 6, wat := s.at_ } else s

theorem numG_fits {bs : List Int} {p : Nat} : ∀ (f k : Nat) (n : Int), (numG bs p f k n).2.2 = 0 → p + (numG bs p f k n).2.1 ≤ bs.length ∧ (numG bs p f k n).2.1 ≤ k + f
  | 0, k, n, h => by simp [numG] at h
  | f + 1, k, n, h => by
    rw [numG] at h ⊢
    cases hb : bs[p + k]? with
    | none => rw [hb] at h; simp at h
    | some c =>
      have hlt := (List.getElem?_eq_some_iff.1 hb).1
      rw [hb] at h
      simp only at h ⊢
      split at h
      · simp at h
      · rename_i h1
        rw [if_neg h1]
        split at h
        · rename_i h2
          rw [if_pos h2]
          split at h
          · simp at h
          · rename_i h3
            rw [if_neg h3]
            simp only
            omega
        · rename_i h2
          rw [if_neg h2]
          have := numG_fits f (k + 1) _ h
          omega
theorem numI_fits {bs : List Int} {p : Nat} (h : (numI bs p).2.2 = 0) : p + (numI bs p).2.1 ≤ bs.length := (numG_fits 10 0 0 h).1
theorem numG_range {bs : List Int} {p : Nat} (hb : Bytes bs) : ∀ (f k : Nat) (n : Int), k + f = 10 → 0 ≤ n → n < 2 ^ (7 * k) → 0 ≤ (numG bs p f k n).1 ∧ (numG bs p f k n).1 < 18446744073709551616
  | 0, k, n, hk, h0, h1 => by simp [numG]
  | f + 1, k, n, hk, h0, h1 => by
    rw [numG]
    cases hbc : bs[p + k]? with
    | none => simp
    | some c =>
      have hc := hb c (List.mem_of_getElem? hbc)
      simp only
      have hp : (0 : Int) < 2 ^ (7 * k) := Int.pow_pos (by decide)
      have hn0 : 0 ≤ n + c % 128 * 2 ^ (7 * k) := Int.add_nonneg h0 (Int.mul_nonneg (by omega) (Int.le_of_lt hp))
      split
      · simp
      · rename_i h9
        split
        · split
          · simp
          · refine ⟨hn0, ?_⟩
            simp only
            by_cases hk9 : k = 9
            · subst hk9
              have h2 : (2 : Int) ^ (7 * 9) = 9223372036854775808 := by decide
              rw [h2] at h1 ⊢; omega
            · have := pow_le (show k ≤ 8 by omega)
              have h3 : c % 128 * 2 ^ (7 * k) ≤ 127 * 2 ^ (7 * k) := Int.mul_le_mul_of_nonneg_right (by omega) (Int.le_of_lt hp)
              omega
        · exact numG_range hb f (k + 1) _ (by omega) hn0 (next_lt h1 (by omega))
theorem numI_range {bs : List Int} {p : Nat} (hb : Bytes bs) : 0 ≤ (numI bs p).1 ∧ (numI bs p).1 < 18446744073709551616 := numG_range hb 10 0 0 rfl (by decide) (by decide)
theorem uintS_at {bs : List Int} {s : RdS} (h : s.at_ ≤ bs.length) : (uintS bs s).2.at_ ≤ bs.length := by
  unfold uintS
  split
  · split
    · rename_i h2; exact numI_fits h2
    · exact h
  · exact h
theorem countS_at {bs : List Int} {m : Int} {s : RdS} (h : s.at_ ≤ bs.length) : (countS bs m s).2.at_ ≤ bs.length := by
  unfold countS
  split
  · split
    · rename_i h2
      split
      · exact h
      · exact numI_fits h2
    · exact h
  · exact h
theorem countS_range {bs : List Int} (hb : Bytes bs) {m : Int} (hm : 0 ≤ m) (s : RdS) : 0 ≤ (countS bs m s).1 ∧ (countS bs m s).1 ≤ m := by
  unfold countS
  have := numI_range (p := s.at_) hb
  split
  · split
    · split
      · exact ⟨Int.le_refl 0, hm⟩
      · exact ⟨this.1, by simp only; omega⟩
    · exact ⟨Int.le_refl 0, hm⟩
  · exact ⟨Int.le_refl 0, hm⟩
theorem uintS_range {bs : List Int} (hb : Bytes bs) (s : RdS) : 0 ≤ (uintS bs s).1 ∧ (uintS bs s).1 < 18446744073709551616 := by
  unfold uintS
  have := numI_range (p := s.at_) hb
  split
  · split
    · exact this
    · exact ⟨Int.le_refl 0, (by decide : (0 : Int) < 18446744073709551616)⟩
  · exact ⟨Int.le_refl 0, (by decide : (0 : Int) < 18446744073709551616)⟩

section
variable {B : Base} {R H : HL} {w : World} {bs : List Int} {s : RdS} {b : Nat}
theorem number_is {A : Option Addr} {cap : Nat} (hS : Sh B H w) [hc : HasCell H b (rdC A bs.length cap s) 95 R] [hr : RdAt (intE .u8) B H A bs] (hb : Bytes bs) (hl : bs.length ≤ 4294967296) (p : Nat) (hp : p ≤ bs.length) {n : Int} {k : Nat} {e : Int} (hn : numI bs p = (n, k, e)) :
    Calls Try.prog 47 #[.pointer (some ⟨b, 0, none⟩), .int .i64 p] w fun en w' => en = .returned (.tuple #[.int .u64 n, .int .i64 k, .int .i64 e]) ∧ w = w' := by
  have := number_any (b := b) (s := s) (A := A) (cap := cap) hS hb hl p hp
  rw [hn] at this
  exact this
set_option maxRecDepth 100000 in
set_option maxHeartbeats 800000 in
theorem Uint_any (hQ : RdAtB B bs s b R w) (hb : Bytes bs) (hl : bs.length ≤ 4294967296) (hp : s.at_ ≤ bs.length) :
    Calls Try.prog 26 #[.pointer (some ⟨b, 0, none⟩)] w fun e w' => e = .returned (.int .u64 (uintS bs s).1) ∧ RdAtB B bs (uintS bs s).2 b R w' := by
  obtain ⟨A, sp, cap, hS, hO⟩ := hQ.out
  by_cases hok : s.ok
  · obtain ⟨n, k, e, hn⟩ : ∃ n k e, numI bs s.at_ = (n, k, e) := ⟨_, _, _, rfl⟩
    have hfit := numI_fits (bs := bs) (p := s.at_)
    rw [hn] at hfit
    dsimp only at hfit
    have hres : uintS bs s = if e = 0 then (n, { s with at_ := s.at_ + k }) else (0, { s with why := e, wat := s.at_ }) := by
      unfold uintS; rw [if_pos hok, hn]
    have Hres := Lib.hid hres
    have Hn := Lib.hid hn
    have hwell : decide (s.why = 0 ∧ s.wat = 0) = true := decide_eq_true hok
    clear hres hn hok
    by_cases he : e = 0
    · subst he
      have hfit := hfit rfl
      go_enter Try.func26, Try.ntmps26
      go_wp2_with (first | (go_at_call 45; refine ((well_any hS)).mono ?_; rintro e w' (⟨rfl, rfl⟩)) | (go_at_call 47; refine ((number_is hS hb hl s.at_ hp Hn.out)).mono ?_; rintro e w' (⟨rfl, rfl⟩)) | (refine wl_isld rfl ?_; ((first | refine wl_value rfl (ex_l0 hS rfl rfl rfl CellAt.out) ?_ | refine wl_value rfl (ex_lf hS rfl rfl rfl CellAt.out) ?_ | refine wl_value rfl (ex_l1 hS rfl rfl rfl CellAt.out) ?_ | refine wl_value rfl (ex_ldC hS rfl rfl CellAt.out) ?_ | refine wl_value rfl (ex_l0 hS rfl rfl rfl rfl) ?_ | refine wl_value rfl (ex_lf hS rfl rfl rfl rfl) ?_ | refine wl_value rfl (ex_l1 hS rfl rfl rfl rfl) ?_ | refine wl_value rfl (ex_ldC hS rfl rfl rfl) ?_ | refine wl_value rfl (ex_l00 hS rfl rfl CellAt.out) ?_ | refine wl_value rfl (ex_l00 hS rfl rfl rfl) ?_ | refine wl_value rfl (ex_l0f hS rfl rfl CellAt.out) ?_ | refine wl_value rfl (ex_l0f hS rfl rfl rfl) ?_ | refine wl_value rfl (ex_lr hS rfl rfl rfl rfl) ?_ | refine wl_value rfl (ex_lr0 hS rfl rfl rfl) ?_ | refine wl_value rfl (ex_lrz hS rfl rfl rfl) ?_ | refine wl_value rfl (ex_lrf hS rfl rfl rfl) ?_ | refine wl_value rfl (ex_ldrC hS rfl rfl) ?_ | refine wl_value rfl (ex_ldr0 hS rfl rfl rfl) ?_); (try simp only [Act.put, List.setIfInBounds_toArray, List.set_cons_zero, List.set_cons_succ]))) | ((first | refine wl_value rfl (ex_ix hS rfl rfl rfl ?_) ?_); (focus (first | rfl | omega | (simp; done))); (try simp only [Act.put, List.setIfInBounds_toArray, List.set_cons_zero, List.set_cons_succ])) | ((first | refine wl_value rfl (ex_eqA rfl rfl rfl) ?_ | refine wl_value rfl (ex_neA rfl rfl rfl) ?_); (try simp only [Act.put, List.setIfInBounds_toArray, List.set_cons_zero, List.set_cons_succ])) | (refine wl_alloc rfl rfl hS ?_; intro _ _ hS; (try simp only [Act.put, List.setIfInBounds_toArray, List.set_cons_zero, List.set_cons_succ])) | (refine wl_box rfl rfl rfl rfl hS ?_; intro _ _ hS; (try simp only [Act.put, List.setIfInBounds_toArray, List.set_cons_zero, List.set_cons_succ])) | (refine wl_st rfl rfl rfl rfl rfl hS (of_decide_eq_true rfl) ?_; intro _ hS; (try simp only [evT, evC, List.getD_cons_succ, List.getD_cons_zero, List.set_cons_zero, List.set_cons_succ] at hS); (try simp only [List.set_cons_zero, List.set_cons_succ] at hS); (try simp only [Act.put, List.setIfInBounds_toArray, List.set_cons_zero, List.set_cons_succ])) | (refine wl_strC rfl rfl rfl rfl hS rfl rfl ?_; intro _ hS; (try simp only [evT, evC, List.getD_cons_succ, List.getD_cons_zero, List.set_cons_zero, List.set_cons_succ] at hS); (try simp only [Act.put, List.setIfInBounds_toArray, List.set_cons_zero, List.set_cons_succ])))
      go_ret
      rw [Hres.out]
      exact ⟨rfl, _, _, _, hS, hO⟩
    · have heb := bne_no he
      go_enter Try.func26, Try.ntmps26
      go_wp2_with (first | (go_at_call 45; refine ((well_any hS)).mono ?_; rintro e w' (⟨rfl, rfl⟩)) | (go_at_call 47; refine ((number_is hS hb hl s.at_ hp Hn.out)).mono ?_; rintro e w' (⟨rfl, rfl⟩)) | (go_at_call 46; refine ((fails_any hS e s.at_)).mono ?_; rintro e w' (⟨rfl, hS⟩)) | (refine wl_isld rfl ?_; ((first | refine wl_value rfl (ex_l0 hS rfl rfl rfl CellAt.out) ?_ | refine wl_value rfl (ex_lf hS rfl rfl rfl CellAt.out) ?_ | refine wl_value rfl (ex_l1 hS rfl rfl rfl CellAt.out) ?_ | refine wl_value rfl (ex_ldC hS rfl rfl CellAt.out) ?_ | refine wl_value rfl (ex_l0 hS rfl rfl rfl rfl) ?_ | refine wl_value rfl (ex_lf hS rfl rfl rfl rfl) ?_ | refine wl_value rfl (ex_l1 hS rfl rfl rfl rfl) ?_ | refine wl_value rfl (ex_ldC hS rfl rfl rfl) ?_ | refine wl_value rfl (ex_l00 hS rfl rfl CellAt.out) ?_ | refine wl_value rfl (ex_l00 hS rfl rfl rfl) ?_ | refine wl_value rfl (ex_l0f hS rfl rfl CellAt.out) ?_ | refine wl_value rfl (ex_l0f hS rfl rfl rfl) ?_ | refine wl_value rfl (ex_lr hS rfl rfl rfl rfl) ?_ | refine wl_value rfl (ex_lr0 hS rfl rfl rfl) ?_ | refine wl_value rfl (ex_lrz hS rfl rfl rfl) ?_ | refine wl_value rfl (ex_lrf hS rfl rfl rfl) ?_ | refine wl_value rfl (ex_ldrC hS rfl rfl) ?_ | refine wl_value rfl (ex_ldr0 hS rfl rfl rfl) ?_); (try simp only [Act.put, List.setIfInBounds_toArray, List.set_cons_zero, List.set_cons_succ]))) | ((first | refine wl_value rfl (ex_ix hS rfl rfl rfl ?_) ?_); (focus (first | rfl | omega | (simp; done))); (try simp only [Act.put, List.setIfInBounds_toArray, List.set_cons_zero, List.set_cons_succ])) | ((first | refine wl_value rfl (ex_eqA rfl rfl rfl) ?_ | refine wl_value rfl (ex_neA rfl rfl rfl) ?_); (try simp only [Act.put, List.setIfInBounds_toArray, List.set_cons_zero, List.set_cons_succ])) | (refine wl_alloc rfl rfl hS ?_; intro _ _ hS; (try simp only [Act.put, List.setIfInBounds_toArray, List.set_cons_zero, List.set_cons_succ])) | (refine wl_box rfl rfl rfl rfl hS ?_; intro _ _ hS; (try simp only [Act.put, List.setIfInBounds_toArray, List.set_cons_zero, List.set_cons_succ])) | (refine wl_st rfl rfl rfl rfl rfl hS (of_decide_eq_true rfl) ?_; intro _ hS; (try simp only [evT, evC, List.getD_cons_succ, List.getD_cons_zero, List.set_cons_zero, List.set_cons_succ] at hS); (try simp only [List.set_cons_zero, List.set_cons_succ] at hS); (try simp only [Act.put, List.setIfInBounds_toArray, List.set_cons_zero, List.set_cons_succ])) | (refine wl_strC rfl rfl rfl rfl hS rfl rfl ?_; intro _ hS; (try simp only [evT, evC, List.getD_cons_succ, List.getD_cons_zero, List.set_cons_zero, List.set_cons_succ] at hS); (try simp only [Act.put, List.setIfInBounds_toArray, List.set_cons_zero, List.set_cons_succ])))
      go_ret
      rw [Hres.out, if_neg he]
      exact ⟨rfl, _, _, _, hS, hO⟩
  · have hwell : decide (s.why = 0 ∧ s.wat = 0) = false := decide_eq_false hok
    have hres : uintS bs s = (0, s) := by unfold uintS; rw [if_neg hok]
    have Hres := Lib.hid hres
    clear hres hok
    go_enter Try.func26, Try.ntmps26
    go_wp2_with (first | (go_at_call 45; refine ((well_any hS)).mono ?_; rintro e w' (⟨rfl, rfl⟩)) | (refine wl_isld rfl ?_; ((first | refine wl_value rfl (ex_l0 hS rfl rfl rfl CellAt.out) ?_ | refine wl_value rfl (ex_lf hS rfl rfl rfl CellAt.out) ?_ | refine wl_value rfl (ex_l1 hS rfl rfl rfl CellAt.out) ?_ | refine wl_value rfl (ex_ldC hS rfl rfl CellAt.out) ?_ | refine wl_value rfl (ex_l0 hS rfl rfl rfl rfl) ?_ | refine wl_value rfl (ex_lf hS rfl rfl rfl rfl) ?_ | refine wl_value rfl (ex_l1 hS rfl rfl rfl rfl) ?_ | refine wl_value rfl (ex_ldC hS rfl rfl rfl) ?_ | refine wl_value rfl (ex_l00 hS rfl rfl CellAt.out) ?_ | refine wl_value rfl (ex_l00 hS rfl rfl rfl) ?_ | refine wl_value rfl (ex_l0f hS rfl rfl CellAt.out) ?_ | refine wl_value rfl (ex_l0f hS rfl rfl rfl) ?_ | refine wl_value rfl (ex_lr hS rfl rfl rfl rfl) ?_ | refine wl_value rfl (ex_lr0 hS rfl rfl rfl) ?_ | refine wl_value rfl (ex_lrz hS rfl rfl rfl) ?_ | refine wl_value rfl (ex_lrf hS rfl rfl rfl) ?_ | refine wl_value rfl (ex_ldrC hS rfl rfl) ?_ | refine wl_value rfl (ex_ldr0 hS rfl rfl rfl) ?_); (try simp only [Act.put, List.setIfInBounds_toArray, List.set_cons_zero, List.set_cons_succ]))) | ((first | refine wl_value rfl (ex_ix hS rfl rfl rfl ?_) ?_); (focus (first | rfl | omega | (simp; done))); (try simp only [Act.put, List.setIfInBounds_toArray, List.set_cons_zero, List.set_cons_succ])) | ((first | refine wl_value rfl (ex_eqA rfl rfl rfl) ?_ | refine wl_value rfl (ex_neA rfl rfl rfl) ?_); (try simp only [Act.put, List.setIfInBounds_toArray, List.set_cons_zero, List.set_cons_succ])) | (refine wl_alloc rfl rfl hS ?_; intro _ _ hS; (try simp only [Act.put, List.setIfInBounds_toArray, List.set_cons_zero, List.set_cons_succ])) | (refine wl_box rfl rfl rfl rfl hS ?_; intro _ _ hS; (try simp only [Act.put, List.setIfInBounds_toArray, List.set_cons_zero, List.set_cons_succ])) | (refine wl_st rfl rfl rfl rfl rfl hS (of_decide_eq_true rfl) ?_; intro _ hS; (try simp only [evT, evC, List.getD_cons_succ, List.getD_cons_zero, List.set_cons_zero, List.set_cons_succ] at hS); (try simp only [List.set_cons_zero, List.set_cons_succ] at hS); (try simp only [Act.put, List.setIfInBounds_toArray, List.set_cons_zero, List.set_cons_succ])) | (refine wl_strC rfl rfl rfl rfl hS rfl rfl ?_; intro _ hS; (try simp only [evT, evC, List.getD_cons_succ, List.getD_cons_zero, List.set_cons_zero, List.set_cons_succ] at hS); (try simp only [Act.put, List.setIfInBounds_toArray, List.set_cons_zero, List.set_cons_succ])))
    go_ret
    rw [Hres.out]
    exact ⟨rfl, _, _, _, hS, hO⟩
set_option maxRecDepth 100000 in
set_option maxHeartbeats 800000 in
theorem Count_any (hQ : RdAtB B bs s b R w) (hb : Bytes bs) (hl : bs.length ≤ 4294967296) (hp : s.at_ ≤ bs.length) (m : Int) (hm : 0 ≤ m) (hm2 : m ≤ 4294967296) :
    Calls Try.prog 23 #[.pointer (some ⟨b, 0, none⟩), .int .i64 m] w fun e w' => e = .returned (.int .i64 (countS bs m s).1) ∧ RdAtB B bs (countS bs m s).2 b R w' := by
  obtain ⟨A, sp, cap, hS, hO⟩ := hQ.out
  by_cases hok : s.ok
  · obtain ⟨n, k, e, hn⟩ : ∃ n k e, numI bs s.at_ = (n, k, e) := ⟨_, _, _, rfl⟩
    have hfit := numI_fits (bs := bs) (p := s.at_)
    have hrg := numI_range (p := s.at_) hb
    rw [hn] at hfit hrg
    dsimp only at hfit hrg
    have hres : countS bs m s = if e = 0 then (if m < n then (0, { s with why := 11, wat := s.at_ }) else (n, { s with at_ := s.at_ + k })) else (0, { s with why := e, wat := s.at_ }) := by
      unfold countS; rw [if_pos hok, hn]
    have Hres := Lib.hid hres
    have Hn := Lib.hid hn
    have hwell : decide (s.why = 0 ∧ s.wat = 0) = true := decide_eq_true hok
    clear hres hn hok
    by_cases he : e = 0
    · subst he
      have hfit := hfit rfl
      by_cases hmn : m < n
      · go_enter Try.func23, Try.ntmps23
        go_wp2_with (first | (go_at_call 45; refine ((well_any hS)).mono ?_; rintro e w' (⟨rfl, rfl⟩)) | (go_at_call 47; refine ((number_is hS hb hl s.at_ hp Hn.out)).mono ?_; rintro e w' (⟨rfl, rfl⟩)) | (go_at_call 46; refine ((fails_any hS 11 s.at_)).mono ?_; rintro e w' (⟨rfl, hS⟩)) | (refine wl_isld rfl ?_; ((first | refine wl_value rfl (ex_l0 hS rfl rfl rfl CellAt.out) ?_ | refine wl_value rfl (ex_lf hS rfl rfl rfl CellAt.out) ?_ | refine wl_value rfl (ex_l1 hS rfl rfl rfl CellAt.out) ?_ | refine wl_value rfl (ex_ldC hS rfl rfl CellAt.out) ?_ | refine wl_value rfl (ex_l0 hS rfl rfl rfl rfl) ?_ | refine wl_value rfl (ex_lf hS rfl rfl rfl rfl) ?_ | refine wl_value rfl (ex_l1 hS rfl rfl rfl rfl) ?_ | refine wl_value rfl (ex_ldC hS rfl rfl rfl) ?_ | refine wl_value rfl (ex_l00 hS rfl rfl CellAt.out) ?_ | refine wl_value rfl (ex_l00 hS rfl rfl rfl) ?_ | refine wl_value rfl (ex_l0f hS rfl rfl CellAt.out) ?_ | refine wl_value rfl (ex_l0f hS rfl rfl rfl) ?_ | refine wl_value rfl (ex_lr hS rfl rfl rfl rfl) ?_ | refine wl_value rfl (ex_lr0 hS rfl rfl rfl) ?_ | refine wl_value rfl (ex_lrz hS rfl rfl rfl) ?_ | refine wl_value rfl (ex_lrf hS rfl rfl rfl) ?_ | refine wl_value rfl (ex_ldrC hS rfl rfl) ?_ | refine wl_value rfl (ex_ldr0 hS rfl rfl rfl) ?_); (try simp only [Act.put, List.setIfInBounds_toArray, List.set_cons_zero, List.set_cons_succ]))) | ((first | refine wl_value rfl (ex_ix hS rfl rfl rfl ?_) ?_); (focus (first | rfl | omega | (simp; done))); (try simp only [Act.put, List.setIfInBounds_toArray, List.set_cons_zero, List.set_cons_succ])) | ((first | refine wl_value rfl (ex_eqA rfl rfl rfl) ?_ | refine wl_value rfl (ex_neA rfl rfl rfl) ?_); (try simp only [Act.put, List.setIfInBounds_toArray, List.set_cons_zero, List.set_cons_succ])) | (refine wl_alloc rfl rfl hS ?_; intro _ _ hS; (try simp only [Act.put, List.setIfInBounds_toArray, List.set_cons_zero, List.set_cons_succ])) | (refine wl_box rfl rfl rfl rfl hS ?_; intro _ _ hS; (try simp only [Act.put, List.setIfInBounds_toArray, List.set_cons_zero, List.set_cons_succ])) | (refine wl_st rfl rfl rfl rfl rfl hS (of_decide_eq_true rfl) ?_; intro _ hS; (try simp only [evT, evC, List.getD_cons_succ, List.getD_cons_zero, List.set_cons_zero, List.set_cons_succ] at hS); (try simp only [List.set_cons_zero, List.set_cons_succ] at hS); (try simp only [Act.put, List.setIfInBounds_toArray, List.set_cons_zero, List.set_cons_succ])) | (refine wl_strC rfl rfl rfl rfl hS rfl rfl ?_; intro _ hS; (try simp only [evT, evC, List.getD_cons_succ, List.getD_cons_zero, List.set_cons_zero, List.set_cons_succ] at hS); (try simp only [Act.put, List.setIfInBounds_toArray, List.set_cons_zero, List.set_cons_succ])))
        go_ret
        have h2 : countS bs m s = (0, { s with why := 11, wat := s.at_ }) := by rw [Hres.out]; simp [hmn]
        rw [h2]
        exact ⟨rfl, _, _, _, hS, hO⟩
      · go_enter Try.func23, Try.ntmps23
        go_wp2_with (first | (go_at_call 45; refine ((well_any hS)).mono ?_; rintro e w' (⟨rfl, rfl⟩)) | (go_at_call 47; refine ((number_is hS hb hl s.at_ hp Hn.out)).mono ?_; rintro e w' (⟨rfl, rfl⟩)) | (go_at_call 46; refine ((fails_any hS 11 s.at_)).mono ?_; rintro e w' (⟨rfl, hS⟩)) | (refine wl_isld rfl ?_; ((first | refine wl_value rfl (ex_l0 hS rfl rfl rfl CellAt.out) ?_ | refine wl_value rfl (ex_lf hS rfl rfl rfl CellAt.out) ?_ | refine wl_value rfl (ex_l1 hS rfl rfl rfl CellAt.out) ?_ | refine wl_value rfl (ex_ldC hS rfl rfl CellAt.out) ?_ | refine wl_value rfl (ex_l0 hS rfl rfl rfl rfl) ?_ | refine wl_value rfl (ex_lf hS rfl rfl rfl rfl) ?_ | refine wl_value rfl (ex_l1 hS rfl rfl rfl rfl) ?_ | refine wl_value rfl (ex_ldC hS rfl rfl rfl) ?_ | refine wl_value rfl (ex_l00 hS rfl rfl CellAt.out) ?_ | refine wl_value rfl (ex_l00 hS rfl rfl rfl) ?_ | refine wl_value rfl (ex_l0f hS rfl rfl CellAt.out) ?_ | refine wl_value rfl (ex_l0f hS rfl rfl rfl) ?_ | refine wl_value rfl (ex_lr hS rfl rfl rfl rfl) ?_ | refine wl_value rfl (ex_lr0 hS rfl rfl rfl) ?_ | refine wl_value rfl (ex_lrz hS rfl rfl rfl) ?_ | refine wl_value rfl (ex_lrf hS rfl rfl rfl) ?_ | refine wl_value rfl (ex_ldrC hS rfl rfl) ?_ | refine wl_value rfl (ex_ldr0 hS rfl rfl rfl) ?_); (try simp only [Act.put, List.setIfInBounds_toArray, List.set_cons_zero, List.set_cons_succ]))) | ((first | refine wl_value rfl (ex_ix hS rfl rfl rfl ?_) ?_); (focus (first | rfl | omega | (simp; done))); (try simp only [Act.put, List.setIfInBounds_toArray, List.set_cons_zero, List.set_cons_succ])) | ((first | refine wl_value rfl (ex_eqA rfl rfl rfl) ?_ | refine wl_value rfl (ex_neA rfl rfl rfl) ?_); (try simp only [Act.put, List.setIfInBounds_toArray, List.set_cons_zero, List.set_cons_succ])) | (refine wl_alloc rfl rfl hS ?_; intro _ _ hS; (try simp only [Act.put, List.setIfInBounds_toArray, List.set_cons_zero, List.set_cons_succ])) | (refine wl_box rfl rfl rfl rfl hS ?_; intro _ _ hS; (try simp only [Act.put, List.setIfInBounds_toArray, List.set_cons_zero, List.set_cons_succ])) | (refine wl_st rfl rfl rfl rfl rfl hS (of_decide_eq_true rfl) ?_; intro _ hS; (try simp only [evT, evC, List.getD_cons_succ, List.getD_cons_zero, List.set_cons_zero, List.set_cons_succ] at hS); (try simp only [List.set_cons_zero, List.set_cons_succ] at hS); (try simp only [Act.put, List.setIfInBounds_toArray, List.set_cons_zero, List.set_cons_succ])) | (refine wl_strC rfl rfl rfl rfl hS rfl rfl ?_; intro _ hS; (try simp only [evT, evC, List.getD_cons_succ, List.getD_cons_zero, List.set_cons_zero, List.set_cons_succ] at hS); (try simp only [Act.put, List.setIfInBounds_toArray, List.set_cons_zero, List.set_cons_succ])))
        go_ret
        have h2 : countS bs m s = (n, { s with at_ := s.at_ + k }) := by rw [Hres.out]; simp; omega
        rw [h2]
        exact ⟨rfl, _, _, _, hS, hO⟩
    · have heb := bne_no he
      have heb2 := beq_no he
      go_enter Try.func23, Try.ntmps23
      go_wp2_with (first | (go_at_call 45; refine ((well_any hS)).mono ?_; rintro e w' (⟨rfl, rfl⟩)) | (go_at_call 47; refine ((number_is hS hb hl s.at_ hp Hn.out)).mono ?_; rintro e w' (⟨rfl, rfl⟩)) | (go_at_call 46; refine ((fails_any hS e s.at_)).mono ?_; rintro e w' (⟨rfl, hS⟩)) | (refine wl_isld rfl ?_; ((first | refine wl_value rfl (ex_l0 hS rfl rfl rfl CellAt.out) ?_ | refine wl_value rfl (ex_lf hS rfl rfl rfl CellAt.out) ?_ | refine wl_value rfl (ex_l1 hS rfl rfl rfl CellAt.out) ?_ | refine wl_value rfl (ex_ldC hS rfl rfl CellAt.out) ?_ | refine wl_value rfl (ex_l0 hS rfl rfl rfl rfl) ?_ | refine wl_value rfl (ex_lf hS rfl rfl rfl rfl) ?_ | refine wl_value rfl (ex_l1 hS rfl rfl rfl rfl) ?_ | refine wl_value rfl (ex_ldC hS rfl rfl rfl) ?_ | refine wl_value rfl (ex_l00 hS rfl rfl CellAt.out) ?_ | refine wl_value rfl (ex_l00 hS rfl rfl rfl) ?_ | refine wl_value rfl (ex_l0f hS rfl rfl CellAt.out) ?_ | refine wl_value rfl (ex_l0f hS rfl rfl rfl) ?_ | refine wl_value rfl (ex_lr hS rfl rfl rfl rfl) ?_ | refine wl_value rfl (ex_lr0 hS rfl rfl rfl) ?_ | refine wl_value rfl (ex_lrz hS rfl rfl rfl) ?_ | refine wl_value rfl (ex_lrf hS rfl rfl rfl) ?_ | refine wl_value rfl (ex_ldrC hS rfl rfl) ?_ | refine wl_value rfl (ex_ldr0 hS rfl rfl rfl) ?_); (try simp only [Act.put, List.setIfInBounds_toArray, List.set_cons_zero, List.set_cons_succ]))) | ((first | refine wl_value rfl (ex_ix hS rfl rfl rfl ?_) ?_); (focus (first | rfl | omega | (simp; done))); (try simp only [Act.put, List.setIfInBounds_toArray, List.set_cons_zero, List.set_cons_succ])) | ((first | refine wl_value rfl (ex_eqA rfl rfl rfl) ?_ | refine wl_value rfl (ex_neA rfl rfl rfl) ?_); (try simp only [Act.put, List.setIfInBounds_toArray, List.set_cons_zero, List.set_cons_succ])) | (refine wl_alloc rfl rfl hS ?_; intro _ _ hS; (try simp only [Act.put, List.setIfInBounds_toArray, List.set_cons_zero, List.set_cons_succ])) | (refine wl_box rfl rfl rfl rfl hS ?_; intro _ _ hS; (try simp only [Act.put, List.setIfInBounds_toArray, List.set_cons_zero, List.set_cons_succ])) | (refine wl_st rfl rfl rfl rfl rfl hS (of_decide_eq_true rfl) ?_; intro _ hS; (try simp only [evT, evC, List.getD_cons_succ, List.getD_cons_zero, List.set_cons_zero, List.set_cons_succ] at hS); (try simp only [List.set_cons_zero, List.set_cons_succ] at hS); (try simp only [Act.put, List.setIfInBounds_toArray, List.set_cons_zero, List.set_cons_succ])) | (refine wl_strC rfl rfl rfl rfl hS rfl rfl ?_; intro _ hS; (try simp only [evT, evC, List.getD_cons_succ, List.getD_cons_zero, List.set_cons_zero, List.set_cons_succ] at hS); (try simp only [Act.put, List.setIfInBounds_toArray, List.set_cons_zero, List.set_cons_succ])))
      go_ret
      rw [Hres.out, if_neg he]
      exact ⟨rfl, _, _, _, hS, hO⟩
  · have hwell : decide (s.why = 0 ∧ s.wat = 0) = false := decide_eq_false hok
    have hres : countS bs m s = (0, s) := by unfold countS; rw [if_neg hok]
    have Hres := Lib.hid hres
    clear hres hok
    go_enter Try.func23, Try.ntmps23
    go_wp2_with (first | (go_at_call 45; refine ((well_any hS)).mono ?_; rintro e w' (⟨rfl, rfl⟩)) | (refine wl_isld rfl ?_; ((first | refine wl_value rfl (ex_l0 hS rfl rfl rfl CellAt.out) ?_ | refine wl_value rfl (ex_lf hS rfl rfl rfl CellAt.out) ?_ | refine wl_value rfl (ex_l1 hS rfl rfl rfl CellAt.out) ?_ | refine wl_value rfl (ex_ldC hS rfl rfl CellAt.out) ?_ | refine wl_value rfl (ex_l0 hS rfl rfl rfl rfl) ?_ | refine wl_value rfl (ex_lf hS rfl rfl rfl rfl) ?_ | refine wl_value rfl (ex_l1 hS rfl rfl rfl rfl) ?_ | refine wl_value rfl (ex_ldC hS rfl rfl rfl) ?_ | refine wl_value rfl (ex_l00 hS rfl rfl CellAt.out) ?_ | refine wl_value rfl (ex_l00 hS rfl rfl rfl) ?_ | refine wl_value rfl (ex_l0f hS rfl rfl CellAt.out) ?_ | refine wl_value rfl (ex_l0f hS rfl rfl rfl) ?_ | refine wl_value rfl (ex_lr hS rfl rfl rfl rfl) ?_ | refine wl_value rfl (ex_lr0 hS rfl rfl rfl) ?_ | refine wl_value rfl (ex_lrz hS rfl rfl rfl) ?_ | refine wl_value rfl (ex_lrf hS rfl rfl rfl) ?_ | refine wl_value rfl (ex_ldrC hS rfl rfl) ?_ | refine wl_value rfl (ex_ldr0 hS rfl rfl rfl) ?_); (try simp only [Act.put, List.setIfInBounds_toArray, List.set_cons_zero, List.set_cons_succ]))) | ((first | refine wl_value rfl (ex_ix hS rfl rfl rfl ?_) ?_); (focus (first | rfl | omega | (simp; done))); (try simp only [Act.put, List.setIfInBounds_toArray, List.set_cons_zero, List.set_cons_succ])) | ((first | refine wl_value rfl (ex_eqA rfl rfl rfl) ?_ | refine wl_value rfl (ex_neA rfl rfl rfl) ?_); (try simp only [Act.put, List.setIfInBounds_toArray, List.set_cons_zero, List.set_cons_succ])) | (refine wl_alloc rfl rfl hS ?_; intro _ _ hS; (try simp only [Act.put, List.setIfInBounds_toArray, List.set_cons_zero, List.set_cons_succ])) | (refine wl_box rfl rfl rfl rfl hS ?_; intro _ _ hS; (try simp only [Act.put, List.setIfInBounds_toArray, List.set_cons_zero, List.set_cons_succ])) | (refine wl_st rfl rfl rfl rfl rfl hS (of_decide_eq_true rfl) ?_; intro _ hS; (try simp only [evT, evC, List.getD_cons_succ, List.getD_cons_zero, List.set_cons_zero, List.set_cons_succ] at hS); (try simp only [List.set_cons_zero, List.set_cons_succ] at hS); (try simp only [Act.put, List.setIfInBounds_toArray, List.set_cons_zero, List.set_cons_succ])) | (refine wl_strC rfl rfl rfl rfl hS rfl rfl ?_; intro _ hS; (try simp only [evT, evC, List.getD_cons_succ, List.getD_cons_zero, List.set_cons_zero, List.set_cons_succ] at hS); (try simp only [Act.put, List.setIfInBounds_toArray, List.set_cons_zero, List.set_cons_succ])))
    go_ret
    rw [Hres.out]
    exact ⟨rfl, _, _, _, hS, hO⟩
set_option maxRecDepth 100000 in
set_option maxHeartbeats 800000 in
theorem End_any (hQ : RdAtB B bs s b R w) (hl : bs.length ≤ 4294967296) (hp : s.at_ ≤ bs.length) :
    Calls Try.prog 28 #[.pointer (some ⟨b, 0, none⟩)] w fun e w' => e = .returned (.agg (faultC (endS bs s).why (endS bs s).wat).toArray) ∧ RdAtB B bs (endS bs s) b R w' := by
  obtain ⟨A, sp, cap, hS, hO⟩ := hQ.out
  by_cases hok : s.ok
  · have hwell : decide (s.why = 0 ∧ s.wat = 0) = true := decide_eq_true hok
    by_cases hlt : s.at_ < bs.length
    · have hres : endS bs s = { s with why := 6, wat := s.at_ } := by unfold endS; rw [if_pos ⟨hok, hlt⟩]
      have Hres := Lib.hid hres
      clear hres hok
      go_enter Try.func28, Try.ntmps28
      go_wp2_with (first | (go_at_call 45; refine ((well_any hS)).mono ?_; rintro e w' (⟨rfl, rfl⟩)) | (go_at_call 49; refine ((left_any hS hp hl)).mono ?_; rintro e w' (⟨rfl, hS⟩)) | (go_at_call 46; refine ((fails_any hS 6 s.at_)).mono ?_; rintro e w' (⟨rfl, hS⟩)) | (go_at_call 24; refine ((Fault_any hS)).mono ?_; rintro e w' (⟨rfl, hS⟩)) | (refine wl_isld rfl ?_; ((first | refine wl_value rfl (ex_l0 hS rfl rfl rfl CellAt.out) ?_ | refine wl_value rfl (ex_lf hS rfl rfl rfl CellAt.out) ?_ | refine wl_value rfl (ex_l1 hS rfl rfl rfl CellAt.out) ?_ | refine wl_value rfl (ex_ldC hS rfl rfl CellAt.out) ?_ | refine wl_value rfl (ex_l0 hS rfl rfl rfl rfl) ?_ | refine wl_value rfl (ex_lf hS rfl rfl rfl rfl) ?_ | refine wl_value rfl (ex_l1 hS rfl rfl rfl rfl) ?_ | refine wl_value rfl (ex_ldC hS rfl rfl rfl) ?_ | refine wl_value rfl (ex_l00 hS rfl rfl CellAt.out) ?_ | refine wl_value rfl (ex_l00 hS rfl rfl rfl) ?_ | refine wl_value rfl (ex_l0f hS rfl rfl CellAt.out) ?_ | refine wl_value rfl (ex_l0f hS rfl rfl rfl) ?_ | refine wl_value rfl (ex_lr hS rfl rfl rfl rfl) ?_ | refine wl_value rfl (ex_lr0 hS rfl rfl rfl) ?_ | refine wl_value rfl (ex_lrz hS rfl rfl rfl) ?_ | refine wl_value rfl (ex_lrf hS rfl rfl rfl) ?_ | refine wl_value rfl (ex_ldrC hS rfl rfl) ?_ | refine wl_value rfl (ex_ldr0 hS rfl rfl rfl) ?_); (try simp only [Act.put, List.setIfInBounds_toArray, List.set_cons_zero, List.set_cons_succ]))) | ((first | refine wl_value rfl (ex_ix hS rfl rfl rfl ?_) ?_); (focus (first | rfl | omega | (simp; done))); (try simp only [Act.put, List.setIfInBounds_toArray, List.set_cons_zero, List.set_cons_succ])) | ((first | refine wl_value rfl (ex_eqA rfl rfl rfl) ?_ | refine wl_value rfl (ex_neA rfl rfl rfl) ?_); (try simp only [Act.put, List.setIfInBounds_toArray, List.set_cons_zero, List.set_cons_succ])) | (refine wl_alloc rfl rfl hS ?_; intro _ _ hS; (try simp only [Act.put, List.setIfInBounds_toArray, List.set_cons_zero, List.set_cons_succ])) | (refine wl_box rfl rfl rfl rfl hS ?_; intro _ _ hS; (try simp only [Act.put, List.setIfInBounds_toArray, List.set_cons_zero, List.set_cons_succ])) | (refine wl_st rfl rfl rfl rfl rfl hS (of_decide_eq_true rfl) ?_; intro _ hS; (try simp only [evT, evC, List.getD_cons_succ, List.getD_cons_zero, List.set_cons_zero, List.set_cons_succ] at hS); (try simp only [List.set_cons_zero, List.set_cons_succ] at hS); (try simp only [Act.put, List.setIfInBounds_toArray, List.set_cons_zero, List.set_cons_succ])) | (refine wl_strC rfl rfl rfl rfl hS rfl rfl ?_; intro _ hS; (try simp only [evT, evC, List.getD_cons_succ, List.getD_cons_zero, List.set_cons_zero, List.set_cons_succ] at hS); (try simp only [Act.put, List.setIfInBounds_toArray, List.set_cons_zero, List.set_cons_succ])))
      refine bodyPost_res (rs := ([.cell 2 33])) rfl (.cell rfl (ldv_all hS rfl) .nil) rfl ?_
      rw [Hres.out]
      exact ⟨rfl, _, _, _, hS.to, hO⟩
    · have hres : endS bs s = s := by unfold endS; rw [if_neg (fun h => hlt h.2)]
      have Hres := Lib.hid hres
      clear hres hok
      go_enter Try.func28, Try.ntmps28
      go_wp2_with (first | (go_at_call 45; refine ((well_any hS)).mono ?_; rintro e w' (⟨rfl, rfl⟩)) | (go_at_call 49; refine ((left_any hS hp hl)).mono ?_; rintro e w' (⟨rfl, hS⟩)) | (go_at_call 24; refine ((Fault_any hS)).mono ?_; rintro e w' (⟨rfl, hS⟩)) | (refine wl_isld rfl ?_; ((first | refine wl_value rfl (ex_l0 hS rfl rfl rfl CellAt.out) ?_ | refine wl_value rfl (ex_lf hS rfl rfl rfl CellAt.out) ?_ | refine wl_value rfl (ex_l1 hS rfl rfl rfl CellAt.out) ?_ | refine wl_value rfl (ex_ldC hS rfl rfl CellAt.out) ?_ | refine wl_value rfl (ex_l0 hS rfl rfl rfl rfl) ?_ | refine wl_value rfl (ex_lf hS rfl rfl rfl rfl) ?_ | refine wl_value rfl (ex_l1 hS rfl rfl rfl rfl) ?_ | refine wl_value rfl (ex_ldC hS rfl rfl rfl) ?_ | refine wl_value rfl (ex_l00 hS rfl rfl CellAt.out) ?_ | refine wl_value rfl (ex_l00 hS rfl rfl rfl) ?_ | refine wl_value rfl (ex_l0f hS rfl rfl CellAt.out) ?_ | refine wl_value rfl (ex_l0f hS rfl rfl rfl) ?_ | refine wl_value rfl (ex_lr hS rfl rfl rfl rfl) ?_ | refine wl_value rfl (ex_lr0 hS rfl rfl rfl) ?_ | refine wl_value rfl (ex_lrz hS rfl rfl rfl) ?_ | refine wl_value rfl (ex_lrf hS rfl rfl rfl) ?_ | refine wl_value rfl (ex_ldrC hS rfl rfl) ?_ | refine wl_value rfl (ex_ldr0 hS rfl rfl rfl) ?_); (try simp only [Act.put, List.setIfInBounds_toArray, List.set_cons_zero, List.set_cons_succ]))) | ((first | refine wl_value rfl (ex_ix hS rfl rfl rfl ?_) ?_); (focus (first | rfl | omega | (simp; done))); (try simp only [Act.put, List.setIfInBounds_toArray, List.set_cons_zero, List.set_cons_succ])) | ((first | refine wl_value rfl (ex_eqA rfl rfl rfl) ?_ | refine wl_value rfl (ex_neA rfl rfl rfl) ?_); (try simp only [Act.put, List.setIfInBounds_toArray, List.set_cons_zero, List.set_cons_succ])) | (refine wl_alloc rfl rfl hS ?_; intro _ _ hS; (try simp only [Act.put, List.setIfInBounds_toArray, List.set_cons_zero, List.set_cons_succ])) | (refine wl_box rfl rfl rfl rfl hS ?_; intro _ _ hS; (try simp only [Act.put, List.setIfInBounds_toArray, List.set_cons_zero, List.set_cons_succ])) | (refine wl_st rfl rfl rfl rfl rfl hS (of_decide_eq_true rfl) ?_; intro _ hS; (try simp only [evT, evC, List.getD_cons_succ, List.getD_cons_zero, List.set_cons_zero, List.set_cons_succ] at hS); (try simp only [List.set_cons_zero, List.set_cons_succ] at hS); (try simp only [Act.put, List.setIfInBounds_toArray, List.set_cons_zero, List.set_cons_succ])) | (refine wl_strC rfl rfl rfl rfl hS rfl rfl ?_; intro _ hS; (try simp only [evT, evC, List.getD_cons_succ, List.getD_cons_zero, List.set_cons_zero, List.set_cons_succ] at hS); (try simp only [Act.put, List.setIfInBounds_toArray, List.set_cons_zero, List.set_cons_succ])))
      refine bodyPost_res (rs := ([.cell 2 33])) rfl (.cell rfl (ldv_all hS rfl) .nil) rfl ?_
      rw [Hres.out]
      exact ⟨rfl, _, _, _, hS.to, hO⟩
  · have hwell : decide (s.why = 0 ∧ s.wat = 0) = false := decide_eq_false hok
    have hres : endS bs s = s := by unfold endS; rw [if_neg (fun h => hok h.1)]
    have Hres := Lib.hid hres
    clear hres hok
    go_enter Try.func28, Try.ntmps28
    go_wp2_with (first | (go_at_call 45; refine ((well_any hS)).mono ?_; rintro e w' (⟨rfl, rfl⟩)) | (go_at_call 24; refine ((Fault_any hS)).mono ?_; rintro e w' (⟨rfl, hS⟩)) | (refine wl_isld rfl ?_; ((first | refine wl_value rfl (ex_l0 hS rfl rfl rfl CellAt.out) ?_ | refine wl_value rfl (ex_lf hS rfl rfl rfl CellAt.out) ?_ | refine wl_value rfl (ex_l1 hS rfl rfl rfl CellAt.out) ?_ | refine wl_value rfl (ex_ldC hS rfl rfl CellAt.out) ?_ | refine wl_value rfl (ex_l0 hS rfl rfl rfl rfl) ?_ | refine wl_value rfl (ex_lf hS rfl rfl rfl rfl) ?_ | refine wl_value rfl (ex_l1 hS rfl rfl rfl rfl) ?_ | refine wl_value rfl (ex_ldC hS rfl rfl rfl) ?_ | refine wl_value rfl (ex_l00 hS rfl rfl CellAt.out) ?_ | refine wl_value rfl (ex_l00 hS rfl rfl rfl) ?_ | refine wl_value rfl (ex_l0f hS rfl rfl CellAt.out) ?_ | refine wl_value rfl (ex_l0f hS rfl rfl rfl) ?_ | refine wl_value rfl (ex_lr hS rfl rfl rfl rfl) ?_ | refine wl_value rfl (ex_lr0 hS rfl rfl rfl) ?_ | refine wl_value rfl (ex_lrz hS rfl rfl rfl) ?_ | refine wl_value rfl (ex_lrf hS rfl rfl rfl) ?_ | refine wl_value rfl (ex_ldrC hS rfl rfl) ?_ | refine wl_value rfl (ex_ldr0 hS rfl rfl rfl) ?_); (try simp only [Act.put, List.setIfInBounds_toArray, List.set_cons_zero, List.set_cons_succ]))) | ((first | refine wl_value rfl (ex_ix hS rfl rfl rfl ?_) ?_); (focus (first | rfl | omega | (simp; done))); (try simp only [Act.put, List.setIfInBounds_toArray, List.set_cons_zero, List.set_cons_succ])) | ((first | refine wl_value rfl (ex_eqA rfl rfl rfl) ?_ | refine wl_value rfl (ex_neA rfl rfl rfl) ?_); (try simp only [Act.put, List.setIfInBounds_toArray, List.set_cons_zero, List.set_cons_succ])) | (refine wl_alloc rfl rfl hS ?_; intro _ _ hS; (try simp only [Act.put, List.setIfInBounds_toArray, List.set_cons_zero, List.set_cons_succ])) | (refine wl_box rfl rfl rfl rfl hS ?_; intro _ _ hS; (try simp only [Act.put, List.setIfInBounds_toArray, List.set_cons_zero, List.set_cons_succ])) | (refine wl_st rfl rfl rfl rfl rfl hS (of_decide_eq_true rfl) ?_; intro _ hS; (try simp only [evT, evC, List.getD_cons_succ, List.getD_cons_zero, List.set_cons_zero, List.set_cons_succ] at hS); (try simp only [List.set_cons_zero, List.set_cons_succ] at hS); (try simp only [Act.put, List.setIfInBounds_toArray, List.set_cons_zero, List.set_cons_succ])) | (refine wl_strC rfl rfl rfl rfl hS rfl rfl ?_; intro _ hS; (try simp only [evT, evC, List.getD_cons_succ, List.getD_cons_zero, List.set_cons_zero, List.set_cons_succ] at hS); (try simp only [Act.put, List.setIfInBounds_toArray, List.set_cons_zero, List.set_cons_succ])))
    refine bodyPost_res (rs := ([.cell 2 33])) rfl (.cell rfl (ldv_all hS rfl) .nil) rfl ?_
    rw [Hres.out]
    exact ⟨rfl, _, _, _, hS.to, hO⟩
end
end Go.Tk
