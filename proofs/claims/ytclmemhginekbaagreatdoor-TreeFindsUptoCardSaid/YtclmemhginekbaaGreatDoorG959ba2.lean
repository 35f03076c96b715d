/- The check of a tree, by the document and by the program; The check of a tree, by the program; The order of paths, plainly; both checks of a tree are one; The tree's clone and sort; Sizes of a tree; right, sorted; Directories above a path; what Make puts in: plain; tree.Make; Entries compared; Same; alive; Right trees, plain; what Make makes of one; Slices cut ahead; rows of entries; Merging rows of entries, plain. -/
import Derived.Test.YtclmemhginekbaaGreatDoorG983e5e
import Derived.Test.YtclmemhginekbaaGreatDoorG498b9f
set_option linter.unusedSectionVars false
set_option linter.unusedSimpArgs false
set_option linter.unusedVariables false
namespace Go.Tk
open Go.RowKit Go.Proofs

theorem checkG_cons (dir : List En → ByteArray → Bool) (t : List En) (i : Nat) (sum : Int) (e : En) (r : List En) : checkG dir t i sum (e :: r) =
    if mayB e = false then ((i : Int), 50) else
    if 0 < i ∧ ¬ lessI ((t.getD (i - 1) e).path) e.path < 0 then ((i : Int), 51) else
    if dir (t.take i) (upP e.path) = false then ((i : Int), 52) else
    if 1048576 < sum + e.data.size then ((i : Int), 54) else checkG dir t (i + 1) (sum + e.data.size) r := rfl
theorem splitP_small (s : ByteArray) : (splitP s).1.size ≤ s.size := by
  unfold splitP
  cases h : namesB s with
  | none => exact Nat.zero_le _
  | some l =>
    dsimp only
    split
    · exact Nat.zero_le _
    · show (joinB l.dropLast).size ≤ s.size
      rw [List.dropLast_eq_take]
      refine Nat.le_trans (joinB_take_le _ _) ?_
      rw [(namesL_join h).1]
      exact Nat.le_refl _
structure CkSt where
  i : Nat
  sum : Int
section
variable {B : Base} {R H H1 : HL} {w w' : World}
def CkR (B : Base) (R : HL) (t : List En) (X : Int × Int) (x : CkSt) (w : World) : Prop := x.i ≤ t.length ∧ 0 ≤ x.sum ∧ x.sum ≤ x.i * 16777216 ∧ checkG isDirF t x.i x.sum (t.drop x.i) = X ∧ Sh B R w
set_option maxRecDepth 100000 in
set_option maxHeartbeats 3200000 in
theorem CheckR_any (hS : Sh B R w) {A : Option Addr} {cap : Nat} {t : List En} [r : RdAt enE B R A t] (hc : t.length ≤ cap) (hl : t.length ≤ 16777216) (hsm : SmallE t) :
    Calls Tryz.prog 31 #[.slice A t.length cap] w fun e w' => e = .returned (.tuple #[.int .i64 (checkF t).1, .int .i64 (checkF t).2]) ∧ Sh B R w' := by
  by_cases hbig : 1024 < t.length
  · have Hx := Lib.hid (show checkF t = (1024, 53) by unfold checkF; rw [if_pos hbig])
    have d1 : decide ((1024 : Int) < (t.length : Int)) = true := decide_eq_true (by omega)
    have e1 : decide (1024 < t.length) = true := decide_eq_true hbig
    clear hbig
    go_enter Tryz.func31, Tryz.ntmps31
    go_wp2
    go_ret2
    rw [Hx.out]
    exact ⟨rfl, hS⟩
  have hx : checkF t = checkG isDirF t 0 0 t := by unfold checkF; rw [if_neg hbig]
  have d1 : decide ((1024 : Int) < (t.length : Int)) = false := decide_eq_false (by omega)
  have e1 : decide (1024 < t.length) = false := decide_eq_false hbig
  rw [hx]
  obtain ⟨X, hX⟩ : ∃ X, checkG isDirF t 0 0 t = X := ⟨_, rfl⟩
  rw [hX]
  have HX := Lib.hid hX
  have Hsm := Lib.hid hsm
  have htl : t.length ≤ 1024 := by omega
  clear hX hx hbig hsm
  go_enter Tryz.func31, Tryz.ntmps31
  go_wp2
  have h0 : CkR B R t X ⟨0, 0⟩ _ := ⟨Nat.zero_le _, Int.le_refl _, by simp, HX.out, hS⟩
  clear hS
  refine wp_loopS [4, 5] [2, 3, 9, 10, 11, 12, 13, 14, 15, 16, 17, 18, 19, 20, 21, 22, 23, 24, 25, 26, 27, 28, 29, 30, 31, 32, 33, 34, 35, 36, 37, 38, 39, 40, 41, 42, 43, 44, 45, 46, 47, 48, 49, 50, 51, 52, 53, 54, 55, 56, 57, 58, 59, 60, 61, 62] (fun x : CkSt => [.int .i64 x.sum, .int .i64 x.i]) (CkR B R t X) (fun x => t.length - x.i) (⟨0, 0⟩) rfl (h0) ?_
  clear h0
  rintro ⟨i, sum⟩ J w ⟨hi, hs0, hs1, hck, hS⟩
  dsimp only at hi hs0 hs1 hck hS
  (simp only [Frm, setsT, junkT, List.setIfInBounds_toArray, List.set_cons_zero, List.set_cons_succ])
  by_cases hlt : i < t.length
  · obtain ⟨e, ge⟩ := Nth.of hlt
    have hsz := Hsm.out e ge.mem
    have hpz := hsz.1
    have hdz := hsz.2
    rw [ge.drop, checkG_cons] at hck
    have hmy := fun (w : World) (R : HL) (hS : Sh B R w) => MayR_any hS e hpz
    by_cases hm : mayB e = false
    · rw [if_pos hm] at hck
      rw [hm] at hmy
      have Hck := Lib.hid hck
      clear hck hm hsz
      go_wp2_with (first | (go_at_call 28; refine ((hmy _ _ hS)).mono ?_; rintro e w' (⟨rfl, hS⟩)) | (refine wl_isld rfl ?_; ((refine wl_value rfl (ex_lr hS rfl rfl rfl rfl) ?_); (try simp only [Act.put, List.setIfInBounds_toArray, List.set_cons_zero, List.set_cons_succ]))) | ((refine wl_value rfl (ex_ix hS rfl rfl rfl ?_) ?_); (focus (rfl)); (try simp only [Act.put, List.setIfInBounds_toArray, List.set_cons_zero, List.set_cons_succ])))
      go_ret2
      rw [← Hck.out]
      exact ⟨rfl, hS⟩
    rw [if_neg hm] at hck
    have hm1 : mayB e = true := by cases h : mayB e; exact absurd h hm; rfl
    rw [hm1] at hmy
    clear hm hm1
    by_cases hord : 0 < i ∧ ¬ lessI ((t.getD (i - 1) e).path) e.path < 0
    · rw [if_pos hord] at hck
      obtain ⟨hi0, hle⟩ := hord
      obtain ⟨f, gf⟩ := Nth.of (xs := t) (j := i - 1) (by omega)
      have hfz := (Hsm.out f gf.mem).1
      rw [List.getD_eq_getElem?_getD, gf.get, Option.getD_some] at hle
      have hls := fun (w : World) (R : HL) (hS : Sh B R w) => LessR_any hS f.path e.path hfz hpz
      rw [decide_eq_false hle] at hls
      have d2 : decide ((0 : Int) < (i : Int)) = true := decide_eq_true (by omega)
      have e2 : decide (0 < i) = true := decide_eq_true hi0
      haveI hN : IsN ((i : Int) - 1) (i - 1) := ⟨by omega⟩
      have Hck := Lib.hid hck
      clear hck hle hsz
      go_wp2_with (first | (go_at_call 28; refine ((hmy _ _ hS)).mono ?_; rintro e w' (⟨rfl, hS⟩)) | (refine wl_isld rfl ?_; ((refine wl_value rfl (ex_lr hS rfl rfl rfl rfl) ?_); (try simp only [Act.put, List.setIfInBounds_toArray, List.set_cons_zero, List.set_cons_succ]))) | ((refine wl_value rfl (ex_ix hS rfl rfl rfl ?_) ?_); (focus (rfl)); (try simp only [Act.put, List.setIfInBounds_toArray, List.set_cons_zero, List.set_cons_succ])))
      (refine wp_drawnF hS [(0, true), (1, true), (2, true), (3, true), (4, true), (5, true), (6, true), (7, true), (8, true), (9, true), (10, true), (11, true), (12, true), (13, true), (14, false), (15, true), (16, true)] (by kernel_rfl) (by kernel_rfl) (by intro d _ _ _ _ h; cases d <;> exact h) ?_; have hS := hS.drew; simp only [picks_cons, picks_nil, opAt, List.toList_toArray]; (refine wpF_U (v := ?_) rfl ?_ (Sh.to hS) ?_; rotate_left; (focus (intro _ _; go_simp; (try (rw [wrap_i64]; (rotate_left; omega))); (try with_reducible rfl))); (try simp only [Act.put, List.setIfInBounds_toArray, List.set_cons_zero, List.set_cons_succ])); (refine wpF_U (v := ?_) rfl ?_ (Sh.to hS) ?_; rotate_left; (focus (intro _ _; go_simp; (try (rw [wrap_i64]; (rotate_left; omega))); (try with_reducible rfl))); (try simp only [Act.put, List.setIfInBounds_toArray, List.set_cons_zero, List.set_cons_succ])); (refine wpF_U (v := ?_) rfl ?_ (Sh.to hS) ?_; rotate_left; (focus (intro _ _; go_simp; (try (rw [wrap_i64]; (rotate_left; omega))); (try with_reducible rfl))); (try simp only [Act.put, List.setIfInBounds_toArray, List.set_cons_zero, List.set_cons_succ])); ((refine wpF_U (v := ?_) rfl ?_ (Sh.to hS) ?_; rotate_left; (focus (intro _ _; go_simp; (try (rw [wrap_i64]; (rotate_left; omega))); (try with_reducible rfl))); (try simp only [Act.put, List.setIfInBounds_toArray, List.set_cons_zero, List.set_cons_succ]))); ((refine wpF_U (v := ?_) rfl ?_ (Sh.to hS) ?_; rotate_left; (focus (intro _ _; go_simp; (try (rw [wrap_i64]; (rotate_left; omega))); (try with_reducible rfl))); (try simp only [Act.put, List.setIfInBounds_toArray, List.set_cons_zero, List.set_cons_succ]))); ((refine wpF_U (v := ?_) rfl ?_ (Sh.to hS) ?_; rotate_left; (focus (intro _ _; go_simp; (try (rw [wrap_i64]; (rotate_left; omega))); (try with_reducible rfl))); (try simp only [Act.put, List.setIfInBounds_toArray, List.set_cons_zero, List.set_cons_succ]))); (((refine wpF_U rfl (fun _ hT => ex_ix hT rfl rfl rfl ?_) (Sh.to hS) ?_); (focus (rfl)); (try simp only [Act.put, List.setIfInBounds_toArray, List.set_cons_zero, List.set_cons_succ]))); ((refine wpF_U (v := ?_) rfl ?_ (Sh.to hS) ?_; rotate_left; (focus (intro _ _; go_simp; (try (rw [wrap_i64]; (rotate_left; omega))); (try with_reducible rfl))); (try simp only [Act.put, List.setIfInBounds_toArray, List.set_cons_zero, List.set_cons_succ]))); (((refine wpF_U rfl (fun _ hT => ex_l0 hT rfl rfl rfl CellAt.out) (Sh.to hS) ?_); (try simp only [Act.put, List.setIfInBounds_toArray, List.set_cons_zero, List.set_cons_succ]))); ((refine wpF_U (v := ?_) rfl ?_ (Sh.to hS) ?_; rotate_left; (focus (intro _ _; go_simp; (try (rw [wrap_i64]; (rotate_left; omega))); (try with_reducible rfl))); (try simp only [Act.put, List.setIfInBounds_toArray, List.set_cons_zero, List.set_cons_succ]))); ((refine wpF_U (v := ?_) rfl ?_ (Sh.to hS) ?_; rotate_left; (focus (intro _ _; go_simp; (try (rw [wrap_i64]; (rotate_left; omega))); (try with_reducible rfl))); (try simp only [Act.put, List.setIfInBounds_toArray, List.set_cons_zero, List.set_cons_succ]))); (((refine wpF_U rfl (fun _ hT => ex_ix hT rfl rfl rfl ?_) (Sh.to hS) ?_); (focus (rfl)); (try simp only [Act.put, List.setIfInBounds_toArray, List.set_cons_zero, List.set_cons_succ]))); ((refine wpF_U (v := ?_) rfl ?_ (Sh.to hS) ?_; rotate_left; (focus (intro _ _; go_simp; (try (rw [wrap_i64]; (rotate_left; omega))); (try with_reducible rfl))); (try simp only [Act.put, List.setIfInBounds_toArray, List.set_cons_zero, List.set_cons_succ]))); (((refine wpF_U rfl (fun _ hT => ex_l0 hT rfl rfl rfl CellAt.out) (Sh.to hS) ?_); (try simp only [Act.put, List.setIfInBounds_toArray, List.set_cons_zero, List.set_cons_succ]))); (refine wpF_ex ?_); go_wp2_with ((go_at_call 57; refine ((hls _ _ hS)).mono ?_; rintro e w' (⟨rfl, hS⟩))); (refine ⟨?_, ?_⟩; (focus ((refine Or.inr ?_; exact Sh.to hS)))); ((refine wpF_U (v := ?_) rfl ?_ (Sh.to hS) ?_; rotate_left; (focus (intro _ _; go_simp; (try (rw [wrap_i64]; (rotate_left; omega))); (try with_reducible rfl))); (try simp only [Act.put, List.setIfInBounds_toArray, List.set_cons_zero, List.set_cons_succ]))); (refine wpF_U (v := ?_) rfl ?_ (Sh.to hS) ?_; rotate_left; (focus (intro _ _; go_simp; (try (rw [wrap_i64]; (rotate_left; omega))); (try with_reducible rfl))); (try simp only [Act.put, List.setIfInBounds_toArray, List.set_cons_zero, List.set_cons_succ])); ((refine wpF_done (by assumption) ?_)))
      go_wp2
      go_ret2
      rw [← Hck.out]
      exact ⟨rfl, hS⟩
    rw [if_neg hord] at hck
    have hup := fun (w : World) (R : HL) (hS : Sh B R w) => UpR_any hS e.path hpz
    have hisd := fun (w : World) (R : HL) (hS : Sh B R w) (r : RdAt enE B R A (t.take i)) => IsDirR_any hS (cap := cap) (t := t.take i) (r := r) (by rw [List.length_take]; omega) (upP e.path)
    rw [show (t.take i).length = i by rw [List.length_take]; omega] at hisd
    have Hrt := Lib.hid (show RdAt enE B R A (t.take i) from RdAt.take r i)
    have hcut : i ≤ cap := by omega
    have hsplit : (i = 0) ∨ (∃ f, 0 < i ∧ Nth t (i - 1) f ∧ lessI f.path e.path < 0) := by
      by_cases hi0 : i = 0
      · exact .inl hi0
      · right
        obtain ⟨f, gf⟩ := Nth.of (xs := t) (j := i - 1) (by omega)
        refine ⟨f, by omega, gf, ?_⟩
        refine Classical.byContradiction fun h => hord ⟨by omega, ?_⟩
        rw [List.getD_eq_getElem?_getD, gf.get, Option.getD_some]
        exact h
    clear hord
    rcases hsplit with h0 | ⟨f, hi0, gf, hle⟩
    · have d2 : decide ((0 : Int) < (i : Int)) = false := decide_eq_false (by omega)
      have e2 : decide (0 < i) = false := decide_eq_false (by omega)
      have hls := True.intro
      clear h0
      by_cases hd : isDirF (t.take i) (upP e.path) = false
      · rw [if_pos hd] at hck
        rw [hd] at hisd
        have Hck := Lib.hid hck
        clear hck hd hsz
        go_wp2_with (first | (go_at_call 28; refine ((hmy _ _ hS)).mono ?_; rintro e w' (⟨rfl, hS⟩)) | (refine wl_isld rfl ?_; ((refine wl_value rfl (ex_lr hS rfl rfl rfl rfl) ?_); (try simp only [Act.put, List.setIfInBounds_toArray, List.set_cons_zero, List.set_cons_succ]))) | ((refine wl_value rfl (ex_ix hS rfl rfl rfl ?_) ?_); (focus (rfl)); (try simp only [Act.put, List.setIfInBounds_toArray, List.set_cons_zero, List.set_cons_succ])))
        (refine wp_drawnF hS [(0, true), (1, true), (2, true), (3, true), (4, true), (5, true), (6, true), (7, true), (8, true), (9, true), (10, true), (11, true), (12, true), (13, true), (14, false), (15, true), (16, true)] (by kernel_rfl) (by kernel_rfl) (by intro d _ _ _ _ h; cases d <;> exact h) ?_; have hS := hS.drew; simp only [picks_cons, picks_nil, opAt, List.toList_toArray]; (refine wpF_U (v := ?_) rfl ?_ (Sh.to hS) ?_; rotate_left; (focus (intro _ _; go_simp; (try (rw [wrap_i64]; (rotate_left; omega))); (try with_reducible rfl))); (try simp only [Act.put, List.setIfInBounds_toArray, List.set_cons_zero, List.set_cons_succ])); (refine wpF_U (v := ?_) rfl ?_ (Sh.to hS) ?_; rotate_left; (focus (intro _ _; go_simp; (try (rw [wrap_i64]; (rotate_left; omega))); (try with_reducible rfl))); (try simp only [Act.put, List.setIfInBounds_toArray, List.set_cons_zero, List.set_cons_succ])); (refine wpF_U (v := ?_) rfl ?_ (Sh.to hS) ?_; rotate_left; (focus (intro _ _; go_simp; (try (rw [wrap_i64]; (rotate_left; omega))); (try with_reducible rfl))); (try simp only [Act.put, List.setIfInBounds_toArray, List.set_cons_zero, List.set_cons_succ])); ((refine wpF_not rfl (Sh.to hS) ?_; (try simp only [Act.put, List.setIfInBounds_toArray, List.set_cons_zero, List.set_cons_succ]))); ((refine wpF_not rfl (Sh.to hS) ?_; (try simp only [Act.put, List.setIfInBounds_toArray, List.set_cons_zero, List.set_cons_succ]))); ((refine wpF_not rfl (Sh.to hS) ?_; (try simp only [Act.put, List.setIfInBounds_toArray, List.set_cons_zero, List.set_cons_succ]))); ((refine wpF_not rfl (Sh.to hS) ?_; (try simp only [Act.put, List.setIfInBounds_toArray, List.set_cons_zero, List.set_cons_succ]))); ((refine wpF_not rfl (Sh.to hS) ?_; (try simp only [Act.put, List.setIfInBounds_toArray, List.set_cons_zero, List.set_cons_succ]))); ((refine wpF_not rfl (Sh.to hS) ?_; (try simp only [Act.put, List.setIfInBounds_toArray, List.set_cons_zero, List.set_cons_succ]))); ((refine wpF_not rfl (Sh.to hS) ?_; (try simp only [Act.put, List.setIfInBounds_toArray, List.set_cons_zero, List.set_cons_succ]))); ((refine wpF_not rfl (Sh.to hS) ?_; (try simp only [Act.put, List.setIfInBounds_toArray, List.set_cons_zero, List.set_cons_succ]))); ((refine wpF_not rfl (Sh.to hS) ?_; (try simp only [Act.put, List.setIfInBounds_toArray, List.set_cons_zero, List.set_cons_succ]))); ((refine wpF_not rfl (Sh.to hS) ?_; (try simp only [Act.put, List.setIfInBounds_toArray, List.set_cons_zero, List.set_cons_succ]))); ((refine wpF_not rfl (Sh.to hS) ?_; (try simp only [Act.put, List.setIfInBounds_toArray, List.set_cons_zero, List.set_cons_succ]))); (refine wpF_ex ?_); go_wp2_with ((go_at_call 57; refine ((hls _ _ hS)).mono ?_; rintro e w' (⟨rfl, hS⟩))); (refine ⟨?_, ?_⟩; (focus ((refine Or.inr ?_; exact Sh.to hS)))); ((refine wpF_not rfl (Sh.to hS) ?_; (try simp only [Act.put, List.setIfInBounds_toArray, List.set_cons_zero, List.set_cons_succ]))); (refine wpF_U (v := ?_) rfl ?_ (Sh.to hS) ?_; rotate_left; (focus (intro _ _; go_simp; (try (rw [wrap_i64]; (rotate_left; omega))); (try with_reducible rfl))); (try simp only [Act.put, List.setIfInBounds_toArray, List.set_cons_zero, List.set_cons_succ])); ((refine wpF_done (by assumption) ?_)))
        go_wp2
        (refine wp_drawnF hS [(0, true), (1, true), (2, true), (3, true), (4, true), (5, true), (6, true), (7, true), (8, false), (9, false), (10, true)] (by kernel_rfl) (by kernel_rfl) (by intro d _ _ _ _ h; cases d <;> exact h) ?_; have hS := hS.drew; simp only [picks_cons, picks_nil, opAt, List.toList_toArray]; (refine wpF_U (v := ?_) rfl ?_ (Sh.to hS) ?_; rotate_left; (focus (intro _ _; go_simp; (try (rw [wrap_i64]; (rotate_left; omega))); (try with_reducible rfl))); (try simp only [Act.put, List.setIfInBounds_toArray, List.set_cons_zero, List.set_cons_succ])); (refine wpF_U (v := ?_) rfl ?_ (Sh.to hS) ?_; rotate_left; (focus (intro _ _; go_simp; (try (rw [wrap_i64]; (rotate_left; omega))); (try with_reducible rfl))); (try simp only [Act.put, List.setIfInBounds_toArray, List.set_cons_zero, List.set_cons_succ])); ((refine wpF_U rfl (fun _ hT => (ex_cutH rfl rfl rfl hcut)) (Sh.to hS) ?_; (try simp only [Act.put, List.setIfInBounds_toArray, List.set_cons_zero, List.set_cons_succ]))); (refine wpF_U (v := ?_) rfl ?_ (Sh.to hS) ?_; rotate_left; (focus (intro _ _; go_simp; (try (rw [wrap_i64]; (rotate_left; omega))); (try with_reducible rfl))); (try simp only [Act.put, List.setIfInBounds_toArray, List.set_cons_zero, List.set_cons_succ])); (refine wpF_U (v := ?_) rfl ?_ (Sh.to hS) ?_; rotate_left; (focus (intro _ _; go_simp; (try (rw [wrap_i64]; (rotate_left; omega))); (try with_reducible rfl))); (try simp only [Act.put, List.setIfInBounds_toArray, List.set_cons_zero, List.set_cons_succ])); ((refine wpF_U rfl (fun _ hT => ex_ix hT rfl rfl rfl ?_) (Sh.to hS) ?_); (focus (rfl)); (try simp only [Act.put, List.setIfInBounds_toArray, List.set_cons_zero, List.set_cons_succ])); (refine wpF_U (v := ?_) rfl ?_ (Sh.to hS) ?_; rotate_left; (focus (intro _ _; go_simp; (try (rw [wrap_i64]; (rotate_left; omega))); (try with_reducible rfl))); (try simp only [Act.put, List.setIfInBounds_toArray, List.set_cons_zero, List.set_cons_succ])); ((refine wpF_U rfl (fun _ hT => ex_l0 hT rfl rfl rfl CellAt.out) (Sh.to hS) ?_); (try simp only [Act.put, List.setIfInBounds_toArray, List.set_cons_zero, List.set_cons_succ])); (refine wpF_ex ?_); go_wp2_with ((go_at_call 30; refine ((hup _ _ hS)).mono ?_; rintro e w' (⟨rfl, hS⟩))); (refine ⟨?_, ?_⟩; (focus ((refine Or.inr ?_; exact Sh.to hS)))); (refine wpF_ex ?_); go_wp2_with ((go_at_call 32; refine ((hisd _ _ hS Hrt.out)).mono ?_; rintro e w' (⟨rfl, hS⟩))); (refine ⟨?_, ?_⟩; (focus ((refine Or.inr ?_; exact Sh.to hS)))); (refine wpF_U (v := ?_) rfl ?_ (Sh.to hS) ?_; rotate_left; (focus (intro _ _; go_simp; (try (rw [wrap_i64]; (rotate_left; omega))); (try with_reducible rfl))); (try simp only [Act.put, List.setIfInBounds_toArray, List.set_cons_zero, List.set_cons_succ])); ((refine wpF_done (by assumption) ?_)))
        go_wp2
        go_ret2
        rw [← Hck.out]
        exact ⟨rfl, hS⟩
      rw [if_neg hd] at hck
      have hd1 : isDirF (t.take i) (upP e.path) = true := by cases h : isDirF (t.take i) (upP e.path); exact absurd h hd; rfl
      rw [hd1] at hisd
      clear hd hd1
      by_cases hb : 1048576 < sum + (e.data.size : Int)
      · rw [if_pos hb] at hck
        have d4 : decide (1048576 < sum + (e.data.size : Int)) = true := decide_eq_true hb
        have Hck := Lib.hid hck
        clear hck hb hsz
        go_wp2_with (first | (go_at_call 28; refine ((hmy _ _ hS)).mono ?_; rintro e w' (⟨rfl, hS⟩)) | (refine wl_isld rfl ?_; ((refine wl_value rfl (ex_lr hS rfl rfl rfl rfl) ?_); (try simp only [Act.put, List.setIfInBounds_toArray, List.set_cons_zero, List.set_cons_succ]))) | ((refine wl_value rfl (ex_ix hS rfl rfl rfl ?_) ?_); (focus (rfl)); (try simp only [Act.put, List.setIfInBounds_toArray, List.set_cons_zero, List.set_cons_succ])))
        (refine wp_drawnF hS [(0, true), (1, true), (2, true), (3, true), (4, true), (5, true), (6, true), (7, true), (8, true), (9, true), (10, true), (11, true), (12, true), (13, true), (14, false), (15, true), (16, true)] (by kernel_rfl) (by kernel_rfl) (by intro d _ _ _ _ h; cases d <;> exact h) ?_; have hS := hS.drew; simp only [picks_cons, picks_nil, opAt, List.toList_toArray]; (refine wpF_U (v := ?_) rfl ?_ (Sh.to hS) ?_; rotate_left; (focus (intro _ _; go_simp; (try (rw [wrap_i64]; (rotate_left; omega))); (try with_reducible rfl))); (try simp only [Act.put, List.setIfInBounds_toArray, List.set_cons_zero, List.set_cons_succ])); (refine wpF_U (v := ?_) rfl ?_ (Sh.to hS) ?_; rotate_left; (focus (intro _ _; go_simp; (try (rw [wrap_i64]; (rotate_left; omega))); (try with_reducible rfl))); (try simp only [Act.put, List.setIfInBounds_toArray, List.set_cons_zero, List.set_cons_succ])); (refine wpF_U (v := ?_) rfl ?_ (Sh.to hS) ?_; rotate_left; (focus (intro _ _; go_simp; (try (rw [wrap_i64]; (rotate_left; omega))); (try with_reducible rfl))); (try simp only [Act.put, List.setIfInBounds_toArray, List.set_cons_zero, List.set_cons_succ])); ((refine wpF_not rfl (Sh.to hS) ?_; (try simp only [Act.put, List.setIfInBounds_toArray, List.set_cons_zero, List.set_cons_succ]))); ((refine wpF_not rfl (Sh.to hS) ?_; (try simp only [Act.put, List.setIfInBounds_toArray, List.set_cons_zero, List.set_cons_succ]))); ((refine wpF_not rfl (Sh.to hS) ?_; (try simp only [Act.put, List.setIfInBounds_toArray, List.set_cons_zero, List.set_cons_succ]))); ((refine wpF_not rfl (Sh.to hS) ?_; (try simp only [Act.put, List.setIfInBounds_toArray, List.set_cons_zero, List.set_cons_succ]))); ((refine wpF_not rfl (Sh.to hS) ?_; (try simp only [Act.put, List.setIfInBounds_toArray, List.set_cons_zero, List.set_cons_succ]))); ((refine wpF_not rfl (Sh.to hS) ?_; (try simp only [Act.put, List.setIfInBounds_toArray, List.set_cons_zero, List.set_cons_succ]))); ((refine wpF_not rfl (Sh.to hS) ?_; (try simp only [Act.put, List.setIfInBounds_toArray, List.set_cons_zero, List.set_cons_succ]))); ((refine wpF_not rfl (Sh.to hS) ?_; (try simp only [Act.put, List.setIfInBounds_toArray, List.set_cons_zero, List.set_cons_succ]))); ((refine wpF_not rfl (Sh.to hS) ?_; (try simp only [Act.put, List.setIfInBounds_toArray, List.set_cons_zero, List.set_cons_succ]))); ((refine wpF_not rfl (Sh.to hS) ?_; (try simp only [Act.put, List.setIfInBounds_toArray, List.set_cons_zero, List.set_cons_succ]))); ((refine wpF_not rfl (Sh.to hS) ?_; (try simp only [Act.put, List.setIfInBounds_toArray, List.set_cons_zero, List.set_cons_succ]))); (refine wpF_ex ?_); go_wp2_with ((go_at_call 57; refine ((hls _ _ hS)).mono ?_; rintro e w' (⟨rfl, hS⟩))); (refine ⟨?_, ?_⟩; (focus ((refine Or.inr ?_; exact Sh.to hS)))); ((refine wpF_not rfl (Sh.to hS) ?_; (try simp only [Act.put, List.setIfInBounds_toArray, List.set_cons_zero, List.set_cons_succ]))); (refine wpF_U (v := ?_) rfl ?_ (Sh.to hS) ?_; rotate_left; (focus (intro _ _; go_simp; (try (rw [wrap_i64]; (rotate_left; omega))); (try with_reducible rfl))); (try simp only [Act.put, List.setIfInBounds_toArray, List.set_cons_zero, List.set_cons_succ])); ((refine wpF_done (by assumption) ?_)))
        go_wp2
        (refine wp_drawnF hS [(0, true), (1, true), (2, true), (3, true), (4, true), (5, true), (6, true), (7, true), (8, false), (9, false), (10, true)] (by kernel_rfl) (by kernel_rfl) (by intro d _ _ _ _ h; cases d <;> exact h) ?_; have hS := hS.drew; simp only [picks_cons, picks_nil, opAt, List.toList_toArray]; (refine wpF_U (v := ?_) rfl ?_ (Sh.to hS) ?_; rotate_left; (focus (intro _ _; go_simp; (try (rw [wrap_i64]; (rotate_left; omega))); (try with_reducible rfl))); (try simp only [Act.put, List.setIfInBounds_toArray, List.set_cons_zero, List.set_cons_succ])); (refine wpF_U (v := ?_) rfl ?_ (Sh.to hS) ?_; rotate_left; (focus (intro _ _; go_simp; (try (rw [wrap_i64]; (rotate_left; omega))); (try with_reducible rfl))); (try simp only [Act.put, List.setIfInBounds_toArray, List.set_cons_zero, List.set_cons_succ])); ((refine wpF_U rfl (fun _ hT => (ex_cutH rfl rfl rfl hcut)) (Sh.to hS) ?_; (try simp only [Act.put, List.setIfInBounds_toArray, List.set_cons_zero, List.set_cons_succ]))); (refine wpF_U (v := ?_) rfl ?_ (Sh.to hS) ?_; rotate_left; (focus (intro _ _; go_simp; (try (rw [wrap_i64]; (rotate_left; omega))); (try with_reducible rfl))); (try simp only [Act.put, List.setIfInBounds_toArray, List.set_cons_zero, List.set_cons_succ])); (refine wpF_U (v := ?_) rfl ?_ (Sh.to hS) ?_; rotate_left; (focus (intro _ _; go_simp; (try (rw [wrap_i64]; (rotate_left; omega))); (try with_reducible rfl))); (try simp only [Act.put, List.setIfInBounds_toArray, List.set_cons_zero, List.set_cons_succ])); ((refine wpF_U rfl (fun _ hT => ex_ix hT rfl rfl rfl ?_) (Sh.to hS) ?_); (focus (rfl)); (try simp only [Act.put, List.setIfInBounds_toArray, List.set_cons_zero, List.set_cons_succ])); (refine wpF_U (v := ?_) rfl ?_ (Sh.to hS) ?_; rotate_left; (focus (intro _ _; go_simp; (try (rw [wrap_i64]; (rotate_left; omega))); (try with_reducible rfl))); (try simp only [Act.put, List.setIfInBounds_toArray, List.set_cons_zero, List.set_cons_succ])); ((refine wpF_U rfl (fun _ hT => ex_l0 hT rfl rfl rfl CellAt.out) (Sh.to hS) ?_); (try simp only [Act.put, List.setIfInBounds_toArray, List.set_cons_zero, List.set_cons_succ])); (refine wpF_ex ?_); go_wp2_with ((go_at_call 30; refine ((hup _ _ hS)).mono ?_; rintro e w' (⟨rfl, hS⟩))); (refine ⟨?_, ?_⟩; (focus ((refine Or.inr ?_; exact Sh.to hS)))); (refine wpF_ex ?_); go_wp2_with ((go_at_call 32; refine ((hisd _ _ hS Hrt.out)).mono ?_; rintro e w' (⟨rfl, hS⟩))); (refine ⟨?_, ?_⟩; (focus ((refine Or.inr ?_; exact Sh.to hS)))); (refine wpF_U (v := ?_) rfl ?_ (Sh.to hS) ?_; rotate_left; (focus (intro _ _; go_simp; (try (rw [wrap_i64]; (rotate_left; omega))); (try with_reducible rfl))); (try simp only [Act.put, List.setIfInBounds_toArray, List.set_cons_zero, List.set_cons_succ])); ((refine wpF_done (by assumption) ?_)))
        go_wp2_with (first | (refine wl_isld rfl ?_; ((refine wl_value rfl (ex_lf hS rfl rfl rfl CellAt.out) ?_); (try simp only [Act.put, List.setIfInBounds_toArray, List.set_cons_zero, List.set_cons_succ]))) | ((refine wl_value rfl (ex_ix hS rfl rfl rfl ?_) ?_); (focus (rfl)); (try simp only [Act.put, List.setIfInBounds_toArray, List.set_cons_zero, List.set_cons_succ])))
        go_ret2
        rw [← Hck.out]
        exact ⟨rfl, hS⟩
      · rw [if_neg hb] at hck
        have d4 : decide (1048576 < sum + (e.data.size : Int)) = false := decide_eq_false hb
        have Hck := Lib.hid hck
        clear hck hb hsz
        go_wp2_with (first | (go_at_call 28; refine ((hmy _ _ hS)).mono ?_; rintro e w' (⟨rfl, hS⟩)) | (refine wl_isld rfl ?_; ((refine wl_value rfl (ex_lr hS rfl rfl rfl rfl) ?_); (try simp only [Act.put, List.setIfInBounds_toArray, List.set_cons_zero, List.set_cons_succ]))) | ((refine wl_value rfl (ex_ix hS rfl rfl rfl ?_) ?_); (focus (rfl)); (try simp only [Act.put, List.setIfInBounds_toArray, List.set_cons_zero, List.set_cons_succ])))
        (refine wp_drawnF hS [(0, true), (1, true), (2, true), (3, true), (4, true), (5, true), (6, true), (7, true), (8, true), (9, true), (10, true), (11, true), (12, true), (13, true), (14, false), (15, true), (16, true)] (by kernel_rfl) (by kernel_rfl) (by intro d _ _ _ _ h; cases d <;> exact h) ?_; have hS := hS.drew; simp only [picks_cons, picks_nil, opAt, List.toList_toArray]; (refine wpF_U (v := ?_) rfl ?_ (Sh.to hS) ?_; rotate_left; (focus (intro _ _; go_simp; (try (rw [wrap_i64]; (rotate_left; omega))); (try with_reducible rfl))); (try simp only [Act.put, List.setIfInBounds_toArray, List.set_cons_zero, List.set_cons_succ])); (refine wpF_U (v := ?_) rfl ?_ (Sh.to hS) ?_; rotate_left; (focus (intro _ _; go_simp; (try (rw [wrap_i64]; (rotate_left; omega))); (try with_reducible rfl))); (try simp only [Act.put, List.setIfInBounds_toArray, List.set_cons_zero, List.set_cons_succ])); (refine wpF_U (v := ?_) rfl ?_ (Sh.to hS) ?_; rotate_left; (focus (intro _ _; go_simp; (try (rw [wrap_i64]; (rotate_left; omega))); (try with_reducible rfl))); (try simp only [Act.put, List.setIfInBounds_toArray, List.set_cons_zero, List.set_cons_succ])); ((refine wpF_not rfl (Sh.to hS) ?_; (try simp only [Act.put, List.setIfInBounds_toArray, List.set_cons_zero, List.set_cons_succ]))); ((refine wpF_not rfl (Sh.to hS) ?_; (try simp only [Act.put, List.setIfInBounds_toArray, List.set_cons_zero, List.set_cons_succ]))); ((refine wpF_not rfl (Sh.to hS) ?_; (try simp only [Act.put, List.setIfInBounds_toArray, List.set_cons_zero, List.set_cons_succ]))); ((refine wpF_not rfl (Sh.to hS) ?_; (try simp only [Act.put, List.setIfInBounds_toArray, List.set_cons_zero, List.set_cons_succ]))); ((refine wpF_not rfl (Sh.to hS) ?_; (try simp only [Act.put, List.setIfInBounds_toArray, List.set_cons_zero, List.set_cons_succ]))); ((refine wpF_not rfl (Sh.to hS) ?_; (try simp only [Act.put, List.setIfInBounds_toArray, List.set_cons_zero, List.set_cons_succ]))); ((refine wpF_not rfl (Sh.to hS) ?_; (try simp only [Act.put, List.setIfInBounds_toArray, List.set_cons_zero, List.set_cons_succ]))); ((refine wpF_not rfl (Sh.to hS) ?_; (try simp only [Act.put, List.setIfInBounds_toArray, List.set_cons_zero, List.set_cons_succ]))); ((refine wpF_not rfl (Sh.to hS) ?_; (try simp only [Act.put, List.setIfInBounds_toArray, List.set_cons_zero, List.set_cons_succ]))); ((refine wpF_not rfl (Sh.to hS) ?_; (try simp only [Act.put, List.setIfInBounds_toArray, List.set_cons_zero, List.set_cons_succ]))); ((refine wpF_not rfl (Sh.to hS) ?_; (try simp only [Act.put, List.setIfInBounds_toArray, List.set_cons_zero, List.set_cons_succ]))); (refine wpF_ex ?_); go_wp2_with ((go_at_call 57; refine ((hls _ _ hS)).mono ?_; rintro e w' (⟨rfl, hS⟩))); (refine ⟨?_, ?_⟩; (focus ((refine Or.inr ?_; exact Sh.to hS)))); ((refine wpF_not rfl (Sh.to hS) ?_; (try simp only [Act.put, List.setIfInBounds_toArray, List.set_cons_zero, List.set_cons_succ]))); (refine wpF_U (v := ?_) rfl ?_ (Sh.to hS) ?_; rotate_left; (focus (intro _ _; go_simp; (try (rw [wrap_i64]; (rotate_left; omega))); (try with_reducible rfl))); (try simp only [Act.put, List.setIfInBounds_toArray, List.set_cons_zero, List.set_cons_succ])); ((refine wpF_done (by assumption) ?_)))
        go_wp2
        (refine wp_drawnF hS [(0, true), (1, true), (2, true), (3, true), (4, true), (5, true), (6, true), (7, true), (8, false), (9, false), (10, true)] (by kernel_rfl) (by kernel_rfl) (by intro d _ _ _ _ h; cases d <;> exact h) ?_; have hS := hS.drew; simp only [picks_cons, picks_nil, opAt, List.toList_toArray]; (refine wpF_U (v := ?_) rfl ?_ (Sh.to hS) ?_; rotate_left; (focus (intro _ _; go_simp; (try (rw [wrap_i64]; (rotate_left; omega))); (try with_reducible rfl))); (try simp only [Act.put, List.setIfInBounds_toArray, List.set_cons_zero, List.set_cons_succ])); (refine wpF_U (v := ?_) rfl ?_ (Sh.to hS) ?_; rotate_left; (focus (intro _ _; go_simp; (try (rw [wrap_i64]; (rotate_left; omega))); (try with_reducible rfl))); (try simp only [Act.put, List.setIfInBounds_toArray, List.set_cons_zero, List.set_cons_succ])); ((refine wpF_U rfl (fun _ hT => (ex_cutH rfl rfl rfl hcut)) (Sh.to hS) ?_; (try simp only [Act.put, List.setIfInBounds_toArray, List.set_cons_zero, List.set_cons_succ]))); (refine wpF_U (v := ?_) rfl ?_ (Sh.to hS) ?_; rotate_left; (focus (intro _ _; go_simp; (try (rw [wrap_i64]; (rotate_left; omega))); (try with_reducible rfl))); (try simp only [Act.put, List.setIfInBounds_toArray, List.set_cons_zero, List.set_cons_succ])); (refine wpF_U (v := ?_) rfl ?_ (Sh.to hS) ?_; rotate_left; (focus (intro _ _; go_simp; (try (rw [wrap_i64]; (rotate_left; omega))); (try with_reducible rfl))); (try simp only [Act.put, List.setIfInBounds_toArray, List.set_cons_zero, List.set_cons_succ])); ((refine wpF_U rfl (fun _ hT => ex_ix hT rfl rfl rfl ?_) (Sh.to hS) ?_); (focus (rfl)); (try simp only [Act.put, List.setIfInBounds_toArray, List.set_cons_zero, List.set_cons_succ])); (refine wpF_U (v := ?_) rfl ?_ (Sh.to hS) ?_; rotate_left; (focus (intro _ _; go_simp; (try (rw [wrap_i64]; (rotate_left; omega))); (try with_reducible rfl))); (try simp only [Act.put, List.setIfInBounds_toArray, List.set_cons_zero, List.set_cons_succ])); ((refine wpF_U rfl (fun _ hT => ex_l0 hT rfl rfl rfl CellAt.out) (Sh.to hS) ?_); (try simp only [Act.put, List.setIfInBounds_toArray, List.set_cons_zero, List.set_cons_succ])); (refine wpF_ex ?_); go_wp2_with ((go_at_call 30; refine ((hup _ _ hS)).mono ?_; rintro e w' (⟨rfl, hS⟩))); (refine ⟨?_, ?_⟩; (focus ((refine Or.inr ?_; exact Sh.to hS)))); (refine wpF_ex ?_); go_wp2_with ((go_at_call 32; refine ((hisd _ _ hS Hrt.out)).mono ?_; rintro e w' (⟨rfl, hS⟩))); (refine ⟨?_, ?_⟩; (focus ((refine Or.inr ?_; exact Sh.to hS)))); (refine wpF_U (v := ?_) rfl ?_ (Sh.to hS) ?_; rotate_left; (focus (intro _ _; go_simp; (try (rw [wrap_i64]; (rotate_left; omega))); (try with_reducible rfl))); (try simp only [Act.put, List.setIfInBounds_toArray, List.set_cons_zero, List.set_cons_succ])); ((refine wpF_done (by assumption) ?_)))
        go_wp2_with (first | (refine wl_isld rfl ?_; ((refine wl_value rfl (ex_lf hS rfl rfl rfl CellAt.out) ?_); (try simp only [Act.put, List.setIfInBounds_toArray, List.set_cons_zero, List.set_cons_succ]))) | ((refine wl_value rfl (ex_ix hS rfl rfl rfl ?_) ?_); (focus (rfl)); (try simp only [Act.put, List.setIfInBounds_toArray, List.set_cons_zero, List.set_cons_succ])))
        (refine ⟨((⟨i + 1, sum + e.data.size⟩ : CkSt)), (⟨hlt, (by show 0 ≤ sum + (e.data.size : Int); omega), (by show sum + (e.data.size : Int) ≤ ((i + 1 : Nat) : Int) * 16777216; omega), Hck.out, hS⟩), (by (try dsimp only); omega), rfl, (by (simp only [blankT, junkT, List.cons_append, List.nil_append, List.setIfInBounds_toArray, List.set_cons_zero, List.set_cons_succ])), rfl⟩)
    · have hfz := (Hsm.out f gf.mem).1
      have hls := fun (w : World) (R : HL) (hS : Sh B R w) => LessR_any hS f.path e.path hfz hpz
      rw [decide_eq_true hle] at hls
      have d2 : decide ((0 : Int) < (i : Int)) = true := decide_eq_true (by omega)
      have e2 : decide (0 < i) = true := decide_eq_true hi0
      haveI hN : IsN ((i : Int) - 1) (i - 1) := ⟨by omega⟩
      clear hle
      by_cases hd : isDirF (t.take i) (upP e.path) = false
      · rw [if_pos hd] at hck
        rw [hd] at hisd
        have Hck := Lib.hid hck
        clear hck hd hsz
        go_wp2_with (first | (go_at_call 28; refine ((hmy _ _ hS)).mono ?_; rintro e w' (⟨rfl, hS⟩)) | (refine wl_isld rfl ?_; ((refine wl_value rfl (ex_lr hS rfl rfl rfl rfl) ?_); (try simp only [Act.put, List.setIfInBounds_toArray, List.set_cons_zero, List.set_cons_succ]))) | ((refine wl_value rfl (ex_ix hS rfl rfl rfl ?_) ?_); (focus (rfl)); (try simp only [Act.put, List.setIfInBounds_toArray, List.set_cons_zero, List.set_cons_succ])))
        (refine wp_drawnF hS [(0, true), (1, true), (2, true), (3, true), (4, true), (5, true), (6, true), (7, true), (8, true), (9, true), (10, true), (11, true), (12, true), (13, true), (14, false), (15, true), (16, true)] (by kernel_rfl) (by kernel_rfl) (by intro d _ _ _ _ h; cases d <;> exact h) ?_; have hS := hS.drew; simp only [picks_cons, picks_nil, opAt, List.toList_toArray]; (refine wpF_U (v := ?_) rfl ?_ (Sh.to hS) ?_; rotate_left; (focus (intro _ _; go_simp; (try (rw [wrap_i64]; (rotate_left; omega))); (try with_reducible rfl))); (try simp only [Act.put, List.setIfInBounds_toArray, List.set_cons_zero, List.set_cons_succ])); (refine wpF_U (v := ?_) rfl ?_ (Sh.to hS) ?_; rotate_left; (focus (intro _ _; go_simp; (try (rw [wrap_i64]; (rotate_left; omega))); (try with_reducible rfl))); (try simp only [Act.put, List.setIfInBounds_toArray, List.set_cons_zero, List.set_cons_succ])); (refine wpF_U (v := ?_) rfl ?_ (Sh.to hS) ?_; rotate_left; (focus (intro _ _; go_simp; (try (rw [wrap_i64]; (rotate_left; omega))); (try with_reducible rfl))); (try simp only [Act.put, List.setIfInBounds_toArray, List.set_cons_zero, List.set_cons_succ])); ((refine wpF_U (v := ?_) rfl ?_ (Sh.to hS) ?_; rotate_left; (focus (intro _ _; go_simp; (try (rw [wrap_i64]; (rotate_left; omega))); (try with_reducible rfl))); (try simp only [Act.put, List.setIfInBounds_toArray, List.set_cons_zero, List.set_cons_succ]))); ((refine wpF_U (v := ?_) rfl ?_ (Sh.to hS) ?_; rotate_left; (focus (intro _ _; go_simp; (try (rw [wrap_i64]; (rotate_left; omega))); (try with_reducible rfl))); (try simp only [Act.put, List.setIfInBounds_toArray, List.set_cons_zero, List.set_cons_succ]))); ((refine wpF_U (v := ?_) rfl ?_ (Sh.to hS) ?_; rotate_left; (focus (intro _ _; go_simp; (try (rw [wrap_i64]; (rotate_left; omega))); (try with_reducible rfl))); (try simp only [Act.put, List.setIfInBounds_toArray, List.set_cons_zero, List.set_cons_succ]))); (((refine wpF_U rfl (fun _ hT => ex_ix hT rfl rfl rfl ?_) (Sh.to hS) ?_); (focus (rfl)); (try simp only [Act.put, List.setIfInBounds_toArray, List.set_cons_zero, List.set_cons_succ]))); ((refine wpF_U (v := ?_) rfl ?_ (Sh.to hS) ?_; rotate_left; (focus (intro _ _; go_simp; (try (rw [wrap_i64]; (rotate_left; omega))); (try with_reducible rfl))); (try simp only [Act.put, List.setIfInBounds_toArray, List.set_cons_zero, List.set_cons_succ]))); (((refine wpF_U rfl (fun _ hT => ex_l0 hT rfl rfl rfl CellAt.out) (Sh.to hS) ?_); (try simp only [Act.put, List.setIfInBounds_toArray, List.set_cons_zero, List.set_cons_succ]))); ((refine wpF_U (v := ?_) rfl ?_ (Sh.to hS) ?_; rotate_left; (focus (intro _ _; go_simp; (try (rw [wrap_i64]; (rotate_left; omega))); (try with_reducible rfl))); (try simp only [Act.put, List.setIfInBounds_toArray, List.set_cons_zero, List.set_cons_succ]))); ((refine wpF_U (v := ?_) rfl ?_ (Sh.to hS) ?_; rotate_left; (focus (intro _ _; go_simp; (try (rw [wrap_i64]; (rotate_left; omega))); (try with_reducible rfl))); (try simp only [Act.put, List.setIfInBounds_toArray, List.set_cons_zero, List.set_cons_succ]))); (((refine wpF_U rfl (fun _ hT => ex_ix hT rfl rfl rfl ?_) (Sh.to hS) ?_); (focus (rfl)); (try simp only [Act.put, List.setIfInBounds_toArray, List.set_cons_zero, List.set_cons_succ]))); ((refine wpF_U (v := ?_) rfl ?_ (Sh.to hS) ?_; rotate_left; (focus (intro _ _; go_simp; (try (rw [wrap_i64]; (rotate_left; omega))); (try with_reducible rfl))); (try simp only [Act.put, List.setIfInBounds_toArray, List.set_cons_zero, List.set_cons_succ]))); (((refine wpF_U rfl (fun _ hT => ex_l0 hT rfl rfl rfl CellAt.out) (Sh.to hS) ?_); (try simp only [Act.put, List.setIfInBounds_toArray, List.set_cons_zero, List.set_cons_succ]))); (refine wpF_ex ?_); go_wp2_with ((go_at_call 57; refine ((hls _ _ hS)).mono ?_; rintro e w' (⟨rfl, hS⟩))); (refine ⟨?_, ?_⟩; (focus ((refine Or.inr ?_; exact Sh.to hS)))); ((refine wpF_U (v := ?_) rfl ?_ (Sh.to hS) ?_; rotate_left; (focus (intro _ _; go_simp; (try (rw [wrap_i64]; (rotate_left; omega))); (try with_reducible rfl))); (try simp only [Act.put, List.setIfInBounds_toArray, List.set_cons_zero, List.set_cons_succ]))); (refine wpF_U (v := ?_) rfl ?_ (Sh.to hS) ?_; rotate_left; (focus (intro _ _; go_simp; (try (rw [wrap_i64]; (rotate_left; omega))); (try with_reducible rfl))); (try simp only [Act.put, List.setIfInBounds_toArray, List.set_cons_zero, List.set_cons_succ])); ((refine wpF_done (by assumption) ?_)))
        go_wp2
        (refine wp_drawnF hS [(0, true), (1, true), (2, true), (3, true), (4, true), (5, true), (6, true), (7, true), (8, false), (9, false), (10, true)] (by kernel_rfl) (by kernel_rfl) (by intro d _ _ _ _ h; cases d <;> exact h) ?_; have hS := hS.drew; simp only [picks_cons, picks_nil, opAt, List.toList_toArray]; (refine wpF_U (v := ?_) rfl ?_ (Sh.to hS) ?_; rotate_left; (focus (intro _ _; go_simp; (try (rw [wrap_i64]; (rotate_left; omega))); (try with_reducible rfl))); (try simp only [Act.put, List.setIfInBounds_toArray, List.set_cons_zero, List.set_cons_succ])); (refine wpF_U (v := ?_) rfl ?_ (Sh.to hS) ?_; rotate_left; (focus (intro _ _; go_simp; (try (rw [wrap_i64]; (rotate_left; omega))); (try with_reducible rfl))); (try simp only [Act.put, List.setIfInBounds_toArray, List.set_cons_zero, List.set_cons_succ])); ((refine wpF_U rfl (fun _ hT => (ex_cutH rfl rfl rfl hcut)) (Sh.to hS) ?_; (try simp only [Act.put, List.setIfInBounds_toArray, List.set_cons_zero, List.set_cons_succ]))); (refine wpF_U (v := ?_) rfl ?_ (Sh.to hS) ?_; rotate_left; (focus (intro _ _; go_simp; (try (rw [wrap_i64]; (rotate_left; omega))); (try with_reducible rfl))); (try simp only [Act.put, List.setIfInBounds_toArray, List.set_cons_zero, List.set_cons_succ])); (refine wpF_U (v := ?_) rfl ?_ (Sh.to hS) ?_; rotate_left; (focus (intro _ _; go_simp; (try (rw [wrap_i64]; (rotate_left; omega))); (try with_reducible rfl))); (try simp only [Act.put, List.setIfInBounds_toArray, List.set_cons_zero, List.set_cons_succ])); ((refine wpF_U rfl (fun _ hT => ex_ix hT rfl rfl rfl ?_) (Sh.to hS) ?_); (focus (rfl)); (try simp only [Act.put, List.setIfInBounds_toArray, List.set_cons_zero, List.set_cons_succ])); (refine wpF_U (v := ?_) rfl ?_ (Sh.to hS) ?_; rotate_left; (focus (intro _ _; go_simp; (try (rw [wrap_i64]; (rotate_left; omega))); (try with_reducible rfl))); (try simp only [Act.put, List.setIfInBounds_toArray, List.set_cons_zero, List.set_cons_succ])); ((refine wpF_U rfl (fun _ hT => ex_l0 hT rfl rfl rfl CellAt.out) (Sh.to hS) ?_); (try simp only [Act.put, List.setIfInBounds_toArray, List.set_cons_zero, List.set_cons_succ])); (refine wpF_ex ?_); go_wp2_with ((go_at_call 30; refine ((hup _ _ hS)).mono ?_; rintro e w' (⟨rfl, hS⟩))); (refine ⟨?_, ?_⟩; (focus ((refine Or.inr ?_; exact Sh.to hS)))); (refine wpF_ex ?_); go_wp2_with ((go_at_call 32; refine ((hisd _ _ hS Hrt.out)).mono ?_; rintro e w' (⟨rfl, hS⟩))); (refine ⟨?_, ?_⟩; (focus ((refine Or.inr ?_; exact Sh.to hS)))); (refine wpF_U (v := ?_) rfl ?_ (Sh.to hS) ?_; rotate_left; (focus (intro _ _; go_simp; (try (rw [wrap_i64]; (rotate_left; omega))); (try with_reducible rfl))); (try simp only [Act.put, List.setIfInBounds_toArray, List.set_cons_zero, List.set_cons_succ])); ((refine wpF_done (by assumption) ?_)))
        go_wp2
        go_ret2
        rw [← Hck.out]
        exact ⟨rfl, hS⟩
      rw [if_neg hd] at hck
      have hd1 : isDirF (t.take i) (upP e.path) = true := by cases h : isDirF (t.take i) (upP e.path); exact absurd h hd; rfl
      rw [hd1] at hisd
      clear hd hd1
      by_cases hb : 1048576 < sum + (e.data.size : Int)
      · rw [if_pos hb] at hck
        have d4 : decide (1048576 < sum + (e.data.size : Int)) = true := decide_eq_true hb
        have Hck := Lib.hid hck
        clear hck hb hsz
        go_wp2_with (first | (go_at_call 28; refine ((hmy _ _ hS)).mono ?_; rintro e w' (⟨rfl, hS⟩)) | (refine wl_isld rfl ?_; ((refine wl_value rfl (ex_lr hS rfl rfl rfl rfl) ?_); (try simp only [Act.put, List.setIfInBounds_toArray, List.set_cons_zero, List.set_cons_succ]))) | ((refine wl_value rfl (ex_ix hS rfl rfl rfl ?_) ?_); (focus (rfl)); (try simp only [Act.put, List.setIfInBounds_toArray, List.set_cons_zero, List.set_cons_succ])))
        (refine wp_drawnF hS [(0, true), (1, true), (2, true), (3, true), (4, true), (5, true), (6, true), (7, true), (8, true), (9, true), (10, true), (11, true), (12, true), (13, true), (14, false), (15, true), (16, true)] (by kernel_rfl) (by kernel_rfl) (by intro d _ _ _ _ h; cases d <;> exact h) ?_; have hS := hS.drew; simp only [picks_cons, picks_nil, opAt, List.toList_toArray]; (refine wpF_U (v := ?_) rfl ?_ (Sh.to hS) ?_; rotate_left; (focus (intro _ _; go_simp; (try (rw [wrap_i64]; (rotate_left; omega))); (try with_reducible rfl))); (try simp only [Act.put, List.setIfInBounds_toArray, List.set_cons_zero, List.set_cons_succ])); (refine wpF_U (v := ?_) rfl ?_ (Sh.to hS) ?_; rotate_left; (focus (intro _ _; go_simp; (try (rw [wrap_i64]; (rotate_left; omega))); (try with_reducible rfl))); (try simp only [Act.put, List.setIfInBounds_toArray, List.set_cons_zero, List.set_cons_succ])); (refine wpF_U (v := ?_) rfl ?_ (Sh.to hS) ?_; rotate_left; (focus (intro _ _; go_simp; (try (rw [wrap_i64]; (rotate_left; omega))); (try with_reducible rfl))); (try simp only [Act.put, List.setIfInBounds_toArray, List.set_cons_zero, List.set_cons_succ])); ((refine wpF_U (v := ?_) rfl ?_ (Sh.to hS) ?_; rotate_left; (focus (intro _ _; go_simp; (try (rw [wrap_i64]; (rotate_left; omega))); (try with_reducible rfl))); (try simp only [Act.put, List.setIfInBounds_toArray, List.set_cons_zero, List.set_cons_succ]))); ((refine wpF_U (v := ?_) rfl ?_ (Sh.to hS) ?_; rotate_left; (focus (intro _ _; go_simp; (try (rw [wrap_i64]; (rotate_left; omega))); (try with_reducible rfl))); (try simp only [Act.put, List.setIfInBounds_toArray, List.set_cons_zero, List.set_cons_succ]))); ((refine wpF_U (v := ?_) rfl ?_ (Sh.to hS) ?_; rotate_left; (focus (intro _ _; go_simp; (try (rw [wrap_i64]; (rotate_left; omega))); (try with_reducible rfl))); (try simp only [Act.put, List.setIfInBounds_toArray, List.set_cons_zero, List.set_cons_succ]))); (((refine wpF_U rfl (fun _ hT => ex_ix hT rfl rfl rfl ?_) (Sh.to hS) ?_); (focus (rfl)); (try simp only [Act.put, List.setIfInBounds_toArray, List.set_cons_zero, List.set_cons_succ]))); ((refine wpF_U (v := ?_) rfl ?_ (Sh.to hS) ?_; rotate_left; (focus (intro _ _; go_simp; (try (rw [wrap_i64]; (rotate_left; omega))); (try with_reducible rfl))); (try simp only [Act.put, List.setIfInBounds_toArray, List.set_cons_zero, List.set_cons_succ]))); (((refine wpF_U rfl (fun _ hT => ex_l0 hT rfl rfl rfl CellAt.out) (Sh.to hS) ?_); (try simp only [Act.put, List.setIfInBounds_toArray, List.set_cons_zero, List.set_cons_succ]))); ((refine wpF_U (v := ?_) rfl ?_ (Sh.to hS) ?_; rotate_left; (focus (intro _ _; go_simp; (try (rw [wrap_i64]; (rotate_left; omega))); (try with_reducible rfl))); (try simp only [Act.put, List.setIfInBounds_toArray, List.set_cons_zero, List.set_cons_succ]))); ((refine wpF_U (v := ?_) rfl ?_ (Sh.to hS) ?_; rotate_left; (focus (intro _ _; go_simp; (try (rw [wrap_i64]; (rotate_left; omega))); (try with_reducible rfl))); (try simp only [Act.put, List.setIfInBounds_toArray, List.set_cons_zero, List.set_cons_succ]))); (((refine wpF_U rfl (fun _ hT => ex_ix hT rfl rfl rfl ?_) (Sh.to hS) ?_); (focus (rfl)); (try simp only [Act.put, List.setIfInBounds_toArray, List.set_cons_zero, List.set_cons_succ]))); ((refine wpF_U (v := ?_) rfl ?_ (Sh.to hS) ?_; rotate_left; (focus (intro _ _; go_simp; (try (rw [wrap_i64]; (rotate_left; omega))); (try with_reducible rfl))); (try simp only [Act.put, List.setIfInBounds_toArray, List.set_cons_zero, List.set_cons_succ]))); (((refine wpF_U rfl (fun _ hT => ex_l0 hT rfl rfl rfl CellAt.out) (Sh.to hS) ?_); (try simp only [Act.put, List.setIfInBounds_toArray, List.set_cons_zero, List.set_cons_succ]))); (refine wpF_ex ?_); go_wp2_with ((go_at_call 57; refine ((hls _ _ hS)).mono ?_; rintro e w' (⟨rfl, hS⟩))); (refine ⟨?_, ?_⟩; (focus ((refine Or.inr ?_; exact Sh.to hS)))); ((refine wpF_U (v := ?_) rfl ?_ (Sh.to hS) ?_; rotate_left; (focus (intro _ _; go_simp; (try (rw [wrap_i64]; (rotate_left; omega))); (try with_reducible rfl))); (try simp only [Act.put, List.setIfInBounds_toArray, List.set_cons_zero, List.set_cons_succ]))); (refine wpF_U (v := ?_) rfl ?_ (Sh.to hS) ?_; rotate_left; (focus (intro _ _; go_simp; (try (rw [wrap_i64]; (rotate_left; omega))); (try with_reducible rfl))); (try simp only [Act.put, List.setIfInBounds_toArray, List.set_cons_zero, List.set_cons_succ])); ((refine wpF_done (by assumption) ?_)))
        go_wp2
        (refine wp_drawnF hS [(0, true), (1, true), (2, true), (3, true), (4, true), (5, true), (6, true), (7, true), (8, false), (9, false), (10, true)] (by kernel_rfl) (by kernel_rfl) (by intro d _ _ _ _ h; cases d <;> exact h) ?_; have hS := hS.drew; simp only [picks_cons, picks_nil, opAt, List.toList_toArray]; (refine wpF_U (v := ?_) rfl ?_ (Sh.to hS) ?_; rotate_left; (focus (intro _ _; go_simp; (try (rw [wrap_i64]; (rotate_left; omega))); (try with_reducible rfl))); (try simp only [Act.put, List.setIfInBounds_toArray, List.set_cons_zero, List.set_cons_succ])); (refine wpF_U (v := ?_) rfl ?_ (Sh.to hS) ?_; rotate_left; (focus (intro _ _; go_simp; (try (rw [wrap_i64]; (rotate_left; omega))); (try with_reducible rfl))); (try simp only [Act.put, List.setIfInBounds_toArray, List.set_cons_zero, List.set_cons_succ])); ((refine wpF_U rfl (fun _ hT => (ex_cutH rfl rfl rfl hcut)) (Sh.to hS) ?_; (try simp only [Act.put, List.setIfInBounds_toArray, List.set_cons_zero, List.set_cons_succ]))); (refine wpF_U (v := ?_) rfl ?_ (Sh.to hS) ?_; rotate_left; (focus (intro _ _; go_simp; (try (rw [wrap_i64]; (rotate_left; omega))); (try with_reducible rfl))); (try simp only [Act.put, List.setIfInBounds_toArray, List.set_cons_zero, List.set_cons_succ])); (refine wpF_U (v := ?_) rfl ?_ (Sh.to hS) ?_; rotate_left; (focus (intro _ _; go_simp; (try (rw [wrap_i64]; (rotate_left; omega))); (try with_reducible rfl))); (try simp only [Act.put, List.setIfInBounds_toArray, List.set_cons_zero, List.set_cons_succ])); ((refine wpF_U rfl (fun _ hT => ex_ix hT rfl rfl rfl ?_) (Sh.to hS) ?_); (focus (rfl)); (try simp only [Act.put, List.setIfInBounds_toArray, List.set_cons_zero, List.set_cons_succ])); (refine wpF_U (v := ?_) rfl ?_ (Sh.to hS) ?_; rotate_left; (focus (intro _ _; go_simp; (try (rw [wrap_i64]; (rotate_left; omega))); (try with_reducible rfl))); (try simp only [Act.put, List.setIfInBounds_toArray, List.set_cons_zero, List.set_cons_succ])); ((refine wpF_U rfl (fun _ hT => ex_l0 hT rfl rfl rfl CellAt.out) (Sh.to hS) ?_); (try simp only [Act.put, List.setIfInBounds_toArray, List.set_cons_zero, List.set_cons_succ])); (refine wpF_ex ?_); go_wp2_with ((go_at_call 30; refine ((hup _ _ hS)).mono ?_; rintro e w' (⟨rfl, hS⟩))); (refine ⟨?_, ?_⟩; (focus ((refine Or.inr ?_; exact Sh.to hS)))); (refine wpF_ex ?_); go_wp2_with ((go_at_call 32; refine ((hisd _ _ hS Hrt.out)).mono ?_; rintro e w' (⟨rfl, hS⟩))); (refine ⟨?_, ?_⟩; (focus ((refine Or.inr ?_; exact Sh.to hS)))); (refine wpF_U (v := ?_) rfl ?_ (Sh.to hS) ?_; rotate_left; (focus (intro _ _; go_simp; (try (rw [wrap_i64]; (rotate_left; omega))); (try with_reducible rfl))); (try simp only [Act.put, List.setIfInBounds_toArray, List.set_cons_zero, List.set_cons_succ])); ((refine wpF_done (by assumption) ?_)))
        go_wp2_with (first | (refine wl_isld rfl ?_; ((refine wl_value rfl (ex_lf hS rfl rfl rfl CellAt.out) ?_); (try simp only [Act.put, List.setIfInBounds_toArray, List.set_cons_zero, List.set_cons_succ]))) | ((refine wl_value rfl (ex_ix hS rfl rfl rfl ?_) ?_); (focus (rfl)); (try simp only [Act.put, List.setIfInBounds_toArray, List.set_cons_zero, List.set_cons_succ])))
        go_ret2
        rw [← Hck.out]
        exact ⟨rfl, hS⟩
      · rw [if_neg hb] at hck
        have d4 : decide (1048576 < sum + (e.data.size : Int)) = false := decide_eq_false hb
        have Hck := Lib.hid hck
        clear hck hb hsz
        go_wp2_with (first | (go_at_call 28; refine ((hmy _ _ hS)).mono ?_; rintro e w' (⟨rfl, hS⟩)) | (refine wl_isld rfl ?_; ((refine wl_value rfl (ex_lr hS rfl rfl rfl rfl) ?_); (try simp only [Act.put, List.setIfInBounds_toArray, List.set_cons_zero, List.set_cons_succ]))) | ((refine wl_value rfl (ex_ix hS rfl rfl rfl ?_) ?_); (focus (rfl)); (try simp only [Act.put, List.setIfInBounds_toArray, List.set_cons_zero, List.set_cons_succ])))
        (refine wp_drawnF hS [(0, true), (1, true), (2, true), (3, true), (4, true), (5, true), (6, true), (7, true), (8, true), (9, true), (10, true), (11, true), (12, true), (13, true), (14, false), (15, true), (16, true)] (by kernel_rfl) (by kernel_rfl) (by intro d _ _ _ _ h; cases d <;> exact h) ?_; have hS := hS.drew; simp only [picks_cons, picks_nil, opAt, List.toList_toArray]; (refine wpF_U (v := ?_) rfl ?_ (Sh.to hS) ?_; rotate_left; (focus (intro _ _; go_simp; (try (rw [wrap_i64]; (rotate_left; omega))); (try with_reducible rfl))); (try simp only [Act.put, List.setIfInBounds_toArray, List.set_cons_zero, List.set_cons_succ])); (refine wpF_U (v := ?_) rfl ?_ (Sh.to hS) ?_; rotate_left; (focus (intro _ _; go_simp; (try (rw [wrap_i64]; (rotate_left; omega))); (try with_reducible rfl))); (try simp only [Act.put, List.setIfInBounds_toArray, List.set_cons_zero, List.set_cons_succ])); (refine wpF_U (v := ?_) rfl ?_ (Sh.to hS) ?_; rotate_left; (focus (intro _ _; go_simp; (try (rw [wrap_i64]; (rotate_left; omega))); (try with_reducible rfl))); (try simp only [Act.put, List.setIfInBounds_toArray, List.set_cons_zero, List.set_cons_succ])); ((refine wpF_U (v := ?_) rfl ?_ (Sh.to hS) ?_; rotate_left; (focus (intro _ _; go_simp; (try (rw [wrap_i64]; (rotate_left; omega))); (try with_reducible rfl))); (try simp only [Act.put, List.setIfInBounds_toArray, List.set_cons_zero, List.set_cons_succ]))); ((refine wpF_U (v := ?_) rfl ?_ (Sh.to hS) ?_; rotate_left; (focus (intro _ _; go_simp; (try (rw [wrap_i64]; (rotate_left; omega))); (try with_reducible rfl))); (try simp only [Act.put, List.setIfInBounds_toArray, List.set_cons_zero, List.set_cons_succ]))); ((refine wpF_U (v := ?_) rfl ?_ (Sh.to hS) ?_; rotate_left; (focus (intro _ _; go_simp; (try (rw [wrap_i64]; (rotate_left; omega))); (try with_reducible rfl))); (try simp only [Act.put, List.setIfInBounds_toArray, List.set_cons_zero, List.set_cons_succ]))); (((refine wpF_U rfl (fun _ hT => ex_ix hT rfl rfl rfl ?_) (Sh.to hS) ?_); (focus (rfl)); (try simp only [Act.put, List.setIfInBounds_toArray, List.set_cons_zero, List.set_cons_succ]))); ((refine wpF_U (v := ?_) rfl ?_ (Sh.to hS) ?_; rotate_left; (focus (intro _ _; go_simp; (try (rw [wrap_i64]; (rotate_left; omega))); (try with_reducible rfl))); (try simp only [Act.put, List.setIfInBounds_toArray, List.set_cons_zero, List.set_cons_succ]))); (((refine wpF_U rfl (fun _ hT => ex_l0 hT rfl rfl rfl CellAt.out) (Sh.to hS) ?_); (try simp only [Act.put, List.setIfInBounds_toArray, List.set_cons_zero, List.set_cons_succ]))); ((refine wpF_U (v := ?_) rfl ?_ (Sh.to hS) ?_; rotate_left; (focus (intro _ _; go_simp; (try (rw [wrap_i64]; (rotate_left; omega))); (try with_reducible rfl))); (try simp only [Act.put, List.setIfInBounds_toArray, List.set_cons_zero, List.set_cons_succ]))); ((refine wpF_U (v := ?_) rfl ?_ (Sh.to hS) ?_; rotate_left; (focus (intro _ _; go_simp; (try (rw [wrap_i64]; (rotate_left; omega))); (try with_reducible rfl))); (try simp only [Act.put, List.setIfInBounds_toArray, List.set_cons_zero, List.set_cons_succ]))); (((refine wpF_U rfl (fun _ hT => ex_ix hT rfl rfl rfl ?_) (Sh.to hS) ?_); (focus (rfl)); (try simp only [Act.put, List.setIfInBounds_toArray, List.set_cons_zero, List.set_cons_succ]))); ((refine wpF_U (v := ?_) rfl ?_ (Sh.to hS) ?_; rotate_left; (focus (intro _ _; go_simp; (try (rw [wrap_i64]; (rotate_left; omega))); (try with_reducible rfl))); (try simp only [Act.put, List.setIfInBounds_toArray, List.set_cons_zero, List.set_cons_succ]))); (((refine wpF_U rfl (fun _ hT => ex_l0 hT rfl rfl rfl CellAt.out) (Sh.to hS) ?_); (try simp only [Act.put, List.setIfInBounds_toArray, List.set_cons_zero, List.set_cons_succ]))); (refine wpF_ex ?_); go_wp2_with ((go_at_call 57; refine ((hls _ _ hS)).mono ?_; rintro e w' (⟨rfl, hS⟩))); (refine ⟨?_, ?_⟩; (focus ((refine Or.inr ?_; exact Sh.to hS)))); ((refine wpF_U (v := ?_) rfl ?_ (Sh.to hS) ?_; rotate_left; (focus (intro _ _; go_simp; (try (rw [wrap_i64]; (rotate_left; omega))); (try with_reducible rfl))); (try simp only [Act.put, List.setIfInBounds_toArray, List.set_cons_zero, List.set_cons_succ]))); (refine wpF_U (v := ?_) rfl ?_ (Sh.to hS) ?_; rotate_left; (focus (intro _ _; go_simp; (try (rw [wrap_i64]; (rotate_left; omega))); (try with_reducible rfl))); (try simp only [Act.put, List.setIfInBounds_toArray, List.set_cons_zero, List.set_cons_succ])); ((refine wpF_done (by assumption) ?_)))
        go_wp2
        (refine wp_drawnF hS [(0, true), (1, true), (2, true), (3, true), (4, true), (5, true), (6, true), (7, true), (8, false), (9, false), (10, true)] (by kernel_rfl) (by kernel_rfl) (by intro d _ _ _ _ h; cases d <;> exact h) ?_; have hS := hS.drew; simp only [picks_cons, picks_nil, opAt, List.toList_toArray]; (refine wpF_U (v := ?_) rfl ?_ (Sh.to hS) ?_; rotate_left; (focus (intro _ _; go_simp; (try (rw [wrap_i64]; (rotate_left; omega))); (try with_reducible rfl))); (try simp only [Act.put, List.setIfInBounds_toArray, List.set_cons_zero, List.set_cons_succ])); (refine wpF_U (v := ?_) rfl ?_ (Sh.to hS) ?_; rotate_left; (focus (intro _ _; go_simp; (try (rw [wrap_i64]; (rotate_left; omega))); (try with_reducible rfl))); (try simp only [Act.put, List.setIfInBounds_toArray, List.set_cons_zero, List.set_cons_succ])); ((refine wpF_U rfl (fun _ hT => (ex_cutH rfl rfl rfl hcut)) (Sh.to hS) ?_; (try simp only [Act.put, List.setIfInBounds_toArray, List.set_cons_zero, List.set_cons_succ]))); (refine wpF_U (v := ?_) rfl ?_ (Sh.to hS) ?_; rotate_left; (focus (intro _ _; go_simp; (try (rw [wrap_i64]; (rotate_left; omega))); (try with_reducible rfl))); (try simp only [Act.put, List.setIfInBounds_toArray, List.set_cons_zero, List.set_cons_succ])); (refine wpF_U (v := ?_) rfl ?_ (Sh.to hS) ?_; rotate_left; (focus (intro _ _; go_simp; (try (rw [wrap_i64]; (rotate_left; omega))); (try with_reducible rfl))); (try simp only [Act.put, List.setIfInBounds_toArray, List.set_cons_zero, List.set_cons_succ])); ((refine wpF_U rfl (fun _ hT => ex_ix hT rfl rfl rfl ?_) (Sh.to hS) ?_); (focus (rfl)); (try simp only [Act.put, List.setIfInBounds_toArray, List.set_cons_zero, List.set_cons_succ])); (refine wpF_U (v := ?_) rfl ?_ (Sh.to hS) ?_; rotate_left; (focus (intro _ _; go_simp; (try (rw [wrap_i64]; (rotate_left; omega))); (try with_reducible rfl))); (try simp only [Act.put, List.setIfInBounds_toArray, List.set_cons_zero, List.set_cons_succ])); ((refine wpF_U rfl (fun _ hT => ex_l0 hT rfl rfl rfl CellAt.out) (Sh.to hS) ?_); (try simp only [Act.put, List.setIfInBounds_toArray, List.set_cons_zero, List.set_cons_succ])); (refine wpF_ex ?_); go_wp2_with ((go_at_call 30; refine ((hup _ _ hS)).mono ?_; rintro e w' (⟨rfl, hS⟩))); (refine ⟨?_, ?_⟩; (focus ((refine Or.inr ?_; exact Sh.to hS)))); (refine wpF_ex ?_); go_wp2_with ((go_at_call 32; refine ((hisd _ _ hS Hrt.out)).mono ?_; rintro e w' (⟨rfl, hS⟩))); (refine ⟨?_, ?_⟩; (focus ((refine Or.inr ?_; exact Sh.to hS)))); (refine wpF_U (v := ?_) rfl ?_ (Sh.to hS) ?_; rotate_left; (focus (intro _ _; go_simp; (try (rw [wrap_i64]; (rotate_left; omega))); (try with_reducible rfl))); (try simp only [Act.put, List.setIfInBounds_toArray, List.set_cons_zero, List.set_cons_succ])); ((refine wpF_done (by assumption) ?_)))
        go_wp2_with (first | (refine wl_isld rfl ?_; ((refine wl_value rfl (ex_lf hS rfl rfl rfl CellAt.out) ?_); (try simp only [Act.put, List.setIfInBounds_toArray, List.set_cons_zero, List.set_cons_succ]))) | ((refine wl_value rfl (ex_ix hS rfl rfl rfl ?_) ?_); (focus (rfl)); (try simp only [Act.put, List.setIfInBounds_toArray, List.set_cons_zero, List.set_cons_succ])))
        (refine ⟨((⟨i + 1, sum + e.data.size⟩ : CkSt)), (⟨hlt, (by show 0 ≤ sum + (e.data.size : Int); omega), (by show sum + (e.data.size : Int) ≤ ((i + 1 : Nat) : Int) * 16777216; omega), Hck.out, hS⟩), (by (try dsimp only); omega), rfl, (by (simp only [blankT, junkT, List.cons_append, List.nil_append, List.setIfInBounds_toArray, List.set_cons_zero, List.set_cons_succ])), rfl⟩)
  · rw [List.drop_eq_nil_of_le (by omega)] at hck
    have Hck := Lib.hid (show X = (0, 0) from hck.symm)
    clear hck
    go_wp2_with (fail)
    go_ret2
    rw [Hck.out]
    exact ⟨rfl, hS⟩
end
end Go.Tk

set_option linter.unusedSectionVars false
set_option linter.unusedSimpArgs false
set_option linter.unusedVariables false
namespace Go.Tk
open Go.RowKit Go.Proofs

abbrev strkv : ByteArray → Value := fun s => .string s
abbrev intv : Int → Value := fun n => .int .i64 n
def DirMap (m : List (ByteArray × Int)) (pre : List En) : Prop := ∀ p, mget m p = if isDirA pre p then some 1 else none
theorem DirMap.new : DirMap (mput [] ⟨#[]⟩ 1) [] := by
  intro p
  rw [mget_mput]
  unfold isDirA
  by_cases hp : p = ⟨#[]⟩
  · subst hp; rfl
  · have : ¬ p.size = 0 := fun h => hp (by apply ba_ext; rw [ba_size] at h; rw [List.eq_nil_of_length_eq_zero h])
    simp [hp, this]
theorem isDirA_snoc (pre : List En) (e : En) (p : ByteArray) : isDirA (pre ++ [e]) p = (isDirA pre p || (decide (e.kind = 2) && decide (e.path = p))) := by
  unfold isDirA
  rw [List.any_append]
  simp [Bool.or_assoc]
theorem DirMap.dir {m : List (ByteArray × Int)} {pre : List En} {e : En} (h : DirMap m pre) (hk : e.kind = 2) : DirMap (mput m e.path 1) (pre ++ [e]) := by
  intro p
  rw [mget_mput, isDirA_snoc, h p]
  by_cases hp : p = e.path
  · subst hp; simp [hk]
  · have : ¬ e.path = p := fun x => hp x.symm
    simp [hp, this]
theorem DirMap.other {m : List (ByteArray × Int)} {pre : List En} {e : En} (h : DirMap m pre) (hk : ¬ e.kind = 2) : DirMap m (pre ++ [e]) := by
  intro p
  rw [isDirA_snoc, h p]
  simp [hk]
theorem DirMap.look {m : List (ByteArray × Int)} {pre : List En} (h : DirMap m pre) (p : ByteArray) : (mget m p).elim (.int .i64 0) intv = .int .i64 (if isDirA pre p then 1 else 0) := by
  rw [h p]
  split <;> rfl
section
variable {B : Base} {R H H1 : HL} {w w' : World}
def CkP (B : Base) (R : HL) (mb : Nat) (t : List En) (X : Int × Int) (x : CkSt) (w : World) : Prop :=
  ∃ es c m, x.i ≤ t.length ∧ 0 ≤ x.sum ∧ x.sum ≤ x.i * 16777216 ∧ checkG isDirA t x.i x.sum (t.drop x.i) = X ∧ MapIs strkv intv es c m ∧ DirMap m (t.take x.i) ∧ Sh B (mapB mb es c ++ R) w
set_option maxRecDepth 100000 in
set_option maxHeartbeats 3200000 in
theorem TCheck_any [HasML B] [NoDraw B] (hS : Sh B R w) {A : Option Addr} {cap : Nat} {t : List En} [r : RdAt enE B R A t] (hl : t.length ≤ 16777216) (hsm : SmallE t) :
    Calls Tryz.prog 27 #[.slice A t.length cap] w fun e w' => e = .returned (.tuple #[.int .i64 (checkA t).1, .int .i64 (checkA t).2]) ∧ Sh B R w' := by
  by_cases hbig : 1024 < t.length
  · have Hx := Lib.hid (show checkA t = (1024, 53) by unfold checkA; rw [if_pos hbig])
    have d1 : decide ((1024 : Int) < (t.length : Int)) = true := decide_eq_true (by omega)
    have e1 : decide (1024 < t.length) = true := decide_eq_true hbig
    clear hbig
    go_enter Tryz.func27, Tryz.ntmps27
    go_wp2
    go_ret2
    rw [Hx.out]
    exact ⟨rfl, hS⟩
  have hx : checkA t = checkG isDirA t 0 0 t := by unfold checkA; rw [if_neg hbig]
  have d1 : decide ((1024 : Int) < (t.length : Int)) = false := decide_eq_false (by omega)
  have e1 : decide (1024 < t.length) = false := decide_eq_false hbig
  rw [hx]
  obtain ⟨X, hX⟩ : ∃ X, checkG isDirA t 0 0 t = X := ⟨_, rfl⟩
  rw [hX]
  have HX := Lib.hid hX
  have Hsm := Lib.hid hsm
  have htl : t.length ≤ 1024 := by omega
  clear hX hx hbig hsm
  go_enter Tryz.func27, Tryz.ntmps27
  have hm : MapIs strkv intv #[] 0 ([] : List (ByteArray × Int)) := MapIs.empty
  go_wp2_with (first | (refine wl_makeMap rfl rfl hS ?_; intro mb _ hS; (try simp only [Act.put, List.setIfInBounds_toArray, List.set_cons_zero, List.set_cons_succ])) | (refine wl_insert (k := ((⟨#[]⟩ : ByteArray))) (v := ((1 : Int))) hm rfl rfl rfl rfl rfl hS ?_; clear hm; intro _ _ _ hS hm; (try simp only [evT, evC, List.getD_cons_succ, List.getD_cons_zero, List.set_cons_zero, List.set_cons_succ] at hS); (try simp only [Act.put, List.setIfInBounds_toArray, List.set_cons_zero, List.set_cons_succ])))
  have h0 : CkP B R mb t X ⟨0, 0⟩ _ := ⟨_, _, _, Nat.zero_le _, Int.le_refl _, by simp, HX.out, hm, DirMap.new, hS⟩
  clear hS hm
  refine wp_loopS [5, 15] [2, 3, 6, 7, 16, 17, 18, 19, 20, 21, 22, 23, 24, 25, 26, 27, 28, 29, 30, 31, 32, 33, 34, 35, 36, 37, 38, 39, 40, 41, 42, 43, 44, 45, 46, 47, 48, 49, 50, 51, 52, 53, 54, 55, 56, 57, 58, 59, 60, 61, 62, 63, 64] (fun x : CkSt => [.int .i64 x.sum, .int .i64 x.i]) (CkP B R mb t X) (fun x => t.length - x.i) (⟨0, 0⟩) rfl (h0) ?_
  clear h0
  rintro ⟨i, sum⟩ J w ⟨es, c, m, hi, hs0, hs1, hck, hm, hdm, hS⟩
  dsimp only at hi hs0 hs1 hck hm hdm hS
  have Hdm := Lib.hid hdm
  clear hdm
  (simp only [Frm, setsT, junkT, List.setIfInBounds_toArray, List.set_cons_zero, List.set_cons_succ])
  by_cases hlt : i < t.length
  · obtain ⟨e, ge⟩ := Nth.of hlt
    have hsz := Hsm.out e ge.mem
    have hpz := hsz.1
    have hdz := hsz.2
    rw [ge.drop, checkG_cons] at hck
    have hmy := fun (w : World) (R : HL) (hS : Sh B R w) => May_any hS e hpz
    have Htk := Lib.hid ge.take
    by_cases hmb : mayB e = false
    · rw [if_pos hmb] at hck
      rw [hmb] at hmy
      have Hck := Lib.hid hck
      clear hck hmb hsz
      go_wp2_with (first | (refine wl_alloc rfl rfl hS ?_; intro eb _ hS; (try simp only [Act.put, List.setIfInBounds_toArray, List.set_cons_zero, List.set_cons_succ])) | (go_at_call 38; refine ((hmy _ _ hS)).mono ?_; rintro e w' (⟨rfl, hS⟩)) | (refine wl_isld rfl ?_; ((first | refine wl_value rfl (ex_ldC hS rfl rfl CellAt.out) ?_ | refine wl_value rfl (ex_lr hS rfl rfl rfl rfl) ?_ | refine wl_value rfl (ex_ldr0 hS rfl rfl rfl) ?_); (try simp only [Act.put, List.setIfInBounds_toArray, List.set_cons_zero, List.set_cons_succ]))) | ((refine wl_value rfl (ex_ix hS rfl rfl rfl ?_) ?_); (focus (rfl)); (try simp only [Act.put, List.setIfInBounds_toArray, List.set_cons_zero, List.set_cons_succ])) | (refine wl_strC rfl rfl rfl rfl hS rfl rfl ?_; intro _ hS; (try simp only [evT, evC, List.getD_cons_succ, List.getD_cons_zero, List.set_cons_zero, List.set_cons_succ] at hS); (try simp only [Act.put, List.setIfInBounds_toArray, List.set_cons_zero, List.set_cons_succ])))
      go_ret2
      rw [← Hck.out]
      exact ⟨rfl, hS.to⟩
    rw [if_neg hmb] at hck
    have hm1 : mayB e = true := by cases h : mayB e; exact absurd h hmb; rfl
    rw [hm1] at hmy
    clear hmb hm1
    by_cases hord : 0 < i ∧ ¬ lessI ((t.getD (i - 1) e).path) e.path < 0
    · rw [if_pos hord] at hck
      obtain ⟨hi0, hle⟩ := hord
      obtain ⟨f, gf⟩ := Nth.of (xs := t) (j := i - 1) (by omega)
      have hfz := (Hsm.out f gf.mem).1
      rw [List.getD_eq_getElem?_getD, gf.get, Option.getD_some] at hle
      have hls := fun (w : World) (R : HL) (hS : Sh B R w) => Less_any hS f.path e.path hfz hpz
      have d3 : decide (0 ≤ lessI f.path e.path) = true := decide_eq_true (by omega)
      have d2 : decide ((0 : Int) < (i : Int)) = true := decide_eq_true (by omega)
      have e2 : decide (0 < i) = true := decide_eq_true hi0
      haveI hN : IsN ((i : Int) - 1) (i - 1) := ⟨by omega⟩
      have Hck := Lib.hid hck
      clear hck hle hsz
      go_wp2_with (first | (refine wl_alloc rfl rfl hS ?_; intro eb _ hS; (try simp only [Act.put, List.setIfInBounds_toArray, List.set_cons_zero, List.set_cons_succ])) | (go_at_call 38; refine ((hmy _ _ hS)).mono ?_; rintro e w' (⟨rfl, hS⟩)) | (refine wl_isld rfl ?_; ((first | refine wl_value rfl (ex_ldC hS rfl rfl CellAt.out) ?_ | refine wl_value rfl (ex_lr hS rfl rfl rfl rfl) ?_ | refine wl_value rfl (ex_ldr0 hS rfl rfl rfl) ?_); (try simp only [Act.put, List.setIfInBounds_toArray, List.set_cons_zero, List.set_cons_succ]))) | ((refine wl_value rfl (ex_ix hS rfl rfl rfl ?_) ?_); (focus (rfl)); (try simp only [Act.put, List.setIfInBounds_toArray, List.set_cons_zero, List.set_cons_succ])) | (refine wl_strC rfl rfl rfl rfl hS rfl rfl ?_; intro _ hS; (try simp only [evT, evC, List.getD_cons_succ, List.getD_cons_zero, List.set_cons_zero, List.set_cons_succ] at hS); (try simp only [Act.put, List.setIfInBounds_toArray, List.set_cons_zero, List.set_cons_succ])))
      (refine wp_drawnF hS [(0, true), (1, true), (2, true), (3, true), (4, true), (5, true), (6, true), (7, true), (8, true), (9, true), (10, true), (11, false), (12, true), (13, true), (14, true)] (by kernel_rfl) (by kernel_rfl) (by intro d _ _ _ _ h; cases d <;> exact h) ?_; have hS := hS.drew; simp only [picks_cons, picks_nil, opAt, List.toList_toArray]; (refine wpF_U (v := ?_) rfl ?_ (Sh.to hS) ?_; rotate_left; (focus (intro _ _; go_simp; (try (rw [wrap_i64]; (rotate_left; omega))); (try with_reducible rfl))); (try simp only [Act.put, List.setIfInBounds_toArray, List.set_cons_zero, List.set_cons_succ])); (refine wpF_U (v := ?_) rfl ?_ (Sh.to hS) ?_; rotate_left; (focus (intro _ _; go_simp; (try (rw [wrap_i64]; (rotate_left; omega))); (try with_reducible rfl))); (try simp only [Act.put, List.setIfInBounds_toArray, List.set_cons_zero, List.set_cons_succ])); (refine wpF_U (v := ?_) rfl ?_ (Sh.to hS) ?_; rotate_left; (focus (intro _ _; go_simp; (try (rw [wrap_i64]; (rotate_left; omega))); (try with_reducible rfl))); (try simp only [Act.put, List.setIfInBounds_toArray, List.set_cons_zero, List.set_cons_succ])); ((refine wpF_U (v := ?_) rfl ?_ (Sh.to hS) ?_; rotate_left; (focus (intro _ _; go_simp; (try (rw [wrap_i64]; (rotate_left; omega))); (try with_reducible rfl))); (try simp only [Act.put, List.setIfInBounds_toArray, List.set_cons_zero, List.set_cons_succ]))); ((refine wpF_U (v := ?_) rfl ?_ (Sh.to hS) ?_; rotate_left; (focus (intro _ _; go_simp; (try (rw [wrap_i64]; (rotate_left; omega))); (try with_reducible rfl))); (try simp only [Act.put, List.setIfInBounds_toArray, List.set_cons_zero, List.set_cons_succ]))); ((refine wpF_U (v := ?_) rfl ?_ (Sh.to hS) ?_; rotate_left; (focus (intro _ _; go_simp; (try (rw [wrap_i64]; (rotate_left; omega))); (try with_reducible rfl))); (try simp only [Act.put, List.setIfInBounds_toArray, List.set_cons_zero, List.set_cons_succ]))); (((refine wpF_U rfl (fun _ hT => ex_ix hT rfl rfl rfl ?_) (Sh.to hS) ?_); (focus (rfl)); (try simp only [Act.put, List.setIfInBounds_toArray, List.set_cons_zero, List.set_cons_succ]))); ((refine wpF_U (v := ?_) rfl ?_ (Sh.to hS) ?_; rotate_left; (focus (intro _ _; go_simp; (try (rw [wrap_i64]; (rotate_left; omega))); (try with_reducible rfl))); (try simp only [Act.put, List.setIfInBounds_toArray, List.set_cons_zero, List.set_cons_succ]))); (((refine wpF_U rfl (fun _ hT => ex_l0 hT rfl rfl rfl CellAt.out) (Sh.to hS) ?_); (try simp only [Act.put, List.setIfInBounds_toArray, List.set_cons_zero, List.set_cons_succ]))); ((refine wpF_U (v := ?_) rfl ?_ (Sh.to hS) ?_; rotate_left; (focus (intro _ _; go_simp; (try (rw [wrap_i64]; (rotate_left; omega))); (try with_reducible rfl))); (try simp only [Act.put, List.setIfInBounds_toArray, List.set_cons_zero, List.set_cons_succ]))); (((refine wpF_U rfl (fun _ hT => ex_ldC hT rfl rfl CellAt.out) (Sh.to hS) ?_); (try simp only [Act.put, List.setIfInBounds_toArray, List.set_cons_zero, List.set_cons_succ]))); (refine wpF_ex ?_); go_wp2_with ((go_at_call 56; refine ((hls _ _ hS)).mono ?_; rintro e w' (⟨rfl, hS⟩))); (refine ⟨?_, ?_⟩; (focus ((refine Or.inr ?_; exact Sh.to hS)))); ((refine wpF_U (v := ?_) rfl ?_ (Sh.to hS) ?_; rotate_left; (focus (intro _ _; go_simp; (try (rw [wrap_i64]; (rotate_left; omega))); (try with_reducible rfl))); (try simp only [Act.put, List.setIfInBounds_toArray, List.set_cons_zero, List.set_cons_succ]))); (refine wpF_U (v := ?_) rfl ?_ (Sh.to hS) ?_; rotate_left; (focus (intro _ _; go_simp; (try (rw [wrap_i64]; (rotate_left; omega))); (try with_reducible rfl))); (try simp only [Act.put, List.setIfInBounds_toArray, List.set_cons_zero, List.set_cons_succ])); (refine wpF_U (v := ?_) rfl ?_ (Sh.to hS) ?_; rotate_left; (focus (intro _ _; go_simp; (try (rw [wrap_i64]; (rotate_left; omega))); (try with_reducible rfl))); (try simp only [Act.put, List.setIfInBounds_toArray, List.set_cons_zero, List.set_cons_succ])); ((refine wpF_done (by assumption) ?_)))
      go_wp2
      go_ret2
      rw [← Hck.out]
      exact ⟨rfl, hS.to⟩
    rw [if_neg hord] at hck
    have hup := fun (w : World) (R : HL) (hS : Sh B R w) => Up_any hS e.path hpz
    have hsplit : (i = 0) ∨ (∃ f, 0 < i ∧ Nth t (i - 1) f ∧ lessI f.path e.path < 0) := by
      by_cases hi0 : i = 0
      · exact .inl hi0
      · right
        obtain ⟨f, gf⟩ := Nth.of (xs := t) (j := i - 1) (by omega)
        refine ⟨f, by omega, gf, ?_⟩
        refine Classical.byContradiction fun h => hord ⟨by omega, ?_⟩
        rw [List.getD_eq_getElem?_getD, gf.get, Option.getD_some]
        exact h
    clear hord
    rcases hsplit with h0 | ⟨f, hi0, gf, hle⟩
    · have d2 : decide ((0 : Int) < (i : Int)) = false := decide_eq_false (by omega)
      have e2 : decide (0 < i) = false := decide_eq_false (by omega)
      have hls := True.intro
      clear h0
      by_cases hd : isDirA (t.take i) (upP e.path) = false
      · rw [if_pos hd] at hck
        have Hlk := Lib.hid (show (mget m (upP e.path)).elim (.int .i64 0) intv = .int .i64 0 by rw [Hdm.out.look, hd]; rfl)
        have Hck := Lib.hid hck
        clear hck hd hsz
        go_wp2_with (first | (refine wl_alloc rfl rfl hS ?_; intro eb _ hS; (try simp only [Act.put, List.setIfInBounds_toArray, List.set_cons_zero, List.set_cons_succ])) | (go_at_call 38; refine ((hmy _ _ hS)).mono ?_; rintro e w' (⟨rfl, hS⟩)) | (refine wl_isld rfl ?_; ((first | refine wl_value rfl (ex_ldC hS rfl rfl CellAt.out) ?_ | refine wl_value rfl (ex_lr hS rfl rfl rfl rfl) ?_ | refine wl_value rfl (ex_ldr0 hS rfl rfl rfl) ?_); (try simp only [Act.put, List.setIfInBounds_toArray, List.set_cons_zero, List.set_cons_succ]))) | ((refine wl_value rfl (ex_ix hS rfl rfl rfl ?_) ?_); (focus (rfl)); (try simp only [Act.put, List.setIfInBounds_toArray, List.set_cons_zero, List.set_cons_succ])) | (refine wl_strC rfl rfl rfl rfl hS rfl rfl ?_; intro _ hS; (try simp only [evT, evC, List.getD_cons_succ, List.getD_cons_zero, List.set_cons_zero, List.set_cons_succ] at hS); (try simp only [Act.put, List.setIfInBounds_toArray, List.set_cons_zero, List.set_cons_succ])))
        (refine wp_drawnF hS [(0, true), (1, true), (2, true), (3, true), (4, true), (5, true), (6, true), (7, true), (8, true), (9, true), (10, true), (11, false), (12, true), (13, true), (14, true)] (by kernel_rfl) (by kernel_rfl) (by intro d _ _ _ _ h; cases d <;> exact h) ?_; have hS := hS.drew; simp only [picks_cons, picks_nil, opAt, List.toList_toArray]; (refine wpF_U (v := ?_) rfl ?_ (Sh.to hS) ?_; rotate_left; (focus (intro _ _; go_simp; (try (rw [wrap_i64]; (rotate_left; omega))); (try with_reducible rfl))); (try simp only [Act.put, List.setIfInBounds_toArray, List.set_cons_zero, List.set_cons_succ])); (refine wpF_U (v := ?_) rfl ?_ (Sh.to hS) ?_; rotate_left; (focus (intro _ _; go_simp; (try (rw [wrap_i64]; (rotate_left; omega))); (try with_reducible rfl))); (try simp only [Act.put, List.setIfInBounds_toArray, List.set_cons_zero, List.set_cons_succ])); (refine wpF_U (v := ?_) rfl ?_ (Sh.to hS) ?_; rotate_left; (focus (intro _ _; go_simp; (try (rw [wrap_i64]; (rotate_left; omega))); (try with_reducible rfl))); (try simp only [Act.put, List.setIfInBounds_toArray, List.set_cons_zero, List.set_cons_succ])); ((refine wpF_not rfl (Sh.to hS) ?_; (try simp only [Act.put, List.setIfInBounds_toArray, List.set_cons_zero, List.set_cons_succ]))); ((refine wpF_not rfl (Sh.to hS) ?_; (try simp only [Act.put, List.setIfInBounds_toArray, List.set_cons_zero, List.set_cons_succ]))); ((refine wpF_not rfl (Sh.to hS) ?_; (try simp only [Act.put, List.setIfInBounds_toArray, List.set_cons_zero, List.set_cons_succ]))); ((refine wpF_not rfl (Sh.to hS) ?_; (try simp only [Act.put, List.setIfInBounds_toArray, List.set_cons_zero, List.set_cons_succ]))); ((refine wpF_not rfl (Sh.to hS) ?_; (try simp only [Act.put, List.setIfInBounds_toArray, List.set_cons_zero, List.set_cons_succ]))); ((refine wpF_not rfl (Sh.to hS) ?_; (try simp only [Act.put, List.setIfInBounds_toArray, List.set_cons_zero, List.set_cons_succ]))); ((refine wpF_not rfl (Sh.to hS) ?_; (try simp only [Act.put, List.setIfInBounds_toArray, List.set_cons_zero, List.set_cons_succ]))); ((refine wpF_not rfl (Sh.to hS) ?_; (try simp only [Act.put, List.setIfInBounds_toArray, List.set_cons_zero, List.set_cons_succ]))); (refine wpF_ex ?_); go_wp2_with ((go_at_call 56; refine ((hls _ _ hS)).mono ?_; rintro e w' (⟨rfl, hS⟩))); (refine ⟨?_, ?_⟩; (focus ((refine Or.inr ?_; exact Sh.to hS)))); ((refine wpF_not rfl (Sh.to hS) ?_; (try simp only [Act.put, List.setIfInBounds_toArray, List.set_cons_zero, List.set_cons_succ]))); (refine wpF_U (v := ?_) rfl ?_ (Sh.to hS) ?_; rotate_left; (focus (intro _ _; go_simp; (try (rw [wrap_i64]; (rotate_left; omega))); (try with_reducible rfl))); (try simp only [Act.put, List.setIfInBounds_toArray, List.set_cons_zero, List.set_cons_succ])); (refine wpF_U (v := ?_) rfl ?_ (Sh.to hS) ?_; rotate_left; (focus (intro _ _; go_simp; (try (rw [wrap_i64]; (rotate_left; omega))); (try with_reducible rfl))); (try simp only [Act.put, List.setIfInBounds_toArray, List.set_cons_zero, List.set_cons_succ])); ((refine wpF_done (by assumption) ?_)))
        go_wp2_with (first | (go_at_call 40; refine ((hup _ _ hS)).mono ?_; rintro e w' (⟨rfl, hS⟩)) | (refine wl_lookup hm rfl rfl rfl rfl hS Hlk.out ?_; (try simp only [Act.put, List.setIfInBounds_toArray, List.set_cons_zero, List.set_cons_succ])) | (refine wl_isld rfl ?_; ((refine wl_value rfl (ex_ldC hS rfl rfl CellAt.out) ?_); (try simp only [Act.put, List.setIfInBounds_toArray, List.set_cons_zero, List.set_cons_succ]))))
        go_ret2
        rw [← Hck.out]
        exact ⟨rfl, hS.to⟩
      rw [if_neg hd] at hck
      have hd1 : isDirA (t.take i) (upP e.path) = true := by cases h : isDirA (t.take i) (upP e.path); exact absurd h hd; rfl
      have Hlk := Lib.hid (show (mget m (upP e.path)).elim (.int .i64 0) intv = .int .i64 1 by rw [Hdm.out.look, hd1]; rfl)
      clear hd hd1
      by_cases hb : 1048576 < sum + (e.data.size : Int)
      · rw [if_pos hb] at hck
        have d4 : decide (1048576 < sum + (e.data.size : Int)) = true := decide_eq_true hb
        have Hck := Lib.hid hck
        clear hck hb hsz
        go_wp2_with (first | (refine wl_alloc rfl rfl hS ?_; intro eb _ hS; (try simp only [Act.put, List.setIfInBounds_toArray, List.set_cons_zero, List.set_cons_succ])) | (go_at_call 38; refine ((hmy _ _ hS)).mono ?_; rintro e w' (⟨rfl, hS⟩)) | (refine wl_isld rfl ?_; ((first | refine wl_value rfl (ex_ldC hS rfl rfl CellAt.out) ?_ | refine wl_value rfl (ex_lr hS rfl rfl rfl rfl) ?_ | refine wl_value rfl (ex_ldr0 hS rfl rfl rfl) ?_); (try simp only [Act.put, List.setIfInBounds_toArray, List.set_cons_zero, List.set_cons_succ]))) | ((refine wl_value rfl (ex_ix hS rfl rfl rfl ?_) ?_); (focus (rfl)); (try simp only [Act.put, List.setIfInBounds_toArray, List.set_cons_zero, List.set_cons_succ])) | (refine wl_strC rfl rfl rfl rfl hS rfl rfl ?_; intro _ hS; (try simp only [evT, evC, List.getD_cons_succ, List.getD_cons_zero, List.set_cons_zero, List.set_cons_succ] at hS); (try simp only [Act.put, List.setIfInBounds_toArray, List.set_cons_zero, List.set_cons_succ])))
        (refine wp_drawnF hS [(0, true), (1, true), (2, true), (3, true), (4, true), (5, true), (6, true), (7, true), (8, true), (9, true), (10, true), (11, false), (12, true), (13, true), (14, true)] (by kernel_rfl) (by kernel_rfl) (by intro d _ _ _ _ h; cases d <;> exact h) ?_; have hS := hS.drew; simp only [picks_cons, picks_nil, opAt, List.toList_toArray]; (refine wpF_U (v := ?_) rfl ?_ (Sh.to hS) ?_; rotate_left; (focus (intro _ _; go_simp; (try (rw [wrap_i64]; (rotate_left; omega))); (try with_reducible rfl))); (try simp only [Act.put, List.setIfInBounds_toArray, List.set_cons_zero, List.set_cons_succ])); (refine wpF_U (v := ?_) rfl ?_ (Sh.to hS) ?_; rotate_left; (focus (intro _ _; go_simp; (try (rw [wrap_i64]; (rotate_left; omega))); (try with_reducible rfl))); (try simp only [Act.put, List.setIfInBounds_toArray, List.set_cons_zero, List.set_cons_succ])); (refine wpF_U (v := ?_) rfl ?_ (Sh.to hS) ?_; rotate_left; (focus (intro _ _; go_simp; (try (rw [wrap_i64]; (rotate_left; omega))); (try with_reducible rfl))); (try simp only [Act.put, List.setIfInBounds_toArray, List.set_cons_zero, List.set_cons_succ])); ((refine wpF_not rfl (Sh.to hS) ?_; (try simp only [Act.put, List.setIfInBounds_toArray, List.set_cons_zero, List.set_cons_succ]))); ((refine wpF_not rfl (Sh.to hS) ?_; (try simp only [Act.put, List.setIfInBounds_toArray, List.set_cons_zero, List.set_cons_succ]))); ((refine wpF_not rfl (Sh.to hS) ?_; (try simp only [Act.put, List.setIfInBounds_toArray, List.set_cons_zero, List.set_cons_succ]))); ((refine wpF_not rfl (Sh.to hS) ?_; (try simp only [Act.put, List.setIfInBounds_toArray, List.set_cons_zero, List.set_cons_succ]))); ((refine wpF_not rfl (Sh.to hS) ?_; (try simp only [Act.put, List.setIfInBounds_toArray, List.set_cons_zero, List.set_cons_succ]))); ((refine wpF_not rfl (Sh.to hS) ?_; (try simp only [Act.put, List.setIfInBounds_toArray, List.set_cons_zero, List.set_cons_succ]))); ((refine wpF_not rfl (Sh.to hS) ?_; (try simp only [Act.put, List.setIfInBounds_toArray, List.set_cons_zero, List.set_cons_succ]))); ((refine wpF_not rfl (Sh.to hS) ?_; (try simp only [Act.put, List.setIfInBounds_toArray, List.set_cons_zero, List.set_cons_succ]))); (refine wpF_ex ?_); go_wp2_with ((go_at_call 56; refine ((hls _ _ hS)).mono ?_; rintro e w' (⟨rfl, hS⟩))); (refine ⟨?_, ?_⟩; (focus ((refine Or.inr ?_; exact Sh.to hS)))); ((refine wpF_not rfl (Sh.to hS) ?_; (try simp only [Act.put, List.setIfInBounds_toArray, List.set_cons_zero, List.set_cons_succ]))); (refine wpF_U (v := ?_) rfl ?_ (Sh.to hS) ?_; rotate_left; (focus (intro _ _; go_simp; (try (rw [wrap_i64]; (rotate_left; omega))); (try with_reducible rfl))); (try simp only [Act.put, List.setIfInBounds_toArray, List.set_cons_zero, List.set_cons_succ])); (refine wpF_U (v := ?_) rfl ?_ (Sh.to hS) ?_; rotate_left; (focus (intro _ _; go_simp; (try (rw [wrap_i64]; (rotate_left; omega))); (try with_reducible rfl))); (try simp only [Act.put, List.setIfInBounds_toArray, List.set_cons_zero, List.set_cons_succ])); ((refine wpF_done (by assumption) ?_)))
        go_wp2_with (first | (go_at_call 40; refine ((hup _ _ hS)).mono ?_; rintro e w' (⟨rfl, hS⟩)) | (refine wl_lookup hm rfl rfl rfl rfl hS Hlk.out ?_; (try simp only [Act.put, List.setIfInBounds_toArray, List.set_cons_zero, List.set_cons_succ])) | (refine wl_isld rfl ?_; ((refine wl_value rfl (ex_ldC hS rfl rfl CellAt.out) ?_); (try simp only [Act.put, List.setIfInBounds_toArray, List.set_cons_zero, List.set_cons_succ]))))
        go_ret2
        rw [← Hck.out]
        exact ⟨rfl, hS.to⟩
      · rw [if_neg hb] at hck
        have d4 : decide (1048576 < sum + (e.data.size : Int)) = false := decide_eq_false hb
        have Hck := Lib.hid hck
        clear hck hb hsz
        by_cases hk : e.kind = 2
        · have d5 : (e.kind == 2) = true := by simp [hk]
          have Hk := Lib.hid (Hdm.out.dir hk)
          clear hk
          go_wp2_with (first | (refine wl_alloc rfl rfl hS ?_; intro eb _ hS; (try simp only [Act.put, List.setIfInBounds_toArray, List.set_cons_zero, List.set_cons_succ])) | (go_at_call 38; refine ((hmy _ _ hS)).mono ?_; rintro e w' (⟨rfl, hS⟩)) | (refine wl_isld rfl ?_; ((first | refine wl_value rfl (ex_ldC hS rfl rfl CellAt.out) ?_ | refine wl_value rfl (ex_lr hS rfl rfl rfl rfl) ?_ | refine wl_value rfl (ex_ldr0 hS rfl rfl rfl) ?_); (try simp only [Act.put, List.setIfInBounds_toArray, List.set_cons_zero, List.set_cons_succ]))) | ((refine wl_value rfl (ex_ix hS rfl rfl rfl ?_) ?_); (focus (rfl)); (try simp only [Act.put, List.setIfInBounds_toArray, List.set_cons_zero, List.set_cons_succ])) | (refine wl_strC rfl rfl rfl rfl hS rfl rfl ?_; intro _ hS; (try simp only [evT, evC, List.getD_cons_succ, List.getD_cons_zero, List.set_cons_zero, List.set_cons_succ] at hS); (try simp only [Act.put, List.setIfInBounds_toArray, List.set_cons_zero, List.set_cons_succ])))
          (refine wp_drawnF hS [(0, true), (1, true), (2, true), (3, true), (4, true), (5, true), (6, true), (7, true), (8, true), (9, true), (10, true), (11, false), (12, true), (13, true), (14, true)] (by kernel_rfl) (by kernel_rfl) (by intro d _ _ _ _ h; cases d <;> exact h) ?_; have hS := hS.drew; simp only [picks_cons, picks_nil, opAt, List.toList_toArray]; (refine wpF_U (v := ?_) rfl ?_ (Sh.to hS) ?_; rotate_left; (focus (intro _ _; go_simp; (try (rw [wrap_i64]; (rotate_left; omega))); (try with_reducible rfl))); (try simp only [Act.put, List.setIfInBounds_toArray, List.set_cons_zero, List.set_cons_succ])); (refine wpF_U (v := ?_) rfl ?_ (Sh.to hS) ?_; rotate_left; (focus (intro _ _; go_simp; (try (rw [wrap_i64]; (rotate_left; omega))); (try with_reducible rfl))); (try simp only [Act.put, List.setIfInBounds_toArray, List.set_cons_zero, List.set_cons_succ])); (refine wpF_U (v := ?_) rfl ?_ (Sh.to hS) ?_; rotate_left; (focus (intro _ _; go_simp; (try (rw [wrap_i64]; (rotate_left; omega))); (try with_reducible rfl))); (try simp only [Act.put, List.setIfInBounds_toArray, List.set_cons_zero, List.set_cons_succ])); ((refine wpF_not rfl (Sh.to hS) ?_; (try simp only [Act.put, List.setIfInBounds_toArray, List.set_cons_zero, List.set_cons_succ]))); ((refine wpF_not rfl (Sh.to hS) ?_; (try simp only [Act.put, List.setIfInBounds_toArray, List.set_cons_zero, List.set_cons_succ]))); ((refine wpF_not rfl (Sh.to hS) ?_; (try simp only [Act.put, List.setIfInBounds_toArray, List.set_cons_zero, List.set_cons_succ]))); ((refine wpF_not rfl (Sh.to hS) ?_; (try simp only [Act.put, List.setIfInBounds_toArray, List.set_cons_zero, List.set_cons_succ]))); ((refine wpF_not rfl (Sh.to hS) ?_; (try simp only [Act.put, List.setIfInBounds_toArray, List.set_cons_zero, List.set_cons_succ]))); ((refine wpF_not rfl (Sh.to hS) ?_; (try simp only [Act.put, List.setIfInBounds_toArray, List.set_cons_zero, List.set_cons_succ]))); ((refine wpF_not rfl (Sh.to hS) ?_; (try simp only [Act.put, List.setIfInBounds_toArray, List.set_cons_zero, List.set_cons_succ]))); ((refine wpF_not rfl (Sh.to hS) ?_; (try simp only [Act.put, List.setIfInBounds_toArray, List.set_cons_zero, List.set_cons_succ]))); (refine wpF_ex ?_); go_wp2_with ((go_at_call 56; refine ((hls _ _ hS)).mono ?_; rintro e w' (⟨rfl, hS⟩))); (refine ⟨?_, ?_⟩; (focus ((refine Or.inr ?_; exact Sh.to hS)))); ((refine wpF_not rfl (Sh.to hS) ?_; (try simp only [Act.put, List.setIfInBounds_toArray, List.set_cons_zero, List.set_cons_succ]))); (refine wpF_U (v := ?_) rfl ?_ (Sh.to hS) ?_; rotate_left; (focus (intro _ _; go_simp; (try (rw [wrap_i64]; (rotate_left; omega))); (try with_reducible rfl))); (try simp only [Act.put, List.setIfInBounds_toArray, List.set_cons_zero, List.set_cons_succ])); (refine wpF_U (v := ?_) rfl ?_ (Sh.to hS) ?_; rotate_left; (focus (intro _ _; go_simp; (try (rw [wrap_i64]; (rotate_left; omega))); (try with_reducible rfl))); (try simp only [Act.put, List.setIfInBounds_toArray, List.set_cons_zero, List.set_cons_succ])); ((refine wpF_done (by assumption) ?_)))
          go_wp2_with (first | (go_at_call 40; refine ((hup _ _ hS)).mono ?_; rintro e w' (⟨rfl, hS⟩)) | (refine wl_lookup hm rfl rfl rfl rfl hS Hlk.out ?_; (try simp only [Act.put, List.setIfInBounds_toArray, List.set_cons_zero, List.set_cons_succ])) | (refine wl_mapUpdate (v := ((1 : Int))) hm rfl rfl rfl rfl rfl hS ?_; intro _ _ _ hS hm2; (try simp only [evT, evC, List.getD_cons_succ, List.getD_cons_zero, List.set_cons_zero, List.set_cons_succ] at hS); (try simp only [Act.put, List.setIfInBounds_toArray, List.set_cons_zero, List.set_cons_succ])) | (refine wl_isld rfl ?_; ((refine wl_value rfl (ex_ldC hS rfl rfl CellAt.out) ?_); (try simp only [Act.put, List.setIfInBounds_toArray, List.set_cons_zero, List.set_cons_succ]))))
          exact ⟨(⟨i + 1, sum + e.data.size⟩ : CkSt), ⟨_, _, _, hlt, (by show 0 ≤ sum + (e.data.size : Int); omega), (by show sum + (e.data.size : Int) ≤ ((i + 1 : Nat) : Int) * 16777216; omega), Hck.out, hm2, (by show DirMap _ (t.take (i + 1)); rw [Htk.out]; exact Hk.out), hS.to⟩, (by (try dsimp only); omega), rfl, (by (simp only [blankT, junkT, List.cons_append, List.nil_append, List.setIfInBounds_toArray, List.set_cons_zero, List.set_cons_succ])), rfl⟩
        · have d5 : (e.kind == 2) = false := beq_no hk
          have Hk := Lib.hid (Hdm.out.other hk)
          clear hk
          go_wp2_with (first | (refine wl_alloc rfl rfl hS ?_; intro eb _ hS; (try simp only [Act.put, List.setIfInBounds_toArray, List.set_cons_zero, List.set_cons_succ])) | (go_at_call 38; refine ((hmy _ _ hS)).mono ?_; rintro e w' (⟨rfl, hS⟩)) | (refine wl_isld rfl ?_; ((first | refine wl_value rfl (ex_ldC hS rfl rfl CellAt.out) ?_ | refine wl_value rfl (ex_lr hS rfl rfl rfl rfl) ?_ | refine wl_value rfl (ex_ldr0 hS rfl rfl rfl) ?_); (try simp only [Act.put, List.setIfInBounds_toArray, List.set_cons_zero, List.set_cons_succ]))) | ((refine wl_value rfl (ex_ix hS rfl rfl rfl ?_) ?_); (focus (rfl)); (try simp only [Act.put, List.setIfInBounds_toArray, List.set_cons_zero, List.set_cons_succ])) | (refine wl_strC rfl rfl rfl rfl hS rfl rfl ?_; intro _ hS; (try simp only [evT, evC, List.getD_cons_succ, List.getD_cons_zero, List.set_cons_zero, List.set_cons_succ] at hS); (try simp only [Act.put, List.setIfInBounds_toArray, List.set_cons_zero, List.set_cons_succ])))
          (refine wp_drawnF hS [(0, true), (1, true), (2, true), (3, true), (4, true), (5, true), (6, true), (7, true), (8, true), (9, true), (10, true), (11, false), (12, true), (13, true), (14, true)] (by kernel_rfl) (by kernel_rfl) (by intro d _ _ _ _ h; cases d <;> exact h) ?_; have hS := hS.drew; simp only [picks_cons, picks_nil, opAt, List.toList_toArray]; (refine wpF_U (v := ?_) rfl ?_ (Sh.to hS) ?_; rotate_left; (focus (intro _ _; go_simp; (try (rw [wrap_i64]; (rotate_left; omega))); (try with_reducible rfl))); (try simp only [Act.put, List.setIfInBounds_toArray, List.set_cons_zero, List.set_cons_succ])); (refine wpF_U (v := ?_) rfl ?_ (Sh.to hS) ?_; rotate_left; (focus (intro _ _; go_simp; (try (rw [wrap_i64]; (rotate_left; omega))); (try with_reducible rfl))); (try simp only [Act.put, List.setIfInBounds_toArray, List.set_cons_zero, List.set_cons_succ])); (refine wpF_U (v := ?_) rfl ?_ (Sh.to hS) ?_; rotate_left; (focus (intro _ _; go_simp; (try (rw [wrap_i64]; (rotate_left; omega))); (try with_reducible rfl))); (try simp only [Act.put, List.setIfInBounds_toArray, List.set_cons_zero, List.set_cons_succ])); ((refine wpF_not rfl (Sh.to hS) ?_; (try simp only [Act.put, List.setIfInBounds_toArray, List.set_cons_zero, List.set_cons_succ]))); ((refine wpF_not rfl (Sh.to hS) ?_; (try simp only [Act.put, List.setIfInBounds_toArray, List.set_cons_zero, List.set_cons_succ]))); ((refine wpF_not rfl (Sh.to hS) ?_; (try simp only [Act.put, List.setIfInBounds_toArray, List.set_cons_zero, List.set_cons_succ]))); ((refine wpF_not rfl (Sh.to hS) ?_; (try simp only [Act.put, List.setIfInBounds_toArray, List.set_cons_zero, List.set_cons_succ]))); ((refine wpF_not rfl (Sh.to hS) ?_; (try simp only [Act.put, List.setIfInBounds_toArray, List.set_cons_zero, List.set_cons_succ]))); ((refine wpF_not rfl (Sh.to hS) ?_; (try simp only [Act.put, List.setIfInBounds_toArray, List.set_cons_zero, List.set_cons_succ]))); ((refine wpF_not rfl (Sh.to hS) ?_; (try simp only [Act.put, List.setIfInBounds_toArray, List.set_cons_zero, List.set_cons_succ]))); ((refine wpF_not rfl (Sh.to hS) ?_; (try simp only [Act.put, List.setIfInBounds_toArray, List.set_cons_zero, List.set_cons_succ]))); (refine wpF_ex ?_); go_wp2_with ((go_at_call 56; refine ((hls _ _ hS)).mono ?_; rintro e w' (⟨rfl, hS⟩))); (refine ⟨?_, ?_⟩; (focus ((refine Or.inr ?_; exact Sh.to hS)))); ((refine wpF_not rfl (Sh.to hS) ?_; (try simp only [Act.put, List.setIfInBounds_toArray, List.set_cons_zero, List.set_cons_succ]))); (refine wpF_U (v := ?_) rfl ?_ (Sh.to hS) ?_; rotate_left; (focus (intro _ _; go_simp; (try (rw [wrap_i64]; (rotate_left; omega))); (try with_reducible rfl))); (try simp only [Act.put, List.setIfInBounds_toArray, List.set_cons_zero, List.set_cons_succ])); (refine wpF_U (v := ?_) rfl ?_ (Sh.to hS) ?_; rotate_left; (focus (intro _ _; go_simp; (try (rw [wrap_i64]; (rotate_left; omega))); (try with_reducible rfl))); (try simp only [Act.put, List.setIfInBounds_toArray, List.set_cons_zero, List.set_cons_succ])); ((refine wpF_done (by assumption) ?_)))
          go_wp2_with (first | (go_at_call 40; refine ((hup _ _ hS)).mono ?_; rintro e w' (⟨rfl, hS⟩)) | (refine wl_lookup hm rfl rfl rfl rfl hS Hlk.out ?_; (try simp only [Act.put, List.setIfInBounds_toArray, List.set_cons_zero, List.set_cons_succ])) | (refine wl_isld rfl ?_; ((refine wl_value rfl (ex_ldC hS rfl rfl CellAt.out) ?_); (try simp only [Act.put, List.setIfInBounds_toArray, List.set_cons_zero, List.set_cons_succ]))))
          exact ⟨(⟨i + 1, sum + e.data.size⟩ : CkSt), ⟨es, c, m, hlt, (by show 0 ≤ sum + (e.data.size : Int); omega), (by show sum + (e.data.size : Int) ≤ ((i + 1 : Nat) : Int) * 16777216; omega), Hck.out, hm, (by show DirMap _ (t.take (i + 1)); rw [Htk.out]; exact Hk.out), hS.to⟩, (by (try dsimp only); omega), rfl, (by (simp only [blankT, junkT, List.cons_append, List.nil_append, List.setIfInBounds_toArray, List.set_cons_zero, List.set_cons_succ])), rfl⟩
    · have hfz := (Hsm.out f gf.mem).1
      have hls := fun (w : World) (R : HL) (hS : Sh B R w) => Less_any hS f.path e.path hfz hpz
      have d3 : decide (0 ≤ lessI f.path e.path) = false := decide_eq_false (by omega)
      have d2 : decide ((0 : Int) < (i : Int)) = true := decide_eq_true (by omega)
      have e2 : decide (0 < i) = true := decide_eq_true hi0
      haveI hN : IsN ((i : Int) - 1) (i - 1) := ⟨by omega⟩
      clear hle
      by_cases hd : isDirA (t.take i) (upP e.path) = false
      · rw [if_pos hd] at hck
        have Hlk := Lib.hid (show (mget m (upP e.path)).elim (.int .i64 0) intv = .int .i64 0 by rw [Hdm.out.look, hd]; rfl)
        have Hck := Lib.hid hck
        clear hck hd hsz
        go_wp2_with (first | (refine wl_alloc rfl rfl hS ?_; intro eb _ hS; (try simp only [Act.put, List.setIfInBounds_toArray, List.set_cons_zero, List.set_cons_succ])) | (go_at_call 38; refine ((hmy _ _ hS)).mono ?_; rintro e w' (⟨rfl, hS⟩)) | (refine wl_isld rfl ?_; ((first | refine wl_value rfl (ex_ldC hS rfl rfl CellAt.out) ?_ | refine wl_value rfl (ex_lr hS rfl rfl rfl rfl) ?_ | refine wl_value rfl (ex_ldr0 hS rfl rfl rfl) ?_); (try simp only [Act.put, List.setIfInBounds_toArray, List.set_cons_zero, List.set_cons_succ]))) | ((refine wl_value rfl (ex_ix hS rfl rfl rfl ?_) ?_); (focus (rfl)); (try simp only [Act.put, List.setIfInBounds_toArray, List.set_cons_zero, List.set_cons_succ])) | (refine wl_strC rfl rfl rfl rfl hS rfl rfl ?_; intro _ hS; (try simp only [evT, evC, List.getD_cons_succ, List.getD_cons_zero, List.set_cons_zero, List.set_cons_succ] at hS); (try simp only [Act.put, List.setIfInBounds_toArray, List.set_cons_zero, List.set_cons_succ])))
        (refine wp_drawnF hS [(0, true), (1, true), (2, true), (3, true), (4, true), (5, true), (6, true), (7, true), (8, true), (9, true), (10, true), (11, false), (12, true), (13, true), (14, true)] (by kernel_rfl) (by kernel_rfl) (by intro d _ _ _ _ h; cases d <;> exact h) ?_; have hS := hS.drew; simp only [picks_cons, picks_nil, opAt, List.toList_toArray]; (refine wpF_U (v := ?_) rfl ?_ (Sh.to hS) ?_; rotate_left; (focus (intro _ _; go_simp; (try (rw [wrap_i64]; (rotate_left; omega))); (try with_reducible rfl))); (try simp only [Act.put, List.setIfInBounds_toArray, List.set_cons_zero, List.set_cons_succ])); (refine wpF_U (v := ?_) rfl ?_ (Sh.to hS) ?_; rotate_left; (focus (intro _ _; go_simp; (try (rw [wrap_i64]; (rotate_left; omega))); (try with_reducible rfl))); (try simp only [Act.put, List.setIfInBounds_toArray, List.set_cons_zero, List.set_cons_succ])); (refine wpF_U (v := ?_) rfl ?_ (Sh.to hS) ?_; rotate_left; (focus (intro _ _; go_simp; (try (rw [wrap_i64]; (rotate_left; omega))); (try with_reducible rfl))); (try simp only [Act.put, List.setIfInBounds_toArray, List.set_cons_zero, List.set_cons_succ])); ((refine wpF_U (v := ?_) rfl ?_ (Sh.to hS) ?_; rotate_left; (focus (intro _ _; go_simp; (try (rw [wrap_i64]; (rotate_left; omega))); (try with_reducible rfl))); (try simp only [Act.put, List.setIfInBounds_toArray, List.set_cons_zero, List.set_cons_succ]))); ((refine wpF_U (v := ?_) rfl ?_ (Sh.to hS) ?_; rotate_left; (focus (intro _ _; go_simp; (try (rw [wrap_i64]; (rotate_left; omega))); (try with_reducible rfl))); (try simp only [Act.put, List.setIfInBounds_toArray, List.set_cons_zero, List.set_cons_succ]))); ((refine wpF_U (v := ?_) rfl ?_ (Sh.to hS) ?_; rotate_left; (focus (intro _ _; go_simp; (try (rw [wrap_i64]; (rotate_left; omega))); (try with_reducible rfl))); (try simp only [Act.put, List.setIfInBounds_toArray, List.set_cons_zero, List.set_cons_succ]))); (((refine wpF_U rfl (fun _ hT => ex_ix hT rfl rfl rfl ?_) (Sh.to hS) ?_); (focus (rfl)); (try simp only [Act.put, List.setIfInBounds_toArray, List.set_cons_zero, List.set_cons_succ]))); ((refine wpF_U (v := ?_) rfl ?_ (Sh.to hS) ?_; rotate_left; (focus (intro _ _; go_simp; (try (rw [wrap_i64]; (rotate_left; omega))); (try with_reducible rfl))); (try simp only [Act.put, List.setIfInBounds_toArray, List.set_cons_zero, List.set_cons_succ]))); (((refine wpF_U rfl (fun _ hT => ex_l0 hT rfl rfl rfl CellAt.out) (Sh.to hS) ?_); (try simp only [Act.put, List.setIfInBounds_toArray, List.set_cons_zero, List.set_cons_succ]))); ((refine wpF_U (v := ?_) rfl ?_ (Sh.to hS) ?_; rotate_left; (focus (intro _ _; go_simp; (try (rw [wrap_i64]; (rotate_left; omega))); (try with_reducible rfl))); (try simp only [Act.put, List.setIfInBounds_toArray, List.set_cons_zero, List.set_cons_succ]))); (((refine wpF_U rfl (fun _ hT => ex_ldC hT rfl rfl CellAt.out) (Sh.to hS) ?_); (try simp only [Act.put, List.setIfInBounds_toArray, List.set_cons_zero, List.set_cons_succ]))); (refine wpF_ex ?_); go_wp2_with ((go_at_call 56; refine ((hls _ _ hS)).mono ?_; rintro e w' (⟨rfl, hS⟩))); (refine ⟨?_, ?_⟩; (focus ((refine Or.inr ?_; exact Sh.to hS)))); ((refine wpF_U (v := ?_) rfl ?_ (Sh.to hS) ?_; rotate_left; (focus (intro _ _; go_simp; (try (rw [wrap_i64]; (rotate_left; omega))); (try with_reducible rfl))); (try simp only [Act.put, List.setIfInBounds_toArray, List.set_cons_zero, List.set_cons_succ]))); (refine wpF_U (v := ?_) rfl ?_ (Sh.to hS) ?_; rotate_left; (focus (intro _ _; go_simp; (try (rw [wrap_i64]; (rotate_left; omega))); (try with_reducible rfl))); (try simp only [Act.put, List.setIfInBounds_toArray, List.set_cons_zero, List.set_cons_succ])); (refine wpF_U (v := ?_) rfl ?_ (Sh.to hS) ?_; rotate_left; (focus (intro _ _; go_simp; (try (rw [wrap_i64]; (rotate_left; omega))); (try with_reducible rfl))); (try simp only [Act.put, List.setIfInBounds_toArray, List.set_cons_zero, List.set_cons_succ])); ((refine wpF_done (by assumption) ?_)))
        go_wp2_with (first | (go_at_call 40; refine ((hup _ _ hS)).mono ?_; rintro e w' (⟨rfl, hS⟩)) | (refine wl_lookup hm rfl rfl rfl rfl hS Hlk.out ?_; (try simp only [Act.put, List.setIfInBounds_toArray, List.set_cons_zero, List.set_cons_succ])) | (refine wl_isld rfl ?_; ((refine wl_value rfl (ex_ldC hS rfl rfl CellAt.out) ?_); (try simp only [Act.put, List.setIfInBounds_toArray, List.set_cons_zero, List.set_cons_succ]))))
        go_ret2
        rw [← Hck.out]
        exact ⟨rfl, hS.to⟩
      rw [if_neg hd] at hck
      have hd1 : isDirA (t.take i) (upP e.path) = true := by cases h : isDirA (t.take i) (upP e.path); exact absurd h hd; rfl
      have Hlk := Lib.hid (show (mget m (upP e.path)).elim (.int .i64 0) intv = .int .i64 1 by rw [Hdm.out.look, hd1]; rfl)
      clear hd hd1
      by_cases hb : 1048576 < sum + (e.data.size : Int)
      · rw [if_pos hb] at hck
        have d4 : decide (1048576 < sum + (e.data.size : Int)) = true := decide_eq_true hb
        have Hck := Lib.hid hck
        clear hck hb hsz
        go_wp2_with (first | (refine wl_alloc rfl rfl hS ?_; intro eb _ hS; (try simp only [Act.put, List.setIfInBounds_toArray, List.set_cons_zero, List.set_cons_succ])) | (go_at_call 38; refine ((hmy _ _ hS)).mono ?_; rintro e w' (⟨rfl, hS⟩)) | (refine wl_isld rfl ?_; ((first | refine wl_value rfl (ex_ldC hS rfl rfl CellAt.out) ?_ | refine wl_value rfl (ex_lr hS rfl rfl rfl rfl) ?_ | refine wl_value rfl (ex_ldr0 hS rfl rfl rfl) ?_); (try simp only [Act.put, List.setIfInBounds_toArray, List.set_cons_zero, List.set_cons_succ]))) | ((refine wl_value rfl (ex_ix hS rfl rfl rfl ?_) ?_); (focus (rfl)); (try simp only [Act.put, List.setIfInBounds_toArray, List.set_cons_zero, List.set_cons_succ])) | (refine wl_strC rfl rfl rfl rfl hS rfl rfl ?_; intro _ hS; (try simp only [evT, evC, List.getD_cons_succ, List.getD_cons_zero, List.set_cons_zero, List.set_cons_succ] at hS); (try simp only [Act.put, List.setIfInBounds_toArray, List.set_cons_zero, List.set_cons_succ])))
        (refine wp_drawnF hS [(0, true), (1, true), (2, true), (3, true), (4, true), (5, true), (6, true), (7, true), (8, true), (9, true), (10, true), (11, false), (12, true), (13, true), (14, true)] (by kernel_rfl) (by kernel_rfl) (by intro d _ _ _ _ h; cases d <;> exact h) ?_; have hS := hS.drew; simp only [picks_cons, picks_nil, opAt, List.toList_toArray]; (refine wpF_U (v := ?_) rfl ?_ (Sh.to hS) ?_; rotate_left; (focus (intro _ _; go_simp; (try (rw [wrap_i64]; (rotate_left; omega))); (try with_reducible rfl))); (try simp only [Act.put, List.setIfInBounds_toArray, List.set_cons_zero, List.set_cons_succ])); (refine wpF_U (v := ?_) rfl ?_ (Sh.to hS) ?_; rotate_left; (focus (intro _ _; go_simp; (try (rw [wrap_i64]; (rotate_left; omega))); (try with_reducible rfl))); (try simp only [Act.put, List.setIfInBounds_toArray, List.set_cons_zero, List.set_cons_succ])); (refine wpF_U (v := ?_) rfl ?_ (Sh.to hS) ?_; rotate_left; (focus (intro _ _; go_simp; (try (rw [wrap_i64]; (rotate_left; omega))); (try with_reducible rfl))); (try simp only [Act.put, List.setIfInBounds_toArray, List.set_cons_zero, List.set_cons_succ])); ((refine wpF_U (v := ?_) rfl ?_ (Sh.to hS) ?_; rotate_left; (focus (intro _ _; go_simp; (try (rw [wrap_i64]; (rotate_left; omega))); (try with_reducible rfl))); (try simp only [Act.put, List.setIfInBounds_toArray, List.set_cons_zero, List.set_cons_succ]))); ((refine wpF_U (v := ?_) rfl ?_ (Sh.to hS) ?_; rotate_left; (focus (intro _ _; go_simp; (try (rw [wrap_i64]; (rotate_left; omega))); (try with_reducible rfl))); (try simp only [Act.put, List.setIfInBounds_toArray, List.set_cons_zero, List.set_cons_succ]))); ((refine wpF_U (v := ?_) rfl ?_ (Sh.to hS) ?_; rotate_left; (focus (intro _ _; go_simp; (try (rw [wrap_i64]; (rotate_left; omega))); (try with_reducible rfl))); (try simp only [Act.put, List.setIfInBounds_toArray, List.set_cons_zero, List.set_cons_succ]))); (((refine wpF_U rfl (fun _ hT => ex_ix hT rfl rfl rfl ?_) (Sh.to hS) ?_); (focus (rfl)); (try simp only [Act.put, List.setIfInBounds_toArray, List.set_cons_zero, List.set_cons_succ]))); ((refine wpF_U (v := ?_) rfl ?_ (Sh.to hS) ?_; rotate_left; (focus (intro _ _; go_simp; (try (rw [wrap_i64]; (rotate_left; omega))); (try with_reducible rfl))); (try simp only [Act.put, List.setIfInBounds_toArray, List.set_cons_zero, List.set_cons_succ]))); (((refine wpF_U rfl (fun _ hT => ex_l0 hT rfl rfl rfl CellAt.out) (Sh.to hS) ?_); (try simp only [Act.put, List.setIfInBounds_toArray, List.set_cons_zero, List.set_cons_succ]))); ((refine wpF_U (v := ?_) rfl ?_ (Sh.to hS) ?_; rotate_left; (focus (intro _ _; go_simp; (try (rw [wrap_i64]; (rotate_left; omega))); (try with_reducible rfl))); (try simp only [Act.put, List.setIfInBounds_toArray, List.set_cons_zero, List.set_cons_succ]))); (((refine wpF_U rfl (fun _ hT => ex_ldC hT rfl rfl CellAt.out) (Sh.to hS) ?_); (try simp only [Act.put, List.setIfInBounds_toArray, List.set_cons_zero, List.set_cons_succ]))); (refine wpF_ex ?_); go_wp2_with ((go_at_call 56; refine ((hls _ _ hS)).mono ?_; rintro e w' (⟨rfl, hS⟩))); (refine ⟨?_, ?_⟩; (focus ((refine Or.inr ?_; exact Sh.to hS)))); ((refine wpF_U (v := ?_) rfl ?_ (Sh.to hS) ?_; rotate_left; (focus (intro _ _; go_simp; (try (rw [wrap_i64]; (rotate_left; omega))); (try with_reducible rfl))); (try simp only [Act.put, List.setIfInBounds_toArray, List.set_cons_zero, List.set_cons_succ]))); (refine wpF_U (v := ?_) rfl ?_ (Sh.to hS) ?_; rotate_left; (focus (intro _ _; go_simp; (try (rw [wrap_i64]; (rotate_left; omega))); (try with_reducible rfl))); (try simp only [Act.put, List.setIfInBounds_toArray, List.set_cons_zero, List.set_cons_succ])); (refine wpF_U (v := ?_) rfl ?_ (Sh.to hS) ?_; rotate_left; (focus (intro _ _; go_simp; (try (rw [wrap_i64]; (rotate_left; omega))); (try with_reducible rfl))); (try simp only [Act.put, List.setIfInBounds_toArray, List.set_cons_zero, List.set_cons_succ])); ((refine wpF_done (by assumption) ?_)))
        go_wp2_with (first | (go_at_call 40; refine ((hup _ _ hS)).mono ?_; rintro e w' (⟨rfl, hS⟩)) | (refine wl_lookup hm rfl rfl rfl rfl hS Hlk.out ?_; (try simp only [Act.put, List.setIfInBounds_toArray, List.set_cons_zero, List.set_cons_succ])) | (refine wl_isld rfl ?_; ((refine wl_value rfl (ex_ldC hS rfl rfl CellAt.out) ?_); (try simp only [Act.put, List.setIfInBounds_toArray, List.set_cons_zero, List.set_cons_succ]))))
        go_ret2
        rw [← Hck.out]
        exact ⟨rfl, hS.to⟩
      · rw [if_neg hb] at hck
        have d4 : decide (1048576 < sum + (e.data.size : Int)) = false := decide_eq_false hb
        have Hck := Lib.hid hck
        clear hck hb hsz
        by_cases hk : e.kind = 2
        · have d5 : (e.kind == 2) = true := by simp [hk]
          have Hk := Lib.hid (Hdm.out.dir hk)
          clear hk
          go_wp2_with (first | (refine wl_alloc rfl rfl hS ?_; intro eb _ hS; (try simp only [Act.put, List.setIfInBounds_toArray, List.set_cons_zero, List.set_cons_succ])) | (go_at_call 38; refine ((hmy _ _ hS)).mono ?_; rintro e w' (⟨rfl, hS⟩)) | (refine wl_isld rfl ?_; ((first | refine wl_value rfl (ex_ldC hS rfl rfl CellAt.out) ?_ | refine wl_value rfl (ex_lr hS rfl rfl rfl rfl) ?_ | refine wl_value rfl (ex_ldr0 hS rfl rfl rfl) ?_); (try simp only [Act.put, List.setIfInBounds_toArray, List.set_cons_zero, List.set_cons_succ]))) | ((refine wl_value rfl (ex_ix hS rfl rfl rfl ?_) ?_); (focus (rfl)); (try simp only [Act.put, List.setIfInBounds_toArray, List.set_cons_zero, List.set_cons_succ])) | (refine wl_strC rfl rfl rfl rfl hS rfl rfl ?_; intro _ hS; (try simp only [evT, evC, List.getD_cons_succ, List.getD_cons_zero, List.set_cons_zero, List.set_cons_succ] at hS); (try simp only [Act.put, List.setIfInBounds_toArray, List.set_cons_zero, List.set_cons_succ])))
          (refine wp_drawnF hS [(0, true), (1, true), (2, true), (3, true), (4, true), (5, true), (6, true), (7, true), (8, true), (9, true), (10, true), (11, false), (12, true), (13, true), (14, true)] (by kernel_rfl) (by kernel_rfl) (by intro d _ _ _ _ h; cases d <;> exact h) ?_; have hS := hS.drew; simp only [picks_cons, picks_nil, opAt, List.toList_toArray]; (refine wpF_U (v := ?_) rfl ?_ (Sh.to hS) ?_; rotate_left; (focus (intro _ _; go_simp; (try (rw [wrap_i64]; (rotate_left; omega))); (try with_reducible rfl))); (try simp only [Act.put, List.setIfInBounds_toArray, List.set_cons_zero, List.set_cons_succ])); (refine wpF_U (v := ?_) rfl ?_ (Sh.to hS) ?_; rotate_left; (focus (intro _ _; go_simp; (try (rw [wrap_i64]; (rotate_left; omega))); (try with_reducible rfl))); (try simp only [Act.put, List.setIfInBounds_toArray, List.set_cons_zero, List.set_cons_succ])); (refine wpF_U (v := ?_) rfl ?_ (Sh.to hS) ?_; rotate_left; (focus (intro _ _; go_simp; (try (rw [wrap_i64]; (rotate_left; omega))); (try with_reducible rfl))); (try simp only [Act.put, List.setIfInBounds_toArray, List.set_cons_zero, List.set_cons_succ])); ((refine wpF_U (v := ?_) rfl ?_ (Sh.to hS) ?_; rotate_left; (focus (intro _ _; go_simp; (try (rw [wrap_i64]; (rotate_left; omega))); (try with_reducible rfl))); (try simp only [Act.put, List.setIfInBounds_toArray, List.set_cons_zero, List.set_cons_succ]))); ((refine wpF_U (v := ?_) rfl ?_ (Sh.to hS) ?_; rotate_left; (focus (intro _ _; go_simp; (try (rw [wrap_i64]; (rotate_left; omega))); (try with_reducible rfl))); (try simp only [Act.put, List.setIfInBounds_toArray, List.set_cons_zero, List.set_cons_succ]))); ((refine wpF_U (v := ?_) rfl ?_ (Sh.to hS) ?_; rotate_left; (focus (intro _ _; go_simp; (try (rw [wrap_i64]; (rotate_left; omega))); (try with_reducible rfl))); (try simp only [Act.put, List.setIfInBounds_toArray, List.set_cons_zero, List.set_cons_succ]))); (((refine wpF_U rfl (fun _ hT => ex_ix hT rfl rfl rfl ?_) (Sh.to hS) ?_); (focus (rfl)); (try simp only [Act.put, List.setIfInBounds_toArray, List.set_cons_zero, List.set_cons_succ]))); ((refine wpF_U (v := ?_) rfl ?_ (Sh.to hS) ?_; rotate_left; (focus (intro _ _; go_simp; (try (rw [wrap_i64]; (rotate_left; omega))); (try with_reducible rfl))); (try simp only [Act.put, List.setIfInBounds_toArray, List.set_cons_zero, List.set_cons_succ]))); (((refine wpF_U rfl (fun _ hT => ex_l0 hT rfl rfl rfl CellAt.out) (Sh.to hS) ?_); (try simp only [Act.put, List.setIfInBounds_toArray, List.set_cons_zero, List.set_cons_succ]))); ((refine wpF_U (v := ?_) rfl ?_ (Sh.to hS) ?_; rotate_left; (focus (intro _ _; go_simp; (try (rw [wrap_i64]; (rotate_left; omega))); (try with_reducible rfl))); (try simp only [Act.put, List.setIfInBounds_toArray, List.set_cons_zero, List.set_cons_succ]))); (((refine wpF_U rfl (fun _ hT => ex_ldC hT rfl rfl CellAt.out) (Sh.to hS) ?_); (try simp only [Act.put, List.setIfInBounds_toArray, List.set_cons_zero, List.set_cons_succ]))); (refine wpF_ex ?_); go_wp2_with ((go_at_call 56; refine ((hls _ _ hS)).mono ?_; rintro e w' (⟨rfl, hS⟩))); (refine ⟨?_, ?_⟩; (focus ((refine Or.inr ?_; exact Sh.to hS)))); ((refine wpF_U (v := ?_) rfl ?_ (Sh.to hS) ?_; rotate_left; (focus (intro _ _; go_simp; (try (rw [wrap_i64]; (rotate_left; omega))); (try with_reducible rfl))); (try simp only [Act.put, List.setIfInBounds_toArray, List.set_cons_zero, List.set_cons_succ]))); (refine wpF_U (v := ?_) rfl ?_ (Sh.to hS) ?_; rotate_left; (focus (intro _ _; go_simp; (try (rw [wrap_i64]; (rotate_left; omega))); (try with_reducible rfl))); (try simp only [Act.put, List.setIfInBounds_toArray, List.set_cons_zero, List.set_cons_succ])); (refine wpF_U (v := ?_) rfl ?_ (Sh.to hS) ?_; rotate_left; (focus (intro _ _; go_simp; (try (rw [wrap_i64]; (rotate_left; omega))); (try with_reducible rfl))); (try simp only [Act.put, List.setIfInBounds_toArray, List.set_cons_zero, List.set_cons_succ])); ((refine wpF_done (by assumption) ?_)))
          go_wp2_with (first | (go_at_call 40; refine ((hup _ _ hS)).mono ?_; rintro e w' (⟨rfl, hS⟩)) | (refine wl_lookup hm rfl rfl rfl rfl hS Hlk.out ?_; (try simp only [Act.put, List.setIfInBounds_toArray, List.set_cons_zero, List.set_cons_succ])) | (refine wl_mapUpdate (v := ((1 : Int))) hm rfl rfl rfl rfl rfl hS ?_; intro _ _ _ hS hm2; (try simp only [evT, evC, List.getD_cons_succ, List.getD_cons_zero, List.set_cons_zero, List.set_cons_succ] at hS); (try simp only [Act.put, List.setIfInBounds_toArray, List.set_cons_zero, List.set_cons_succ])) | (refine wl_isld rfl ?_; ((refine wl_value rfl (ex_ldC hS rfl rfl CellAt.out) ?_); (try simp only [Act.put, List.setIfInBounds_toArray, List.set_cons_zero, List.set_cons_succ]))))
          exact ⟨(⟨i + 1, sum + e.data.size⟩ : CkSt), ⟨_, _, _, hlt, (by show 0 ≤ sum + (e.data.size : Int); omega), (by show sum + (e.data.size : Int) ≤ ((i + 1 : Nat) : Int) * 16777216; omega), Hck.out, hm2, (by show DirMap _ (t.take (i + 1)); rw [Htk.out]; exact Hk.out), hS.to⟩, (by (try dsimp only); omega), rfl, (by (simp only [blankT, junkT, List.cons_append, List.nil_append, List.setIfInBounds_toArray, List.set_cons_zero, List.set_cons_succ])), rfl⟩
        · have d5 : (e.kind == 2) = false := beq_no hk
          have Hk := Lib.hid (Hdm.out.other hk)
          clear hk
          go_wp2_with (first | (refine wl_alloc rfl rfl hS ?_; intro eb _ hS; (try simp only [Act.put, List.setIfInBounds_toArray, List.set_cons_zero, List.set_cons_succ])) | (go_at_call 38; refine ((hmy _ _ hS)).mono ?_; rintro e w' (⟨rfl, hS⟩)) | (refine wl_isld rfl ?_; ((first | refine wl_value rfl (ex_ldC hS rfl rfl CellAt.out) ?_ | refine wl_value rfl (ex_lr hS rfl rfl rfl rfl) ?_ | refine wl_value rfl (ex_ldr0 hS rfl rfl rfl) ?_); (try simp only [Act.put, List.setIfInBounds_toArray, List.set_cons_zero, List.set_cons_succ]))) | ((refine wl_value rfl (ex_ix hS rfl rfl rfl ?_) ?_); (focus (rfl)); (try simp only [Act.put, List.setIfInBounds_toArray, List.set_cons_zero, List.set_cons_succ])) | (refine wl_strC rfl rfl rfl rfl hS rfl rfl ?_; intro _ hS; (try simp only [evT, evC, List.getD_cons_succ, List.getD_cons_zero, List.set_cons_zero, List.set_cons_succ] at hS); (try simp only [Act.put, List.setIfInBounds_toArray, List.set_cons_zero, List.set_cons_succ])))
          (refine wp_drawnF hS [(0, true), (1, true), (2, true), (3, true), (4, true), (5, true), (6, true), (7, true), (8, true), (9, true), (10, true), (11, false), (12, true), (13, true), (14, true)] (by kernel_rfl) (by kernel_rfl) (by intro d _ _ _ _ h; cases d <;> exact h) ?_; have hS := hS.drew; simp only [picks_cons, picks_nil, opAt, List.toList_toArray]; (refine wpF_U (v := ?_) rfl ?_ (Sh.to hS) ?_; rotate_left; (focus (intro _ _; go_simp; (try (rw [wrap_i64]; (rotate_left; omega))); (try with_reducible rfl))); (try simp only [Act.put, List.setIfInBounds_toArray, List.set_cons_zero, List.set_cons_succ])); (refine wpF_U (v := ?_) rfl ?_ (Sh.to hS) ?_; rotate_left; (focus (intro _ _; go_simp; (try (rw [wrap_i64]; (rotate_left; omega))); (try with_reducible rfl))); (try simp only [Act.put, List.setIfInBounds_toArray, List.set_cons_zero, List.set_cons_succ])); (refine wpF_U (v := ?_) rfl ?_ (Sh.to hS) ?_; rotate_left; (focus (intro _ _; go_simp; (try (rw [wrap_i64]; (rotate_left; omega))); (try with_reducible rfl))); (try simp only [Act.put, List.setIfInBounds_toArray, List.set_cons_zero, List.set_cons_succ])); ((refine wpF_U (v := ?_) rfl ?_ (Sh.to hS) ?_; rotate_left; (focus (intro _ _; go_simp; (try (rw [wrap_i64]; (rotate_left; omega))); (try with_reducible rfl))); (try simp only [Act.put, List.setIfInBounds_toArray, List.set_cons_zero, List.set_cons_succ]))); ((refine wpF_U (v := ?_) rfl ?_ (Sh.to hS) ?_; rotate_left; (focus (intro _ _; go_simp; (try (rw [wrap_i64]; (rotate_left; omega))); (try with_reducible rfl))); (try simp only [Act.put, List.setIfInBounds_toArray, List.set_cons_zero, List.set_cons_succ]))); ((refine wpF_U (v := ?_) rfl ?_ (Sh.to hS) ?_; rotate_left; (focus (intro _ _; go_simp; (try (rw [wrap_i64]; (rotate_left; omega))); (try with_reducible rfl))); (try simp only [Act.put, List.setIfInBounds_toArray, List.set_cons_zero, List.set_cons_succ]))); (((refine wpF_U rfl (fun _ hT => ex_ix hT rfl rfl rfl ?_) (Sh.to hS) ?_); (focus (rfl)); (try simp only [Act.put, List.setIfInBounds_toArray, List.set_cons_zero, List.set_cons_succ]))); ((refine wpF_U (v := ?_) rfl ?_ (Sh.to hS) ?_; rotate_left; (focus (intro _ _; go_simp; (try (rw [wrap_i64]; (rotate_left; omega))); (try with_reducible rfl))); (try simp only [Act.put, List.setIfInBounds_toArray, List.set_cons_zero, List.set_cons_succ]))); (((refine wpF_U rfl (fun _ hT => ex_l0 hT rfl rfl rfl CellAt.out) (Sh.to hS) ?_); (try simp only [Act.put, List.setIfInBounds_toArray, List.set_cons_zero, List.set_cons_succ]))); ((refine wpF_U (v := ?_) rfl ?_ (Sh.to hS) ?_; rotate_left; (focus (intro _ _; go_simp; (try (rw [wrap_i64]; (rotate_left; omega))); (try with_reducible rfl))); (try simp only [Act.put, List.setIfInBounds_toArray, List.set_cons_zero, List.set_cons_succ]))); (((refine wpF_U rfl (fun _ hT => ex_ldC hT rfl rfl CellAt.out) (Sh.to hS) ?_); (try simp only [Act.put, List.setIfInBounds_toArray, List.set_cons_zero, List.set_cons_succ]))); (refine wpF_ex ?_); go_wp2_with ((go_at_call 56; refine ((hls _ _ hS)).mono ?_; rintro e w' (⟨rfl, hS⟩))); (refine ⟨?_, ?_⟩; (focus ((refine Or.inr ?_; exact Sh.to hS)))); ((refine wpF_U (v := ?_) rfl ?_ (Sh.to hS) ?_; rotate_left; (focus (intro _ _; go_simp; (try (rw [wrap_i64]; (rotate_left; omega))); (try with_reducible rfl))); (try simp only [Act.put, List.setIfInBounds_toArray, List.set_cons_zero, List.set_cons_succ]))); (refine wpF_U (v := ?_) rfl ?_ (Sh.to hS) ?_; rotate_left; (focus (intro _ _; go_simp; (try (rw [wrap_i64]; (rotate_left; omega))); (try with_reducible rfl))); (try simp only [Act.put, List.setIfInBounds_toArray, List.set_cons_zero, List.set_cons_succ])); (refine wpF_U (v := ?_) rfl ?_ (Sh.to hS) ?_; rotate_left; (focus (intro _ _; go_simp; (try (rw [wrap_i64]; (rotate_left; omega))); (try with_reducible rfl))); (try simp only [Act.put, List.setIfInBounds_toArray, List.set_cons_zero, List.set_cons_succ])); ((refine wpF_done (by assumption) ?_)))
          go_wp2_with (first | (go_at_call 40; refine ((hup _ _ hS)).mono ?_; rintro e w' (⟨rfl, hS⟩)) | (refine wl_lookup hm rfl rfl rfl rfl hS Hlk.out ?_; (try simp only [Act.put, List.setIfInBounds_toArray, List.set_cons_zero, List.set_cons_succ])) | (refine wl_isld rfl ?_; ((refine wl_value rfl (ex_ldC hS rfl rfl CellAt.out) ?_); (try simp only [Act.put, List.setIfInBounds_toArray, List.set_cons_zero, List.set_cons_succ]))))
          exact ⟨(⟨i + 1, sum + e.data.size⟩ : CkSt), ⟨es, c, m, hlt, (by show 0 ≤ sum + (e.data.size : Int); omega), (by show sum + (e.data.size : Int) ≤ ((i + 1 : Nat) : Int) * 16777216; omega), Hck.out, hm, (by show DirMap _ (t.take (i + 1)); rw [Htk.out]; exact Hk.out), hS.to⟩, (by (try dsimp only); omega), rfl, (by (simp only [blankT, junkT, List.cons_append, List.nil_append, List.setIfInBounds_toArray, List.set_cons_zero, List.set_cons_succ])), rfl⟩
  · rw [List.drop_eq_nil_of_le (by omega)] at hck
    have Hck := Lib.hid (show X = (0, 0) from hck.symm)
    clear hck
    go_wp2_with (fail)
    go_ret2
    rw [Hck.out]
    exact ⟨rfl, hS.to⟩
end
end Go.Tk

set_option linter.unusedSectionVars false
set_option linter.unusedSimpArgs false
set_option linter.unusedVariables false
namespace Go.Tk
open Go.RowKit Go.Proofs

theorem ltS_lt (a b : ByteArray) : ltS a b = decide (a.data.toList < b.data.toList) := by unfold ltS; rw [bytesLess_eq, ByteArray.toList_eq a, ByteArray.toList_eq b]
theorem ltS_trans {a b c : ByteArray} (h1 : ltS a b = true) (h2 : ltS b c = true) : ltS a c = true := by
  rw [ltS_lt, decide_eq_true_eq] at *
  exact List.lt_trans h1 h2
theorem ltS_asymm {a b : ByteArray} (h1 : ltS a b = true) : ltS b a = false := by
  rw [ltS_lt, decide_eq_true_eq] at h1
  rw [ltS_lt, decide_eq_false_iff_not]
  exact List.lt_asymm h1
theorem ltS_total {a b : ByteArray} (h : ¬ a = b) : ltS a b = true ∨ ltS b a = true := by
  rw [ltS_lt, ltS_lt, decide_eq_true_eq, decide_eq_true_eq]
  have hne : a.data.toList ≠ b.data.toList := fun e => h (ba_ext e)
  rcases Classical.em (a.data.toList < b.data.toList) with h1 | h1
  · exact .inl h1
  · right
    rw [List.not_lt] at h1
    rcases List.le_iff_lt_or_eq.1 h1 with h2 | h2
    · exact h2
    · exact absurd h2.symm hne
theorem cmpS_lt {a b : ByteArray} (h : ltS a b = true) : cmpS a b = -1 := by unfold cmpS; rw [if_pos h]
theorem cmpS_gt {a b : ByteArray} (h : ltS b a = true) : cmpS a b = 1 := by
  have hne : ¬ a = b := by rintro rfl; have := ltS_asymm h; rw [h] at this; cases this
  rw [cmpS_ne hne, ltS_asymm h]; rfl
theorem cmpS_cases (a b : ByteArray) : (a = b ∧ cmpS a b = 0 ∧ cmpS b a = 0) ∨ (¬ a = b ∧ ltS a b = true ∧ cmpS a b = -1 ∧ cmpS b a = 1) ∨ (¬ a = b ∧ ltS b a = true ∧ cmpS a b = 1 ∧ cmpS b a = -1) := by
  by_cases h : a = b
  · exact .inl ⟨h, cmpS_0.2 h, cmpS_0.2 h.symm⟩
  · rcases ltS_total h with h1 | h1
    · exact .inr (.inl ⟨h, h1, cmpS_lt h1, cmpS_gt h1⟩)
    · exact .inr (.inr ⟨h, h1, cmpS_gt h1, cmpS_lt h1⟩)
theorem cmpL_cons (a b : ByteArray) (l m : List ByteArray) : cmpL (a :: l) (b :: m) = if cmpS a b = 0 then cmpL l m else cmpS a b := rfl
theorem cmpL_swap : ∀ (x y : List ByteArray), cmpL y x = - cmpL x y
  | [], [] => rfl
  | [], b :: m => rfl
  | a :: l, [] => rfl
  | a :: l, b :: m => by
    rw [cmpL_cons, cmpL_cons]
    rcases cmpS_cases a b with ⟨_, h1, h2⟩ | ⟨_, _, h1, h2⟩ | ⟨_, _, h1, h2⟩
    · rw [h1, h2, if_pos rfl, if_pos rfl]; exact cmpL_swap l m
    · rw [h1, h2]; simp
    · rw [h1, h2]; simp
theorem cmpL_self : ∀ (x : List ByteArray), cmpL x x = 0
  | [] => rfl
  | a :: l => by rw [cmpL_cons, if_pos (cmpS_0.2 rfl)]; exact cmpL_self l
theorem cmpL_eq : ∀ {x y : List ByteArray}, cmpL x y = 0 → x = y
  | [], [], _ => rfl
  | [], b :: m, h => by cases h
  | a :: l, [], h => by cases h
  | a :: l, b :: m, h => by
    rw [cmpL_cons] at h
    split at h
    · rename_i h0
      rw [cmpS_0.1 h0, cmpL_eq h]
    · exact absurd h (by assumption)
theorem cmpL_trans : ∀ {x y z : List ByteArray}, cmpL x y ≤ 0 → cmpL y z ≤ 0 → cmpL x z ≤ 0 ∧ ((cmpL x y < 0 ∨ cmpL y z < 0) → cmpL x z < 0)
  | [], [], [], _, _ => by simp [cmpL]
  | [], [], c :: n, _, _ => by simp [cmpL]
  | [], b :: m, [], _, h => by simp [cmpL] at h
  | [], b :: m, c :: n, _, _ => by simp [cmpL]
  | a :: l, [], _, h, _ => by simp [cmpL] at h
  | a :: l, b :: m, [], _, h => by simp [cmpL] at h
  | a :: l, b :: m, c :: n, h1, h2 => by
    rw [cmpL_cons] at h1 h2
    rw [cmpL_cons, cmpL_cons, cmpL_cons]
    rcases cmpS_cases a b with ⟨rfl, e1, _⟩ | ⟨_, k1, e1, _⟩ | ⟨_, _, e1, _⟩
    · rw [if_pos e1] at h1 ⊢
      rcases cmpS_cases a c with ⟨rfl, e2, _⟩ | ⟨_, k2, e2, _⟩ | ⟨_, _, e2, _⟩
      · simp only [e1, if_true] at h1 h2 ⊢
        exact cmpL_trans h1 h2
      · rw [e2]; simp
      · rw [e2] at h2; simp at h2
    · rcases cmpS_cases b c with ⟨rfl, e2, _⟩ | ⟨_, k2, e2, _⟩ | ⟨_, _, e2, _⟩
      · rw [e1]; simp
      · rw [cmpS_lt (ltS_trans k1 k2), e1]; simp
      · rw [e2] at h2; simp at h2
    · rw [e1] at h1; simp at h1
/-- Where paths are right, their order is total. -/
theorem okP_some {p : ByteArray} (h : okP p = true) : ∃ x, namesB p = some x := Option.isSome_iff_exists.1 h
theorem lessI_of {p q : ByteArray} {x y : List ByteArray} (hp : namesB p = some x) (hq : namesB q = some y) : lessI p q = cmpL x y := by unfold lessI; rw [hp, hq]
theorem lessI_trans {p q r : ByteArray} (hp : okP p = true) (hq : okP q = true) (hr : okP r = true) (h1 : lessI p q < 0) (h2 : lessI q r < 0) : lessI p r < 0 := by
  obtain ⟨x, hx⟩ := okP_some hp
  obtain ⟨y, hy⟩ := okP_some hq
  obtain ⟨z, hz⟩ := okP_some hr
  rw [lessI_of hx hy] at h1
  rw [lessI_of hy hz] at h2
  rw [lessI_of hx hz]
  exact (cmpL_trans (by omega) (by omega)).2 (.inl h1)
theorem lessI_swap {p q : ByteArray} (hp : okP p = true) (hq : okP q = true) : lessI q p = - lessI p q := by
  obtain ⟨x, hx⟩ := okP_some hp
  obtain ⟨y, hy⟩ := okP_some hq
  rw [lessI_of hx hy, lessI_of hy hx, cmpL_swap]
theorem lessI_self (p : ByteArray) : lessI p p = 0 := by
  unfold lessI
  cases namesB p with
  | none => rfl
  | some x => exact cmpL_self x
theorem lessI_eq {p q : ByteArray} (hp : okP p = true) (hq : okP q = true) (h : lessI p q = 0) : p = q := by
  obtain ⟨x, hx⟩ := okP_some hp
  obtain ⟨y, hy⟩ := okP_some hq
  rw [lessI_of hx hy] at h
  have := cmpL_eq h
  rw [← (namesL_join hx).1, ← (namesL_join hy).1, this]
theorem mayB_ok {e : En} (h : mayB e = true) : okP e.path = true ∧ e.path.size ≠ 0 := by
  unfold mayB at h
  simp only [Bool.and_eq_true, Bool.not_eq_true', decide_eq_false_iff_not] at h
  exact ⟨h.1.1, h.1.2⟩
def SortedE (t : List En) : Prop := t.Pairwise fun a b => lessI a.path b.path < 0
theorem sorted_snoc {pre : List En} {e : En} (hall : ∀ x ∈ pre, mayB x = true) (he : mayB e = true) (hs : SortedE pre) (hl : ∀ f, pre.getLast? = some f → lessI f.path e.path < 0) : SortedE (pre ++ [e]) := by
  unfold SortedE at *
  rw [List.pairwise_append]
  refine ⟨hs, by simp, ?_⟩
  intro a ha b hb
  rw [List.mem_singleton] at hb
  subst hb
  cases h : pre.getLast? with
  | none => rw [List.getLast?_eq_none_iff] at h; subst h; cases ha
  | some f =>
    have hlf := hl f h
    obtain ⟨q, hq⟩ := List.getLast?_eq_some_iff.1 h
    rw [hq] at ha hs
    rcases List.mem_append.1 ha with ha | ha
    · rw [List.pairwise_append] at hs
      have h1 := hs.2.2 a ha f (by simp)
      exact lessI_trans (mayB_ok (hall a (by rw [hq]; simp [ha]))).1 (mayB_ok (hall f (by rw [hq]; simp))).1 (mayB_ok he).1 h1 hlf
    · rw [List.mem_singleton] at ha; subst ha; exact hlf
theorem dirs_same {pre : List En} (hs : SortedE pre) (p : ByteArray) : isDirA pre p = isDirF pre p := by
  unfold isDirA isDirF
  congr 1
  induction pre with
  | nil => rfl
  | cons x r ih =>
    unfold SortedE at *
    rw [List.pairwise_cons] at hs
    rw [List.any_cons, List.find?_cons]
    by_cases hx : x.path = p
    · have hno : r.any (fun e => decide (e.kind = 2) && decide (e.path = p)) = false := by
        rw [Bool.eq_false_iff]
        intro h
        obtain ⟨y, hy, h2⟩ := List.any_eq_true.1 h
        simp only [Bool.and_eq_true, decide_eq_true_eq] at h2
        have := hs.1 y hy
        rw [hx, h2.2, lessI_self] at this
        omega
      simp [hx, hno]
    · simp only [hx, decide_false, Bool.and_false, Bool.false_or]
      exact ih hs.2
theorem checks_same_at (t : List En) : ∀ (r : List En) (i : Nat) (sum : Int), t.drop i = r → (∀ x ∈ t.take i, mayB x = true) → SortedE (t.take i) → checkG isDirA t i sum r = checkG isDirF t i sum r
  | [], i, sum, _, _, _ => rfl
  | e :: r, i, sum, hd, hall, hs => by
    have hi : t[i]? = some e := by have := congrArg (fun l => l[0]?) hd; simpa using this
    have hg : Nth t i e := ⟨hi⟩
    have hr : t.drop (i + 1) = r := by have := hg.drop; rw [hd] at this; exact (List.cons.inj this).2.symm
    rw [checkG_cons, checkG_cons]
    by_cases h1 : mayB e = false
    · rw [if_pos h1, if_pos h1]
    have hm : mayB e = true := by cases h : mayB e; exact absurd h h1; rfl
    rw [if_neg h1, if_neg h1]
    by_cases h2 : 0 < i ∧ ¬ lessI ((t.getD (i - 1) e).path) e.path < 0
    · rw [if_pos h2, if_pos h2]
    rw [if_neg h2, if_neg h2, dirs_same hs]
    by_cases h3 : isDirF (t.take i) (upP e.path) = false
    · rw [if_pos h3, if_pos h3]
    rw [if_neg h3, if_neg h3]
    by_cases h4 : 1048576 < sum + (e.data.size : Int)
    · rw [if_pos h4, if_pos h4]
    rw [if_neg h4, if_neg h4]
    have hs2 : SortedE (t.take (i + 1)) := by
      rw [hg.take]
      refine sorted_snoc hall hm hs ?_
      intro f hf
      rw [List.getLast?_eq_getElem?, List.length_take, List.getElem?_take] at hf
      have hlt := hg.lt
      have hi0 : 0 < i := by
        rcases Nat.eq_zero_or_pos i with h0 | h0
        · subst h0; simp at hf
        · exact h0
      rw [show min i t.length = i by omega, if_pos (by omega)] at hf
      refine Classical.byContradiction fun h => h2 ⟨hi0, ?_⟩
      rw [List.getD_eq_getElem?_getD, hf, Option.getD_some]
      exact h
    exact checks_same_at t r (i + 1) _ hr (fun x hx => by
      rw [hg.take] at hx
      rcases List.mem_append.1 hx with hx | hx
      · exact hall x hx
      · rw [List.mem_singleton] at hx; subst hx; exact hm) hs2
theorem checks_same (t : List En) : checkA t = checkF t := by
  unfold checkA checkF
  split
  · rfl
  · exact checks_same_at t t 0 0 rfl (by simp) (by simp [SortedE])
end Go.Tk

set_option linter.unusedSectionVars false
set_option linter.unusedSimpArgs false
set_option linter.unusedVariables false
namespace Go.Tk
open Go.RowKit Go.Proofs

section
variable {P : Program} {ops : Array Oper} {Q : Exit → Act → World → Prop} {rest : List Oper} {o : Oper} {a : Act} {B : Base} {H R : HL} {w : World} {α : Type} {E : Enc α}
/-- []T{} -/
theorem wl_buildSlice0 {t e : Nat} (E : Enc α) [hsl : SlTy P t e E.k] (hw : Region.wanted o (yielded ops a.tmps) = true) (ho : o.op = .buildSlice t 0 #[]) (hS : Sh B H w)
    (h : ∀ b w', Sh B (rowA (some ⟨b, 0, none⟩) (flat E [] ++ []) e ++ H) w' → OwnSl E (some ⟨b, 0, none⟩) [] [] 0 → wpList P ops Q rest (a.put o.dst (.slice (some ⟨b, 0, none⟩) 0 0)) w') : wpList P ops Q (o :: rest) a w := by
  have hrun : (Instr.buildSlice t 0 #[]).run P w = .ok (.slice (some ⟨w.heap.size, 0, none⟩) 0 0) (w.alloc (.cells #[] e)) := by
    simp only [Instr.buildSlice, Sem.run_bind, run_underlying hsl.under, Result.andThen_ok, run_sizeOf hsl.size, gt_iff_lt, Nat.zero_mul, show ¬ (2 ^ 24 < 0) from by decide, if_false, if_true, Sem.run_pure]
    simp [Instr.fill, newRow, newObj, Sem.run]
    have h0 : (Array.range 0) = (#[] : Array Nat) := by apply Array.ext'; simp
    rw [h0]; simp
  refine wl_to hw (by simp only [execOp, ho, Sem.run_bind, Array.map_empty]; rw [hrun]; rfl) (h w.heap.size _ ?_ ⟨fun e => (by cases e), fun ad e => (by cases e; rfl), by simp, by simp⟩)
  exact hS.alloc _
end
section
variable {P : Program} {o : Oper} {a : Act} {w : World}
theorem ex_eqNil {t u e : TypeId} {x y : Operand} {A : Option Addr} {n c n2 c2 : Nat} (ht : P.underlying t = some (.slice e)) (ho : o.op = .binOp .eql t x y u) (hx : a.eval x = .slice A n c) (hy : a.eval y = .slice none n2 c2) : (execOp a.eval o).run P w = .ok (.value (.bool A.isNone)) w := by
  have := Lib.run_eql_slice_nil (P := P) w t e A n c n2 c2 ht
  have hg : eqGuard .eql t x y (.slice A n c) (.slice none n2 c2) = pure () := rfl
  simp [execOp, ho, hx, hy, Sem.run_bind, hg, this]
end
section
variable {B : Base} {R H H1 : HL} {w w' : World}
def CloneP (B : Base) (R : HL) (t : List En) (e : Ending) (w' : World) : Prop :=
  ∃ A2 sp cap2, e = .returned (.slice A2 t.length cap2) ∧ OwnSl enE A2 t sp cap2 ∧ Sh B (rowA A2 (flat enE t ++ sp) 24 ++ R) w'
set_option maxRecDepth 100000 in
set_option maxHeartbeats 800000 in
theorem CloneE_any (hS : Sh B R w) {A : Option Addr} {cap : Nat} {t : List En} [r : RdAt enE B R A t] (hl : t.length ≤ 16777216) :
    Calls Tryz.prog 41 #[.slice A t.length cap] w (CloneP B R t) := by
  cases A with
  | none =>
    have h0 : t = [] := by
      cases t with
      | nil => rfl
      | cons x r2 => obtain ⟨b, off, h⟩ := r.ok (by simp); cases h
    subst h0
    go_enter Tryz.func41, Tryz.ntmps41
    go_wp2_with (refine wl_value rfl ((ex_eqNil Tryz.underlying22 rfl rfl rfl)) ?_; (try simp only [Act.put, List.setIfInBounds_toArray, List.set_cons_zero, List.set_cons_succ]))
    go_ret
    exact ⟨none, [], 0, rfl, OwnSl.nothing, hS⟩
  | some ad =>
    go_enter Tryz.func41, Tryz.ntmps41
    go_wp2_with (first | (refine wl_value rfl ((ex_eqNil Tryz.underlying22 rfl rfl rfl)) ?_; (try simp only [Act.put, List.setIfInBounds_toArray, List.set_cons_zero, List.set_cons_succ])) | (refine wl_buildSlice0 enE rfl rfl hS ?_; intro nb _ hS hO; (try simp only [Act.put, List.setIfInBounds_toArray, List.set_cons_zero, List.set_cons_succ])) | (refine wl_ap (E := enE) rfl rfl rfl rfl hS ?_ ?_ ?_ ?_ ?_; (focus (first | rfl | omega)); (focus (first | rfl | omega)); (focus ((simp only [List.length_nil]; omega))); (focus decide); intro _ _ _ _ hO2 hS; (try simp only [Act.put, List.setIfInBounds_toArray, List.set_cons_zero, List.set_cons_succ])))
    go_ret
    rw [List.nil_append] at hO2 hS
    exact ⟨_, _, _, rfl, hO2, hS.to⟩
/-- Entries that may be compared. -/
abbrev GoodE := { e : En // okP e.path = true ∧ e.path.size ≤ 16777216 }
def goodE : Enc GoodE := {
  val x := enE.val x.1
  cells x := enE.cells x.1
  valc x := enE.valc x.1
  k := 3
  pos := by decide
  len x := enE.len x.1
  one x := enE.one x.1 }
theorem flat_good (xs : List GoodE) : flat goodE xs = flat enE (xs.map (·.1)) := by
  induction xs with
  | nil => rfl
  | cons x xs ih => rw [flat_cons, List.map_cons, flat_cons, ih]; rfl
theorem OwnSl.good {A : Option Addr} {xs : List GoodE} {sp : List Value} {cap : Nat} : OwnSl goodE A xs sp cap ↔ OwnSl enE A (xs.map (·.1)) sp cap :=
  ⟨fun h => ⟨fun e => by obtain ⟨h1, h2, h3⟩ := h.nil e; exact ⟨by rw [h1]; rfl, h2, h3⟩, h.form, by rw [List.length_map]; exact h.capEq, h.max⟩,
   fun h => ⟨fun e => by obtain ⟨h1, h2, h3⟩ := h.nil e; exact ⟨List.map_eq_nil_iff.1 h1, h2, h3⟩, h.form, by have := h.capEq; rw [List.length_map] at this; exact this, h.max⟩⟩
theorem swo_less : Go.Sort.SWO (ltOf fun x y : GoodE => lessI x.1.path y.1.path) := {
  irrefl x := by
    show decide (lessI x.1.path x.1.path < 0) = false
    rw [lessI_self]; rfl
  trans x y z h1 h2 := by
    simp only [ltOf, decide_eq_true_eq] at *
    exact lessI_trans x.2.1 y.2.1 z.2.1 h1 h2
  ntrans x y z h1 h2 := by
    simp only [ltOf, decide_eq_false_iff_not] at *
    obtain ⟨a, ha⟩ := okP_some x.2.1
    obtain ⟨b, hb⟩ := okP_some y.2.1
    obtain ⟨c, hc⟩ := okP_some z.2.1
    rw [lessI_of ha hb] at h1
    rw [lessI_of hb hc] at h2
    rw [lessI_of ha hc]
    have s1 := cmpL_swap a b
    have s2 := cmpL_swap b c
    have s3 := cmpL_swap a c
    have := (cmpL_trans (x := c) (y := b) (z := a) (by omega) (by omega)).1
    omega }
theorem ml_of {B : Base} {H : HL} {W : World} [HasML B] (h : Sh B H W) : HasML (Base.of W) := by
  obtain ⟨m, hm⟩ := HasML.out (B := B)
  refine ⟨m, ?_⟩
  unfold Base.cell at hm ⊢
  split at hm
  · rename_i c t fr hb
    show (match W.heap[0]? with | some (.cells c _ _) => c[0]? | _ => none) = _
    rw [h.base _ _ hb]
    exact hm
  · cases hm
set_option maxRecDepth 100000 in
theorem sortF_any [HasML B] (hS : Sh B R w) (x y : En) (hx : x.path.size ≤ 16777216) (hy : y.path.size ≤ 16777216) : Calls Tryz.prog 62 #[.agg x.cells.toArray, .agg y.cells.toArray] w fun e w' => e = .returned (.int .i64 (lessI x.path y.path)) ∧ Sh B R w' := by
  have hl := fun (w : World) (R : HL) (hS : Sh B R w) => Less_any hS x.path y.path hx hy
  go_enter Tryz.func62, Tryz.ntmps62
  go_wp2_with (first | (refine wl_box rfl rfl rfl rfl hS ?_; intro _ _ hS; (try simp only [Act.put, List.setIfInBounds_toArray, List.set_cons_zero, List.set_cons_succ])) | (go_at_call 56; refine ((hl _ _ hS)).mono ?_; rintro e w' (⟨rfl, hS⟩)) | (refine wl_isld rfl ?_; ((first | refine wl_value rfl (ex_l0 hS rfl rfl rfl CellAt.out) ?_ | refine wl_value rfl (ex_lf hS rfl rfl rfl CellAt.out) ?_ | refine wl_value rfl (ex_l1 hS rfl rfl rfl CellAt.out) ?_ | refine wl_value rfl (ex_ldC hS rfl rfl CellAt.out) ?_ | refine wl_value rfl (ex_l0 hS rfl rfl rfl rfl) ?_ | refine wl_value rfl (ex_lf hS rfl rfl rfl rfl) ?_ | refine wl_value rfl (ex_l1 hS rfl rfl rfl rfl) ?_ | refine wl_value rfl (ex_ldC hS rfl rfl rfl) ?_ | refine wl_value rfl (ex_l00 hS rfl rfl CellAt.out) ?_ | refine wl_value rfl (ex_l00 hS rfl rfl rfl) ?_ | refine wl_value rfl (ex_l0f hS rfl rfl CellAt.out) ?_ | refine wl_value rfl (ex_l0f hS rfl rfl rfl) ?_ | refine wl_value rfl (ex_lr hS rfl rfl rfl rfl) ?_ | refine wl_value rfl (ex_lr0 hS rfl rfl rfl) ?_ | refine wl_value rfl (ex_lrz hS rfl rfl rfl) ?_ | refine wl_value rfl (ex_lrf hS rfl rfl rfl) ?_ | refine wl_value rfl (ex_ldrC hS rfl rfl) ?_ | refine wl_value rfl (ex_ldr0 hS rfl rfl rfl) ?_); (try simp only [Act.put, List.setIfInBounds_toArray, List.set_cons_zero, List.set_cons_succ]))) | ((first | refine wl_value rfl (ex_ix hS rfl rfl rfl ?_) ?_); (focus (first | rfl | omega | (simp; done))); (try simp only [Act.put, List.setIfInBounds_toArray, List.set_cons_zero, List.set_cons_succ])) | ((first | refine wl_value rfl (ex_eqA rfl rfl rfl) ?_ | refine wl_value rfl (ex_neA rfl rfl rfl) ?_); (try simp only [Act.put, List.setIfInBounds_toArray, List.set_cons_zero, List.set_cons_succ])) | (refine wl_alloc rfl rfl hS ?_; intro _ _ hS; (try simp only [Act.put, List.setIfInBounds_toArray, List.set_cons_zero, List.set_cons_succ])) | (refine wl_box rfl rfl rfl rfl hS ?_; intro _ _ hS; (try simp only [Act.put, List.setIfInBounds_toArray, List.set_cons_zero, List.set_cons_succ])) | (refine wl_st rfl rfl rfl rfl rfl hS (of_decide_eq_true rfl) ?_; intro _ hS; (try simp only [evT, evC, List.getD_cons_succ, List.getD_cons_zero, List.set_cons_zero, List.set_cons_succ] at hS); (try simp only [List.set_cons_zero, List.set_cons_succ] at hS); (try simp only [Act.put, List.setIfInBounds_toArray, List.set_cons_zero, List.set_cons_succ])) | (refine wl_strC rfl rfl rfl rfl hS rfl rfl ?_; intro _ hS; (try simp only [evT, evC, List.getD_cons_succ, List.getD_cons_zero, List.set_cons_zero, List.set_cons_succ] at hS); (try simp only [Act.put, List.setIfInBounds_toArray, List.set_cons_zero, List.set_cons_succ])))
  go_ret
  exact ⟨rfl, hS.to⟩
def SortedP (B : Base) (A : Option Addr) (xs : List En) (sp : List Value) (cap : Nat) (C : HL → HL) (e : Ending) (w' : World) : Prop :=
  e = .returned (.tuple #[]) ∧ ∃ ys : List En, ys.Perm xs ∧ ys.Pairwise (fun x y => 0 ≤ lessI y.path x.path) ∧ OwnSl enE A ys sp cap ∧ Sh B (C (rowA A (flat enE ys ++ sp) 24)) w'
theorem SortFE_any [HasML B] {A : Option Addr} {xs : List En} {sp : List Value} {cap : Nat} {C : HL → HL} (hO : OwnSl enE A xs sp cap) (hS : Sh B H w) [hp : CtxRow H A (flat enE xs ++ sp) 24 C] (hl : xs.length ≤ 16777216) (hg : ∀ e ∈ xs, okP e.path = true ∧ e.path.size ≤ 16777216) :
    Calls Tryz.prog 61 #[.slice A xs.length cap, .func (.func 62) #[] #[]] w (SortedP B A xs sp cap C) := by
  obtain ⟨gs, hgs⟩ : ∃ gs : List GoodE, gs.map (·.1) = xs := ⟨xs.pmap Subtype.mk hg, by rw [List.map_pmap]; simp⟩
  subst hgs
  haveI : Inhabited GoodE := ⟨⟨⟨⟨#[]⟩, 0, ⟨#[]⟩⟩, rfl, by decide⟩⟩
  haveI hp2 : CtxRow H A (flat goodE gs ++ sp) 24 C := by rw [flat_good]; exact hp
  have hcmp : CmpIn Tryz.prog B 62 #[] goodE (fun x y => lessI x.1.path y.1.path) := by
    intro x y H W hW
    haveI := ml_of hW
    exact sortF_any (B := Base.of W) (R := []) (Sh.of W) x.1 y.1 x.2.2 y.2.2
  have h := sortK2 (E := goodE) Tryz.sortW (fun w => Tryz.isAgg24 w) (fun w => Tryz.sizeOf24 w) (fun x => rfl) swo_less (g := 62) (cb := #[]) (EntersC.out (P := Tryz.prog) (f := 62)) hcmp (OwnSl.good.2 hO) hS (hp := hp2) (by simp at hl ⊢; omega)
  rw [List.length_map]
  refine h.mono fun e w' h => ⟨h.1, ?_⟩
  obtain ⟨ys, h1, h2, h3, h4⟩ := h.2
  refine ⟨ys.map (·.1), h1.map _, ?_, OwnSl.good.1 h3, ?_⟩
  · rw [List.pairwise_map]; exact h2
  · rw [flat_good] at h4; exact h4
end
end Go.Tk

set_option linter.unusedSectionVars false
set_option linter.unusedSimpArgs false
set_option linter.unusedVariables false
namespace Go.Tk
open Go.RowKit Go.Proofs

def sumE : List En → Int
  | [] => 0
  | e :: r => (e.data.size : Int) + sumE r
theorem sumE_append (a b : List En) : sumE (a ++ b) = sumE a + sumE b := by
  induction a with
  | nil => simp [sumE]
  | cons e a ih => rw [List.cons_append, sumE, sumE, ih]; omega
theorem sumE_take {t : List En} {i : Nat} {e : En} (g : Nth t i e) : sumE (t.take (i + 1)) = sumE (t.take i) + e.data.size := by
  rw [g.take, sumE_append]; simp [sumE]
theorem sumE_perm {a b : List En} (h : a.Perm b) : sumE a = sumE b := by
  induction h with
  | nil => rfl
  | cons x _ ih => rw [sumE, sumE, ih]
  | swap x y l => rw [sumE, sumE, sumE, sumE]; omega
  | trans _ _ h1 h2 => rw [h1, h2]
def fitsI (t : List En) : Int := if 1024 < t.length then 53 else if 1048576 < sumE t then 54 else 0
def sizeI (t : List En) : Int := if (checkA t).2 = 0 then sumE t else 0
section
variable {B : Base} {R H H1 : HL} {w w' : World}
def SzP (B : Base) (R : HL) (t : List En) (x : CkSt) (w : World) : Prop :=
  x.i ≤ t.length ∧ 0 ≤ x.sum ∧ x.sum ≤ x.i * 16777216 ∧ sumE (t.take x.i) = x.sum ∧ Sh B R w
set_option maxRecDepth 100000 in
theorem Right_any [HasML B] [NoDraw B] (hS : Sh B R w) {A : Option Addr} {cap : Nat} {t : List En} [r : RdAt enE B R A t] (hl : t.length ≤ 16777216) (hsm : SmallE t) :
    Calls Tryz.prog 37 #[.slice A t.length cap] w fun e w' => e = .returned (.int .i64 (checkA t).2) ∧ Sh B R w' := by
  have hc := fun (w : World) (hS : Sh B R w) => TCheck_any hS (cap := cap) (t := t) (r := r) hl hsm
  go_enter Tryz.func37, Tryz.ntmps37
  go_wp2_with (first | (go_at_call 27; refine ((hc _ hS)).mono ?_; rintro e w' (⟨rfl, hS⟩)) | (refine wl_isld rfl ?_; ((first | refine wl_value rfl (ex_l0 hS rfl rfl rfl CellAt.out) ?_ | refine wl_value rfl (ex_lf hS rfl rfl rfl CellAt.out) ?_ | refine wl_value rfl (ex_l1 hS rfl rfl rfl CellAt.out) ?_ | refine wl_value rfl (ex_ldC hS rfl rfl CellAt.out) ?_ | refine wl_value rfl (ex_l0 hS rfl rfl rfl rfl) ?_ | refine wl_value rfl (ex_lf hS rfl rfl rfl rfl) ?_ | refine wl_value rfl (ex_l1 hS rfl rfl rfl rfl) ?_ | refine wl_value rfl (ex_ldC hS rfl rfl rfl) ?_ | refine wl_value rfl (ex_l00 hS rfl rfl CellAt.out) ?_ | refine wl_value rfl (ex_l00 hS rfl rfl rfl) ?_ | refine wl_value rfl (ex_l0f hS rfl rfl CellAt.out) ?_ | refine wl_value rfl (ex_l0f hS rfl rfl rfl) ?_ | refine wl_value rfl (ex_lr hS rfl rfl rfl rfl) ?_ | refine wl_value rfl (ex_lr0 hS rfl rfl rfl) ?_ | refine wl_value rfl (ex_lrz hS rfl rfl rfl) ?_ | refine wl_value rfl (ex_lrf hS rfl rfl rfl) ?_ | refine wl_value rfl (ex_ldrC hS rfl rfl) ?_ | refine wl_value rfl (ex_ldr0 hS rfl rfl rfl) ?_); (try simp only [Act.put, List.setIfInBounds_toArray, List.set_cons_zero, List.set_cons_succ]))) | ((first | refine wl_value rfl (ex_ix hS rfl rfl rfl ?_) ?_); (focus (first | rfl | omega | (simp; done))); (try simp only [Act.put, List.setIfInBounds_toArray, List.set_cons_zero, List.set_cons_succ])) | ((first | refine wl_value rfl (ex_eqA rfl rfl rfl) ?_ | refine wl_value rfl (ex_neA rfl rfl rfl) ?_); (try simp only [Act.put, List.setIfInBounds_toArray, List.set_cons_zero, List.set_cons_succ])) | (refine wl_alloc rfl rfl hS ?_; intro _ _ hS; (try simp only [Act.put, List.setIfInBounds_toArray, List.set_cons_zero, List.set_cons_succ])) | (refine wl_box rfl rfl rfl rfl hS ?_; intro _ _ hS; (try simp only [Act.put, List.setIfInBounds_toArray, List.set_cons_zero, List.set_cons_succ])) | (refine wl_st rfl rfl rfl rfl rfl hS (of_decide_eq_true rfl) ?_; intro _ hS; (try simp only [evT, evC, List.getD_cons_succ, List.getD_cons_zero, List.set_cons_zero, List.set_cons_succ] at hS); (try simp only [List.set_cons_zero, List.set_cons_succ] at hS); (try simp only [Act.put, List.setIfInBounds_toArray, List.set_cons_zero, List.set_cons_succ])) | (refine wl_strC rfl rfl rfl rfl hS rfl rfl ?_; intro _ hS; (try simp only [evT, evC, List.getD_cons_succ, List.getD_cons_zero, List.set_cons_zero, List.set_cons_succ] at hS); (try simp only [Act.put, List.setIfInBounds_toArray, List.set_cons_zero, List.set_cons_succ])))
  go_ret
  exact ⟨rfl, hS.to⟩
set_option maxRecDepth 100000 in
set_option maxHeartbeats 1600000 in
theorem Fits_any (hS : Sh B R w) {A : Option Addr} {cap : Nat} {t : List En} [r : RdAt enE B R A t] (hl : t.length ≤ 16777216) (hsm : SmallE t) :
    Calls Tryz.prog 43 #[.slice A t.length cap] w fun e w' => e = .returned (.int .i64 (fitsI t)) ∧ Sh B R w' := by
  by_cases hbig : 1024 < t.length
  · have Hx := Lib.hid (show fitsI t = 53 by unfold fitsI; rw [if_pos hbig])
    have d1 : decide ((1024 : Int) < (t.length : Int)) = true := decide_eq_true (by omega)
    have e1 : decide (1024 < t.length) = true := decide_eq_true hbig
    clear hbig
    go_enter Tryz.func43, Tryz.ntmps43
    go_wp2
    go_ret
    rw [Hx.out]
    exact ⟨rfl, hS⟩
  have Hx := Lib.hid (show fitsI t = if 1048576 < sumE t then 54 else 0 by unfold fitsI; rw [if_neg hbig])
  have d1 : decide ((1024 : Int) < (t.length : Int)) = false := decide_eq_false (by omega)
  have e1 : decide (1024 < t.length) = false := decide_eq_false hbig
  have Hsm := Lib.hid hsm
  have htl : t.length ≤ 1024 := by omega
  clear hbig hsm
  go_enter Tryz.func43, Tryz.ntmps43
  go_wp2
  have h0 : SzP B R t ⟨0, 0⟩ _ := ⟨Nat.zero_le _, Int.le_refl _, by simp, by simp [sumE], hS⟩
  clear hS
  refine wp_loopS [3, 11] [5, 12, 13, 14, 15, 16, 17, 18, 19, 20] (fun x : CkSt => [.int .i64 x.sum, .int .i64 x.i]) (SzP B R t) (fun x => t.length - x.i) (⟨0, 0⟩) rfl (h0) ?_
  clear h0
  rintro ⟨i, sum⟩ J w ⟨hi, hs0, hs1, hsu, hS⟩
  dsimp only at hi hs0 hs1 hsu hS
  (simp only [Frm, setsT, junkT, List.setIfInBounds_toArray, List.set_cons_zero, List.set_cons_succ])
  by_cases hlt : i < t.length
  · obtain ⟨e, ge⟩ := Nth.of hlt
    have hsz := Hsm.out e ge.mem
    have hdz := hsz.2
    have Hsu := Lib.hid (show sumE (t.take (i + 1)) = sum + (e.data.size : Int) by rw [sumE_take ge, hsu])
    clear hsu hsz
    go_wp2_with (first | (refine wl_alloc rfl rfl hS ?_; intro eb _ hS; (try simp only [Act.put, List.setIfInBounds_toArray, List.set_cons_zero, List.set_cons_succ])) | (refine wl_isld rfl ?_; ((first | refine wl_value rfl (ex_l0 hS rfl rfl rfl CellAt.out) ?_ | refine wl_value rfl (ex_lf hS rfl rfl rfl CellAt.out) ?_ | refine wl_value rfl (ex_l1 hS rfl rfl rfl CellAt.out) ?_ | refine wl_value rfl (ex_ldC hS rfl rfl CellAt.out) ?_ | refine wl_value rfl (ex_l0 hS rfl rfl rfl rfl) ?_ | refine wl_value rfl (ex_lf hS rfl rfl rfl rfl) ?_ | refine wl_value rfl (ex_l1 hS rfl rfl rfl rfl) ?_ | refine wl_value rfl (ex_ldC hS rfl rfl rfl) ?_ | refine wl_value rfl (ex_l00 hS rfl rfl CellAt.out) ?_ | refine wl_value rfl (ex_l00 hS rfl rfl rfl) ?_ | refine wl_value rfl (ex_l0f hS rfl rfl CellAt.out) ?_ | refine wl_value rfl (ex_l0f hS rfl rfl rfl) ?_ | refine wl_value rfl (ex_lr hS rfl rfl rfl rfl) ?_ | refine wl_value rfl (ex_lr0 hS rfl rfl rfl) ?_ | refine wl_value rfl (ex_lrz hS rfl rfl rfl) ?_ | refine wl_value rfl (ex_lrf hS rfl rfl rfl) ?_ | refine wl_value rfl (ex_ldrC hS rfl rfl) ?_ | refine wl_value rfl (ex_ldr0 hS rfl rfl rfl) ?_); (try simp only [Act.put, List.setIfInBounds_toArray, List.set_cons_zero, List.set_cons_succ]))) | ((first | refine wl_value rfl (ex_ix hS rfl rfl rfl ?_) ?_); (focus (first | rfl | omega | (simp; done))); (try simp only [Act.put, List.setIfInBounds_toArray, List.set_cons_zero, List.set_cons_succ])) | ((first | refine wl_value rfl (ex_eqA rfl rfl rfl) ?_ | refine wl_value rfl (ex_neA rfl rfl rfl) ?_); (try simp only [Act.put, List.setIfInBounds_toArray, List.set_cons_zero, List.set_cons_succ])) | (refine wl_alloc rfl rfl hS ?_; intro _ _ hS; (try simp only [Act.put, List.setIfInBounds_toArray, List.set_cons_zero, List.set_cons_succ])) | (refine wl_box rfl rfl rfl rfl hS ?_; intro _ _ hS; (try simp only [Act.put, List.setIfInBounds_toArray, List.set_cons_zero, List.set_cons_succ])) | (refine wl_st rfl rfl rfl rfl rfl hS (of_decide_eq_true rfl) ?_; intro _ hS; (try simp only [evT, evC, List.getD_cons_succ, List.getD_cons_zero, List.set_cons_zero, List.set_cons_succ] at hS); (try simp only [List.set_cons_zero, List.set_cons_succ] at hS); (try simp only [Act.put, List.setIfInBounds_toArray, List.set_cons_zero, List.set_cons_succ])) | (refine wl_strC rfl rfl rfl rfl hS rfl rfl ?_; intro _ hS; (try simp only [evT, evC, List.getD_cons_succ, List.getD_cons_zero, List.set_cons_zero, List.set_cons_succ] at hS); (try simp only [Act.put, List.setIfInBounds_toArray, List.set_cons_zero, List.set_cons_succ])))
    exact ⟨(⟨i + 1, sum + e.data.size⟩ : CkSt), ⟨hlt, (by show 0 ≤ sum + (e.data.size : Int); omega), (by show sum + (e.data.size : Int) ≤ ((i + 1 : Nat) : Int) * 16777216; omega), Hsu.out, hS.to⟩, (by (try dsimp only); omega), rfl, (by (simp only [blankT, junkT, List.cons_append, List.nil_append, List.setIfInBounds_toArray, List.set_cons_zero, List.set_cons_succ])), rfl⟩
  · rw [List.take_of_length_le (by omega)] at hsu
    have Hsu := Lib.hid hsu
    clear hsu
    by_cases hb : 1048576 < sum
    · have d4 : decide (1048576 < sum) = true := decide_eq_true hb
      have Hb := Lib.hid hb
      clear hb
      go_wp2_with (first | (refine wl_isld rfl ?_; ((first | refine wl_value rfl (ex_l0 hS rfl rfl rfl CellAt.out) ?_ | refine wl_value rfl (ex_lf hS rfl rfl rfl CellAt.out) ?_ | refine wl_value rfl (ex_l1 hS rfl rfl rfl CellAt.out) ?_ | refine wl_value rfl (ex_ldC hS rfl rfl CellAt.out) ?_ | refine wl_value rfl (ex_l0 hS rfl rfl rfl rfl) ?_ | refine wl_value rfl (ex_lf hS rfl rfl rfl rfl) ?_ | refine wl_value rfl (ex_l1 hS rfl rfl rfl rfl) ?_ | refine wl_value rfl (ex_ldC hS rfl rfl rfl) ?_ | refine wl_value rfl (ex_l00 hS rfl rfl CellAt.out) ?_ | refine wl_value rfl (ex_l00 hS rfl rfl rfl) ?_ | refine wl_value rfl (ex_l0f hS rfl rfl CellAt.out) ?_ | refine wl_value rfl (ex_l0f hS rfl rfl rfl) ?_ | refine wl_value rfl (ex_lr hS rfl rfl rfl rfl) ?_ | refine wl_value rfl (ex_lr0 hS rfl rfl rfl) ?_ | refine wl_value rfl (ex_lrz hS rfl rfl rfl) ?_ | refine wl_value rfl (ex_lrf hS rfl rfl rfl) ?_ | refine wl_value rfl (ex_ldrC hS rfl rfl) ?_ | refine wl_value rfl (ex_ldr0 hS rfl rfl rfl) ?_); (try simp only [Act.put, List.setIfInBounds_toArray, List.set_cons_zero, List.set_cons_succ]))) | ((first | refine wl_value rfl (ex_ix hS rfl rfl rfl ?_) ?_); (focus (first | rfl | omega | (simp; done))); (try simp only [Act.put, List.setIfInBounds_toArray, List.set_cons_zero, List.set_cons_succ])) | ((first | refine wl_value rfl (ex_eqA rfl rfl rfl) ?_ | refine wl_value rfl (ex_neA rfl rfl rfl) ?_); (try simp only [Act.put, List.setIfInBounds_toArray, List.set_cons_zero, List.set_cons_succ])) | (refine wl_alloc rfl rfl hS ?_; intro _ _ hS; (try simp only [Act.put, List.setIfInBounds_toArray, List.set_cons_zero, List.set_cons_succ])) | (refine wl_box rfl rfl rfl rfl hS ?_; intro _ _ hS; (try simp only [Act.put, List.setIfInBounds_toArray, List.set_cons_zero, List.set_cons_succ])) | (refine wl_st rfl rfl rfl rfl rfl hS (of_decide_eq_true rfl) ?_; intro _ hS; (try simp only [evT, evC, List.getD_cons_succ, List.getD_cons_zero, List.set_cons_zero, List.set_cons_succ] at hS); (try simp only [List.set_cons_zero, List.set_cons_succ] at hS); (try simp only [Act.put, List.setIfInBounds_toArray, List.set_cons_zero, List.set_cons_succ])) | (refine wl_strC rfl rfl rfl rfl hS rfl rfl ?_; intro _ hS; (try simp only [evT, evC, List.getD_cons_succ, List.getD_cons_zero, List.set_cons_zero, List.set_cons_succ] at hS); (try simp only [Act.put, List.setIfInBounds_toArray, List.set_cons_zero, List.set_cons_succ])))
      go_ret
      rw [Hx.out, Hsu.out, if_pos Hb.out]
      exact ⟨rfl, hS.to⟩
    · have d4 : decide (1048576 < sum) = false := decide_eq_false hb
      have Hb := Lib.hid hb
      clear hb
      go_wp2_with (first | (refine wl_isld rfl ?_; ((first | refine wl_value rfl (ex_l0 hS rfl rfl rfl CellAt.out) ?_ | refine wl_value rfl (ex_lf hS rfl rfl rfl CellAt.out) ?_ | refine wl_value rfl (ex_l1 hS rfl rfl rfl CellAt.out) ?_ | refine wl_value rfl (ex_ldC hS rfl rfl CellAt.out) ?_ | refine wl_value rfl (ex_l0 hS rfl rfl rfl rfl) ?_ | refine wl_value rfl (ex_lf hS rfl rfl rfl rfl) ?_ | refine wl_value rfl (ex_l1 hS rfl rfl rfl rfl) ?_ | refine wl_value rfl (ex_ldC hS rfl rfl rfl) ?_ | refine wl_value rfl (ex_l00 hS rfl rfl CellAt.out) ?_ | refine wl_value rfl (ex_l00 hS rfl rfl rfl) ?_ | refine wl_value rfl (ex_l0f hS rfl rfl CellAt.out) ?_ | refine wl_value rfl (ex_l0f hS rfl rfl rfl) ?_ | refine wl_value rfl (ex_lr hS rfl rfl rfl rfl) ?_ | refine wl_value rfl (ex_lr0 hS rfl rfl rfl) ?_ | refine wl_value rfl (ex_lrz hS rfl rfl rfl) ?_ | refine wl_value rfl (ex_lrf hS rfl rfl rfl) ?_ | refine wl_value rfl (ex_ldrC hS rfl rfl) ?_ | refine wl_value rfl (ex_ldr0 hS rfl rfl rfl) ?_); (try simp only [Act.put, List.setIfInBounds_toArray, List.set_cons_zero, List.set_cons_succ]))) | ((first | refine wl_value rfl (ex_ix hS rfl rfl rfl ?_) ?_); (focus (first | rfl | omega | (simp; done))); (try simp only [Act.put, List.setIfInBounds_toArray, List.set_cons_zero, List.set_cons_succ])) | ((first | refine wl_value rfl (ex_eqA rfl rfl rfl) ?_ | refine wl_value rfl (ex_neA rfl rfl rfl) ?_); (try simp only [Act.put, List.setIfInBounds_toArray, List.set_cons_zero, List.set_cons_succ])) | (refine wl_alloc rfl rfl hS ?_; intro _ _ hS; (try simp only [Act.put, List.setIfInBounds_toArray, List.set_cons_zero, List.set_cons_succ])) | (refine wl_box rfl rfl rfl rfl hS ?_; intro _ _ hS; (try simp only [Act.put, List.setIfInBounds_toArray, List.set_cons_zero, List.set_cons_succ])) | (refine wl_st rfl rfl rfl rfl rfl hS (of_decide_eq_true rfl) ?_; intro _ hS; (try simp only [evT, evC, List.getD_cons_succ, List.getD_cons_zero, List.set_cons_zero, List.set_cons_succ] at hS); (try simp only [List.set_cons_zero, List.set_cons_succ] at hS); (try simp only [Act.put, List.setIfInBounds_toArray, List.set_cons_zero, List.set_cons_succ])) | (refine wl_strC rfl rfl rfl rfl hS rfl rfl ?_; intro _ hS; (try simp only [evT, evC, List.getD_cons_succ, List.getD_cons_zero, List.set_cons_zero, List.set_cons_succ] at hS); (try simp only [Act.put, List.setIfInBounds_toArray, List.set_cons_zero, List.set_cons_succ])))
      go_ret
      rw [Hx.out, Hsu.out, if_neg (by have := Hb.out; omega)]
      exact ⟨rfl, hS.to⟩
set_option maxRecDepth 100000 in
set_option maxHeartbeats 1600000 in
theorem TSize_any [HasML B] [NoDraw B] (hS : Sh B R w) {A : Option Addr} {cap : Nat} {t : List En} [r : RdAt enE B R A t] (hl : t.length ≤ 16777216) (hsm : SmallE t) :
    Calls Tryz.prog 24 #[.slice A t.length cap] w fun e w' => e = .returned (.int .i64 (sizeI t)) ∧ Sh B R w' := by
  have hr := fun (w : World) (hS : Sh B R w) => Right_any hS (cap := cap) (t := t) (r := r) hl hsm
  by_cases hbad : (checkA t).2 = 0
  · have Hx := Lib.hid (show sizeI t = sumE t by unfold sizeI; rw [if_pos hbad])
    have Hsm := Lib.hid hsm
    rw [hbad] at hr
    clear hbad hsm
    go_enter Tryz.func24, Tryz.ntmps24
    go_wp2_with (first | (go_at_call 37; refine ((hr _ hS)).mono ?_; rintro e w' (⟨rfl, hS⟩)) | (refine wl_isld rfl ?_; ((first | refine wl_value rfl (ex_l0 hS rfl rfl rfl CellAt.out) ?_ | refine wl_value rfl (ex_lf hS rfl rfl rfl CellAt.out) ?_ | refine wl_value rfl (ex_l1 hS rfl rfl rfl CellAt.out) ?_ | refine wl_value rfl (ex_ldC hS rfl rfl CellAt.out) ?_ | refine wl_value rfl (ex_l0 hS rfl rfl rfl rfl) ?_ | refine wl_value rfl (ex_lf hS rfl rfl rfl rfl) ?_ | refine wl_value rfl (ex_l1 hS rfl rfl rfl rfl) ?_ | refine wl_value rfl (ex_ldC hS rfl rfl rfl) ?_ | refine wl_value rfl (ex_l00 hS rfl rfl CellAt.out) ?_ | refine wl_value rfl (ex_l00 hS rfl rfl rfl) ?_ | refine wl_value rfl (ex_l0f hS rfl rfl CellAt.out) ?_ | refine wl_value rfl (ex_l0f hS rfl rfl rfl) ?_ | refine wl_value rfl (ex_lr hS rfl rfl rfl rfl) ?_ | refine wl_value rfl (ex_lr0 hS rfl rfl rfl) ?_ | refine wl_value rfl (ex_lrz hS rfl rfl rfl) ?_ | refine wl_value rfl (ex_lrf hS rfl rfl rfl) ?_ | refine wl_value rfl (ex_ldrC hS rfl rfl) ?_ | refine wl_value rfl (ex_ldr0 hS rfl rfl rfl) ?_); (try simp only [Act.put, List.setIfInBounds_toArray, List.set_cons_zero, List.set_cons_succ]))) | ((first | refine wl_value rfl (ex_ix hS rfl rfl rfl ?_) ?_); (focus (first | rfl | omega | (simp; done))); (try simp only [Act.put, List.setIfInBounds_toArray, List.set_cons_zero, List.set_cons_succ])) | ((first | refine wl_value rfl (ex_eqA rfl rfl rfl) ?_ | refine wl_value rfl (ex_neA rfl rfl rfl) ?_); (try simp only [Act.put, List.setIfInBounds_toArray, List.set_cons_zero, List.set_cons_succ])) | (refine wl_alloc rfl rfl hS ?_; intro _ _ hS; (try simp only [Act.put, List.setIfInBounds_toArray, List.set_cons_zero, List.set_cons_succ])) | (refine wl_box rfl rfl rfl rfl hS ?_; intro _ _ hS; (try simp only [Act.put, List.setIfInBounds_toArray, List.set_cons_zero, List.set_cons_succ])) | (refine wl_st rfl rfl rfl rfl rfl hS (of_decide_eq_true rfl) ?_; intro _ hS; (try simp only [evT, evC, List.getD_cons_succ, List.getD_cons_zero, List.set_cons_zero, List.set_cons_succ] at hS); (try simp only [List.set_cons_zero, List.set_cons_succ] at hS); (try simp only [Act.put, List.setIfInBounds_toArray, List.set_cons_zero, List.set_cons_succ])) | (refine wl_strC rfl rfl rfl rfl hS rfl rfl ?_; intro _ hS; (try simp only [evT, evC, List.getD_cons_succ, List.getD_cons_zero, List.set_cons_zero, List.set_cons_succ] at hS); (try simp only [Act.put, List.setIfInBounds_toArray, List.set_cons_zero, List.set_cons_succ])))
    have h0 : SzP B R t ⟨0, 0⟩ _ := ⟨Nat.zero_le _, Int.le_refl _, by simp, by simp [sumE], hS⟩
    clear hS hr
    refine wp_loopS [3, 11] [5, 12, 13, 14, 15, 16, 17, 18, 19, 20] (fun x : CkSt => [.int .i64 x.sum, .int .i64 x.i]) (SzP B R t) (fun x => t.length - x.i) (⟨0, 0⟩) rfl (h0) ?_
    clear h0
    rintro ⟨i, sum⟩ J w ⟨hi, hs0, hs1, hsu, hS⟩
    dsimp only at hi hs0 hs1 hsu hS
    (simp only [Frm, setsT, junkT, List.setIfInBounds_toArray, List.set_cons_zero, List.set_cons_succ])
    by_cases hlt : i < t.length
    · obtain ⟨e, ge⟩ := Nth.of hlt
      have hsz := Hsm.out e ge.mem
      have hdz := hsz.2
      have Hsu := Lib.hid (show sumE (t.take (i + 1)) = sum + (e.data.size : Int) by rw [sumE_take ge, hsu])
      clear hsu hsz
      go_wp2_with (first | (refine wl_alloc rfl rfl hS ?_; intro eb _ hS; (try simp only [Act.put, List.setIfInBounds_toArray, List.set_cons_zero, List.set_cons_succ])) | (refine wl_isld rfl ?_; ((first | refine wl_value rfl (ex_l0 hS rfl rfl rfl CellAt.out) ?_ | refine wl_value rfl (ex_lf hS rfl rfl rfl CellAt.out) ?_ | refine wl_value rfl (ex_l1 hS rfl rfl rfl CellAt.out) ?_ | refine wl_value rfl (ex_ldC hS rfl rfl CellAt.out) ?_ | refine wl_value rfl (ex_l0 hS rfl rfl rfl rfl) ?_ | refine wl_value rfl (ex_lf hS rfl rfl rfl rfl) ?_ | refine wl_value rfl (ex_l1 hS rfl rfl rfl rfl) ?_ | refine wl_value rfl (ex_ldC hS rfl rfl rfl) ?_ | refine wl_value rfl (ex_l00 hS rfl rfl CellAt.out) ?_ | refine wl_value rfl (ex_l00 hS rfl rfl rfl) ?_ | refine wl_value rfl (ex_l0f hS rfl rfl CellAt.out) ?_ | refine wl_value rfl (ex_l0f hS rfl rfl rfl) ?_ | refine wl_value rfl (ex_lr hS rfl rfl rfl rfl) ?_ | refine wl_value rfl (ex_lr0 hS rfl rfl rfl) ?_ | refine wl_value rfl (ex_lrz hS rfl rfl rfl) ?_ | refine wl_value rfl (ex_lrf hS rfl rfl rfl) ?_ | refine wl_value rfl (ex_ldrC hS rfl rfl) ?_ | refine wl_value rfl (ex_ldr0 hS rfl rfl rfl) ?_); (try simp only [Act.put, List.setIfInBounds_toArray, List.set_cons_zero, List.set_cons_succ]))) | ((first | refine wl_value rfl (ex_ix hS rfl rfl rfl ?_) ?_); (focus (first | rfl | omega | (simp; done))); (try simp only [Act.put, List.setIfInBounds_toArray, List.set_cons_zero, List.set_cons_succ])) | ((first | refine wl_value rfl (ex_eqA rfl rfl rfl) ?_ | refine wl_value rfl (ex_neA rfl rfl rfl) ?_); (try simp only [Act.put, List.setIfInBounds_toArray, List.set_cons_zero, List.set_cons_succ])) | (refine wl_alloc rfl rfl hS ?_; intro _ _ hS; (try simp only [Act.put, List.setIfInBounds_toArray, List.set_cons_zero, List.set_cons_succ])) | (refine wl_box rfl rfl rfl rfl hS ?_; intro _ _ hS; (try simp only [Act.put, List.setIfInBounds_toArray, List.set_cons_zero, List.set_cons_succ])) | (refine wl_st rfl rfl rfl rfl rfl hS (of_decide_eq_true rfl) ?_; intro _ hS; (try simp only [evT, evC, List.getD_cons_succ, List.getD_cons_zero, List.set_cons_zero, List.set_cons_succ] at hS); (try simp only [List.set_cons_zero, List.set_cons_succ] at hS); (try simp only [Act.put, List.setIfInBounds_toArray, List.set_cons_zero, List.set_cons_succ])) | (refine wl_strC rfl rfl rfl rfl hS rfl rfl ?_; intro _ hS; (try simp only [evT, evC, List.getD_cons_succ, List.getD_cons_zero, List.set_cons_zero, List.set_cons_succ] at hS); (try simp only [Act.put, List.setIfInBounds_toArray, List.set_cons_zero, List.set_cons_succ])))
      exact ⟨(⟨i + 1, sum + e.data.size⟩ : CkSt), ⟨hlt, (by show 0 ≤ sum + (e.data.size : Int); omega), (by show sum + (e.data.size : Int) ≤ ((i + 1 : Nat) : Int) * 16777216; omega), Hsu.out, hS.to⟩, (by (try dsimp only); omega), rfl, (by (simp only [blankT, junkT, List.cons_append, List.nil_append, List.setIfInBounds_toArray, List.set_cons_zero, List.set_cons_succ])), rfl⟩
    · rw [List.take_of_length_le (by omega)] at hsu
      have Hsu := Lib.hid hsu
      clear hsu
      go_wp2_with (first | (refine wl_isld rfl ?_; ((first | refine wl_value rfl (ex_l0 hS rfl rfl rfl CellAt.out) ?_ | refine wl_value rfl (ex_lf hS rfl rfl rfl CellAt.out) ?_ | refine wl_value rfl (ex_l1 hS rfl rfl rfl CellAt.out) ?_ | refine wl_value rfl (ex_ldC hS rfl rfl CellAt.out) ?_ | refine wl_value rfl (ex_l0 hS rfl rfl rfl rfl) ?_ | refine wl_value rfl (ex_lf hS rfl rfl rfl rfl) ?_ | refine wl_value rfl (ex_l1 hS rfl rfl rfl rfl) ?_ | refine wl_value rfl (ex_ldC hS rfl rfl rfl) ?_ | refine wl_value rfl (ex_l00 hS rfl rfl CellAt.out) ?_ | refine wl_value rfl (ex_l00 hS rfl rfl rfl) ?_ | refine wl_value rfl (ex_l0f hS rfl rfl CellAt.out) ?_ | refine wl_value rfl (ex_l0f hS rfl rfl rfl) ?_ | refine wl_value rfl (ex_lr hS rfl rfl rfl rfl) ?_ | refine wl_value rfl (ex_lr0 hS rfl rfl rfl) ?_ | refine wl_value rfl (ex_lrz hS rfl rfl rfl) ?_ | refine wl_value rfl (ex_lrf hS rfl rfl rfl) ?_ | refine wl_value rfl (ex_ldrC hS rfl rfl) ?_ | refine wl_value rfl (ex_ldr0 hS rfl rfl rfl) ?_); (try simp only [Act.put, List.setIfInBounds_toArray, List.set_cons_zero, List.set_cons_succ]))) | ((first | refine wl_value rfl (ex_ix hS rfl rfl rfl ?_) ?_); (focus (first | rfl | omega | (simp; done))); (try simp only [Act.put, List.setIfInBounds_toArray, List.set_cons_zero, List.set_cons_succ])) | ((first | refine wl_value rfl (ex_eqA rfl rfl rfl) ?_ | refine wl_value rfl (ex_neA rfl rfl rfl) ?_); (try simp only [Act.put, List.setIfInBounds_toArray, List.set_cons_zero, List.set_cons_succ])) | (refine wl_alloc rfl rfl hS ?_; intro _ _ hS; (try simp only [Act.put, List.setIfInBounds_toArray, List.set_cons_zero, List.set_cons_succ])) | (refine wl_box rfl rfl rfl rfl hS ?_; intro _ _ hS; (try simp only [Act.put, List.setIfInBounds_toArray, List.set_cons_zero, List.set_cons_succ])) | (refine wl_st rfl rfl rfl rfl rfl hS (of_decide_eq_true rfl) ?_; intro _ hS; (try simp only [evT, evC, List.getD_cons_succ, List.getD_cons_zero, List.set_cons_zero, List.set_cons_succ] at hS); (try simp only [List.set_cons_zero, List.set_cons_succ] at hS); (try simp only [Act.put, List.setIfInBounds_toArray, List.set_cons_zero, List.set_cons_succ])) | (refine wl_strC rfl rfl rfl rfl hS rfl rfl ?_; intro _ hS; (try simp only [evT, evC, List.getD_cons_succ, List.getD_cons_zero, List.set_cons_zero, List.set_cons_succ] at hS); (try simp only [Act.put, List.setIfInBounds_toArray, List.set_cons_zero, List.set_cons_succ])))
      go_ret
      rw [Hx.out, Hsu.out]
      exact ⟨rfl, hS.to⟩
  · have Hx := Lib.hid (show sizeI t = 0 by unfold sizeI; rw [if_neg hbad])
    have d1 : ((checkA t).2 == 0) = false := beq_no hbad
    have d2 : ((checkA t).2 != 0) = true := bne_no hbad
    clear hbad
    go_enter Tryz.func24, Tryz.ntmps24
    go_wp2_with (first | (go_at_call 37; refine ((hr _ hS)).mono ?_; rintro e w' (⟨rfl, hS⟩)) | (refine wl_isld rfl ?_; ((first | refine wl_value rfl (ex_l0 hS rfl rfl rfl CellAt.out) ?_ | refine wl_value rfl (ex_lf hS rfl rfl rfl CellAt.out) ?_ | refine wl_value rfl (ex_l1 hS rfl rfl rfl CellAt.out) ?_ | refine wl_value rfl (ex_ldC hS rfl rfl CellAt.out) ?_ | refine wl_value rfl (ex_l0 hS rfl rfl rfl rfl) ?_ | refine wl_value rfl (ex_lf hS rfl rfl rfl rfl) ?_ | refine wl_value rfl (ex_l1 hS rfl rfl rfl rfl) ?_ | refine wl_value rfl (ex_ldC hS rfl rfl rfl) ?_ | refine wl_value rfl (ex_l00 hS rfl rfl CellAt.out) ?_ | refine wl_value rfl (ex_l00 hS rfl rfl rfl) ?_ | refine wl_value rfl (ex_l0f hS rfl rfl CellAt.out) ?_ | refine wl_value rfl (ex_l0f hS rfl rfl rfl) ?_ | refine wl_value rfl (ex_lr hS rfl rfl rfl rfl) ?_ | refine wl_value rfl (ex_lr0 hS rfl rfl rfl) ?_ | refine wl_value rfl (ex_lrz hS rfl rfl rfl) ?_ | refine wl_value rfl (ex_lrf hS rfl rfl rfl) ?_ | refine wl_value rfl (ex_ldrC hS rfl rfl) ?_ | refine wl_value rfl (ex_ldr0 hS rfl rfl rfl) ?_); (try simp only [Act.put, List.setIfInBounds_toArray, List.set_cons_zero, List.set_cons_succ]))) | ((first | refine wl_value rfl (ex_ix hS rfl rfl rfl ?_) ?_); (focus (first | rfl | omega | (simp; done))); (try simp only [Act.put, List.setIfInBounds_toArray, List.set_cons_zero, List.set_cons_succ])) | ((first | refine wl_value rfl (ex_eqA rfl rfl rfl) ?_ | refine wl_value rfl (ex_neA rfl rfl rfl) ?_); (try simp only [Act.put, List.setIfInBounds_toArray, List.set_cons_zero, List.set_cons_succ])) | (refine wl_alloc rfl rfl hS ?_; intro _ _ hS; (try simp only [Act.put, List.setIfInBounds_toArray, List.set_cons_zero, List.set_cons_succ])) | (refine wl_box rfl rfl rfl rfl hS ?_; intro _ _ hS; (try simp only [Act.put, List.setIfInBounds_toArray, List.set_cons_zero, List.set_cons_succ])) | (refine wl_st rfl rfl rfl rfl rfl hS (of_decide_eq_true rfl) ?_; intro _ hS; (try simp only [evT, evC, List.getD_cons_succ, List.getD_cons_zero, List.set_cons_zero, List.set_cons_succ] at hS); (try simp only [List.set_cons_zero, List.set_cons_succ] at hS); (try simp only [Act.put, List.setIfInBounds_toArray, List.set_cons_zero, List.set_cons_succ])) | (refine wl_strC rfl rfl rfl rfl hS rfl rfl ?_; intro _ hS; (try simp only [evT, evC, List.getD_cons_succ, List.getD_cons_zero, List.set_cons_zero, List.set_cons_succ] at hS); (try simp only [Act.put, List.setIfInBounds_toArray, List.set_cons_zero, List.set_cons_succ])))
    go_ret
    rw [Hx.out]
    exact ⟨rfl, hS.to⟩
set_option maxRecDepth 100000 in
theorem Sorted_any [HasML B] {A : Option Addr} {xs : List En} {sp : List Value} {cap : Nat} {C : HL → HL} (hO : OwnSl enE A xs sp cap) (hS : Sh B H w) [hp : CtxRow H A (flat enE xs ++ sp) 24 C] (hl : xs.length ≤ 16777216) (hg : ∀ e ∈ xs, okP e.path = true ∧ e.path.size ≤ 16777216) :
    Calls Tryz.prog 44 #[.slice A xs.length cap] w fun e w' => e = .returned (.slice A xs.length cap) ∧ ∃ ys : List En, ys.Perm xs ∧ ys.Pairwise (fun x y => 0 ≤ lessI y.path x.path) ∧ OwnSl enE A ys sp cap ∧ Sh B (C (rowA A (flat enE ys ++ sp) 24)) w' := by
  have hs := fun (w : World) (hS : Sh B H w) => SortFE_any hO hS hl hg
  go_enter Tryz.func44, Tryz.ntmps44
  go_wp2_with (first | (go_at_call 61; refine ((hs _ hS)).mono ?_; rintro e w' (⟨rfl, hE⟩)) | (refine wl_isld rfl ?_; ((first | refine wl_value rfl (ex_l0 hS rfl rfl rfl CellAt.out) ?_ | refine wl_value rfl (ex_lf hS rfl rfl rfl CellAt.out) ?_ | refine wl_value rfl (ex_l1 hS rfl rfl rfl CellAt.out) ?_ | refine wl_value rfl (ex_ldC hS rfl rfl CellAt.out) ?_ | refine wl_value rfl (ex_l0 hS rfl rfl rfl rfl) ?_ | refine wl_value rfl (ex_lf hS rfl rfl rfl rfl) ?_ | refine wl_value rfl (ex_l1 hS rfl rfl rfl rfl) ?_ | refine wl_value rfl (ex_ldC hS rfl rfl rfl) ?_ | refine wl_value rfl (ex_l00 hS rfl rfl CellAt.out) ?_ | refine wl_value rfl (ex_l00 hS rfl rfl rfl) ?_ | refine wl_value rfl (ex_l0f hS rfl rfl CellAt.out) ?_ | refine wl_value rfl (ex_l0f hS rfl rfl rfl) ?_ | refine wl_value rfl (ex_lr hS rfl rfl rfl rfl) ?_ | refine wl_value rfl (ex_lr0 hS rfl rfl rfl) ?_ | refine wl_value rfl (ex_lrz hS rfl rfl rfl) ?_ | refine wl_value rfl (ex_lrf hS rfl rfl rfl) ?_ | refine wl_value rfl (ex_ldrC hS rfl rfl) ?_ | refine wl_value rfl (ex_ldr0 hS rfl rfl rfl) ?_); (try simp only [Act.put, List.setIfInBounds_toArray, List.set_cons_zero, List.set_cons_succ]))) | ((first | refine wl_value rfl (ex_ix hS rfl rfl rfl ?_) ?_); (focus (first | rfl | omega | (simp; done))); (try simp only [Act.put, List.setIfInBounds_toArray, List.set_cons_zero, List.set_cons_succ])) | ((first | refine wl_value rfl (ex_eqA rfl rfl rfl) ?_ | refine wl_value rfl (ex_neA rfl rfl rfl) ?_); (try simp only [Act.put, List.setIfInBounds_toArray, List.set_cons_zero, List.set_cons_succ])) | (refine wl_alloc rfl rfl hS ?_; intro _ _ hS; (try simp only [Act.put, List.setIfInBounds_toArray, List.set_cons_zero, List.set_cons_succ])) | (refine wl_box rfl rfl rfl rfl hS ?_; intro _ _ hS; (try simp only [Act.put, List.setIfInBounds_toArray, List.set_cons_zero, List.set_cons_succ])) | (refine wl_st rfl rfl rfl rfl rfl hS (of_decide_eq_true rfl) ?_; intro _ hS; (try simp only [evT, evC, List.getD_cons_succ, List.getD_cons_zero, List.set_cons_zero, List.set_cons_succ] at hS); (try simp only [List.set_cons_zero, List.set_cons_succ] at hS); (try simp only [Act.put, List.setIfInBounds_toArray, List.set_cons_zero, List.set_cons_succ])) | (refine wl_strC rfl rfl rfl rfl hS rfl rfl ?_; intro _ hS; (try simp only [evT, evC, List.getD_cons_succ, List.getD_cons_zero, List.set_cons_zero, List.set_cons_succ] at hS); (try simp only [Act.put, List.setIfInBounds_toArray, List.set_cons_zero, List.set_cons_succ])))
  go_ret
  exact ⟨rfl, hE⟩
end
end Go.Tk

set_option linter.unusedSectionVars false
set_option linter.unusedSimpArgs false
set_option linter.unusedVariables false
namespace Go.Tk
open Go.RowKit Go.Proofs

theorem join2 (x y : List UInt8) (r : List (List UInt8)) : Lib.join (x :: y :: r) [47] = x ++ 47 :: Lib.join (y :: r) [47] := by
  rw [Lib.join_cons, Lib.join_cons]
  simp [Lib.joinTail]
theorem split_join : ∀ {l : List (List UInt8)}, l ≠ [] → (∀ x ∈ l, (47 : UInt8) ∉ x) → splitL (Lib.join l [47]) = l
  | [], h, _ => absurd rfl h
  | [x], _, hx => by rw [Lib.join_one]; exact splitL_miss (hx x (by simp))
  | x :: y :: r, _, hx => by
    rw [join2, splitL_hit (hx x (by simp)), split_join (by simp) (fun z hz => hx z (List.mem_cons_of_mem _ hz))]
theorem nameB_ok {x : ByteArray} (h : nameB x = true) : 1 ≤ x.size ∧ (47 : UInt8) ∉ x.data.toList := by
  unfold nameB at h
  simp only [Bool.and_eq_true, decide_eq_true_eq] at h
  refine ⟨h.1.1.1.1, fun hm => ?_⟩
  have := List.all_eq_true.1 h.2 _ hm
  exact absurd this (by decide)
theorem names_all {s : ByteArray} {l : List ByteArray} (h : namesB s = some l) : (∀ x ∈ l, nameB x = true) ∧ l.length ≤ 32 := by
  unfold namesB at h
  split at h
  · cases h; exact ⟨fun _ h => (nomatch h), Nat.zero_le _⟩
  · split at h
    · cases h
    · split at h
      · rename_i h2 h3
        cases h
        exact ⟨fun x hx => List.all_eq_true.1 h3 x hx, by omega⟩
      · cases h
theorem names_join {l : List ByteArray} (hall : ∀ x ∈ l, nameB x = true) (hl : l.length ≤ 32) : namesB (joinB l) = some l := by
  by_cases hne : l = []
  · subst hne; rfl
  have hp : piecesB (joinB l) = l := by
    unfold piecesB joinB
    rw [data_mkB, split_join (by simpa using hne) (fun x hx => by
      obtain ⟨y, hy, rfl⟩ := List.mem_map.1 hx
      exact (nameB_ok (hall y hy)).2), List.map_map]
    rw [show (mkB ∘ fun x : ByteArray => x.data.toList) = id from funext mkB_data, List.map_id]
  have hz : (joinB l).size ≠ 0 := by
    intro h0
    cases l with
    | nil => exact hne rfl
    | cons x r =>
      have := (nameB_ok (hall x (by simp))).1
      rw [ba_size] at h0 this
      unfold joinB at h0
      rw [data_mkB, List.map_cons, Lib.join_cons, List.length_append] at h0
      omega
  unfold namesB
  rw [if_neg hz, hp, if_neg (by omega), if_pos (List.all_eq_true.2 hall)]
theorem join_drop_lt {l : List (List UInt8)} (hall : ∀ x ∈ l, 1 ≤ x.length) (hne : l ≠ []) : (Lib.join l.dropLast [47]).length < (Lib.join l [47]).length := by
  induction l with
  | nil => exact absurd rfl hne
  | cons x r ih =>
    cases r with
    | nil =>
      have := hall x (by simp)
      rw [Lib.join_one, show ([x] : List (List UInt8)).dropLast = [] from rfl, Lib.join_nil]
      exact this
    | cons y r =>
      have h1 := ih (fun z hz => hall z (List.mem_cons_of_mem _ hz)) (by simp)
      rw [List.dropLast_cons_of_ne_nil (by simp), join2]
      cases r with
      | nil => 
        rw [show ([y] : List (List UInt8)).dropLast = [] from rfl, Lib.join_one]
        simp
      | cons z r =>
        rw [List.dropLast_cons_of_ne_nil (by simp)] at h1 ⊢
        rw [join2]
        simp only [List.length_append, List.length_cons]
        omega
theorem upP_none {s : ByteArray} (h : namesB s = none) : upP s = ⟨#[]⟩ := by unfold upP splitP; rw [h]
theorem upP_some {s : ByteArray} {l : List ByteArray} (h : namesB s = some l) : upP s = joinB l.dropLast := by
  unfold upP splitP
  rw [h]
  dsimp only
  split
  · rename_i h0; subst h0; rfl
  · rfl
theorem upP_names {s : ByteArray} {l : List ByteArray} (h : namesB s = some l) : namesB (upP s) = some l.dropLast := by
  rw [upP_some h]
  have := names_all h
  exact names_join (fun x hx => this.1 x (List.dropLast_subset l hx)) (by rw [List.length_dropLast]; omega)
theorem upP_ok {s : ByteArray} (h : okP s = true) : okP (upP s) = true := by
  obtain ⟨l, hl⟩ := okP_some h
  unfold okP
  rw [upP_names hl]
  rfl
theorem upP_lt {s : ByteArray} (h : s.size ≠ 0) : (upP s).size < s.size := by
  cases hn : namesB s with
  | none => rw [upP_none hn]; exact Nat.pos_of_ne_zero h
  | some l =>
    rw [upP_some hn]
    have hj := namesL_join hn
    have hne : l ≠ [] := fun h0 => h (hj.2.1 h0)
    have := join_drop_lt (l := l.map (·.data.toList)) (fun x hx => by
      obtain ⟨y, hy, rfl⟩ := List.mem_map.1 hx
      have := (nameB_ok ((names_all hn).1 y hy)).1
      rwa [ba_size] at this) (by simpa using hne)
    conv => rhs; rw [← hj.1]
    rw [ba_size, ba_size]
    unfold joinB
    rw [data_mkB, data_mkB, List.map_dropLast]
    exact this
theorem upP_le (s : ByteArray) : (upP s).size ≤ s.size := splitP_small s

/-- The kind of what stands at a path; 0: nothing. -/
def kindI (t : List En) (p : ByteArray) : Int := match t.find? (fun e => decide (e.path = p)) with | some e => e.kind | none => 0
def dirE (d : ByteArray) : En := ⟨d, 2, ⟨#[]⟩⟩
def climb : Nat → List En → ByteArray → Option (List En)
  | 0, out, _ => some out
  | n + 1, out, d => if d.size = 0 then some out else if kindI out d = 2 then climb n out (upP d) else if kindI out d = 0 then climb n (out ++ [dirE d]) (upP d) else none
def climbs : List En → List En → Option (List En)
  | out, [] => some out
  | out, e :: r => match climb e.path.size out (upP e.path) with | none => none | some o => climbs o r
def twins : List En → List En → Bool
  | _, [] => false
  | pre, e :: r => if kindI pre e.path = 0 then twins (pre ++ [e]) r else true
def makeT : Option (List En) → Int × List En
  | none => (52, [])
  | some o => if fitsI o = 0 then (0, o) else (fitsI o, [])
/-- What Make answers: an error, or the entries ahead of sorting. -/
def makeR (l : List En) : Int × List En :=
  if l.all mayB = false then (50, []) else if twins [] l = true then (9, []) else makeT (climbs l l)
theorem mayB_kind {e : En} (h : mayB e = true) : e.kind = 1 ∨ e.kind = 2 ∨ e.kind = 3 := by
  unfold mayB at h
  by_cases h1 : e.kind = 1
  · exact .inl h1
  by_cases h2 : e.kind = 2
  · exact .inr (.inl h2)
  by_cases h3 : e.kind = 3
  · exact .inr (.inr h3)
  rw [if_neg h1, if_neg h2, if_neg h3] at h
  simp at h
theorem mayB_dir {d : ByteArray} (h : okP d = true) (hz : d.size ≠ 0) : mayB (dirE d) = true := by
  unfold mayB dirE
  simp [h, hz]
  rfl
theorem kindI_nil (p : ByteArray) : kindI [] p = 0 := rfl
theorem kindI_append (a b : List En) (p : ByteArray) (ha : ∀ e ∈ a, mayB e = true) : kindI (a ++ b) p = if kindI a p = 0 then kindI b p else kindI a p := by
  unfold kindI
  rw [List.find?_append]
  cases h : a.find? (fun e => decide (e.path = p)) with
  | none => simp
  | some e =>
    have := mayB_kind (ha e (List.mem_of_find?_eq_some h))
    simp
    intro h0; omega
theorem kindI_one (e : En) (p : ByteArray) : kindI [e] p = if p = e.path then e.kind else 0 := by
  unfold kindI
  by_cases h : e.path = p
  · simp [h]
  · have : ¬ p = e.path := fun x => h x.symm
    simp [h, this]
theorem kindI_zero {t : List En} {p : ByteArray} (ht : ∀ e ∈ t, mayB e = true) : kindI t p = 0 ↔ ∀ e ∈ t, ¬ e.path = p := by
  unfold kindI
  constructor
  · intro h e he hp
    cases hf : t.find? (fun e => decide (e.path = p)) with
    | none => 
      have := List.find?_eq_none.1 hf e he
      simp [hp] at this
    | some x =>
      rw [hf] at h
      have := mayB_kind (ht x (List.mem_of_find?_eq_some hf))
      dsimp only at h
      omega
  · intro h
    rw [List.find?_eq_none.2 (fun e he => by simpa using h e he)]
theorem kindI_vals {t : List En} (ht : ∀ e ∈ t, mayB e = true) (p : ByteArray) : kindI t p = 0 ∨ kindI t p = 1 ∨ kindI t p = 2 ∨ kindI t p = 3 := by
  unfold kindI
  cases hf : t.find? (fun e => decide (e.path = p)) with
  | none => exact .inl rfl
  | some x => exact .inr (mayB_kind (ht x (List.mem_of_find?_eq_some hf)))
/-- A map that tells the kinds of a list. -/
def SeenMap (m : List (ByteArray × Int)) (t : List En) : Prop := ∀ p, mget m p = if kindI t p = 0 then none else some (kindI t p)
theorem SeenMap.nil : SeenMap [] [] := fun p => rfl
theorem SeenMap.look {m : List (ByteArray × Int)} {t : List En} (h : SeenMap m t) (p : ByteArray) : (mget m p).elim (.int .i64 0) intv = .int .i64 (kindI t p) := by
  rw [h p]
  split
  · rename_i h0; rw [h0]; rfl
  · rfl
theorem SeenMap.put {m : List (ByteArray × Int)} {t : List En} (h : SeenMap m t) (ht : ∀ e ∈ t, mayB e = true) {e : En} (he : mayB e = true) (h0 : kindI t e.path = 0) : SeenMap (mput m e.path e.kind) (t ++ [e]) := by
  intro p
  rw [mget_mput, kindI_append _ _ _ ht, kindI_one, h p]
  have := mayB_kind he
  by_cases hp : p = e.path
  · subst hp
    rw [if_pos rfl, if_pos rfl, if_pos h0, if_neg (by omega)]
  · rw [if_neg hp, if_neg hp]
    by_cases hk : kindI t p = 0
    · rw [if_pos hk, if_pos hk, if_pos rfl]
    · rw [if_neg hk, if_neg hk, if_neg hk]
end Go.Tk

set_option linter.unusedSectionVars false
set_option linter.unusedSimpArgs false
set_option linter.unusedVariables false
namespace Go.Tk
open Go.RowKit Go.Proofs

def psum : List En → Nat
  | [] => 0
  | e :: r => e.path.size + psum r
theorem psum_append (a b : List En) : psum (a ++ b) = psum a + psum b := by
  induction a with
  | nil => simp [psum]
  | cons e a ih => rw [List.cons_append, psum, psum, ih]; omega
theorem psum_take {t : List En} {i : Nat} {e : En} (g : Nth t i e) : psum (t.take (i + 1)) = psum (t.take i) + e.path.size := by
  rw [g.take, psum_append]; simp [psum]
theorem psum_le (t : List En) (i : Nat) : psum (t.take i) ≤ psum t := by
  conv => rhs; rw [← List.take_append_drop i t, psum_append]
  omega
theorem twins_cons (pre : List En) (e : En) (r : List En) : twins pre (e :: r) = if kindI pre e.path = 0 then twins (pre ++ [e]) r else true := rfl
theorem climbs_cons (out : List En) (e : En) (r : List En) : climbs out (e :: r) = (match climb e.path.size out (upP e.path) with | none => none | some o => climbs o r) := rfl
def climbT (n : Nat) (out : List En) (d : ByteArray) (r : List En) : Option (List En) := match climb n out d with | none => none | some o => climbs o r
theorem climbT_stop {n : Nat} {out : List En} {d : ByteArray} {r : List En} (h : d.size = 0) : climbT n out d r = climbs out r := by
  unfold climbT
  cases n with
  | zero => rfl
  | succ n => rw [climb, if_pos h]
theorem climbT_go {n : Nat} {out : List En} {d : ByteArray} {r : List En} (h : d.size ≠ 0) (hn : d.size ≤ n) : ∃ m, n = m + 1 ∧ (upP d).size ≤ m ∧ climbT n out d r = if kindI out d = 2 then climbT m out (upP d) r else if kindI out d = 0 then climbT m (out ++ [dirE d]) (upP d) r else none := by
  cases n with
  | zero => omega
  | succ m =>
    have := upP_lt h
    refine ⟨m, rfl, by omega, ?_⟩
    unfold climbT
    rw [climb, if_neg h]
    by_cases h2 : kindI out d = 2
    · rw [if_pos h2, if_pos h2]
    · rw [if_neg h2, if_neg h2]
      by_cases h0 : kindI out d = 0
      · rw [if_pos h0, if_pos h0]
      · rw [if_neg h0, if_neg h0]
/-- What stays true of the rows of entries on the way. -/
structure OutOk (out : List En) : Prop where
  may : ∀ e ∈ out, mayB e = true
  small : SmallE out
theorem OutOk.dir {out : List En} (h : OutOk out) {d : ByteArray} (hd : okP d = true) (hz : d.size ≠ 0) (hs : d.size ≤ 16777216) : OutOk (out ++ [dirE d]) :=
  ⟨fun e he => by
    rcases List.mem_append.1 he with h1 | h1
    · exact h.may e h1
    · rw [List.mem_singleton.1 h1]; exact mayB_dir hd hz,
   fun e he => by
    rcases List.mem_append.1 he with h1 | h1
    · exact h.small e h1
    · rw [List.mem_singleton.1 h1]; exact ⟨hs, Nat.zero_le _⟩⟩
structure MkSt where
  i : Nat
  A : Option Addr
  out : List En
  cap : Nat
structure ClSt where
  d : ByteArray
  A : Option Addr
  out : List En
  cap : Nat
section
variable {B : Base} {R H H1 : HL} {w w' : World}
def Mk0 (B : Base) (R : HL) (l : List En) (i : Nat) (w : World) : Prop := i ≤ l.length ∧ (∀ e ∈ l.take i, mayB e = true) ∧ Sh B R w
def Mk1 (B : Base) (R : HL) (mb : Nat) (l : List En) (T : Bool) (i : Nat) (w : World) : Prop :=
  ∃ es c m, i ≤ l.length ∧ twins (l.take i) (l.drop i) = T ∧ MapIs strkv intv es c m ∧ SeenMap m (l.take i) ∧ Sh B (mapB mb es c ++ R) w
def Mk2 (B : Base) (R : HL) (mb : Nat) (l : List En) (X : Option (List En)) (x : MkSt) (w : World) : Prop :=
  ∃ es c m sp, x.i ≤ l.length ∧ climbs x.out (l.drop x.i) = X ∧ MapIs strkv intv es c m ∧ SeenMap m x.out ∧ OutOk x.out ∧ x.out.length ≤ l.length + psum (l.take x.i) ∧ OwnSl enE x.A x.out sp x.cap ∧
    Sh B (rowA x.A (flat enE x.out ++ sp) 24 ++ (mapB mb es c ++ R)) w
def Mk3 (B : Base) (R : HL) (mb : Nat) (N : Nat) (r : List En) (X : Option (List En)) (x : ClSt) (w : World) : Prop :=
  ∃ es c m sp n, x.d.size ≤ n ∧ climbT n x.out x.d r = X ∧ okP x.d = true ∧ x.d.size ≤ 16777216 ∧ MapIs strkv intv es c m ∧ SeenMap m x.out ∧ OutOk x.out ∧ x.out.length + x.d.size ≤ N ∧ OwnSl enE x.A x.out sp x.cap ∧
    Sh B (rowA x.A (flat enE x.out ++ sp) 24 ++ (mapB mb es c ++ R)) w
def MakeP (B : Base) (R : HL) (x : Int × List En) (e : Ending) (w' : World) : Prop :=
  ∃ A sp cap, ∃ ys : List En, e = .returned (.tuple #[.slice A ys.length cap, .int .i64 x.1]) ∧ ys.Perm x.2 ∧ ys.Pairwise (fun x y => 0 ≤ lessI y.path x.path) ∧ OwnSl enE A ys sp cap ∧ Sh B (rowA A (flat enE ys ++ sp) 24 ++ R) w'
theorem MakeP.bad {n : Int} {w : World} (h : Sh B R w) : MakeP B R (n, []) (.returned (.tuple #[.slice none 0 0, .int .i64 n])) w :=
  ⟨none, [], 0, [], rfl, .refl _, .nil, OwnSl.nothing, h⟩
set_option maxRecDepth 100000 in
set_option maxHeartbeats 3200000 in
theorem TMake_any [HasML B] [NoDraw B] (hS : Sh B R w) {A : Option Addr} {cap : Nat} {l : List En} [r : RdAt enE B R A l] (hl : l.length + psum l ≤ 8388608) (hsm : SmallE l) :
    Calls Tryz.prog 26 #[.slice A l.length cap] w (MakeP B R (makeR l)) := by
  obtain ⟨X, hX⟩ : ∃ X, makeR l = X := ⟨_, rfl⟩
  rw [hX]
  have HX := Lib.hid hX
  have Hsm := Lib.hid hsm
  have Hl := Lib.hid hl
  have hll : l.length ≤ 8388608 := by omega
  clear hX hsm hl
  go_enter Tryz.func26, Tryz.ntmps26
  go_wp2
  have h0 : Mk0 B R l 0 _ := ⟨Nat.zero_le _, by simp, hS⟩
  clear hS
  refine wp_loopS [16] [2, 3, 5, 17, 18, 19, 20, 21, 22, 23] (fun i : Nat => [.int .i64 i]) (Mk0 B R l) (fun i => l.length - i) (0) rfl (h0) ?_
  clear h0
  rintro i J w ⟨hi, hall, hS⟩
  have Hall := Lib.hid hall
  clear hall
  (simp only [Frm, setsT, junkT, List.setIfInBounds_toArray, List.set_cons_zero, List.set_cons_succ])
  by_cases hlt : i < l.length
  · obtain ⟨e, ge⟩ := Nth.of hlt
    have hsz := Hsm.out e ge.mem
    have hpz := hsz.1
    have hmy := fun (w : World) (R : HL) (hS : Sh B R w) => May_any hS e hpz
    have Htk := Lib.hid ge.take
    have Hmem := Lib.hid ge.mem
    clear hsz
    by_cases hmb : mayB e = false
    · rw [hmb] at hmy
      have Hx := Lib.hid (show X = (50, []) by
        rw [← HX.out]
        unfold makeR
        rw [if_pos]
        rw [Bool.eq_false_iff]
        intro h
        have := List.all_eq_true.1 h e Hmem.out
        rw [hmb] at this
        cases this)
      clear hmb
      go_wp2_with (first | (refine wl_alloc rfl rfl hS ?_; intro eb _ hS; (try simp only [Act.put, List.setIfInBounds_toArray, List.set_cons_zero, List.set_cons_succ])) | (go_at_call 38; refine ((hmy _ _ hS)).mono ?_; rintro e w' (⟨rfl, hS⟩)) | (refine wl_isld rfl ?_; ((first | refine wl_value rfl (ex_lr hS rfl rfl rfl rfl) ?_ | refine wl_value rfl (ex_ldr0 hS rfl rfl rfl) ?_); (try simp only [Act.put, List.setIfInBounds_toArray, List.set_cons_zero, List.set_cons_succ]))) | ((refine wl_value rfl (ex_ix hS rfl rfl rfl ?_) ?_); (focus (rfl)); (try simp only [Act.put, List.setIfInBounds_toArray, List.set_cons_zero, List.set_cons_succ])) | (refine wl_strC rfl rfl rfl rfl hS rfl rfl ?_; intro _ hS; (try simp only [evT, evC, List.getD_cons_succ, List.getD_cons_zero, List.set_cons_zero, List.set_cons_succ] at hS); (try simp only [Act.put, List.setIfInBounds_toArray, List.set_cons_zero, List.set_cons_succ])))
      go_ret2
      rw [Hx.out]
      exact .bad hS.to
    have hm1 : mayB e = true := by cases h : mayB e; exact absurd h hmb; rfl
    rw [hm1] at hmy
    have Hall2 := Lib.hid (show ∀ x ∈ l.take (i + 1), mayB x = true by
      rw [Htk.out]
      intro x hx
      rcases List.mem_append.1 hx with h1 | h1
      · exact Hall.out x h1
      · rw [List.mem_singleton.1 h1]; exact hm1)
    clear hmb hm1
    go_wp2_with (first | (refine wl_alloc rfl rfl hS ?_; intro eb _ hS; (try simp only [Act.put, List.setIfInBounds_toArray, List.set_cons_zero, List.set_cons_succ])) | (go_at_call 38; refine ((hmy _ _ hS)).mono ?_; rintro e w' (⟨rfl, hS⟩)) | (refine wl_isld rfl ?_; ((first | refine wl_value rfl (ex_lr hS rfl rfl rfl rfl) ?_ | refine wl_value rfl (ex_ldr0 hS rfl rfl rfl) ?_); (try simp only [Act.put, List.setIfInBounds_toArray, List.set_cons_zero, List.set_cons_succ]))) | ((refine wl_value rfl (ex_ix hS rfl rfl rfl ?_) ?_); (focus (rfl)); (try simp only [Act.put, List.setIfInBounds_toArray, List.set_cons_zero, List.set_cons_succ])) | (refine wl_strC rfl rfl rfl rfl hS rfl rfl ?_; intro _ hS; (try simp only [evT, evC, List.getD_cons_succ, List.getD_cons_zero, List.set_cons_zero, List.set_cons_succ] at hS); (try simp only [Act.put, List.setIfInBounds_toArray, List.set_cons_zero, List.set_cons_succ])))
    (refine ⟨(i + 1), (⟨hlt, Hall2.out, hS.to⟩), (by (try dsimp only); omega), rfl, (by (simp only [blankT, junkT, List.cons_append, List.nil_append, List.setIfInBounds_toArray, List.set_cons_zero, List.set_cons_succ])), rfl⟩)
  have HM := Lib.hid (show ∀ e ∈ l, mayB e = true by
    have := Hall.out
    rwa [List.take_of_length_le (by omega)] at this)
  obtain ⟨T, hT⟩ : ∃ T, twins [] l = T := ⟨_, rfl⟩
  have HT := Lib.hid hT
  have hm : MapIs strkv intv #[] 0 ([] : List (ByteArray × Int)) := MapIs.empty
  clear hT
  go_wp2_with ((refine wl_makeMap rfl rfl hS ?_; intro mb _ hS; (try simp only [Act.put, List.setIfInBounds_toArray, List.set_cons_zero, List.set_cons_succ])))
  have h0 : Mk1 B R mb l T 0 _ := ⟨_, _, _, Nat.zero_le _, HT.out, hm, SeenMap.nil, hS⟩
  clear hS hm hlt hi
  refine wp_loopS [27] [2, 3, 8, 28, 29, 30, 31, 32, 33, 34, 35, 36, 37, 38, 39, 40, 41] (fun i : Nat => [.int .i64 i]) (Mk1 B R mb l T) (fun i => l.length - i) (0) rfl (h0) ?_
  clear h0
  rintro j J2 w ⟨es, c, m, hi, htw, hm, hsn, hS⟩
  have Hsn := Lib.hid hsn
  clear hsn
  (simp only [Frm, setsT, junkT, List.setIfInBounds_toArray, List.set_cons_zero, List.set_cons_succ])
  by_cases hlt : j < l.length
  · obtain ⟨e, ge⟩ := Nth.of hlt
    have Htk := Lib.hid ge.take
    have Hmem := Lib.hid ge.mem
    rw [ge.drop, twins_cons] at htw
    by_cases hk : kindI (l.take j) e.path = 0
    · rw [if_pos hk] at htw
      have Hlk := Lib.hid (show (mget m e.path).elim (.int .i64 0) intv = .int .i64 0 by rw [Hsn.out.look, hk])
      have Hs2 := Lib.hid (show SeenMap (mput m e.path e.kind) (l.take (j + 1)) by
        rw [Htk.out]
        exact Hsn.out.put (fun x hx => HM.out x (List.mem_of_mem_take hx)) (HM.out e Hmem.out) hk)
      rw [← ge.take] at htw
      have Htw := Lib.hid htw
      clear htw hk
      go_wp2_with (first | (refine wl_alloc rfl rfl hS ?_; intro eb _ hS; (try simp only [Act.put, List.setIfInBounds_toArray, List.set_cons_zero, List.set_cons_succ])) | (refine wl_lookup hm rfl rfl rfl rfl hS Hlk.out ?_; (try simp only [Act.put, List.setIfInBounds_toArray, List.set_cons_zero, List.set_cons_succ])) | (refine wl_mapUpdate (v := e.kind) hm rfl rfl rfl rfl rfl hS ?_; intro _ _ _ hS hm2; (try simp only [evT, evC, List.getD_cons_succ, List.getD_cons_zero, List.set_cons_zero, List.set_cons_succ] at hS); (try simp only [Act.put, List.setIfInBounds_toArray, List.set_cons_zero, List.set_cons_succ])) | (refine wl_isld rfl ?_; ((first | refine wl_value rfl (ex_ldC hS rfl rfl CellAt.out) ?_ | refine wl_value rfl (ex_lr hS rfl rfl rfl rfl) ?_); (try simp only [Act.put, List.setIfInBounds_toArray, List.set_cons_zero, List.set_cons_succ]))) | ((refine wl_value rfl (ex_ix hS rfl rfl rfl ?_) ?_); (focus (rfl)); (try simp only [Act.put, List.setIfInBounds_toArray, List.set_cons_zero, List.set_cons_succ])) | (refine wl_strC rfl rfl rfl rfl hS rfl rfl ?_; intro _ hS; (try simp only [evT, evC, List.getD_cons_succ, List.getD_cons_zero, List.set_cons_zero, List.set_cons_succ] at hS); (try simp only [Act.put, List.setIfInBounds_toArray, List.set_cons_zero, List.set_cons_succ])))
      (refine ⟨(j + 1), (⟨_, _, _, hlt, Htw.out, hm2, Hs2.out, hS.to⟩), (by (try dsimp only); omega), rfl, (by (simp only [blankT, junkT, List.cons_append, List.nil_append, List.setIfInBounds_toArray, List.set_cons_zero, List.set_cons_succ])), rfl⟩)
    · rw [if_neg hk] at htw
      have Hlk := Lib.hid (Hsn.out.look e.path)
      have d1 : (kindI (l.take j) e.path == 0) = false := beq_no hk
      have d2 : (kindI (l.take j) e.path != 0) = true := bne_no hk
      have Hx := Lib.hid (show X = (9, []) by
        rw [← HX.out]
        unfold makeR
        rw [if_neg, if_pos]
        · rw [HT.out]; exact htw.symm
        · rw [List.all_eq_true.2 HM.out]; decide)
      clear htw hk
      go_wp2_with (first | (refine wl_alloc rfl rfl hS ?_; intro eb _ hS; (try simp only [Act.put, List.setIfInBounds_toArray, List.set_cons_zero, List.set_cons_succ])) | (refine wl_lookup hm rfl rfl rfl rfl hS Hlk.out ?_; (try simp only [Act.put, List.setIfInBounds_toArray, List.set_cons_zero, List.set_cons_succ])) | (refine wl_isld rfl ?_; ((first | refine wl_value rfl (ex_ldC hS rfl rfl CellAt.out) ?_ | refine wl_value rfl (ex_lr hS rfl rfl rfl rfl) ?_); (try simp only [Act.put, List.setIfInBounds_toArray, List.set_cons_zero, List.set_cons_succ]))) | ((refine wl_value rfl (ex_ix hS rfl rfl rfl ?_) ?_); (focus (rfl)); (try simp only [Act.put, List.setIfInBounds_toArray, List.set_cons_zero, List.set_cons_succ])) | (refine wl_strC rfl rfl rfl rfl hS rfl rfl ?_; intro _ hS; (try simp only [evT, evC, List.getD_cons_succ, List.getD_cons_zero, List.set_cons_zero, List.set_cons_succ] at hS); (try simp only [Act.put, List.setIfInBounds_toArray, List.set_cons_zero, List.set_cons_succ])))
      go_ret2
      rw [Hx.out]
      exact .bad hS.to
  rw [List.drop_eq_nil_of_le (by omega), List.take_of_length_le (by omega)] at htw
  have Hsn2 := Lib.hid (show SeenMap m l by
    have := Hsn.out
    rwa [List.take_of_length_le (by omega)] at this)
  have Htw := Lib.hid (show T = false from htw.symm)
  clear htw
  obtain ⟨Y, hY⟩ : ∃ Y, climbs l l = Y := ⟨_, rfl⟩
  have HY := Lib.hid hY
  have HX2 := Lib.hid (show X = makeT Y by
    rw [← HX.out, ← hY]
    unfold makeR
    rw [if_neg, if_neg]
    · rw [HT.out, Htw.out]; decide
    · rw [List.all_eq_true.2 HM.out]; decide)
  have hcl := fun (w : World) (R : HL) (hS : Sh B R w) (r : RdAt enE B R A l) => CloneE_any hS (cap := cap) (t := l) (r := r) (by omega)
  clear hY
  go_wp2_with ((go_at_call 41; refine ((hcl _ _ hS inferInstance)).mono ?_; rintro e w' (⟨A2, sp2, cap2, rfl, hO, hS⟩)))
  have h0 : Mk2 B R mb l Y ⟨0, A2, l, cap2⟩ _ := ⟨_, _, _, _, Nat.zero_le _, HY.out, hm, Hsn2.out, ⟨HM.out, Hsm.out⟩, Nat.le_add_right _ _, hO, hS⟩
  clear hS hm hO hlt hi
  refine wp_loopS [9, 46] [2, 3, 11, 12, 47, 48, 49, 50, 51, 52, 53, 54, 55, 56, 57, 58, 59, 60, 61, 62, 63, 64, 65, 66, 67, 68, 69, 70, 71] (fun x : MkSt => [.slice x.A x.out.length x.cap, .int .i64 x.i]) (Mk2 B R mb l Y) (fun x => l.length - x.i) (⟨0, A2, l, cap2⟩) rfl (h0) ?_
  clear h0
  rintro ⟨i2, A3, out, cap3⟩ J3 w ⟨es, c, m, sp3, hi, hcs, hm, hsn, hok, hol, hO, hS⟩
  dsimp only at hi hcs hm hsn hok hol hO hS
  have Hsn := Lib.hid hsn
  have Hok := Lib.hid hok
  have hps := psum_le l i2
  have hl2 := Hl.out
  have holt : out.length ≤ 8388608 := by omega
  clear hsn hok hps hl2
  (simp only [Frm, setsT, junkT, List.setIfInBounds_toArray, List.set_cons_zero, List.set_cons_succ])
  by_cases hlt : i2 < l.length
  · obtain ⟨e, ge⟩ := Nth.of hlt
    have hpz := (Hsm.out e ge.mem).1
    have Hpt := Lib.hid (psum_take ge)
    have Hpl := Lib.hid (psum_le l (i2 + 1))
    have Hom := Lib.hid (mayB_ok (HM.out e ge.mem)).1
    rw [ge.drop, climbs_cons] at hcs
    have Hcs := Lib.hid (show climbT e.path.size out (upP e.path) (l.drop (i2 + 1)) = Y from hcs)
    have hup := fun (w : World) (R : HL) (hS : Sh B R w) => Up_any hS e.path hpz
    clear hcs
    go_wp2_with (first | (refine wl_alloc rfl rfl hS ?_; intro eb _ hS; (try simp only [Act.put, List.setIfInBounds_toArray, List.set_cons_zero, List.set_cons_succ])) | (go_at_call 40; refine ((hup _ _ hS)).mono ?_; rintro e w' (⟨rfl, hS⟩)) | (refine wl_isld rfl ?_; ((first | refine wl_value rfl (ex_ldC hS rfl rfl CellAt.out) ?_ | refine wl_value rfl (ex_lr hS rfl rfl rfl rfl) ?_); (try simp only [Act.put, List.setIfInBounds_toArray, List.set_cons_zero, List.set_cons_succ]))) | ((refine wl_value rfl (ex_ix hS rfl rfl rfl ?_) ?_); (focus (rfl)); (try simp only [Act.put, List.setIfInBounds_toArray, List.set_cons_zero, List.set_cons_succ])) | (refine wl_strC rfl rfl rfl rfl hS rfl rfl ?_; intro _ hS; (try simp only [evT, evC, List.getD_cons_succ, List.getD_cons_zero, List.set_cons_zero, List.set_cons_succ] at hS); (try simp only [Act.put, List.setIfInBounds_toArray, List.set_cons_zero, List.set_cons_succ])))
    have h0 : Mk3 B R mb (l.length + psum (l.take i2) + e.path.size) (l.drop (i2 + 1)) Y ⟨upP e.path, A3, out, cap3⟩ _ :=
      ⟨_, _, _, _, _, upP_le _, Hcs.out, upP_ok Hom.out, Nat.le_trans (upP_le _) hpz, hm, Hsn.out, Hok.out, (by have := upP_le e.path; show out.length + (upP e.path).size ≤ _; omega), hO, hS.to⟩
    clear hS hm hO hup
    refine wp_loopS [9, 12] [2, 3, 53, 54, 55, 56, 57, 58, 59, 60, 61, 62, 63, 64, 65, 66, 67, 68, 69, 70] (fun x : ClSt => [.slice x.A x.out.length x.cap, .string x.d]) (Mk3 B R mb (l.length + psum (l.take i2) + e.path.size) (l.drop (i2 + 1)) Y) (fun x => x.d.size) (⟨upP e.path, A3, out, cap3⟩) rfl (h0) ?_
    clear h0
    rintro ⟨d, A4, o4, cap4⟩ J4 w ⟨es, c, m, sp4, n, hn, hct, hod, hdz, hm, hsn, hok, hol2, hO, hS⟩
    dsimp only at hn hct hod hdz hm hsn hok hol2 hO hS
    have Hsn4 := Lib.hid hsn
    have Hok4 := Lib.hid hok
    have Hol4 := Lib.hid hol2
    have hl3 := Hl.out
    have ho4 : o4.length ≤ 8388608 := by have := Hpl.out; have := Hpt.out; omega
    clear hsn hok hol2 hl3
    (simp only [Frm, setsT, junkT, List.setIfInBounds_toArray, List.set_cons_zero, List.set_cons_succ])
    by_cases hd0 : d.size = 0
    · have hde : d.toList = [] := (empty_prop d).2 hd0
      have d1 : d.toList.isEmpty = true := by rw [hde]; rfl
      rw [climbT_stop hd0] at hct
      have Hct := Lib.hid hct
      have Hd0 := Lib.hid hd0
      clear hct hd0 hn
      go_wp2_with (fail)
      (refine ⟨((⟨i2 + 1, A4, o4, cap4⟩ : MkSt)), (⟨_, _, _, _, hlt, Hct.out, hm, Hsn4.out, Hok4.out, (by show o4.length ≤ l.length + psum (l.take (i2 + 1)); have := Hol4.out; have := Hpt.out; omega), hO, hS⟩), (by (try dsimp only); omega), rfl, (by (simp only [blankT, junkT, List.cons_append, List.nil_append, List.setIfInBounds_toArray, List.set_cons_zero, List.set_cons_succ])), rfl⟩)
    have hde : ¬ d.toList = [] := fun h => hd0 ((empty_prop d).1 h)
    have d1 : d.toList.isEmpty = false := by rw [empty_iff]; exact decide_eq_false hd0
    obtain ⟨k, hnk, hupk, hgo⟩ := climbT_go (out := o4) (r := l.drop (i2 + 1)) hd0 hn
    rw [hgo] at hct
    have hupl := upP_lt hd0
    have hup := fun (w : World) (R : HL) (hS : Sh B R w) => Up_any hS d hdz
    have Hupk := Lib.hid hupk
    have Hupl := Lib.hid hupl
    have Huo := Lib.hid (upP_ok hod)
    have Hod := Lib.hid hod
    have Hd0 := Lib.hid hd0
    clear hgo hnk hn hupk hupl hod hd0
    by_cases hk2 : kindI o4 d = 2
    · rw [if_pos hk2] at hct
      have Hct := Lib.hid hct
      have Hlk := Lib.hid (show (mget m d).elim (.int .i64 0) intv = .int .i64 2 by rw [Hsn4.out.look, hk2])
      clear hct hk2
      go_wp2_with (first | (refine wl_lookup hm rfl rfl rfl rfl hS Hlk.out ?_; (try simp only [Act.put, List.setIfInBounds_toArray, List.set_cons_zero, List.set_cons_succ])) | (go_at_call 40; refine ((hup _ _ hS)).mono ?_; rintro e w' (⟨rfl, hS⟩)))
      exact ⟨(⟨upP d, A4, o4, cap4⟩ : ClSt), ⟨_, _, _, _, _, Hupk.out, Hct.out, Huo.out, (by have := Hupl.out; show (upP d).size ≤ _; omega), hm, Hsn4.out, Hok4.out, (by have := Hupl.out; have := Hol4.out; show o4.length + (upP d).size ≤ _; omega), hO, hS⟩, Hupl.out, rfl, (by (simp only [blankT, junkT, List.cons_append, List.nil_append, List.setIfInBounds_toArray, List.set_cons_zero, List.set_cons_succ])), rfl⟩
    rw [if_neg hk2] at hct
    by_cases hk0 : kindI o4 d = 0
    · rw [if_pos hk0] at hct
      have Hct := Lib.hid hct
      have Hlk := Lib.hid (show (mget m d).elim (.int .i64 0) intv = .int .i64 0 by rw [Hsn4.out.look, hk0])
      have Hs5 := Lib.hid (show SeenMap (mput m d 2) (o4 ++ [dirE d]) from Hsn4.out.put Hok4.out.may (e := dirE d) (mayB_dir Hod.out Hd0.out) hk0)
      have Hok5 := Lib.hid (Hok4.out.dir Hod.out Hd0.out hdz)
      clear hct hk2 hk0
      go_wp2_with (first | (refine wl_lookup hm rfl rfl rfl rfl hS Hlk.out ?_; (try simp only [Act.put, List.setIfInBounds_toArray, List.set_cons_zero, List.set_cons_succ])) | (go_at_call 40; refine ((hup _ _ hS)).mono ?_; rintro e w' (⟨rfl, hS⟩)) | (refine wl_mapUpdate (v := ((2 : Int))) hm rfl rfl rfl rfl rfl hS ?_; intro _ _ _ hS hm2; (try simp only [evT, evC, List.getD_cons_succ, List.getD_cons_zero, List.set_cons_zero, List.set_cons_succ] at hS); (try simp only [Act.put, List.setIfInBounds_toArray, List.set_cons_zero, List.set_cons_succ])) | (refine wl_build ((enE.cells (dirE d))) _ rfl rfl (by simp only [List.map_toArray, List.map_cons, List.map_nil]; rfl) rfl ?_; (try simp only [Act.put, List.setIfInBounds_toArray, List.set_cons_zero, List.set_cons_succ])) | (refine wl_buildSlice (E := enE) ([dirE d]) rfl rfl (by simp only [List.map_toArray, List.map_cons, List.map_nil]; rfl) rfl (by decide) (by decide) hS ?_; intro _ _ hS hN; (try simp only [Act.put, List.setIfInBounds_toArray, List.set_cons_zero, List.set_cons_succ])) | (refine wl_ap (E := enE) rfl rfl rfl rfl hS ?_ ?_ ?_ ?_ ?_; (focus (rfl)); (focus (rfl)); (focus ((simp only [List.length_cons, List.length_nil]; omega))); (focus decide); intro _ _ _ _ hO2 hS; (try simp only [Act.put, List.setIfInBounds_toArray, List.set_cons_zero, List.set_cons_succ])))
      exact ⟨(⟨upP d, _, o4 ++ [dirE d], _⟩ : ClSt), ⟨_, _, _, _, _, Hupk.out, Hct.out, Huo.out, (by have := Hupl.out; show (upP d).size ≤ _; omega), hm2, Hs5.out, Hok5.out, (by have := Hupl.out; have := Hol4.out; show (o4 ++ [dirE d]).length + (upP d).size ≤ _; simp; omega), hO2, hS.to⟩, Hupl.out, (by dsimp only; rw [List.length_append]; rfl), (by (simp only [blankT, junkT, List.cons_append, List.nil_append, List.setIfInBounds_toArray, List.set_cons_zero, List.set_cons_succ])), rfl⟩
    rw [if_neg hk0] at hct
    have d2 : (kindI o4 d == 2) = false := beq_no hk2
    have d3 : (kindI o4 d == 0) = false := beq_no hk0
    have Hlk := Lib.hid (Hsn4.out.look d)
    have Hx := Lib.hid (show X = (52, []) by rw [HX2.out, ← hct]; rfl)
    clear hct hk2 hk0
    go_wp2_with ((refine wl_lookup hm rfl rfl rfl rfl hS Hlk.out ?_; (try simp only [Act.put, List.setIfInBounds_toArray, List.set_cons_zero, List.set_cons_succ])))
    go_ret2
    rw [Hx.out]
    exact .bad hS.to
  rw [List.drop_eq_nil_of_le (by omega)] at hcs
  have Hx := Lib.hid (show X = if fitsI out = 0 then (0, out) else (fitsI out, []) by rw [HX2.out, ← hcs]; rfl)
  have hft := fun (w : World) (R : HL) (hS : Sh B R w) (r : RdAt enE B R A3 out) => Fits_any hS (cap := cap3) (t := out) (r := r) (by omega) Hok.out.small
  clear hcs
  by_cases hf : fitsI out = 0
  · rw [if_pos hf] at Hx
    rw [hf] at hft
    have hso := fun (w : World) (H : HL) (hS : Sh B H w) (C : HL → HL) (hp : CtxRow H A3 (flat enE out ++ sp3) 24 C) => Sorted_any hO hS (hp := hp) (by omega) (fun e he => ⟨(mayB_ok (Hok.out.may e he)).1, (Hok.out.small e he).1⟩)
    clear hf
    go_wp2_with (first | (go_at_call 43; refine ((hft _ _ hS inferInstance)).mono ?_; rintro e w' (⟨rfl, hS⟩)) | (go_at_call 44; refine ((hso _ _ hS _ inferInstance)).mono ?_; rintro e w' (⟨rfl, ys, hper, hpw, hO2, hS⟩)))
    go_ret2
    rw [Hx.out]
    exact ⟨_, _, _, ys, (by rw [hper.length_eq] <;> rfl), hper, hpw, hO2, hS.to⟩
  · rw [if_neg hf] at Hx
    have d2 : (fitsI out == 0) = false := beq_no hf
    have d3 : (fitsI out != 0) = true := bne_no hf
    clear hf
    go_wp2_with ((go_at_call 43; refine ((hft _ _ hS inferInstance)).mono ?_; rintro e w' (⟨rfl, hS⟩)))
    go_ret2
    rw [Hx.out]
    exact .bad hS.to
end
end Go.Tk

set_option linter.unusedSectionVars false
set_option linter.unusedSimpArgs false
set_option linter.unusedVariables false
namespace Go.Tk
open Go.RowKit Go.Proofs

theorem ent_eq (a b : En) (n : Nat) (w : World) : (Op.equalIn (n + 2) 24 (.agg a.cells.toArray) (.agg b.cells.toArray)).run Tryz.prog w = .ok (decide (a = b)) w := by
  have e : decide (a = b) = ((a.path.toList == b.path.toList) && ((a.kind == b.kind) && ((a.data.toList == b.data.toList) && true))) := by
    rw [strEq, strEq]
    cases a; cases b
    rw [Bool.eq_iff_iff]
    simp
  rw [e]
  refine eq_struct Tryz.underlying24 (by kernel_rfl) ?_
  refine eqF_cons rfl (part_sc (t := 9) rfl) (part_sc (t := 9) rfl) (run_equalIn_string w _ _ _ _ Tryz.underlying9) ?_
  refine eqF_cons rfl (part_sc (t := 3) rfl) (part_sc (t := 3) rfl) (eq_int Tryz.underlying3) ?_
  refine eqF_cons rfl (part_sc (t := 9) rfl) (part_sc (t := 9) rfl) (run_equalIn_string w _ _ _ _ Tryz.underlying9) ?_
  exact eqF_nil
theorem eqE (a b : En) : EqA Tryz.prog 24 a.cells b.cells (decide (a = b)) := ⟨Tryz.eqGuardType24, fun w => ent_eq a b 9998 w⟩
theorem eqE_yes (a : En) : EqA Tryz.prog 24 a.cells a.cells true := by
  have := eqE a a
  rwa [decide_eq_true rfl] at this
theorem eqE_no {a b : En} (h : ¬ a = b) : EqA Tryz.prog 24 a.cells b.cells false := by
  have := eqE a b
  rwa [decide_eq_false h] at this
/-- Sorted rows of distinct paths are told by what they have. -/
theorem sorted_uniq : ∀ {ys zs : List En}, ys.Perm zs → ys.Pairwise (fun x y => 0 ≤ lessI y.path x.path) → zs.Pairwise (fun x y => 0 ≤ lessI y.path x.path) → (∀ e ∈ zs, okP e.path = true) → zs.Pairwise (fun x y => ¬ x.path = y.path) → ys = zs
  | [], zs, h, _, _, _, _ => (List.nil_perm.1 h).symm
  | y :: ys, zs, h, h1, h2, hok, hd => by
    cases zs with
    | nil => exact absurd h.length_eq (by simp)
    | cons z zs =>
      rw [List.pairwise_cons] at h1 h2 hd
      by_cases he : y = z
      · subst he
        rw [sorted_uniq (List.Perm.cons_inv h) h1.2 h2.2 (fun e he => hok e (List.mem_cons_of_mem _ he)) hd.2]
      · exfalso
        have hy : y ∈ zs := by
          rcases List.mem_cons.1 (h.subset (List.mem_cons_self ..)) with h3 | h3
          · exact absurd h3 he
          · exact h3
        have hz : z ∈ ys := by
          rcases List.mem_cons.1 (h.symm.subset (List.mem_cons_self ..)) with h3 | h3
          · exact absurd h3.symm he
          · exact h3
        have l1 := h1.1 z hz
        have l2 := h2.1 y hy
        have oy := hok y (List.mem_cons_of_mem _ hy)
        have oz := hok z (List.mem_cons_self ..)
        have := lessI_swap oy oz
        exact hd.1 y hy (lessI_eq oz oy (by omega))
def abE : En := ⟨⟨#[97, 47, 98]⟩, 1, ⟨#[120]⟩⟩
def aE : En := ⟨⟨#[97]⟩, 2, ⟨#[]⟩⟩
theorem make_ab : makeR [abE] = (0, [abE, aE]) := by decide +kernel
theorem check_ab : checkA [aE, abE] = (0, 0) := by decide +kernel
theorem size_ab : sizeI [aE, abE] = 1 := by decide +kernel
section
variable {B : Base} {R H H1 : HL} {w w' : World}
theorem Make_ab [HasML B] [NoDraw B] (hS : Sh B R w) {A : Option Addr} {cap : Nat} [r : RdAt enE B R A [abE]] :
    Calls Tryz.prog 26 #[.slice A 1 cap] w (fun e w' => ∃ A sp cap, e = .returned (.tuple #[.slice A 2 cap, .int .i64 0]) ∧ OwnSl enE A [aE, abE] sp cap ∧ Sh B (rowA A (flat enE [aE, abE] ++ sp) 24 ++ R) w') := by
  refine (TMake_any hS (l := [abE]) (cap := cap) (by decide) (by intro e he; rw [List.mem_singleton.1 he]; decide)).mono ?_
  rw [make_ab]
  rintro e w' ⟨A, sp, cap, ys, he, hp, hw, hO, hS⟩
  have : ys = [aE, abE] := sorted_uniq (hp.trans (List.Perm.swap _ _ _)) hw (by decide +kernel) (by decide +kernel) (by decide +kernel)
  subst this
  exact ⟨A, sp, cap, he, hO, hS⟩
set_option maxRecDepth 100000 in
set_option maxHeartbeats 1600000 in
theorem alive_any [HasML B] [NoDraw B] (hS : Sh B R w) : Calls Tryz.prog 6 #[] w fun e w' => e = .returned (.bool true) ∧ Sh B R w' := by
  have l1 := fun (w : World) (H : HL) (A : Option Addr) (cap : Nat) (hS : Sh B H w) (r : RdAt enE B H A [abE]) => Make_ab (cap := cap) hS (r := r)
  have hsm : SmallE [aE, abE] := by intro e he; simp only [List.mem_cons, List.not_mem_nil, or_false] at he; rcases he with rfl | rfl <;> decide
  have l2 := fun (w : World) (H : HL) (A : Option Addr) (cap : Nat) (hS : Sh B H w) (r : RdAt enE B H A [aE, abE]) => TCheck_any (cap := cap) hS (r := r) (by decide) hsm
  have l3 := fun (w : World) (H : HL) (A : Option Addr) (cap : Nat) (hS : Sh B H w) (r : RdAt enE B H A [aE, abE]) => TSize_any (cap := cap) hS (r := r) (by decide) hsm
  rw [check_ab] at l2
  rw [size_ab] at l3
  have g0 : Nth [aE, abE] 0 aE := ⟨rfl⟩
  have q1 : EqA Tryz.prog 24 (enE.cells aE) [.string ⟨#[97]⟩, .int .i64 2, .string ⟨#[]⟩] true := eqE_yes aE
  clear hsm
  go_enter Tryz.func6, Tryz.ntmps6
  go_wp2_with (first | (refine wl_buildSlice (E := enE) [abE] rfl rfl (by simp only [List.map_toArray, List.map_cons, List.map_nil]; rfl) rfl (by decide) (by decide) hS ?_; intro _ _ hS hN; (try simp only [Act.put, List.setIfInBounds_toArray, List.set_cons_zero, List.set_cons_succ])) | (go_at_call 26; refine ((l1 _ _ _ _ hS inferInstance)).mono ?_; rintro e w' (⟨A2, sp2, cap2, rfl, hO, hS⟩)) | (go_at_call 27; refine ((l2 _ _ _ _ hS inferInstance)).mono ?_; rintro e w' (⟨rfl, hS⟩)) | (go_at_call 24; refine ((l3 _ _ _ _ hS inferInstance)).mono ?_; rintro e w' (⟨rfl, hS⟩)) | (refine wl_isld rfl ?_; ((first | refine wl_value rfl (ex_l0 hS rfl rfl rfl CellAt.out) ?_ | refine wl_value rfl (ex_lf hS rfl rfl rfl CellAt.out) ?_ | refine wl_value rfl (ex_l1 hS rfl rfl rfl CellAt.out) ?_ | refine wl_value rfl (ex_ldC hS rfl rfl CellAt.out) ?_ | refine wl_value rfl (ex_l0 hS rfl rfl rfl rfl) ?_ | refine wl_value rfl (ex_lf hS rfl rfl rfl rfl) ?_ | refine wl_value rfl (ex_l1 hS rfl rfl rfl rfl) ?_ | refine wl_value rfl (ex_ldC hS rfl rfl rfl) ?_ | refine wl_value rfl (ex_l00 hS rfl rfl CellAt.out) ?_ | refine wl_value rfl (ex_l00 hS rfl rfl rfl) ?_ | refine wl_value rfl (ex_l0f hS rfl rfl CellAt.out) ?_ | refine wl_value rfl (ex_l0f hS rfl rfl rfl) ?_ | refine wl_value rfl (ex_lr hS rfl rfl rfl rfl) ?_ | refine wl_value rfl (ex_lr0 hS rfl rfl rfl) ?_ | refine wl_value rfl (ex_lrz hS rfl rfl rfl) ?_ | refine wl_value rfl (ex_lrf hS rfl rfl rfl) ?_ | refine wl_value rfl (ex_ldrC hS rfl rfl) ?_ | refine wl_value rfl (ex_ldr0 hS rfl rfl rfl) ?_); (try simp only [Act.put, List.setIfInBounds_toArray, List.set_cons_zero, List.set_cons_succ]))) | ((first | refine wl_value rfl (ex_ix hS rfl rfl rfl ?_) ?_); (focus (first | rfl | omega | (simp; done))); (try simp only [Act.put, List.setIfInBounds_toArray, List.set_cons_zero, List.set_cons_succ])) | ((first | refine wl_value rfl (ex_eqA rfl rfl rfl) ?_ | refine wl_value rfl (ex_neA rfl rfl rfl) ?_); (try simp only [Act.put, List.setIfInBounds_toArray, List.set_cons_zero, List.set_cons_succ])) | (refine wl_alloc rfl rfl hS ?_; intro _ _ hS; (try simp only [Act.put, List.setIfInBounds_toArray, List.set_cons_zero, List.set_cons_succ])) | (refine wl_box rfl rfl rfl rfl hS ?_; intro _ _ hS; (try simp only [Act.put, List.setIfInBounds_toArray, List.set_cons_zero, List.set_cons_succ])) | (refine wl_st rfl rfl rfl rfl rfl hS (of_decide_eq_true rfl) ?_; intro _ hS; (try simp only [evT, evC, List.getD_cons_succ, List.getD_cons_zero, List.set_cons_zero, List.set_cons_succ] at hS); (try simp only [List.set_cons_zero, List.set_cons_succ] at hS); (try simp only [Act.put, List.setIfInBounds_toArray, List.set_cons_zero, List.set_cons_succ])) | (refine wl_strC rfl rfl rfl rfl hS rfl rfl ?_; intro _ hS; (try simp only [evT, evC, List.getD_cons_succ, List.getD_cons_zero, List.set_cons_zero, List.set_cons_succ] at hS); (try simp only [Act.put, List.setIfInBounds_toArray, List.set_cons_zero, List.set_cons_succ])))
  go_ret
  exact ⟨rfl, hS.to⟩
end
end Go.Tk

set_option linter.unusedSectionVars false
set_option linter.unusedSimpArgs false
set_option linter.unusedVariables false
namespace Go.Tk
open Go.RowKit Go.Proofs

structure RightT (t : List En) : Prop where
  few : t.length ≤ 1024
  may : ∀ e ∈ t, mayB e = true
  sorted : SortedE t
  dirs : ∀ e ∈ t, isDirA t (upP e.path) = true
  fit : sumE t ≤ 1048576
theorem isDirA_mono {a b : List En} (h : ∀ e ∈ a, e ∈ b) {p : ByteArray} (hd : isDirA a p = true) : isDirA b p = true := by
  unfold isDirA at *
  rw [Bool.or_eq_true] at *
  rcases hd with h1 | h1
  · exact .inl h1
  · obtain ⟨e, he, h2⟩ := List.any_eq_true.1 h1
    exact .inr (List.any_eq_true.2 ⟨e, h e he, h2⟩)
theorem checkG_right (t : List En) : ∀ (r : List En) (i : Nat) (sum : Int), t.drop i = r → sum = sumE (t.take i) → sum ≤ 1048576 → (∀ x ∈ t.take i, mayB x = true) → SortedE (t.take i) → (∀ x ∈ t.take i, isDirA t (upP x.path) = true) →
    (checkG isDirA t i sum r).2 = 0 → checkG isDirA t i sum r = (0, 0) ∧ (∀ x ∈ t, mayB x = true) ∧ SortedE t ∧ (∀ x ∈ t, isDirA t (upP x.path) = true) ∧ sumE t ≤ 1048576
  | [], i, sum, hd, hsum, hle, hall, hs, hdir, _ => by
    have ht : t.take i = t := by
      have := List.drop_eq_nil_iff.1 hd
      exact List.take_of_length_le this
    rw [ht] at hsum hall hs hdir
    exact ⟨rfl, hall, hs, hdir, by omega⟩
  | e :: r, i, sum, hd, hsum, hle, hall, hs, hdir, hz => by
    have hi : t[i]? = some e := by have := congrArg (fun l => l[0]?) hd; simpa using this
    have hg : Nth t i e := ⟨hi⟩
    have hr : t.drop (i + 1) = r := by have := hg.drop; rw [hd] at this; exact (List.cons.inj this).2.symm
    rw [checkG_cons] at hz ⊢
    by_cases h1 : mayB e = false
    · rw [if_pos h1] at hz; dsimp only at hz; omega
    have hm : mayB e = true := by cases h : mayB e; exact absurd h h1; rfl
    rw [if_neg h1] at hz ⊢
    by_cases h2 : 0 < i ∧ ¬ lessI ((t.getD (i - 1) e).path) e.path < 0
    · rw [if_pos h2] at hz; dsimp only at hz; omega
    rw [if_neg h2] at hz ⊢
    by_cases h3 : isDirA (t.take i) (upP e.path) = false
    · rw [if_pos h3] at hz; dsimp only at hz; omega
    rw [if_neg h3] at hz ⊢
    by_cases h4 : 1048576 < sum + (e.data.size : Int)
    · rw [if_pos h4] at hz; dsimp only at hz; omega
    rw [if_neg h4] at hz ⊢
    have h3' : isDirA (t.take i) (upP e.path) = true := by cases h : isDirA (t.take i) (upP e.path); exact absurd h h3; rfl
    have hs2 : SortedE (t.take (i + 1)) := by
      rw [hg.take]
      refine sorted_snoc hall hm hs ?_
      intro f hf
      rw [List.getLast?_eq_getElem?, List.length_take, List.getElem?_take] at hf
      have hlt := hg.lt
      have hi0 : 0 < i := by
        rcases Nat.eq_zero_or_pos i with h0 | h0
        · subst h0; simp at hf
        · exact h0
      rw [show min i t.length = i by omega, if_pos (by omega)] at hf
      refine Classical.byContradiction fun h => h2 ⟨hi0, ?_⟩
      rw [List.getD_eq_getElem?_getD, hf, Option.getD_some]
      exact h
    refine checkG_right t r (i + 1) _ hr (by rw [sumE_take hg, hsum]) (by omega) (fun x hx => ?_) hs2 (fun x hx => ?_) hz
    · rw [hg.take] at hx
      rcases List.mem_append.1 hx with hx | hx
      · exact hall x hx
      · rw [List.mem_singleton] at hx; subst hx; exact hm
    · rw [hg.take] at hx
      rcases List.mem_append.1 hx with hx | hx
      · exact hdir x hx
      · rw [List.mem_singleton] at hx; subst hx; exact isDirA_mono (fun _ h => List.mem_of_mem_take h) h3'
theorem right_of {t : List En} (h : (checkA t).2 = 0) : checkA t = (0, 0) ∧ RightT t := by
  unfold checkA at *
  by_cases hb : 1024 < t.length
  · rw [if_pos hb] at h; exact absurd h (by decide)
  rw [if_neg hb] at h ⊢
  obtain ⟨h1, h2, h3, h4, h5⟩ := checkG_right t t 0 0 rfl (by simp [sumE]) (by decide) (by simp) (by simp [SortedE]) (by simp) h
  exact ⟨h1, by omega, h2, h3, h4, h5⟩
/-- Distinct paths. -/
def Dist (t : List En) : Prop := t.Pairwise fun x y => ¬ x.path = y.path
theorem SortedE.dist {t : List En} (h : SortedE t) : Dist t := h.imp fun {x y} h he => by rw [he, lessI_self] at h; omega
theorem Dist.perm {t l : List En} (h : Dist t) (hp : l.Perm t) : Dist l := (hp.pairwise_iff (R := fun x y : En => ¬ x.path = y.path) (fun {x y} h e => h e.symm)).2 h
theorem Dist.inj : ∀ {t : List En}, Dist t → ∀ {x y : En}, x ∈ t → y ∈ t → x.path = y.path → x = y
  | [], _, _, _, hx, _, _ => nomatch hx
  | z :: t, h, x, y, hx, hy, he => by
    unfold Dist at h
    rw [List.pairwise_cons] at h
    rcases List.mem_cons.1 hx with rfl | hx
    · rcases List.mem_cons.1 hy with rfl | hy
      · rfl
      · exact absurd he (h.1 y hy)
    · rcases List.mem_cons.1 hy with rfl | hy
      · exact absurd he.symm (h.1 x ‹_›)
      · exact Dist.inj h.2 ‹_› ‹_› he
theorem kindI_of {t : List En} (h : Dist t) {e : En} (he : e ∈ t) : kindI t e.path = e.kind := by
  unfold kindI
  cases hf : t.find? (fun x => decide (x.path = e.path)) with
  | none => have := List.find?_eq_none.1 hf e he; simp at this
  | some x =>
    have h1 := List.mem_of_find?_eq_some hf
    have h2 := List.find?_some hf
    rw [decide_eq_true_eq] at h2
    rw [h.inj h1 he h2]
theorem kindI_dir {t : List En} (h : Dist t) {p : ByteArray} (hz : p.size ≠ 0) (hd : isDirA t p = true) : kindI t p = 2 ∧ ∃ e ∈ t, e.path = p := by
  unfold isDirA at hd
  rw [Bool.or_eq_true, decide_eq_true_eq] at hd
  rcases hd with h1 | h1
  · exact absurd h1 hz
  · obtain ⟨e, he, h2⟩ := List.any_eq_true.1 h1
    simp only [Bool.and_eq_true, decide_eq_true_eq] at h2
    rw [← h2.2, kindI_of h he, h2.1]
    exact ⟨rfl, e, he, rfl⟩
theorem climb_stay {l : List En} (h : Dist l) (hd : ∀ e ∈ l, isDirA l (upP e.path) = true) : ∀ (n : Nat) (d : ByteArray), isDirA l d = true → climb n l d = some l
  | 0, d, _ => rfl
  | n + 1, d, hp => by
    rw [climb]
    by_cases h0 : d.size = 0
    · rw [if_pos h0]
    · obtain ⟨h1, e, he, rfl⟩ := kindI_dir h h0 hp
      rw [if_neg h0, if_pos h1]
      exact climb_stay h hd n _ (hd e he)
theorem climbs_stay {l : List En} (h : Dist l) (hd : ∀ e ∈ l, isDirA l (upP e.path) = true) : ∀ (r : List En), (∀ e ∈ r, e ∈ l) → climbs l r = some l
  | [], _ => rfl
  | e :: r, hr => by
    rw [climbs_cons, climb_stay h hd _ _ (hd e (hr e (by simp)))]
    exact climbs_stay h hd r fun x hx => hr x (List.mem_cons_of_mem _ hx)
theorem twins_no : ∀ (r pre : List En), (∀ e ∈ pre, mayB e = true) → (∀ e ∈ r, mayB e = true) → Dist (pre ++ r) → twins pre r = false
  | [], pre, _, _, _ => rfl
  | e :: r, pre, hp, hr, hd => by
    have h0 : kindI pre e.path = 0 := (kindI_zero hp).2 fun x hx hxe => by
      unfold Dist at hd
      rw [List.pairwise_append] at hd
      exact hd.2.2 x hx e (by simp) hxe
    rw [twins_cons, if_pos h0]
    refine twins_no r (pre ++ [e]) (fun x hx => ?_) (fun x hx => hr x (List.mem_cons_of_mem _ hx)) (by rw [List.append_assoc]; exact hd)
    rcases List.mem_append.1 hx with h1 | h1
    · exact hp x h1
    · rw [List.mem_singleton.1 h1]; exact hr e (by simp)
theorem makeR_right {t l : List En} (ht : RightT t) (hp : l.Perm t) : makeR l = (0, l) := by
  have hm : ∀ e ∈ l, mayB e = true := fun e he => ht.may e (hp.subset he)
  have hd := ht.sorted.dist.perm hp
  have hdir : ∀ e ∈ l, isDirA l (upP e.path) = true := fun e he => isDirA_mono (fun x hx => hp.symm.subset hx) (ht.dirs e (hp.subset he))
  unfold makeR
  rw [if_neg (by rw [List.all_eq_true.2 hm]; decide), if_neg (by rw [twins_no l [] (fun _ h => nomatch h) hm hd]; decide), climbs_stay hd hdir l (fun _ h => h)]
  have hf : fitsI l = 0 := by
    unfold fitsI
    rw [if_neg (by have := hp.length_eq; have := ht.few; omega), if_neg (by rw [sumE_perm hp]; have := ht.fit; omega)]
  unfold makeT
  dsimp only
  rw [if_pos hf]
theorem SortedE.le {t : List En} (h : SortedE t) (hok : ∀ e ∈ t, okP e.path = true) : t.Pairwise fun x y => 0 ≤ lessI y.path x.path := by
  refine List.Pairwise.imp_of_mem (fun {x y} hx hy hxy => ?_) h
  have := lessI_swap (hok x hx) (hok y hy)
  omega
theorem right_sorted {t ys : List En} (ht : RightT t) (hp : ys.Perm t) (hs : ys.Pairwise fun x y => 0 ≤ lessI y.path x.path) : ys = t :=
  sorted_uniq hp hs (ht.sorted.le fun e he => (mayB_ok (ht.may e he)).1) (fun e he => (mayB_ok (ht.may e he)).1) ht.sorted.dist
end Go.Tk

set_option linter.unusedSectionVars false
set_option linter.unusedSimpArgs false
set_option linter.unusedVariables false
namespace Go.Tk
open Go.RowKit Go.Proofs
instance (x : En) : RowOk (enE.cells x) 3 := ⟨rfl, enE.one x⟩
def cutA (A : Option Addr) (cap k : Nat) : Option Addr := if cap = 1 then A else A.map (·.add (1 * k))
theorem ex_cut1 {P : Program} {o : Oper} {ac : Act} {w : World} {t e k n cap : Nat} {x lo : Operand} {kk : IntKind} {A : Option Addr} [hsl : SlTy P t e k] (ho : o.op = .slice t x (some lo) none none) (hx : ac.eval x = .slice A n cap) (hh : ac.eval lo = .int kk 1) (hle : 1 ≤ n) :
    (execOp ac.eval o).run P w = .ok (.value (.slice (cutA A cap k) (n - 1) (cap - 1))) w := ex_cutL (l := 1) ho hx hh hle
theorem cutRd1 {α : Type} {E : Enc α} {B : Base} {H : HL} {A : Option Addr} {cap : Nat} {xs : List α} (r : RdAt E B H A xs) (hc : xs.length ≤ cap) : RdAt E B H (cutA A cap E.k) (xs.drop 1) := by
  unfold cutA
  by_cases h : cap = 1
  · rw [List.drop_eq_nil_of_le (by omega)]
    exact RdAt.nil
  · rw [if_neg h]
    exact r.drop 1
theorem Nth.cons {α : Type} {a : List α} {x : α} (g : Nth a 0 x) : a = x :: a.drop 1 := by have := g.drop; rwa [List.drop_zero] at this
end Go.Tk

set_option linter.unusedSectionVars false
set_option linter.unusedSimpArgs false
set_option linter.unusedVariables false
namespace Go.Tk
open Go.RowKit Go.Proofs
theorem leE_trans {x y z : En} (hx : okP x.path = true) (hy : okP y.path = true) (hz : okP z.path = true) (h1 : 0 ≤ lessI y.path x.path) (h2 : 0 ≤ lessI z.path y.path) : 0 ≤ lessI z.path x.path := by
  obtain ⟨a, ha⟩ := okP_some hx
  obtain ⟨b, hb⟩ := okP_some hy
  obtain ⟨c, hc⟩ := okP_some hz
  rw [lessI_of hb ha] at h1
  rw [lessI_of hc hb] at h2
  rw [lessI_of hc ha]
  have s1 := cmpL_swap b a
  have s2 := cmpL_swap c b
  have s3 := cmpL_swap c a
  have := (cmpL_trans (x := a) (y := b) (z := c) (by omega) (by omega)).1
  omega
def mergeE : List En → List En → List En
  | [], b => b
  | a :: r, [] => a :: r
  | a :: r, b :: s => if lessI b.path a.path < 0 then b :: mergeE (a :: r) s else a :: mergeE r (b :: s)
termination_by a b => a.length + b.length
theorem mergeE_l (b : List En) : mergeE [] b = b := by rw [mergeE]
theorem mergeE_r (a : List En) : mergeE a [] = a := by cases a <;> rw [mergeE]
theorem mergeE_c (a b : En) (r s : List En) : mergeE (a :: r) (b :: s) = if lessI b.path a.path < 0 then b :: mergeE (a :: r) s else a :: mergeE r (b :: s) := by rw [mergeE]
theorem mergeE_perm (a b : List En) : (mergeE a b).Perm (a ++ b) := by
  induction a, b using mergeE.induct with
  | case1 b => rw [mergeE_l]; exact .refl _
  | case2 a r => rw [mergeE_r, List.append_nil]
  | case3 a r b s h ih => rw [mergeE_c, if_pos h]; exact (List.Perm.cons b ih).trans List.perm_middle.symm
  | case4 a r b s h ih => rw [mergeE_c, if_neg h]; exact List.Perm.cons a ih
theorem mergeE_sorted (a b : List En) (ha : ∀ e ∈ a, okP e.path = true) (hb : ∀ e ∈ b, okP e.path = true) (h1 : a.Pairwise fun x y => 0 ≤ lessI y.path x.path) (h2 : b.Pairwise fun x y => 0 ≤ lessI y.path x.path) :
    (mergeE a b).Pairwise fun x y => 0 ≤ lessI y.path x.path := by
  induction a, b using mergeE.induct with
  | case1 b => rw [mergeE_l]; exact h2
  | case2 a r => rw [mergeE_r]; exact h1
  | case3 a r b s h ih =>
    have oa := ha a (by simp)
    have ob := hb b (by simp)
    rw [mergeE_c, if_pos h, List.pairwise_cons]
    rw [List.pairwise_cons] at h2
    have hab : 0 ≤ lessI a.path b.path := by have := lessI_swap ob oa; omega
    refine ⟨fun z hz => ?_, ih ha (fun e he => hb e (List.mem_cons_of_mem _ he)) h1 h2.2⟩
    rcases List.mem_append.1 ((mergeE_perm _ _).subset hz) with h3 | h3
    · rcases List.mem_cons.1 h3 with rfl | h4
      · exact hab
      · exact leE_trans ob oa (ha z h3) hab ((List.pairwise_cons.1 h1).1 z h4)
    · exact h2.1 z h3
  | case4 a r b s h ih =>
    have oa := ha a (by simp)
    have ob := hb b (by simp)
    rw [mergeE_c, if_neg h, List.pairwise_cons]
    rw [List.pairwise_cons] at h1
    refine ⟨fun z hz => ?_, ih (fun e he => ha e (List.mem_cons_of_mem _ he)) hb h1.2 h2⟩
    rcases List.mem_append.1 ((mergeE_perm _ _).subset hz) with h3 | h3
    · exact h1.1 z h3
    · rcases List.mem_cons.1 h3 with rfl | h4
      · omega
      · exact leE_trans oa ob (hb z h3) (by omega) ((List.pairwise_cons.1 h2).1 z h4)
theorem cutRdL {α : Type} {E : Enc α} {B : Base} {H : HL} {A : Option Addr} {cap l : Nat} {xs : List α} (r : RdAt E B H A xs) (hc : xs.length ≤ cap) : RdAt E B H (if cap = l then A else A.map (·.add (l * E.k))) (xs.drop l) := by
  by_cases h : cap = l
  · rw [List.drop_eq_nil_of_le (by omega)]
    exact RdAt.nil
  · rw [if_neg h]
    exact r.drop l
end Go.Tk
