/- tree.Make. -/
import Derived.Test.YtclmemhginekbaaDoorP16
set_option linter.unusedSectionVars false
set_option linter.unusedSimpArgs false
set_option linter.unusedVariables false
namespace Go.Tk
open Go.RowKit Go.Proofs

def psum : List En → Nat
  | [] => 0
  | e :: r => e.path.size + psum r
theorem psum_append (a b : List En) : psum (a ++ b) = psum a + psum b := by
  induction a with
  | nil => simp [psum]
  | cons e a ih => rw [List.cons_append, psum, psum, ih]; omega
theorem psum_take {t : List En} {i : Nat} {e : En} (g : Nth t i e) : psum (t.take (i + 1)) = psum (t.take i) + e.path.size := by
  rw [g.take, psum_append]; simp [psum]
theorem psum_le (t : List En) (i : Nat) : psum (t.take i) ≤ psum t := by
  conv => rhs; rw [← List.take_append_drop i t, psum_append]
  omega
theorem twins_cons (pre : List En) (e : En) (r : List En) : twins pre (e :: r) = if kindI pre e.path = 0 then twins (pre ++ [e]) r else true := rfl
theorem climbs_cons (out : List En) (e : En) (r : List En) : climbs out (e :: r) = (match climb e.path.size out (upP e.path) with | none => none | some o => climbs o r) := rfl
def climbT (n : Nat) (out : List En) (d : ByteArray) (r : List En) : Option (List En) := match climb n out d with | none => none | some o => climbs o r
theorem climbT_stop {n : Nat} {out : List En} {d : ByteArray} {r : List En} (h : d.size = 0) : climbT n out d r = climbs out r := by
  unfold climbT
  cases n with
  | zero => rfl
  | succ n => rw [climb, if_pos h]
theorem climbT_go {n : Nat} {out : List En} {d : ByteArray} {r : List En} (h : d.size ≠ 0) (hn : d.size ≤ n) : ∃ m, n = m + 1 ∧ (upP d).size ≤ m ∧ climbT n out d r = if kindI out d = 2 then climbT m out (upP d) r else if kindI out d = 0 then climbT m (out ++ [dirE d]) (upP d) r else none := by
  cases n with
  | zero => omega
  | succ m =>
    have := upP_lt h
    refine ⟨m, rfl, by omega, ?_⟩
    unfold climbT
    rw [climb, if_neg h]
    by_cases h2 : kindI out d = 2
    · rw [if_pos h2, if_pos h2]
    · rw [if_neg h2, if_neg h2]
      by_cases h0 : kindI out d = 0
      · rw [if_pos h0, if_pos h0]
      · rw [if_neg h0, if_neg h0]
/-- What stays true of the rows of entries on the way. -/
structure OutOk (out : List En) : Prop where
  may : ∀ e ∈ out, mayB e = true
  small : SmallE out
theorem OutOk.dir {out : List En} (h : OutOk out) {d : ByteArray} (hd : okP d = true) (hz : d.size ≠ 0) (hs : d.size ≤ 16777216) : OutOk (out ++ [dirE d]) :=
  ⟨fun e he => by
    rcases List.mem_append.1 he with h1 | h1
    · exact h.may e h1
    · rw [List.mem_singleton.1 h1]; exact mayB_dir hd hz,
   fun e he => by
    rcases List.mem_append.1 he with h1 | h1
    · exact h.small e h1
    · rw [List.mem_singleton.1 h1]; exact ⟨hs, Nat.zero_le _⟩⟩
structure MkSt where
  i : Nat
  A : Option Addr
  out : List En
  cap : Nat
structure ClSt where
  d : ByteArray
  A : Option Addr
  out : List En
  cap : Nat
section
variable {B : Base} {R H H1 : HL} {w w' : World}
def Mk0 (B : Base) (R : HL) (l : List En) (i : Nat) (w : World) : Prop := i ≤ l.length ∧ (∀ e ∈ l.take i, mayB e = true) ∧ Sh B R w
def Mk1 (B : Base) (R : HL) (mb : Nat) (l : List En) (T : Bool) (i : Nat) (w : World) : Prop :=
  ∃ es c m, i ≤ l.length ∧ twins (l.take i) (l.drop i) = T ∧ MapIs strkv intv es c m ∧ SeenMap m (l.take i) ∧ Sh B (mapB mb es c ++ R) w
def Mk2 (B : Base) (R : HL) (mb : Nat) (l : List En) (X : Option (List En)) (x : MkSt) (w : World) : Prop :=
  ∃ es c m sp, x.i ≤ l.length ∧ climbs x.out (l.drop x.i) = X ∧ MapIs strkv intv es c m ∧ SeenMap m x.out ∧ OutOk x.out ∧ x.out.length ≤ l.length + psum (l.take x.i) ∧ OwnSl enE x.A x.out sp x.cap ∧
    Sh B (rowA x.A (flat enE x.out ++ sp) 37 ++ (mapB mb es c ++ R)) w
def Mk3 (B : Base) (R : HL) (mb : Nat) (N : Nat) (r : List En) (X : Option (List En)) (x : ClSt) (w : World) : Prop :=
  ∃ es c m sp n, x.d.size ≤ n ∧ climbT n x.out x.d r = X ∧ okP x.d = true ∧ x.d.size ≤ 16777216 ∧ MapIs strkv intv es c m ∧ SeenMap m x.out ∧ OutOk x.out ∧ x.out.length + x.d.size ≤ N ∧ OwnSl enE x.A x.out sp x.cap ∧
    Sh B (rowA x.A (flat enE x.out ++ sp) 37 ++ (mapB mb es c ++ R)) w
def MakeP (B : Base) (R : HL) (x : Int × List En) (e : Ending) (w' : World) : Prop :=
  ∃ A sp cap, ∃ ys : List En, e = .returned (.tuple #[.slice A ys.length cap, .int .i64 x.1]) ∧ ys.Perm x.2 ∧ ys.Pairwise (fun x y => 0 ≤ lessI y.path x.path) ∧ OwnSl enE A ys sp cap ∧ Sh B (rowA A (flat enE ys ++ sp) 37 ++ R) w'
theorem MakeP.bad {n : Int} {w : World} (h : Sh B R w) : MakeP B R (n, []) (.returned (.tuple #[.slice none 0 0, .int .i64 n])) w :=
  ⟨none, [], 0, [], rfl, .refl _, .nil, OwnSl.nothing, h⟩
set_option maxRecDepth 100000 in
set_option maxHeartbeats 3200000 in
theorem TMake_any [HasML B] [NoDraw B] (hS : Sh B R w) {A : Option Addr} {cap : Nat} {l : List En} [r : RdAt enE B R A l] (hl : l.length + psum l ≤ 8388608) (hsm : SmallE l) :
    Calls Tryd.prog 15 #[.slice A l.length cap] w (MakeP B R (makeR l)) := by
  obtain ⟨X, hX⟩ : ∃ X, makeR l = X := ⟨_, rfl⟩
  rw [hX]
  have HX := Lib.hid hX
  have Hsm := Lib.hid hsm
  have Hl := Lib.hid hl
  have hll : l.length ≤ 8388608 := by omega
  clear hX hsm hl
  go_enter Tryd.func15, Tryd.ntmps15
  go_wp2
  have h0 : Mk0 B R l 0 _ := ⟨Nat.zero_le _, by simp, hS⟩
  clear hS
  refine wp_loopS [16] [2, 3, 5, 17, 18, 19, 20, 21, 22, 23] (fun i : Nat => [.int .i64 i]) (Mk0 B R l) (fun i => l.length - i) (0) rfl (h0) ?_
  clear h0
  rintro i J w ⟨hi, hall, hS⟩
  have Hall := Lib.hid hall
  clear hall
  (simp only [Frm, setsT, junkT, List.setIfInBounds_toArray, List.set_cons_zero, List.set_cons_succ])
  by_cases hlt : i < l.length
  · obtain ⟨e, ge⟩ := Nth.of hlt
    have hsz := Hsm.out e ge.mem
    have hpz := hsz.1
    have hmy := fun (w : World) (R : HL) (hS : Sh B R w) => May_any hS e hpz
    have Htk := Lib.hid ge.take
    have Hmem := Lib.hid ge.mem
    clear hsz
    by_cases hmb : mayB e = false
    · rw [hmb] at hmy
      have Hx := Lib.hid (show X = (50, []) by
        rw [← HX.out]
        unfold makeR
        rw [if_pos]
        rw [Bool.eq_false_iff]
        intro h
        have := List.all_eq_true.1 h e Hmem.out
        rw [hmb] at this
        cases this)
      clear hmb
      go_wp2_with (first | (refine wl_alloc rfl rfl hS ?_; intro eb _ hS; (try simp only [Act.put, List.setIfInBounds_toArray, List.set_cons_zero, List.set_cons_succ])) | (go_at_call 31; refine ((hmy _ _ hS)).mono ?_; rintro e w' (⟨rfl, hS⟩)) | (refine wl_isld rfl ?_; ((first | refine wl_value rfl (ex_l0 hS rfl rfl rfl CellAt.out) ?_ | refine wl_value rfl (ex_lf hS rfl rfl rfl CellAt.out) ?_ | refine wl_value rfl (ex_l1 hS rfl rfl rfl CellAt.out) ?_ | refine wl_value rfl (ex_ldC hS rfl rfl CellAt.out) ?_ | refine wl_value rfl (ex_l0 hS rfl rfl rfl rfl) ?_ | refine wl_value rfl (ex_lf hS rfl rfl rfl rfl) ?_ | refine wl_value rfl (ex_l1 hS rfl rfl rfl rfl) ?_ | refine wl_value rfl (ex_ldC hS rfl rfl rfl) ?_ | refine wl_value rfl (ex_l00 hS rfl rfl CellAt.out) ?_ | refine wl_value rfl (ex_l00 hS rfl rfl rfl) ?_ | refine wl_value rfl (ex_l0f hS rfl rfl CellAt.out) ?_ | refine wl_value rfl (ex_l0f hS rfl rfl rfl) ?_ | refine wl_value rfl (ex_lr hS rfl rfl rfl rfl) ?_ | refine wl_value rfl (ex_lr0 hS rfl rfl rfl) ?_ | refine wl_value rfl (ex_lrz hS rfl rfl rfl) ?_ | refine wl_value rfl (ex_lrf hS rfl rfl rfl) ?_ | refine wl_value rfl (ex_ldrC hS rfl rfl) ?_ | refine wl_value rfl (ex_ldr0 hS rfl rfl rfl) ?_); (try simp only [Act.put, List.setIfInBounds_toArray, List.set_cons_zero, List.set_cons_succ]))) | ((first | refine wl_value rfl (ex_ix hS rfl rfl rfl ?_) ?_); (focus (first | rfl | omega | (simp; done))); (try simp only [Act.put, List.setIfInBounds_toArray, List.set_cons_zero, List.set_cons_succ])) | ((first | refine wl_value rfl (ex_eqA rfl rfl rfl) ?_ | refine wl_value rfl (ex_neA rfl rfl rfl) ?_); (try simp only [Act.put, List.setIfInBounds_toArray, List.set_cons_zero, List.set_cons_succ])) | (refine wl_alloc rfl rfl hS ?_; intro _ _ hS; (try simp only [Act.put, List.setIfInBounds_toArray, List.set_cons_zero, List.set_cons_succ])) | (refine wl_box rfl rfl rfl rfl hS ?_; intro _ _ hS; (try simp only [Act.put, List.setIfInBounds_toArray, List.set_cons_zero, List.set_cons_succ])) | (refine wl_st rfl rfl rfl rfl rfl hS (of_decide_eq_true rfl) ?_; intro _ hS; (try simp only [evT, evC, List.getD_cons_succ, List.getD_cons_zero, List.set_cons_zero, List.set_cons_succ] at hS); (try simp only [List.set_cons_zero, List.set_cons_succ] at hS); (try simp only [Act.put, List.setIfInBounds_toArray, List.set_cons_zero, List.set_cons_succ])) | (refine wl_strC rfl rfl rfl rfl hS rfl rfl ?_; intro _ hS; (try simp only [evT, evC, List.getD_cons_succ, List.getD_cons_zero, List.set_cons_zero, List.set_cons_succ] at hS); (try simp only [Act.put, List.setIfInBounds_toArray, List.set_cons_zero, List.set_cons_succ])))
      go_ret2
      rw [Hx.out]
      exact .bad hS.to
    have hm1 : mayB e = true := by cases h : mayB e; exact absurd h hmb; rfl
    rw [hm1] at hmy
    have Hall2 := Lib.hid (show ∀ x ∈ l.take (i + 1), mayB x = true by
      rw [Htk.out]
      intro x hx
      rcases List.mem_append.1 hx with h1 | h1
      · exact Hall.out x h1
      · rw [List.mem_singleton.1 h1]; exact hm1)
    clear hmb hm1
    go_wp2_with (first | (refine wl_alloc rfl rfl hS ?_; intro eb _ hS; (try simp only [Act.put, List.setIfInBounds_toArray, List.set_cons_zero, List.set_cons_succ])) | (go_at_call 31; refine ((hmy _ _ hS)).mono ?_; rintro e w' (⟨rfl, hS⟩)) | (refine wl_isld rfl ?_; ((first | refine wl_value rfl (ex_l0 hS rfl rfl rfl CellAt.out) ?_ | refine wl_value rfl (ex_lf hS rfl rfl rfl CellAt.out) ?_ | refine wl_value rfl (ex_l1 hS rfl rfl rfl CellAt.out) ?_ | refine wl_value rfl (ex_ldC hS rfl rfl CellAt.out) ?_ | refine wl_value rfl (ex_l0 hS rfl rfl rfl rfl) ?_ | refine wl_value rfl (ex_lf hS rfl rfl rfl rfl) ?_ | refine wl_value rfl (ex_l1 hS rfl rfl rfl rfl) ?_ | refine wl_value rfl (ex_ldC hS rfl rfl rfl) ?_ | refine wl_value rfl (ex_l00 hS rfl rfl CellAt.out) ?_ | refine wl_value rfl (ex_l00 hS rfl rfl rfl) ?_ | refine wl_value rfl (ex_l0f hS rfl rfl CellAt.out) ?_ | refine wl_value rfl (ex_l0f hS rfl rfl rfl) ?_ | refine wl_value rfl (ex_lr hS rfl rfl rfl rfl) ?_ | refine wl_value rfl (ex_lr0 hS rfl rfl rfl) ?_ | refine wl_value rfl (ex_lrz hS rfl rfl rfl) ?_ | refine wl_value rfl (ex_lrf hS rfl rfl rfl) ?_ | refine wl_value rfl (ex_ldrC hS rfl rfl) ?_ | refine wl_value rfl (ex_ldr0 hS rfl rfl rfl) ?_); (try simp only [Act.put, List.setIfInBounds_toArray, List.set_cons_zero, List.set_cons_succ]))) | ((first | refine wl_value rfl (ex_ix hS rfl rfl rfl ?_) ?_); (focus (first | rfl | omega | (simp; done))); (try simp only [Act.put, List.setIfInBounds_toArray, List.set_cons_zero, List.set_cons_succ])) | ((first | refine wl_value rfl (ex_eqA rfl rfl rfl) ?_ | refine wl_value rfl (ex_neA rfl rfl rfl) ?_); (try simp only [Act.put, List.setIfInBounds_toArray, List.set_cons_zero, List.set_cons_succ])) | (refine wl_alloc rfl rfl hS ?_; intro _ _ hS; (try simp only [Act.put, List.setIfInBounds_toArray, List.set_cons_zero, List.set_cons_succ])) | (refine wl_box rfl rfl rfl rfl hS ?_; intro _ _ hS; (try simp only [Act.put, List.setIfInBounds_toArray, List.set_cons_zero, List.set_cons_succ])) | (refine wl_st rfl rfl rfl rfl rfl hS (of_decide_eq_true rfl) ?_; intro _ hS; (try simp only [evT, evC, List.getD_cons_succ, List.getD_cons_zero, List.set_cons_zero, List.set_cons_succ] at hS); (try simp only [List.set_cons_zero, List.set_cons_succ] at hS); (try simp only [Act.put, List.setIfInBounds_toArray, List.set_cons_zero, List.set_cons_succ])) | (refine wl_strC rfl rfl rfl rfl hS rfl rfl ?_; intro _ hS; (try simp only [evT, evC, List.getD_cons_succ, List.getD_cons_zero, List.set_cons_zero, List.set_cons_succ] at hS); (try simp only [Act.put, List.setIfInBounds_toArray, List.set_cons_zero, List.set_cons_succ])))
    (refine ⟨(i + 1), (⟨hlt, Hall2.out, hS.to⟩), (by (try dsimp only); omega), rfl, (by (simp only [blankT, junkT, List.cons_append, List.nil_append, List.setIfInBounds_toArray, List.set_cons_zero, List.set_cons_succ])), rfl⟩)
  have HM := Lib.hid (show ∀ e ∈ l, mayB e = true by
    have := Hall.out
    rwa [List.take_of_length_le (by omega)] at this)
  obtain ⟨T, hT⟩ : ∃ T, twins [] l = T := ⟨_, rfl⟩
  have HT := Lib.hid hT
  have hm : MapIs strkv intv #[] 0 ([] : List (ByteArray × Int)) := MapIs.empty
  clear hT
  go_wp2_with (first | (refine wl_makeMap rfl rfl hS ?_; intro mb _ hS; (try simp only [Act.put, List.setIfInBounds_toArray, List.set_cons_zero, List.set_cons_succ])))
  have h0 : Mk1 B R mb l T 0 _ := ⟨_, _, _, Nat.zero_le _, HT.out, hm, SeenMap.nil, hS⟩
  clear hS hm hlt hi
  refine wp_loopS [27] [2, 3, 8, 28, 29, 30, 31, 32, 33, 34, 35, 36, 37, 38, 39, 40, 41] (fun i : Nat => [.int .i64 i]) (Mk1 B R mb l T) (fun i => l.length - i) (0) rfl (h0) ?_
  clear h0
  rintro j J2 w ⟨es, c, m, hi, htw, hm, hsn, hS⟩
  have Hsn := Lib.hid hsn
  clear hsn
  (simp only [Frm, setsT, junkT, List.setIfInBounds_toArray, List.set_cons_zero, List.set_cons_succ])
  by_cases hlt : j < l.length
  · obtain ⟨e, ge⟩ := Nth.of hlt
    have Htk := Lib.hid ge.take
    have Hmem := Lib.hid ge.mem
    rw [ge.drop, twins_cons] at htw
    by_cases hk : kindI (l.take j) e.path = 0
    · rw [if_pos hk] at htw
      have Hlk := Lib.hid (show (mget m e.path).elim (.int .i64 0) intv = .int .i64 0 by rw [Hsn.out.look, hk])
      have Hs2 := Lib.hid (show SeenMap (mput m e.path e.kind) (l.take (j + 1)) by
        rw [Htk.out]
        exact Hsn.out.put (fun x hx => HM.out x (List.mem_of_mem_take hx)) (HM.out e Hmem.out) hk)
      rw [← ge.take] at htw
      have Htw := Lib.hid htw
      clear htw hk
      go_wp2_with (first | (refine wl_alloc rfl rfl hS ?_; intro eb _ hS; (try simp only [Act.put, List.setIfInBounds_toArray, List.set_cons_zero, List.set_cons_succ])) | (refine wl_lookup hm rfl rfl rfl rfl hS Hlk.out ?_; (try simp only [Act.put, List.setIfInBounds_toArray, List.set_cons_zero, List.set_cons_succ])) | (refine wl_mapUpdate (v := e.kind) hm rfl rfl rfl rfl rfl hS ?_; intro _ _ _ hS hm2; (try simp only [evT, evC, List.getD_cons_succ, List.getD_cons_zero, List.set_cons_zero, List.set_cons_succ] at hS); (try simp only [Act.put, List.setIfInBounds_toArray, List.set_cons_zero, List.set_cons_succ])) | (refine wl_isld rfl ?_; ((first | refine wl_value rfl (ex_l0 hS rfl rfl rfl CellAt.out) ?_ | refine wl_value rfl (ex_lf hS rfl rfl rfl CellAt.out) ?_ | refine wl_value rfl (ex_l1 hS rfl rfl rfl CellAt.out) ?_ | refine wl_value rfl (ex_ldC hS rfl rfl CellAt.out) ?_ | refine wl_value rfl (ex_l0 hS rfl rfl rfl rfl) ?_ | refine wl_value rfl (ex_lf hS rfl rfl rfl rfl) ?_ | refine wl_value rfl (ex_l1 hS rfl rfl rfl rfl) ?_ | refine wl_value rfl (ex_ldC hS rfl rfl rfl) ?_ | refine wl_value rfl (ex_l00 hS rfl rfl CellAt.out) ?_ | refine wl_value rfl (ex_l00 hS rfl rfl rfl) ?_ | refine wl_value rfl (ex_l0f hS rfl rfl CellAt.out) ?_ | refine wl_value rfl (ex_l0f hS rfl rfl rfl) ?_ | refine wl_value rfl (ex_lr hS rfl rfl rfl rfl) ?_ | refine wl_value rfl (ex_lr0 hS rfl rfl rfl) ?_ | refine wl_value rfl (ex_lrz hS rfl rfl rfl) ?_ | refine wl_value rfl (ex_lrf hS rfl rfl rfl) ?_ | refine wl_value rfl (ex_ldrC hS rfl rfl) ?_ | refine wl_value rfl (ex_ldr0 hS rfl rfl rfl) ?_); (try simp only [Act.put, List.setIfInBounds_toArray, List.set_cons_zero, List.set_cons_succ]))) | ((first | refine wl_value rfl (ex_ix hS rfl rfl rfl ?_) ?_); (focus (first | rfl | omega | (simp; done))); (try simp only [Act.put, List.setIfInBounds_toArray, List.set_cons_zero, List.set_cons_succ])) | ((first | refine wl_value rfl (ex_eqA rfl rfl rfl) ?_ | refine wl_value rfl (ex_neA rfl rfl rfl) ?_); (try simp only [Act.put, List.setIfInBounds_toArray, List.set_cons_zero, List.set_cons_succ])) | (refine wl_alloc rfl rfl hS ?_; intro _ _ hS; (try simp only [Act.put, List.setIfInBounds_toArray, List.set_cons_zero, List.set_cons_succ])) | (refine wl_box rfl rfl rfl rfl hS ?_; intro _ _ hS; (try simp only [Act.put, List.setIfInBounds_toArray, List.set_cons_zero, List.set_cons_succ])) | (refine wl_st rfl rfl rfl rfl rfl hS (of_decide_eq_true rfl) ?_; intro _ hS; (try simp only [evT, evC, List.getD_cons_succ, List.getD_cons_zero, List.set_cons_zero, List.set_cons_succ] at hS); (try simp only [List.set_cons_zero, List.set_cons_succ] at hS); (try simp only [Act.put, List.setIfInBounds_toArray, List.set_cons_zero, List.set_cons_succ])) | (refine wl_strC rfl rfl rfl rfl hS rfl rfl ?_; intro _ hS; (try simp only [evT, evC, List.getD_cons_succ, List.getD_cons_zero, List.set_cons_zero, List.set_cons_succ] at hS); (try simp only [Act.put, List.setIfInBounds_toArray, List.set_cons_zero, List.set_cons_succ])))
      (refine ⟨(j + 1), (⟨_, _, _, hlt, Htw.out, hm2, Hs2.out, hS.to⟩), (by (try dsimp only); omega), rfl, (by (simp only [blankT, junkT, List.cons_append, List.nil_append, List.setIfInBounds_toArray, List.set_cons_zero, List.set_cons_succ])), rfl⟩)
    · rw [if_neg hk] at htw
      have Hlk := Lib.hid (Hsn.out.look e.path)
      have d1 : (kindI (l.take j) e.path == 0) = false := beq_no hk
      have d2 : (kindI (l.take j) e.path != 0) = true := bne_no hk
      have Hx := Lib.hid (show X = (9, []) by
        rw [← HX.out]
        unfold makeR
        rw [if_neg, if_pos]
        · rw [HT.out]; exact htw.symm
        · rw [List.all_eq_true.2 HM.out]; decide)
      clear htw hk
      go_wp2_with (first | (refine wl_alloc rfl rfl hS ?_; intro eb _ hS; (try simp only [Act.put, List.setIfInBounds_toArray, List.set_cons_zero, List.set_cons_succ])) | (refine wl_lookup hm rfl rfl rfl rfl hS Hlk.out ?_; (try simp only [Act.put, List.setIfInBounds_toArray, List.set_cons_zero, List.set_cons_succ])) | (refine wl_isld rfl ?_; ((first | refine wl_value rfl (ex_l0 hS rfl rfl rfl CellAt.out) ?_ | refine wl_value rfl (ex_lf hS rfl rfl rfl CellAt.out) ?_ | refine wl_value rfl (ex_l1 hS rfl rfl rfl CellAt.out) ?_ | refine wl_value rfl (ex_ldC hS rfl rfl CellAt.out) ?_ | refine wl_value rfl (ex_l0 hS rfl rfl rfl rfl) ?_ | refine wl_value rfl (ex_lf hS rfl rfl rfl rfl) ?_ | refine wl_value rfl (ex_l1 hS rfl rfl rfl rfl) ?_ | refine wl_value rfl (ex_ldC hS rfl rfl rfl) ?_ | refine wl_value rfl (ex_l00 hS rfl rfl CellAt.out) ?_ | refine wl_value rfl (ex_l00 hS rfl rfl rfl) ?_ | refine wl_value rfl (ex_l0f hS rfl rfl CellAt.out) ?_ | refine wl_value rfl (ex_l0f hS rfl rfl rfl) ?_ | refine wl_value rfl (ex_lr hS rfl rfl rfl rfl) ?_ | refine wl_value rfl (ex_lr0 hS rfl rfl rfl) ?_ | refine wl_value rfl (ex_lrz hS rfl rfl rfl) ?_ | refine wl_value rfl (ex_lrf hS rfl rfl rfl) ?_ | refine wl_value rfl (ex_ldrC hS rfl rfl) ?_ | refine wl_value rfl (ex_ldr0 hS rfl rfl rfl) ?_); (try simp only [Act.put, List.setIfInBounds_toArray, List.set_cons_zero, List.set_cons_succ]))) | ((first | refine wl_value rfl (ex_ix hS rfl rfl rfl ?_) ?_); (focus (first | rfl | omega | (simp; done))); (try simp only [Act.put, List.setIfInBounds_toArray, List.set_cons_zero, List.set_cons_succ])) | ((first | refine wl_value rfl (ex_eqA rfl rfl rfl) ?_ | refine wl_value rfl (ex_neA rfl rfl rfl) ?_); (try simp only [Act.put, List.setIfInBounds_toArray, List.set_cons_zero, List.set_cons_succ])) | (refine wl_alloc rfl rfl hS ?_; intro _ _ hS; (try simp only [Act.put, List.setIfInBounds_toArray, List.set_cons_zero, List.set_cons_succ])) | (refine wl_box rfl rfl rfl rfl hS ?_; intro _ _ hS; (try simp only [Act.put, List.setIfInBounds_toArray, List.set_cons_zero, List.set_cons_succ])) | (refine wl_st rfl rfl rfl rfl rfl hS (of_decide_eq_true rfl) ?_; intro _ hS; (try simp only [evT, evC, List.getD_cons_succ, List.getD_cons_zero, List.set_cons_zero, List.set_cons_succ] at hS); (try simp only [List.set_cons_zero, List.set_cons_succ] at hS); (try simp only [Act.put, List.setIfInBounds_toArray, List.set_cons_zero, List.set_cons_succ])) | (refine wl_strC rfl rfl rfl rfl hS rfl rfl ?_; intro _ hS; (try simp only [evT, evC, List.getD_cons_succ, List.getD_cons_zero, List.set_cons_zero, List.set_cons_succ] at hS); (try simp only [Act.put, List.setIfInBounds_toArray, List.set_cons_zero, List.set_cons_succ])))
      go_ret2
      rw [Hx.out]
      exact .bad hS.to
  rw [List.drop_eq_nil_of_le (by omega), List.take_of_length_le (by omega)] at htw
  have Hsn2 := Lib.hid (show SeenMap m l by
    have := Hsn.out
    rwa [List.take_of_length_le (by omega)] at this)
  have Htw := Lib.hid (show T = false from htw.symm)
  clear htw
  obtain ⟨Y, hY⟩ : ∃ Y, climbs l l = Y := ⟨_, rfl⟩
  have HY := Lib.hid hY
  have HX2 := Lib.hid (show X = makeT Y by
    rw [← HX.out, ← hY]
    unfold makeR
    rw [if_neg, if_neg]
    · rw [HT.out, Htw.out]; decide
    · rw [List.all_eq_true.2 HM.out]; decide)
  have hcl := fun (w : World) (R : HL) (hS : Sh B R w) (r : RdAt enE B R A l) => CloneE_any hS (cap := cap) (t := l) (r := r) (by omega)
  clear hY
  go_wp2_with (first | (go_at_call 39; refine ((hcl _ _ hS inferInstance)).mono ?_; rintro e w' (⟨A2, sp2, cap2, rfl, hO, hS⟩)) | (refine wl_isld rfl ?_; ((first | refine wl_value rfl (ex_l0 hS rfl rfl rfl CellAt.out) ?_ | refine wl_value rfl (ex_lf hS rfl rfl rfl CellAt.out) ?_ | refine wl_value rfl (ex_l1 hS rfl rfl rfl CellAt.out) ?_ | refine wl_value rfl (ex_ldC hS rfl rfl CellAt.out) ?_ | refine wl_value rfl (ex_l0 hS rfl rfl rfl rfl) ?_ | refine wl_value rfl (ex_lf hS rfl rfl rfl rfl) ?_ | refine wl_value rfl (ex_l1 hS rfl rfl rfl rfl) ?_ | refine wl_value rfl (ex_ldC hS rfl rfl rfl) ?_ | refine wl_value rfl (ex_l00 hS rfl rfl CellAt.out) ?_ | refine wl_value rfl (ex_l00 hS rfl rfl rfl) ?_ | refine wl_value rfl (ex_l0f hS rfl rfl CellAt.out) ?_ | refine wl_value rfl (ex_l0f hS rfl rfl rfl) ?_ | refine wl_value rfl (ex_lr hS rfl rfl rfl rfl) ?_ | refine wl_value rfl (ex_lr0 hS rfl rfl rfl) ?_ | refine wl_value rfl (ex_lrz hS rfl rfl rfl) ?_ | refine wl_value rfl (ex_lrf hS rfl rfl rfl) ?_ | refine wl_value rfl (ex_ldrC hS rfl rfl) ?_ | refine wl_value rfl (ex_ldr0 hS rfl rfl rfl) ?_); (try simp only [Act.put, List.setIfInBounds_toArray, List.set_cons_zero, List.set_cons_succ]))) | ((first | refine wl_value rfl (ex_ix hS rfl rfl rfl ?_) ?_); (focus (first | rfl | omega | (simp; done))); (try simp only [Act.put, List.setIfInBounds_toArray, List.set_cons_zero, List.set_cons_succ])) | ((first | refine wl_value rfl (ex_eqA rfl rfl rfl) ?_ | refine wl_value rfl (ex_neA rfl rfl rfl) ?_); (try simp only [Act.put, List.setIfInBounds_toArray, List.set_cons_zero, List.set_cons_succ])) | (refine wl_alloc rfl rfl hS ?_; intro _ _ hS; (try simp only [Act.put, List.setIfInBounds_toArray, List.set_cons_zero, List.set_cons_succ])) | (refine wl_box rfl rfl rfl rfl hS ?_; intro _ _ hS; (try simp only [Act.put, List.setIfInBounds_toArray, List.set_cons_zero, List.set_cons_succ])) | (refine wl_st rfl rfl rfl rfl rfl hS (of_decide_eq_true rfl) ?_; intro _ hS; (try simp only [evT, evC, List.getD_cons_succ, List.getD_cons_zero, List.set_cons_zero, List.set_cons_succ] at hS); (try simp only [List.set_cons_zero, List.set_cons_succ] at hS); (try simp only [Act.put, List.setIfInBounds_toArray, List.set_cons_zero, List.set_cons_succ])) | (refine wl_strC rfl rfl rfl rfl hS rfl rfl ?_; intro _ hS; (try simp only [evT, evC, List.getD_cons_succ, List.getD_cons_zero, List.set_cons_zero, List.set_cons_succ] at hS); (try simp only [Act.put, List.setIfInBounds_toArray, List.set_cons_zero, List.set_cons_succ])))
  have h0 : Mk2 B R mb l Y ⟨0, A2, l, cap2⟩ _ := ⟨_, _, _, _, Nat.zero_le _, HY.out, hm, Hsn2.out, ⟨HM.out, Hsm.out⟩, Nat.le_add_right _ _, hO, hS⟩
  clear hS hm hO hlt hi
  refine wp_loopS [9, 46] [2, 3, 11, 12, 47, 48, 49, 50, 51, 52, 53, 54, 55, 56, 57, 58, 59, 60, 61, 62, 63, 64, 65, 66, 67, 68, 69, 70, 71] (fun x : MkSt => [.slice x.A x.out.length x.cap, .int .i64 x.i]) (Mk2 B R mb l Y) (fun x => l.length - x.i) (⟨0, A2, l, cap2⟩) rfl (h0) ?_
  clear h0
  rintro ⟨i2, A3, out, cap3⟩ J3 w ⟨es, c, m, sp3, hi, hcs, hm, hsn, hok, hol, hO, hS⟩
  dsimp only at hi hcs hm hsn hok hol hO hS
  have Hsn := Lib.hid hsn
  have Hok := Lib.hid hok
  have hps := psum_le l i2
  have hl2 := Hl.out
  have holt : out.length ≤ 8388608 := by omega
  clear hsn hok hps hl2
  (simp only [Frm, setsT, junkT, List.setIfInBounds_toArray, List.set_cons_zero, List.set_cons_succ])
  by_cases hlt : i2 < l.length
  · obtain ⟨e, ge⟩ := Nth.of hlt
    have hpz := (Hsm.out e ge.mem).1
    have Hpt := Lib.hid (psum_take ge)
    have Hpl := Lib.hid (psum_le l (i2 + 1))
    have Hom := Lib.hid (mayB_ok (HM.out e ge.mem)).1
    rw [ge.drop, climbs_cons] at hcs
    have Hcs := Lib.hid (show climbT e.path.size out (upP e.path) (l.drop (i2 + 1)) = Y from hcs)
    have hup := fun (w : World) (R : HL) (hS : Sh B R w) => Up_any hS e.path hpz
    clear hcs
    go_wp2_with (first | (refine wl_alloc rfl rfl hS ?_; intro eb _ hS; (try simp only [Act.put, List.setIfInBounds_toArray, List.set_cons_zero, List.set_cons_succ])) | (go_at_call 33; refine ((hup _ _ hS)).mono ?_; rintro e w' (⟨rfl, hS⟩)) | (refine wl_isld rfl ?_; ((first | refine wl_value rfl (ex_l0 hS rfl rfl rfl CellAt.out) ?_ | refine wl_value rfl (ex_lf hS rfl rfl rfl CellAt.out) ?_ | refine wl_value rfl (ex_l1 hS rfl rfl rfl CellAt.out) ?_ | refine wl_value rfl (ex_ldC hS rfl rfl CellAt.out) ?_ | refine wl_value rfl (ex_l0 hS rfl rfl rfl rfl) ?_ | refine wl_value rfl (ex_lf hS rfl rfl rfl rfl) ?_ | refine wl_value rfl (ex_l1 hS rfl rfl rfl rfl) ?_ | refine wl_value rfl (ex_ldC hS rfl rfl rfl) ?_ | refine wl_value rfl (ex_l00 hS rfl rfl CellAt.out) ?_ | refine wl_value rfl (ex_l00 hS rfl rfl rfl) ?_ | refine wl_value rfl (ex_l0f hS rfl rfl CellAt.out) ?_ | refine wl_value rfl (ex_l0f hS rfl rfl rfl) ?_ | refine wl_value rfl (ex_lr hS rfl rfl rfl rfl) ?_ | refine wl_value rfl (ex_lr0 hS rfl rfl rfl) ?_ | refine wl_value rfl (ex_lrz hS rfl rfl rfl) ?_ | refine wl_value rfl (ex_lrf hS rfl rfl rfl) ?_ | refine wl_value rfl (ex_ldrC hS rfl rfl) ?_ | refine wl_value rfl (ex_ldr0 hS rfl rfl rfl) ?_); (try simp only [Act.put, List.setIfInBounds_toArray, List.set_cons_zero, List.set_cons_succ]))) | ((first | refine wl_value rfl (ex_ix hS rfl rfl rfl ?_) ?_); (focus (first | rfl | omega | (simp; done))); (try simp only [Act.put, List.setIfInBounds_toArray, List.set_cons_zero, List.set_cons_succ])) | ((first | refine wl_value rfl (ex_eqA rfl rfl rfl) ?_ | refine wl_value rfl (ex_neA rfl rfl rfl) ?_); (try simp only [Act.put, List.setIfInBounds_toArray, List.set_cons_zero, List.set_cons_succ])) | (refine wl_alloc rfl rfl hS ?_; intro _ _ hS; (try simp only [Act.put, List.setIfInBounds_toArray, List.set_cons_zero, List.set_cons_succ])) | (refine wl_box rfl rfl rfl rfl hS ?_; intro _ _ hS; (try simp only [Act.put, List.setIfInBounds_toArray, List.set_cons_zero, List.set_cons_succ])) | (refine wl_st rfl rfl rfl rfl rfl hS (of_decide_eq_true rfl) ?_; intro _ hS; (try simp only [evT, evC, List.getD_cons_succ, List.getD_cons_zero, List.set_cons_zero, List.set_cons_succ] at hS); (try simp only [List.set_cons_zero, List.set_cons_succ] at hS); (try simp only [Act.put, List.setIfInBounds_toArray, List.set_cons_zero, List.set_cons_succ])) | (refine wl_strC rfl rfl rfl rfl hS rfl rfl ?_; intro _ hS; (try simp only [evT, evC, List.getD_cons_succ, List.getD_cons_zero, List.set_cons_zero, List.set_cons_succ] at hS); (try simp only [Act.put, List.setIfInBounds_toArray, List.set_cons_zero, List.set_cons_succ])))
    have h0 : Mk3 B R mb (l.length + psum (l.take i2) + e.path.size) (l.drop (i2 + 1)) Y ⟨upP e.path, A3, out, cap3⟩ _ :=
      ⟨_, _, _, _, _, upP_le _, Hcs.out, upP_ok Hom.out, Nat.le_trans (upP_le _) hpz, hm, Hsn.out, Hok.out, (by have := upP_le e.path; show out.length + (upP e.path).size ≤ _; omega), hO, hS.to⟩
    clear hS hm hO hup
    refine wp_loopS [9, 12] [2, 3, 53, 54, 55, 56, 57, 58, 59, 60, 61, 62, 63, 64, 65, 66, 67, 68, 69, 70] (fun x : ClSt => [.slice x.A x.out.length x.cap, .string x.d]) (Mk3 B R mb (l.length + psum (l.take i2) + e.path.size) (l.drop (i2 + 1)) Y) (fun x => x.d.size) (⟨upP e.path, A3, out, cap3⟩) rfl (h0) ?_
    clear h0
    rintro ⟨d, A4, o4, cap4⟩ J4 w ⟨es, c, m, sp4, n, hn, hct, hod, hdz, hm, hsn, hok, hol2, hO, hS⟩
    dsimp only at hn hct hod hdz hm hsn hok hol2 hO hS
    have Hsn4 := Lib.hid hsn
    have Hok4 := Lib.hid hok
    have Hol4 := Lib.hid hol2
    have hl3 := Hl.out
    have ho4 : o4.length ≤ 8388608 := by have := Hpl.out; have := Hpt.out; omega
    clear hsn hok hol2 hl3
    (simp only [Frm, setsT, junkT, List.setIfInBounds_toArray, List.set_cons_zero, List.set_cons_succ])
    by_cases hd0 : d.size = 0
    · have hde : d.toList = [] := (empty_prop d).2 hd0
      have d1 : d.toList.isEmpty = true := by rw [hde]; rfl
      rw [climbT_stop hd0] at hct
      have Hct := Lib.hid hct
      have Hd0 := Lib.hid hd0
      clear hct hd0 hn
      go_wp2_with (first | (refine wl_isld rfl ?_; ((first | refine wl_value rfl (ex_l0 hS rfl rfl rfl CellAt.out) ?_ | refine wl_value rfl (ex_lf hS rfl rfl rfl CellAt.out) ?_ | refine wl_value rfl (ex_l1 hS rfl rfl rfl CellAt.out) ?_ | refine wl_value rfl (ex_ldC hS rfl rfl CellAt.out) ?_ | refine wl_value rfl (ex_l0 hS rfl rfl rfl rfl) ?_ | refine wl_value rfl (ex_lf hS rfl rfl rfl rfl) ?_ | refine wl_value rfl (ex_l1 hS rfl rfl rfl rfl) ?_ | refine wl_value rfl (ex_ldC hS rfl rfl rfl) ?_ | refine wl_value rfl (ex_l00 hS rfl rfl CellAt.out) ?_ | refine wl_value rfl (ex_l00 hS rfl rfl rfl) ?_ | refine wl_value rfl (ex_l0f hS rfl rfl CellAt.out) ?_ | refine wl_value rfl (ex_l0f hS rfl rfl rfl) ?_ | refine wl_value rfl (ex_lr hS rfl rfl rfl rfl) ?_ | refine wl_value rfl (ex_lr0 hS rfl rfl rfl) ?_ | refine wl_value rfl (ex_lrz hS rfl rfl rfl) ?_ | refine wl_value rfl (ex_lrf hS rfl rfl rfl) ?_ | refine wl_value rfl (ex_ldrC hS rfl rfl) ?_ | refine wl_value rfl (ex_ldr0 hS rfl rfl rfl) ?_); (try simp only [Act.put, List.setIfInBounds_toArray, List.set_cons_zero, List.set_cons_succ]))) | ((first | refine wl_value rfl (ex_ix hS rfl rfl rfl ?_) ?_); (focus (first | rfl | omega | (simp; done))); (try simp only [Act.put, List.setIfInBounds_toArray, List.set_cons_zero, List.set_cons_succ])) | ((first | refine wl_value rfl (ex_eqA rfl rfl rfl) ?_ | refine wl_value rfl (ex_neA rfl rfl rfl) ?_); (try simp only [Act.put, List.setIfInBounds_toArray, List.set_cons_zero, List.set_cons_succ])) | (refine wl_alloc rfl rfl hS ?_; intro _ _ hS; (try simp only [Act.put, List.setIfInBounds_toArray, List.set_cons_zero, List.set_cons_succ])) | (refine wl_box rfl rfl rfl rfl hS ?_; intro _ _ hS; (try simp only [Act.put, List.setIfInBounds_toArray, List.set_cons_zero, List.set_cons_succ])) | (refine wl_st rfl rfl rfl rfl rfl hS (of_decide_eq_true rfl) ?_; intro _ hS; (try simp only [evT, evC, List.getD_cons_succ, List.getD_cons_zero, List.set_cons_zero, List.set_cons_succ] at hS); (try simp only [List.set_cons_zero, List.set_cons_succ] at hS); (try simp only [Act.put, List.setIfInBounds_toArray, List.set_cons_zero, List.set_cons_succ])) | (refine wl_strC rfl rfl rfl rfl hS rfl rfl ?_; intro _ hS; (try simp only [evT, evC, List.getD_cons_succ, List.getD_cons_zero, List.set_cons_zero, List.set_cons_succ] at hS); (try simp only [Act.put, List.setIfInBounds_toArray, List.set_cons_zero, List.set_cons_succ])))
      (refine ⟨((⟨i2 + 1, A4, o4, cap4⟩ : MkSt)), (⟨_, _, _, _, hlt, Hct.out, hm, Hsn4.out, Hok4.out, (by show o4.length ≤ l.length + psum (l.take (i2 + 1)); have := Hol4.out; have := Hpt.out; omega), hO, hS⟩), (by (try dsimp only); omega), rfl, (by (simp only [blankT, junkT, List.cons_append, List.nil_append, List.setIfInBounds_toArray, List.set_cons_zero, List.set_cons_succ])), rfl⟩)
    have hde : ¬ d.toList = [] := fun h => hd0 ((empty_prop d).1 h)
    have d1 : d.toList.isEmpty = false := by rw [empty_iff]; exact decide_eq_false hd0
    obtain ⟨k, hnk, hupk, hgo⟩ := climbT_go (out := o4) (r := l.drop (i2 + 1)) hd0 hn
    rw [hgo] at hct
    have hupl := upP_lt hd0
    have hup := fun (w : World) (R : HL) (hS : Sh B R w) => Up_any hS d hdz
    have Hupk := Lib.hid hupk
    have Hupl := Lib.hid hupl
    have Huo := Lib.hid (upP_ok hod)
    have Hod := Lib.hid hod
    have Hd0 := Lib.hid hd0
    clear hgo hnk hn hupk hupl hod hd0
    by_cases hk2 : kindI o4 d = 2
    · rw [if_pos hk2] at hct
      have Hct := Lib.hid hct
      have Hlk := Lib.hid (show (mget m d).elim (.int .i64 0) intv = .int .i64 2 by rw [Hsn4.out.look, hk2])
      clear hct hk2
      go_wp2_with (first | (refine wl_lookup hm rfl rfl rfl rfl hS Hlk.out ?_; (try simp only [Act.put, List.setIfInBounds_toArray, List.set_cons_zero, List.set_cons_succ])) | (go_at_call 33; refine ((hup _ _ hS)).mono ?_; rintro e w' (⟨rfl, hS⟩)) | (refine wl_isld rfl ?_; ((first | refine wl_value rfl (ex_l0 hS rfl rfl rfl CellAt.out) ?_ | refine wl_value rfl (ex_lf hS rfl rfl rfl CellAt.out) ?_ | refine wl_value rfl (ex_l1 hS rfl rfl rfl CellAt.out) ?_ | refine wl_value rfl (ex_ldC hS rfl rfl CellAt.out) ?_ | refine wl_value rfl (ex_l0 hS rfl rfl rfl rfl) ?_ | refine wl_value rfl (ex_lf hS rfl rfl rfl rfl) ?_ | refine wl_value rfl (ex_l1 hS rfl rfl rfl rfl) ?_ | refine wl_value rfl (ex_ldC hS rfl rfl rfl) ?_ | refine wl_value rfl (ex_l00 hS rfl rfl CellAt.out) ?_ | refine wl_value rfl (ex_l00 hS rfl rfl rfl) ?_ | refine wl_value rfl (ex_l0f hS rfl rfl CellAt.out) ?_ | refine wl_value rfl (ex_l0f hS rfl rfl rfl) ?_ | refine wl_value rfl (ex_lr hS rfl rfl rfl rfl) ?_ | refine wl_value rfl (ex_lr0 hS rfl rfl rfl) ?_ | refine wl_value rfl (ex_lrz hS rfl rfl rfl) ?_ | refine wl_value rfl (ex_lrf hS rfl rfl rfl) ?_ | refine wl_value rfl (ex_ldrC hS rfl rfl) ?_ | refine wl_value rfl (ex_ldr0 hS rfl rfl rfl) ?_); (try simp only [Act.put, List.setIfInBounds_toArray, List.set_cons_zero, List.set_cons_succ]))) | ((first | refine wl_value rfl (ex_ix hS rfl rfl rfl ?_) ?_); (focus (first | rfl | omega | (simp; done))); (try simp only [Act.put, List.setIfInBounds_toArray, List.set_cons_zero, List.set_cons_succ])) | ((first | refine wl_value rfl (ex_eqA rfl rfl rfl) ?_ | refine wl_value rfl (ex_neA rfl rfl rfl) ?_); (try simp only [Act.put, List.setIfInBounds_toArray, List.set_cons_zero, List.set_cons_succ])) | (refine wl_alloc rfl rfl hS ?_; intro _ _ hS; (try simp only [Act.put, List.setIfInBounds_toArray, List.set_cons_zero, List.set_cons_succ])) | (refine wl_box rfl rfl rfl rfl hS ?_; intro _ _ hS; (try simp only [Act.put, List.setIfInBounds_toArray, List.set_cons_zero, List.set_cons_succ])) | (refine wl_st rfl rfl rfl rfl rfl hS (of_decide_eq_true rfl) ?_; intro _ hS; (try simp only [evT, evC, List.getD_cons_succ, List.getD_cons_zero, List.set_cons_zero, List.set_cons_succ] at hS); (try simp only [List.set_cons_zero, List.set_cons_succ] at hS); (try simp only [Act.put, List.setIfInBounds_toArray, List.set_cons_zero, List.set_cons_succ])) | (refine wl_strC rfl rfl rfl rfl hS rfl rfl ?_; intro _ hS; (try simp only [evT, evC, List.getD_cons_succ, List.getD_cons_zero, List.set_cons_zero, List.set_cons_succ] at hS); (try simp only [Act.put, List.setIfInBounds_toArray, List.set_cons_zero, List.set_cons_succ])))
      exact ⟨(⟨upP d, A4, o4, cap4⟩ : ClSt), ⟨_, _, _, _, _, Hupk.out, Hct.out, Huo.out, (by have := Hupl.out; show (upP d).size ≤ _; omega), hm, Hsn4.out, Hok4.out, (by have := Hupl.out; have := Hol4.out; show o4.length + (upP d).size ≤ _; omega), hO, hS⟩, Hupl.out, rfl, (by (simp only [blankT, junkT, List.cons_append, List.nil_append, List.setIfInBounds_toArray, List.set_cons_zero, List.set_cons_succ])), rfl⟩
    rw [if_neg hk2] at hct
    by_cases hk0 : kindI o4 d = 0
    · rw [if_pos hk0] at hct
      have Hct := Lib.hid hct
      have Hlk := Lib.hid (show (mget m d).elim (.int .i64 0) intv = .int .i64 0 by rw [Hsn4.out.look, hk0])
      have Hs5 := Lib.hid (show SeenMap (mput m d 2) (o4 ++ [dirE d]) from Hsn4.out.put Hok4.out.may (e := dirE d) (mayB_dir Hod.out Hd0.out) hk0)
      have Hok5 := Lib.hid (Hok4.out.dir Hod.out Hd0.out hdz)
      clear hct hk2 hk0
      go_wp2_with (first | (refine wl_lookup hm rfl rfl rfl rfl hS Hlk.out ?_; (try simp only [Act.put, List.setIfInBounds_toArray, List.set_cons_zero, List.set_cons_succ])) | (go_at_call 33; refine ((hup _ _ hS)).mono ?_; rintro e w' (⟨rfl, hS⟩)) | (refine wl_mapUpdate (v := ((2 : Int))) hm rfl rfl rfl rfl rfl hS ?_; intro _ _ _ hS hm2; (try simp only [evT, evC, List.getD_cons_succ, List.getD_cons_zero, List.set_cons_zero, List.set_cons_succ] at hS); (try simp only [Act.put, List.setIfInBounds_toArray, List.set_cons_zero, List.set_cons_succ])) | (refine wl_build ((enE.cells (dirE d))) _ rfl rfl (by simp only [List.map_toArray, List.map_cons, List.map_nil]; rfl) rfl ?_; (try simp only [Act.put, List.setIfInBounds_toArray, List.set_cons_zero, List.set_cons_succ])) | (refine wl_buildSlice (E := enE) ([dirE d]) rfl rfl (by simp only [List.map_toArray, List.map_cons, List.map_nil]; rfl) rfl (by decide) (by decide) hS ?_; intro _ _ hS hN; (try simp only [Act.put, List.setIfInBounds_toArray, List.set_cons_zero, List.set_cons_succ])) | (refine wl_ap (E := enE) rfl rfl rfl rfl hS ?_ ?_ ?_ ?_ ?_; (focus (first | rfl | omega)); (focus (first | rfl | omega)); (focus ((simp only [List.length_cons, List.length_nil]; omega))); (focus decide); intro _ _ _ _ hO2 hS; (try simp only [Act.put, List.setIfInBounds_toArray, List.set_cons_zero, List.set_cons_succ])) | (refine wl_isld rfl ?_; ((first | refine wl_value rfl (ex_l0 hS rfl rfl rfl CellAt.out) ?_ | refine wl_value rfl (ex_lf hS rfl rfl rfl CellAt.out) ?_ | refine wl_value rfl (ex_l1 hS rfl rfl rfl CellAt.out) ?_ | refine wl_value rfl (ex_ldC hS rfl rfl CellAt.out) ?_ | refine wl_value rfl (ex_l0 hS rfl rfl rfl rfl) ?_ | refine wl_value rfl (ex_lf hS rfl rfl rfl rfl) ?_ | refine wl_value rfl (ex_l1 hS rfl rfl rfl rfl) ?_ | refine wl_value rfl (ex_ldC hS rfl rfl rfl) ?_ | refine wl_value rfl (ex_l00 hS rfl rfl CellAt.out) ?_ | refine wl_value rfl (ex_l00 hS rfl rfl rfl) ?_ | refine wl_value rfl (ex_l0f hS rfl rfl CellAt.out) ?_ | refine wl_value rfl (ex_l0f hS rfl rfl rfl) ?_ | refine wl_value rfl (ex_lr hS rfl rfl rfl rfl) ?_ | refine wl_value rfl (ex_lr0 hS rfl rfl rfl) ?_ | refine wl_value rfl (ex_lrz hS rfl rfl rfl) ?_ | refine wl_value rfl (ex_lrf hS rfl rfl rfl) ?_ | refine wl_value rfl (ex_ldrC hS rfl rfl) ?_ | refine wl_value rfl (ex_ldr0 hS rfl rfl rfl) ?_); (try simp only [Act.put, List.setIfInBounds_toArray, List.set_cons_zero, List.set_cons_succ]))) | ((first | refine wl_value rfl (ex_ix hS rfl rfl rfl ?_) ?_); (focus (first | rfl | omega | (simp; done))); (try simp only [Act.put, List.setIfInBounds_toArray, List.set_cons_zero, List.set_cons_succ])) | ((first | refine wl_value rfl (ex_eqA rfl rfl rfl) ?_ | refine wl_value rfl (ex_neA rfl rfl rfl) ?_); (try simp only [Act.put, List.setIfInBounds_toArray, List.set_cons_zero, List.set_cons_succ])) | (refine wl_alloc rfl rfl hS ?_; intro _ _ hS; (try simp only [Act.put, List.setIfInBounds_toArray, List.set_cons_zero, List.set_cons_succ])) | (refine wl_box rfl rfl rfl rfl hS ?_; intro _ _ hS; (try simp only [Act.put, List.setIfInBounds_toArray, List.set_cons_zero, List.set_cons_succ])) | (refine wl_st rfl rfl rfl rfl rfl hS (of_decide_eq_true rfl) ?_; intro _ hS; (try simp only [evT, evC, List.getD_cons_succ, List.getD_cons_zero, List.set_cons_zero, List.set_cons_succ] at hS); (try simp only [List.set_cons_zero, List.set_cons_succ] at hS); (try simp only [Act.put, List.setIfInBounds_toArray, List.set_cons_zero, List.set_cons_succ])) | (refine wl_strC rfl rfl rfl rfl hS rfl rfl ?_; intro _ hS; (try simp only [evT, evC, List.getD_cons_succ, List.getD_cons_zero, List.set_cons_zero, List.set_cons_succ] at hS); (try simp only [Act.put, List.setIfInBounds_toArray, List.set_cons_zero, List.set_cons_succ])))
      exact ⟨(⟨upP d, _, o4 ++ [dirE d], _⟩ : ClSt), ⟨_, _, _, _, _, Hupk.out, Hct.out, Huo.out, (by have := Hupl.out; show (upP d).size ≤ _; omega), hm2, Hs5.out, Hok5.out, (by have := Hupl.out; have := Hol4.out; show (o4 ++ [dirE d]).length + (upP d).size ≤ _; simp; omega), hO2, hS.to⟩, Hupl.out, (by dsimp only; rw [List.length_append]; rfl), (by (simp only [blankT, junkT, List.cons_append, List.nil_append, List.setIfInBounds_toArray, List.set_cons_zero, List.set_cons_succ])), rfl⟩
    rw [if_neg hk0] at hct
    have d2 : (kindI o4 d == 2) = false := beq_no hk2
    have d3 : (kindI o4 d == 0) = false := beq_no hk0
    have Hlk := Lib.hid (Hsn4.out.look d)
    have Hx := Lib.hid (show X = (52, []) by rw [HX2.out, ← hct]; rfl)
    clear hct hk2 hk0
    go_wp2_with (first | (refine wl_lookup hm rfl rfl rfl rfl hS Hlk.out ?_; (try simp only [Act.put, List.setIfInBounds_toArray, List.set_cons_zero, List.set_cons_succ])) | (refine wl_isld rfl ?_; ((first | refine wl_value rfl (ex_l0 hS rfl rfl rfl CellAt.out) ?_ | refine wl_value rfl (ex_lf hS rfl rfl rfl CellAt.out) ?_ | refine wl_value rfl (ex_l1 hS rfl rfl rfl CellAt.out) ?_ | refine wl_value rfl (ex_ldC hS rfl rfl CellAt.out) ?_ | refine wl_value rfl (ex_l0 hS rfl rfl rfl rfl) ?_ | refine wl_value rfl (ex_lf hS rfl rfl rfl rfl) ?_ | refine wl_value rfl (ex_l1 hS rfl rfl rfl rfl) ?_ | refine wl_value rfl (ex_ldC hS rfl rfl rfl) ?_ | refine wl_value rfl (ex_l00 hS rfl rfl CellAt.out) ?_ | refine wl_value rfl (ex_l00 hS rfl rfl rfl) ?_ | refine wl_value rfl (ex_l0f hS rfl rfl CellAt.out) ?_ | refine wl_value rfl (ex_l0f hS rfl rfl rfl) ?_ | refine wl_value rfl (ex_lr hS rfl rfl rfl rfl) ?_ | refine wl_value rfl (ex_lr0 hS rfl rfl rfl) ?_ | refine wl_value rfl (ex_lrz hS rfl rfl rfl) ?_ | refine wl_value rfl (ex_lrf hS rfl rfl rfl) ?_ | refine wl_value rfl (ex_ldrC hS rfl rfl) ?_ | refine wl_value rfl (ex_ldr0 hS rfl rfl rfl) ?_); (try simp only [Act.put, List.setIfInBounds_toArray, List.set_cons_zero, List.set_cons_succ]))) | ((first | refine wl_value rfl (ex_ix hS rfl rfl rfl ?_) ?_); (focus (first | rfl | omega | (simp; done))); (try simp only [Act.put, List.setIfInBounds_toArray, List.set_cons_zero, List.set_cons_succ])) | ((first | refine wl_value rfl (ex_eqA rfl rfl rfl) ?_ | refine wl_value rfl (ex_neA rfl rfl rfl) ?_); (try simp only [Act.put, List.setIfInBounds_toArray, List.set_cons_zero, List.set_cons_succ])) | (refine wl_alloc rfl rfl hS ?_; intro _ _ hS; (try simp only [Act.put, List.setIfInBounds_toArray, List.set_cons_zero, List.set_cons_succ])) | (refine wl_box rfl rfl rfl rfl hS ?_; intro _ _ hS; (try simp only [Act.put, List.setIfInBounds_toArray, List.set_cons_zero, List.set_cons_succ])) | (refine wl_st rfl rfl rfl rfl rfl hS (of_decide_eq_true rfl) ?_; intro _ hS; (try simp only [evT, evC, List.getD_cons_succ, List.getD_cons_zero, List.set_cons_zero, List.set_cons_succ] at hS); (try simp only [List.set_cons_zero, List.set_cons_succ] at hS); (try simp only [Act.put, List.setIfInBounds_toArray, List.set_cons_zero, List.set_cons_succ])) | (refine wl_strC rfl rfl rfl rfl hS rfl rfl ?_; intro _ hS; (try simp only [evT, evC, List.getD_cons_succ, List.getD_cons_zero, List.set_cons_zero, List.set_cons_succ] at hS); (try simp only [Act.put, List.setIfInBounds_toArray, List.set_cons_zero, List.set_cons_succ])))
    go_ret2
    rw [Hx.out]
    exact .bad hS.to
  rw [List.drop_eq_nil_of_le (by omega)] at hcs
  have Hx := Lib.hid (show X = if fitsI out = 0 then (0, out) else (fitsI out, []) by rw [HX2.out, ← hcs]; rfl)
  have hft := fun (w : World) (R : HL) (hS : Sh B R w) (r : RdAt enE B R A3 out) => Fits_any hS (cap := cap3) (t := out) (r := r) (by omega) Hok.out.small
  clear hcs
  by_cases hf : fitsI out = 0
  · rw [if_pos hf] at Hx
    rw [hf] at hft
    have hso := fun (w : World) (H : HL) (hS : Sh B H w) (C : HL → HL) (hp : CtxRow H A3 (flat enE out ++ sp3) 37 C) => Sorted_any hO hS (hp := hp) (by omega) (fun e he => ⟨(mayB_ok (Hok.out.may e he)).1, (Hok.out.small e he).1⟩)
    clear hf
    go_wp2_with (first | (go_at_call 40; refine ((hft _ _ hS inferInstance)).mono ?_; rintro e w' (⟨rfl, hS⟩)) | (go_at_call 41; refine ((hso _ _ hS _ inferInstance)).mono ?_; rintro e w' (⟨rfl, ys, hper, hpw, hO2, hS⟩)) | (refine wl_isld rfl ?_; ((first | refine wl_value rfl (ex_l0 hS rfl rfl rfl CellAt.out) ?_ | refine wl_value rfl (ex_lf hS rfl rfl rfl CellAt.out) ?_ | refine wl_value rfl (ex_l1 hS rfl rfl rfl CellAt.out) ?_ | refine wl_value rfl (ex_ldC hS rfl rfl CellAt.out) ?_ | refine wl_value rfl (ex_l0 hS rfl rfl rfl rfl) ?_ | refine wl_value rfl (ex_lf hS rfl rfl rfl rfl) ?_ | refine wl_value rfl (ex_l1 hS rfl rfl rfl rfl) ?_ | refine wl_value rfl (ex_ldC hS rfl rfl rfl) ?_ | refine wl_value rfl (ex_l00 hS rfl rfl CellAt.out) ?_ | refine wl_value rfl (ex_l00 hS rfl rfl rfl) ?_ | refine wl_value rfl (ex_l0f hS rfl rfl CellAt.out) ?_ | refine wl_value rfl (ex_l0f hS rfl rfl rfl) ?_ | refine wl_value rfl (ex_lr hS rfl rfl rfl rfl) ?_ | refine wl_value rfl (ex_lr0 hS rfl rfl rfl) ?_ | refine wl_value rfl (ex_lrz hS rfl rfl rfl) ?_ | refine wl_value rfl (ex_lrf hS rfl rfl rfl) ?_ | refine wl_value rfl (ex_ldrC hS rfl rfl) ?_ | refine wl_value rfl (ex_ldr0 hS rfl rfl rfl) ?_); (try simp only [Act.put, List.setIfInBounds_toArray, List.set_cons_zero, List.set_cons_succ]))) | ((first | refine wl_value rfl (ex_ix hS rfl rfl rfl ?_) ?_); (focus (first | rfl | omega | (simp; done))); (try simp only [Act.put, List.setIfInBounds_toArray, List.set_cons_zero, List.set_cons_succ])) | ((first | refine wl_value rfl (ex_eqA rfl rfl rfl) ?_ | refine wl_value rfl (ex_neA rfl rfl rfl) ?_); (try simp only [Act.put, List.setIfInBounds_toArray, List.set_cons_zero, List.set_cons_succ])) | (refine wl_alloc rfl rfl hS ?_; intro _ _ hS; (try simp only [Act.put, List.setIfInBounds_toArray, List.set_cons_zero, List.set_cons_succ])) | (refine wl_box rfl rfl rfl rfl hS ?_; intro _ _ hS; (try simp only [Act.put, List.setIfInBounds_toArray, List.set_cons_zero, List.set_cons_succ])) | (refine wl_st rfl rfl rfl rfl rfl hS (of_decide_eq_true rfl) ?_; intro _ hS; (try simp only [evT, evC, List.getD_cons_succ, List.getD_cons_zero, List.set_cons_zero, List.set_cons_succ] at hS); (try simp only [List.set_cons_zero, List.set_cons_succ] at hS); (try simp only [Act.put, List.setIfInBounds_toArray, List.set_cons_zero, List.set_cons_succ])) | (refine wl_strC rfl rfl rfl rfl hS rfl rfl ?_; intro _ hS; (try simp only [evT, evC, List.getD_cons_succ, List.getD_cons_zero, List.set_cons_zero, List.set_cons_succ] at hS); (try simp only [Act.put, List.setIfInBounds_toArray, List.set_cons_zero, List.set_cons_succ])))
    go_ret2
    rw [Hx.out]
    exact ⟨_, _, _, ys, (by rw [hper.length_eq] <;> rfl), hper, hpw, hO2, hS.to⟩
  · rw [if_neg hf] at Hx
    have d2 : (fitsI out == 0) = false := beq_no hf
    have d3 : (fitsI out != 0) = true := bne_no hf
    clear hf
    go_wp2_with (first | (go_at_call 40; refine ((hft _ _ hS inferInstance)).mono ?_; rintro e w' (⟨rfl, hS⟩)) | (refine wl_isld rfl ?_; ((first | refine wl_value rfl (ex_l0 hS rfl rfl rfl CellAt.out) ?_ | refine wl_value rfl (ex_lf hS rfl rfl rfl CellAt.out) ?_ | refine wl_value rfl (ex_l1 hS rfl rfl rfl CellAt.out) ?_ | refine wl_value rfl (ex_ldC hS rfl rfl CellAt.out) ?_ | refine wl_value rfl (ex_l0 hS rfl rfl rfl rfl) ?_ | refine wl_value rfl (ex_lf hS rfl rfl rfl rfl) ?_ | refine wl_value rfl (ex_l1 hS rfl rfl rfl rfl) ?_ | refine wl_value rfl (ex_ldC hS rfl rfl rfl) ?_ | refine wl_value rfl (ex_l00 hS rfl rfl CellAt.out) ?_ | refine wl_value rfl (ex_l00 hS rfl rfl rfl) ?_ | refine wl_value rfl (ex_l0f hS rfl rfl CellAt.out) ?_ | refine wl_value rfl (ex_l0f hS rfl rfl rfl) ?_ | refine wl_value rfl (ex_lr hS rfl rfl rfl rfl) ?_ | refine wl_value rfl (ex_lr0 hS rfl rfl rfl) ?_ | refine wl_value rfl (ex_lrz hS rfl rfl rfl) ?_ | refine wl_value rfl (ex_lrf hS rfl rfl rfl) ?_ | refine wl_value rfl (ex_ldrC hS rfl rfl) ?_ | refine wl_value rfl (ex_ldr0 hS rfl rfl rfl) ?_); (try simp only [Act.put, List.setIfInBounds_toArray, List.set_cons_zero, List.set_cons_succ]))) | ((first | refine wl_value rfl (ex_ix hS rfl rfl rfl ?_) ?_); (focus (first | rfl | omega | (simp; done))); (try simp only [Act.put, List.setIfInBounds_toArray, List.set_cons_zero, List.set_cons_succ])) | ((first | refine wl_value rfl (ex_eqA rfl rfl rfl) ?_ | refine wl_value rfl (ex_neA rfl rfl rfl) ?_); (try simp only [Act.put, List.setIfInBounds_toArray, List.set_cons_zero, List.set_cons_succ])) | (refine wl_alloc rfl rfl hS ?_; intro _ _ hS; (try simp only [Act.put, List.setIfInBounds_toArray, List.set_cons_zero, List.set_cons_succ])) | (refine wl_box rfl rfl rfl rfl hS ?_; intro _ _ hS; (try simp only [Act.put, List.setIfInBounds_toArray, List.set_cons_zero, List.set_cons_succ])) | (refine wl_st rfl rfl rfl rfl rfl hS (of_decide_eq_true rfl) ?_; intro _ hS; (try simp only [evT, evC, List.getD_cons_succ, List.getD_cons_zero, List.set_cons_zero, List.set_cons_succ] at hS); (try simp only [List.set_cons_zero, List.set_cons_succ] at hS); (try simp only [Act.put, List.setIfInBounds_toArray, List.set_cons_zero, List.set_cons_succ])) | (refine wl_strC rfl rfl rfl rfl hS rfl rfl ?_; intro _ hS; (try simp only [evT, evC, List.getD_cons_succ, List.getD_cons_zero, List.set_cons_zero, List.set_cons_succ] at hS); (try simp only [Act.put, List.setIfInBounds_toArray, List.set_cons_zero, List.set_cons_succ])))
    go_ret2
    rw [Hx.out]
    exact .bad hS.to
end
end Go.Tk
