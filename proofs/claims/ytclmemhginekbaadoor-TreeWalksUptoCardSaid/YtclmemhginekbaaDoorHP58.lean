/- The law TreeWalks. -/
import Derived.Test.YtclmemhginekbaaDoorGd3725b
set_option linter.unusedSectionVars false
set_option linter.unusedSimpArgs false
set_option linter.unusedVariables false
namespace Go.Tk
open Go.RowKit Go.Proofs
theorem belowL_nil (dir : ByteArray) : belowL dir [] = [] := rfl
theorem walk_sub (t : List En) (dir : ByteArray) : ((subR t dir).2 = 0 ∧ (belowL dir (walkT t dir)).length = (subR t dir).1.length) ∨ (¬ (subR t dir).2 = 0 ∧ belowL dir (walkT t dir) = []) := by
  unfold subR walkT
  by_cases h1 : (checkA t).2 = 0
  · rw [if_pos h1, if_pos h1]
    by_cases h2 : whereI t dir = 0
    · rw [if_pos h2, if_pos h2]
      left
      exact ⟨rfl, by rw [List.length_map]⟩
    · rw [if_neg h2, if_neg h2]
      right
      exact ⟨h2, rfl⟩
  · rw [if_neg h1, if_neg h1]
    right
    exact ⟨h1, rfl⟩
theorem walk_len (t : List En) (dir : ByteArray) : (walkT t dir).length ≤ 1024 := by
  unfold walkT
  by_cases h1 : (checkA t).2 = 0
  · rw [if_pos h1]
    by_cases h2 : whereI t dir = 0
    · rw [if_pos h2]; exact (right_of h1).2.few
    · rw [if_neg h2]; exact Nat.zero_le _
  · rw [if_neg h1]; exact Nat.zero_le _
theorem walk_mem {t : List En} {dir : ByteArray} {x : En} (h : x ∈ walkT t dir) : x ∈ t ∧ ∃ i, Nth t i x ∧ findI t x.path = i := by
  unfold walkT at h
  by_cases h1 : (checkA t).2 = 0
  · rw [if_pos h1] at h
    by_cases h2 : whereI t dir = 0
    · rw [if_pos h2] at h
      refine ⟨h, ?_⟩
      have hd := (right_of h1).2.sorted.dist
      rcases find_idx (t := t) (p := x.path) with ⟨_, _, _, _, h5⟩ | ⟨i, y, h3, _, gy, h4, _⟩
      · exact absurd rfl (h5 x h)
      · obtain ⟨j, hj⟩ := List.getElem?_of_mem h
        have : y = x := Dist.inj hd gy.mem h h4
        subst this
        exact ⟨i, gy, h3⟩
    · rw [if_neg h2] at h; cases h
  · rw [if_neg h1] at h; cases h
/-- A break, or none: behind the block all goes on. -/
theorem jump_block {P : Program} {Q : Exit → Act → World → Prop} {a : Act} {w : World} {id : Nat} {jump : Option Code} (hj : jump = none ∨ jump = some (.exit id)) (h : Q .normal a w) :
    match (generalizing := false) jump with
      | none => Exit.inBlock id Q .normal a w
      | some c => c.wp P (Exit.inBlock id Q) a w := by
  rcases hj with rfl | rfl
  · exact h
  · dsimp only
    refine wp_exit ?_
    simp only [Exit.inBlock]
    simpa using h
structure MnSt where
  i : Nat
  xs : List En
def MnI (B : Base) (R : HL) (A : Option Addr) (n cap : Nat) (x : MnSt) (w : World) : Prop :=
  ∃ sp, x.i ≤ n ∧ x.xs.length = n ∧ OwnSl enE A x.xs sp cap ∧ Sh B (rowA A (flat enE x.xs ++ sp) 37 ++ R) w
def WkJ1 (leave : Int) (l D nb : Nat) (o : Obj) (pre : List En) (d : HL) : Prop :=
  (∀ m < pre.length, ¬ (m : Int) = leave) ∧ d = objB l o ++ (cellB nb [.int .i64 pre.length] 3 ++ (objB D (.deferred (some [])) ++ []))
def WkX1 (leave : Int) (l D nb : Nat) (o : Obj) (pre : List En) (d : HL) : Prop :=
  ∃ k : Nat, (k : Int) = leave ∧ k + 1 = pre.length ∧ d = objB l o ++ (cellB nb [.int .i64 k] 3 ++ (objB D (.deferred (some [])) ++ []))
def noJ (_ : List En) (_ : HL) : Prop := False
/-- How many inner rounds there were. -/
def pairsN (len p : Nat) : Nat := (if p < 8 then p else 8) * len
theorem pairsN_0 (len : Nat) : pairsN len 0 = 0 := by unfold pairsN; simp
theorem pairsN_up {len p : Nat} (h : ¬ 8 < p + 1) : pairsN len (p + 1) = pairsN len p + len := by
  unfold pairsN
  rw [if_pos (by omega : p < 8)]
  by_cases h2 : p + 1 < 8
  · rw [if_pos h2, Nat.succ_mul]
  · rw [if_neg h2, show p = 7 by omega]; omega
theorem pairsN_big {len p : Nat} (h : 8 < p + 1) : pairsN len (p + 1) = pairsN len p := by
  unfold pairsN
  rw [if_neg (by omega), if_neg (by omega)]
theorem pairsN_le {len p : Nat} (h : len ≤ 1024) : pairsN len p ≤ 8192 := by
  unfold pairsN
  split
  · calc p * len ≤ 8 * 1024 := Nat.mul_le_mul (by omega) h
      _ ≤ 8192 := by omega
  · omega
theorem pairsN_wrap {m : Nat} (h : m ≤ 1024) : wrap64 (min 8 (m : Int) * (m : Int)) = (pairsN m m : Nat) := by
  unfold pairsN
  by_cases h8 : m < 8
  · rw [if_pos h8, Int.min_eq_right (by omega)]
    have h1 : m * m ≤ 8 * 1024 := Nat.mul_le_mul (by omega) h
    have h2 : ((m * m : Nat) : Int) = (m : Int) * (m : Int) := by simp
    rw [← h2]
    exact IntWalk.wrap64_in _ (by omega)
  · rw [if_neg h8, Int.min_eq_left (by omega)]
    have h2 : ((8 * m : Nat) : Int) = 8 * (m : Int) := by simp
    rw [← h2]
    exact IntWalk.wrap64_in _ (by omega)
def WkJ2 (len l ab pb : Nat) (o : Obj) (Y : HL) (pre : List En) (d : HL) : Prop :=
  d = objB l o ++ (cellB ab [.int .i64 pre.length] 3 ++ (cellB pb [.int .i64 (pairsN len pre.length)] 3 ++ Y))
def WkJ3 (n l pb : Nat) (o : Obj) (Y : HL) (pre : List En) (d : HL) : Prop :=
  d = objB l o ++ (cellB pb [.int .i64 ((n + pre.length : Nat) : Int)] 3 ++ Y)
section
variable {B : Base} {R H H1 : HL} {w w' : World}
set_option maxRecDepth 100000 in
set_option maxHeartbeats 6400000 in
theorem Walks_any [HasML B] [NoDraw B] (hS : Sh B R w) {A : Option Addr} {cap : Nat} {t : List En} [r : RdAt enE B R A t] (hc : t.length ≤ cap) (hl : t.length ≤ 8388608) (hsm : SmallE t) (dir : ByteArray) (hdir : dir.size ≤ 16777216) (leave : Int) :
    Calls Tryd.prog 8 #[.slice A t.length cap, .string dir, .int .i64 leave] w fun e w' => e = .returned (.bool true) ∧ Sh B R w' := by
  have l0 := fun (w : World) (H : HL) (hS : Sh B H w) (A2 : Option Addr) (cap2 : Nat) (r : RdAt enE B H A2 t) => Walk_any hS (A := A2) (cap := cap2) (t := t) (r := r) (by omega) hsm dir hdir
  have l1 := fun (w : World) (H : HL) (hS : Sh B H w) (r : RdAt enE B H A t) => RSub_any hS (A := A) (cap := cap) (t := t) (r := r) hc (by omega) hsm dir hdir
  have hN0 : OwnSl enE none [] [] 0 := OwnSl.nothing
  have Hsm := Lib.hid hsm
  clear hsm
  refine calls_of_marks Tryd.func8 rfl ?_
  simp only [Tryd.ntmps8, List.size_toArray, List.length_cons, List.length_nil, Nat.reduceAdd, Nat.reduceSub, Array.replicate_succ, Array.replicate_zero, List.push_toArray, List.append_toArray, List.nil_append, List.cons_append]
  go_upto_region 3 with (first | ((fail_if_success (have _hh := tb)); (refine wl_box rfl rfl rfl rfl hS ?_; intro tb _ hS; (try simp only [Act.put, List.setIfInBounds_toArray, List.set_cons_zero, List.set_cons_succ]))) | ((fail_if_success (have _hh := lb)); (refine wl_box rfl rfl rfl rfl hS ?_; intro lb _ hS; (try simp only [Act.put, List.setIfInBounds_toArray, List.set_cons_zero, List.set_cons_succ]))) | (refine wl_alloc rfl rfl hS ?_; intro rb _ hS; (try simp only [Act.put, List.setIfInBounds_toArray, List.set_cons_zero, List.set_cons_succ])) | (go_at_call 14; refine ((alive_any hS)).mono ?_; rintro e w' (⟨rfl, hS⟩)))
  have hS : Sh B (rowA none (flat enE [] ++ []) 37 ++ (cellB rb [.bool false] 4 ++ (cellB lb [.int .i64 leave] 3 ++ (cellB tb [.slice A t.length cap] 22 ++ R)))) _ := hS
  go_upto_region 4 with (first | (refine wl_apz (E := enE) rfl rfl rfl rfl hS ?_ ?_ ?_ ?_ ?_; (focus (rfl)); (focus (rfl)); (focus ((simp only [List.length_nil]; omega))); (focus decide); intro zs A2 sp2 cap2 _ hz0 hO hS; have Hz := Lib.hid hz0; clear hz0; (try simp only [Act.put, List.setIfInBounds_toArray, List.set_cons_zero, List.set_cons_succ])) | (refine wl_isld rfl ?_; ((refine wl_value rfl (ex_ldC hS rfl rfl CellAt.out) ?_); (try simp only [Act.put, List.setIfInBounds_toArray, List.set_cons_zero, List.set_cons_succ]))))
  have hz : zs = t := by rw [Hz.out]; rfl
  clear Hz
  subst hz
  have hO0 := hO
  go_upto_region 5 with (first | (refine wl_alloc rfl rfl hS ?_; intro wb _ hS; (try simp only [Act.put, List.setIfInBounds_toArray, List.set_cons_zero, List.set_cons_succ])) | (go_at_call 23; refine ((l0 _ _ hS _ _ inferInstance)).mono ?_; rintro e w' (⟨sb, db, A3, sp3, cap3, rfl, hO3, hS⟩)) | (refine wl_st rfl rfl rfl rfl rfl hS (of_decide_eq_true rfl) ?_; intro _ hS; (try simp only [evT, evC, List.getD_cons_succ, List.getD_cons_zero, List.set_cons_zero, List.set_cons_succ] at hS); (try simp only [List.set_cons_zero, List.set_cons_succ] at hS); (try simp only [Act.put, List.setIfInBounds_toArray, List.set_cons_zero, List.set_cons_succ])))
  clear l0
  obtain ⟨T, hT⟩ : ∃ T, walkT zs dir = T := ⟨_, rfl⟩
  have Hws := Lib.hid (walk_sub zs dir)
  have Hwm := Lib.hid (fun x (hx : x ∈ walkT zs dir) => walk_mem hx)
  have hTl := walk_len zs dir
  rw [hT] at Hws Hwm hTl hO3 hS
  go_upto_region 6 with (fail)
  have hmx := (OwnD.of hO).ok
  have h0 : MnI B (cellB wb [walkV sb db] 49 ++ (walkH sb db A3 T.length cap3 dir ++ (rowA A3 (flat enE T ++ sp3) 37 ++ (cellB rb [.bool false] 4 ++ (cellB lb [.int .i64 leave] 3 ++ (cellB tb [.slice A zs.length cap] 22 ++ R)))))) A2 zs.length cap2 ⟨0, zs⟩ _ := ⟨sp2, Nat.zero_le _, rfl, hO, hS.to⟩
  clear hS hO hN0
  refine wp_loopS [27] [9, 28, 29, 30, 31, 32, 33, 34] (fun x : MnSt => [.int .i64 x.i]) (MnI B _ A2 zs.length cap2) (fun x => zs.length - x.i) (⟨0, zs⟩) rfl (h0) ?_
  clear h0
  rintro ⟨i, ls⟩ J w ⟨sp2, hi, hlen, hO, hS⟩
  dsimp only at hi hlen hO hS
  have Hlen := Lib.hid hlen
  clear hlen
  (simp only [Frm, setsT, junkT, List.setIfInBounds_toArray, List.set_cons_zero, List.set_cons_succ])
  by_cases hlt : i < zs.length
  · obtain ⟨y, gy⟩ := Nth.of (xs := ls) (j := i) (by rw [Hlen.out]; exact hlt)
    have H2 := Lib.hid (show (ls.set i (⟨⟨#[122, 122]⟩, 0, ⟨#[]⟩⟩ : En)).length = zs.length by rw [List.length_set, Hlen.out])
    go_wp2_with (first | (refine wl_build ((enE.cells (⟨⟨#[122, 122]⟩, 0, ⟨#[]⟩⟩ : En))) _ rfl rfl (by simp only [List.map_toArray, List.map_cons, List.map_nil]; rfl) rfl ?_; (try simp only [Act.put, List.setIfInBounds_toArray, List.set_cons_zero, List.set_cons_succ])) | (refine wl_value rfl ((ex_ixN rfl rfl rfl hlt hmx)) ?_; (try simp only [Act.put, List.setIfInBounds_toArray, List.set_cons_zero, List.set_cons_succ])) | (refine wl_stEw (z := (⟨⟨#[122, 122]⟩, 0, ⟨#[]⟩⟩ : En)) rfl rfl rfl rfl hS hO rfl rfl ?_; clear hO; intro _ hS hO _; (try simp only [evT, evC, List.getD_cons_succ, List.getD_cons_zero, List.set_cons_zero, List.set_cons_succ] at hS); (try simp only [Act.put, List.setIfInBounds_toArray, List.set_cons_zero, List.set_cons_succ])))
    exact ⟨(⟨i + 1, _⟩ : MnSt), ⟨_, hlt, H2.out, hO, hS.to⟩, (by dsimp only; omega), rfl, (by (simp only [blankT, junkT, List.cons_append, List.nil_append, List.setIfInBounds_toArray, List.set_cons_zero, List.set_cons_succ])), rfl⟩
  · clear Hlen
    go_upto_region 11 with (first | (go_at_call 24; refine ((l1 _ _ hS inferInstance)).mono ?_; rintro e w' (⟨A5, sp5, cap5, rfl, hO5, hS⟩)) | (refine wl_isld rfl ?_; ((refine wl_value rfl (ex_ldC hS rfl rfl CellAt.out) ?_); (try simp only [Act.put, List.setIfInBounds_toArray, List.set_cons_zero, List.set_cons_succ]))))
    clear l1
    go_upto_region 13 with (first | (refine wl_alloc rfl rfl hS ?_; intro nb _ hS; (try simp only [Act.put, List.setIfInBounds_toArray, List.set_cons_zero, List.set_cons_succ])) | (refine wl_isld rfl ?_; ((refine wl_value rfl (ex_ldC hS rfl rfl CellAt.out) ?_); (try simp only [Act.put, List.setIfInBounds_toArray, List.set_cons_zero, List.set_cons_succ]))) | (refine wl_st rfl rfl rfl rfl rfl hS (of_decide_eq_true rfl) ?_; intro _ hS; (try simp only [evT, evC, List.getD_cons_succ, List.getD_cons_zero, List.set_cons_zero, List.set_cons_succ] at hS); (try simp only [List.set_cons_zero, List.set_cons_succ] at hS); (try simp only [Act.put, List.setIfInBounds_toArray, List.set_cons_zero, List.set_cons_succ])))
    unfold walkH at hS
    simp only [List.append_assoc, List.cons_append, List.nil_append] at hS
    have hS := hS.to (H' := cellB nb [.int .i64 0] 3 ++ (cellB sb [.slice A3 T.length cap3] 22 ++ (cellB db [.string dir] 9 ++ (rowA A3 (flat enE T ++ sp3) 37 ++ (cellB wb [walkV sb db] 49 ++ (cellB rb [.bool false] 4 ++ (cellB lb [.int .i64 leave] 3 ++ (cellB tb [.slice A zs.length cap] 22 ++ R))))))))
    have hN : ∀ (w : World) (H : HL), Sh B H w → ∀ x ∈ T, RdAt enE B H A zs → Calls Tryd.prog 25 #[.slice A zs.length cap, .string x.path] w fun e w' => e = .returned (.int .i64 (findI zs x.path)) ∧ Sh B H w' := fun w H hS x hx r => FindR_any hS (cap := cap) (t := zs) (r := r) (by omega) x.path
    have HN := Lib.hid hN
    clear hN hT
    refine wp_rangeO hS rfl (EntersC.out (P := Tryd.prog) (f := 51)) ?_
    intro fn l D w2 O hL hS
    refine (Walk1_any (B := B) (R := rowA A3 (flat enE T ++ sp3) 37 ++ (cellB wb [walkV sb db] 49 ++ (cellB rb [.bool false] 4 ++ (cellB lb [.int .i64 leave] 3 ++ (cellB tb [.slice A zs.length cap] 22 ++ R))))) (sb := sb) (db := db) (l0 := l) (A := A3) (cap := cap3) (t := T) (dir := dir) (r := inferInstance) (J := WkJ1 leave l D nb (O .ready none)) (Jx := WkX1 leave l D nb (O .done (some (.exit 2)))) (by omega) hdir (fun e he => Hsm.out e (Hwm.out e he).1) ?_ (d := objB l (O .ready none) ++ (cellB nb [.int .i64 0] 3 ++ (objB D (.deferred (some [])) ++ []))) ⟨(fun m hm => absurd hm (Nat.not_lt_zero _)), rfl⟩ ?_).mono ?_
    · rintro F pre x d w hx hpl hab ⟨hJ, rfl⟩ hS
      obtain ⟨hxz, k, gx, hfk⟩ := Hwm.out x hx
      have lf := fun (w : World) (H : HL) (hS : Sh B H w) (r : RdAt enE B H A zs) => HN.out w H hS x hx r
      rw [hfk] at lf
      have hJ' := Lib.hid hJ
      clear hJ
      simp only [List.append_assoc, List.nil_append] at hS
      have hpre : ¬ (pre.length : Int) = 9223372036854775807 := by omega
      refine hL.yield2 hS ?_
      intro K hK
      (try simp only [Act.put, List.setIfInBounds_toArray, List.set_cons_zero, List.set_cons_succ])
      refine wpIn_region_of (by rintro ⟨a, w, h⟩; exact h) rfl ?_
      go_wp2_with (first | (refine wl_alloc rfl rfl hS ?_; intro xb _ hS; (try simp only [Act.put, List.setIfInBounds_toArray, List.set_cons_zero, List.set_cons_succ])) | (refine wl_strC rfl rfl rfl rfl hS rfl rfl ?_; intro _ hS; (try simp only [evT, evC, List.getD_cons_succ, List.getD_cons_zero, List.set_cons_zero, List.set_cons_succ] at hS); (try simp only [Act.put, List.setIfInBounds_toArray, List.set_cons_zero, List.set_cons_succ])))
      refine hK _ _ (cellB xb x.cells 37 ++ (cellB nb [.int .i64 pre.length] 3 ++ (objB D (.deferred (some [])) ++ (F ++ (cellB sb [.slice A3 T.length cap3] 22 ++ (cellB db [.string dir] 9 ++ (rowA A3 (flat enE T ++ sp3) 37 ++ (cellB wb [walkV sb db] 49 ++ (cellB rb [.bool false] 4 ++ (cellB lb [.int .i64 leave] 3 ++ (cellB tb [.slice A zs.length cap] 22 ++ R))))))))))) hS.to ?_
      clear hK hS
      intro w3 hS
      refine wpIn_block ?_
      refine wpIn_seq_k fun K2 h2 => ?_
      refine wpIn_region_of (by rintro ⟨a, w, h⟩; exact h) rfl ?_
      go_wp2_with (first | (go_at_call 25; refine ((lf _ _ hS inferInstance)).mono ?_; rintro e w' (⟨rfl, hS⟩)) | (refine wl_isld rfl ?_; ((refine wl_value rfl (ex_ldC hS rfl rfl CellAt.out) ?_); (try simp only [Act.put, List.setIfInBounds_toArray, List.set_cons_zero, List.set_cons_succ]))))
      refine wpIn_seq_k fun K3 h3 => ?_
      refine wpIn_seq_k fun K4 h4 => ?_
      have dk : decide ((k : Int) < 0) = false := decide_eq_false (by omega)
      haveI qE : EqA Tryd.prog 37 (enE.cells x) x.cells true := eqE_yes x
      (refine wp_drawnFR hS [(0, true), (1, true), (2, true), (3, true), (4, true), (5, true), (6, true), (7, true), (8, true), (9, true)] (by kernel_rfl) (by kernel_rfl) (by intro d _ _ _ _ h; cases d <;> exact h) (by rintro ⟨a, w, h⟩; exact h) ?_; have hS := hS.drew; simp only [picks_cons, picks_nil, opAt, List.toList_toArray]; (refine wpF_U (v := ?_) rfl ?_ (Sh.to hS) ?_; rotate_left; (focus (intro _ _; go_simp; (try (rw [wrap_i64]; (rotate_left; omega))); (try with_reducible rfl))); (try simp only [Act.put, List.setIfInBounds_toArray, List.set_cons_zero, List.set_cons_succ])); (refine wpF_U (v := ?_) rfl ?_ (Sh.to hS) ?_; rotate_left; (focus (intro _ _; go_simp; (try (rw [wrap_i64]; (rotate_left; omega))); (try with_reducible rfl))); (try simp only [Act.put, List.setIfInBounds_toArray, List.set_cons_zero, List.set_cons_succ])); (refine wpF_U (v := ?_) rfl ?_ (Sh.to hS) ?_; rotate_left; (focus (intro _ _; go_simp; (try (rw [wrap_i64]; (rotate_left; omega))); (try with_reducible rfl))); (try simp only [Act.put, List.setIfInBounds_toArray, List.set_cons_zero, List.set_cons_succ])); (((refine wpF_U rfl (fun _ hT => ex_ldC hT rfl rfl CellAt.out) (Sh.to hS) ?_); (try simp only [Act.put, List.setIfInBounds_toArray, List.set_cons_zero, List.set_cons_succ]))); ((refine wpF_U (v := ?_) rfl ?_ (Sh.to hS) ?_; rotate_left; (focus (intro _ _; go_simp; (try (rw [wrap_i64]; (rotate_left; omega))); (try with_reducible rfl))); (try simp only [Act.put, List.setIfInBounds_toArray, List.set_cons_zero, List.set_cons_succ]))); (((refine wpF_U rfl (fun _ hT => ex_ix hT rfl rfl rfl ?_) (Sh.to hS) ?_); (focus (rfl)); (try simp only [Act.put, List.setIfInBounds_toArray, List.set_cons_zero, List.set_cons_succ]))); (((refine wpF_U rfl (fun _ hT => ex_lr hT rfl rfl rfl rfl) (Sh.to hS) ?_); (try simp only [Act.put, List.setIfInBounds_toArray, List.set_cons_zero, List.set_cons_succ]))); (((refine wpF_U rfl (fun _ hT => ex_ldr0 hT rfl rfl rfl) (Sh.to hS) ?_); (try simp only [Act.put, List.setIfInBounds_toArray, List.set_cons_zero, List.set_cons_succ]))); (((refine wpF_U rfl (fun _ hT => ex_neA rfl rfl rfl) (Sh.to hS) ?_); (try simp only [Act.put, List.setIfInBounds_toArray, List.set_cons_zero, List.set_cons_succ]))); (refine wpF_U (v := ?_) rfl ?_ (Sh.to hS) ?_; rotate_left; (focus (intro _ _; go_simp; (try (rw [wrap_i64]; (rotate_left; omega))); (try with_reducible rfl))); (try simp only [Act.put, List.setIfInBounds_toArray, List.set_cons_zero, List.set_cons_succ])); ((refine wpF_done (by assumption) ?_)))
      clear qE lf
      refine wpIn_cond_false rfl ?_
      refine wpIn_skip ?_
      refine h3 _ _ ?_
      clear h3 h4
      refine wpIn_seq_k fun K5 h5 => ?_
      refine wpIn_seq_k fun K6 h6 => ?_
      by_cases hle : (pre.length : Int) = leave
      · have d1 : ((pre.length : Int) == leave) = true := by rw [hle]; simp
        refine wpIn_region_of (by rintro ⟨a, w, h⟩; exact h) rfl ?_
        go_wp2_with ((refine wl_isld rfl ?_; ((refine wl_value rfl (ex_ldC hS rfl rfl CellAt.out) ?_); (try simp only [Act.put, List.setIfInBounds_toArray, List.set_cons_zero, List.set_cons_succ]))))
        refine wpIn_cond_true rfl ?_
        refine wpIn_exit ?_
        simp only [Exit.then, Exit.inBlock, Nat.reduceEqDiff, if_false, reduceCtorEq]
        refine hL.exit_ (H := cellB nb [.int .i64 pre.length] 3 ++ (objB D (.deferred (some [])) ++ (F ++ (cellB sb [.slice A3 T.length cap3] 22 ++ (cellB db [.string dir] 9 ++ (rowA A3 (flat enE T ++ sp3) 37 ++ (cellB wb [walkV sb db] 49 ++ (cellB rb [.bool false] 4 ++ (cellB lb [.int .i64 leave] 3 ++ (cellB tb [.slice A zs.length cap] 22 ++ R)))))))))) hS.to ?_
        intro w5 hS
        refine .inr ⟨rfl, _, ⟨pre.length, hle, by simp, rfl⟩, ?_⟩
        simp only [List.append_assoc, List.nil_append]
        exact hS.to
      · have d1 : ((pre.length : Int) == leave) = false := by simpa using hle
        refine wpIn_region_of (by rintro ⟨a, w, h⟩; exact h) rfl ?_
        go_wp2_with ((refine wl_isld rfl ?_; ((refine wl_value rfl (ex_ldC hS rfl rfl CellAt.out) ?_); (try simp only [Act.put, List.setIfInBounds_toArray, List.set_cons_zero, List.set_cons_succ]))))
        refine wpIn_cond_false rfl ?_
        refine wpIn_skip ?_
        refine h5 _ _ ?_
        clear h5
        refine wpIn_region_of (by rintro ⟨a, w, h⟩; exact h) rfl ?_
        go_wp2_with (first | (refine wl_isld rfl ?_; ((refine wl_value rfl (ex_ldC hS rfl rfl CellAt.out) ?_); (try simp only [Act.put, List.setIfInBounds_toArray, List.set_cons_zero, List.set_cons_succ]))) | (refine wl_st rfl rfl rfl rfl rfl hS (of_decide_eq_true rfl) ?_; intro _ hS; (try simp only [evT, evC, List.getD_cons_succ, List.getD_cons_zero, List.set_cons_zero, List.set_cons_succ] at hS); (try simp only [List.set_cons_zero, List.set_cons_succ] at hS); (try simp only [Act.put, List.setIfInBounds_toArray, List.set_cons_zero, List.set_cons_succ])))
        (try simp only [Exit.inBlock])
        rw [show (pre.length : Int) + 1 = (((pre ++ [x]).length : Nat) : Int) by simp] at hS
        refine hL.end_ (H := cellB nb [.int .i64 (pre ++ [x]).length] 3 ++ (objB D (.deferred (some [])) ++ (F ++ (cellB sb [.slice A3 T.length cap3] 22 ++ (cellB db [.string dir] 9 ++ (rowA A3 (flat enE T ++ sp3) 37 ++ (cellB wb [walkV sb db] 49 ++ (cellB rb [.bool false] 4 ++ (cellB lb [.int .i64 leave] 3 ++ (cellB tb [.slice A zs.length cap] 22 ++ R)))))))))) hS.to ?_
        intro w5 hS
        have hJ2 : ∀ m < (pre ++ [x]).length, ¬ (m : Int) = leave := by
          intro m hm
          rw [List.length_append, List.length_singleton] at hm
          by_cases hm2 : m < pre.length
          · exact hJ'.out m hm2
          · rw [show m = pre.length by omega]; exact hle
        refine .inl ⟨rfl, _, ⟨hJ2, rfl⟩, ?_⟩
        simp only [List.append_assoc, List.nil_append]
        exact hS.to
    · simp only [List.append_assoc, List.nil_append]
      exact hS.to
    · intro e w' h
      have hm : ∃ (v : Value) (st : LoopState) (jump : Option Code) (N : Nat), e = .returned v ∧ st ≠ .busy ∧ (jump = none ∨ jump = some (.exit 2)) ∧ N ≤ (belowL dir T).length ∧ (N = (belowL dir T).length ∨ (N : Int) = leave) ∧
          Sh B (objB l (O st jump) ++ (cellB nb [.int .i64 N] 3 ++ (objB D (.deferred (some [])) ++ (cellB sb [.slice A3 T.length cap3] 22 ++ (cellB db [.string dir] 9 ++ (rowA A3 (flat enE T ++ sp3) 37 ++ (cellB wb [walkV sb db] 49 ++ (cellB rb [.bool false] 4 ++ (cellB lb [.int .i64 leave] 3 ++ (cellB tb [.slice A zs.length cap] 22 ++ R)))))))))) w' := by
        obtain ⟨v, rfl, ⟨d, ⟨hJ, rfl⟩, hS⟩ | ⟨pre, d, hpre, ⟨k, hk, hk2, rfl⟩, hS⟩⟩ := h
        · simp only [List.append_assoc, List.nil_append] at hS
          exact ⟨v, .ready, none, _, rfl, by decide, .inl rfl, Nat.le_refl _, .inl rfl, hS⟩
        · simp only [List.append_assoc, List.nil_append] at hS
          exact ⟨v, .done, some (.exit 2), k, rfl, by decide, .inr rfl, (by have := hpre.length_le; omega), .inr hk, hS⟩
      clear h hS
      obtain ⟨v, st, jump, N, rfl, hst, hj, hN1, hN2, hS⟩ := hm
      refine ⟨_, st, jump, _, rfl, hst, hS, ?_⟩
      intro w4 hS
      refine jump_block hj ?_
      clear hj hst hL
      simp only [Exit.then]
      go_upto_region 21 with (first | ((fail_if_success (have _hh := ab)); (refine wl_alloc rfl rfl hS ?_; intro ab _ hS; (try simp only [Act.put, List.setIfInBounds_toArray, List.set_cons_zero, List.set_cons_succ]))) | (refine wl_alloc rfl rfl hS ?_; intro pb _ hS; (try simp only [Act.put, List.setIfInBounds_toArray, List.set_cons_zero, List.set_cons_succ])) | (refine wl_isld rfl ?_; ((refine wl_value rfl (ex_ldC hS rfl rfl CellAt.out) ?_); (try simp only [Act.put, List.setIfInBounds_toArray, List.set_cons_zero, List.set_cons_succ]))) | (refine wl_st rfl rfl rfl rfl rfl hS (of_decide_eq_true rfl) ?_; intro _ hS; (try simp only [evT, evC, List.getD_cons_succ, List.getD_cons_zero, List.set_cons_zero, List.set_cons_succ] at hS); (try simp only [List.set_cons_zero, List.set_cons_succ] at hS); (try simp only [Act.put, List.setIfInBounds_toArray, List.set_cons_zero, List.set_cons_succ])))
      have hS := hS.to (H' := cellB ab [.int .i64 0] 3 ++ (cellB pb [.int .i64 0] 3 ++ (cellB nb [.int .i64 N] 3 ++ (objB D (.deferred (some [])) ++ (cellB sb [.slice A3 T.length cap3] 22 ++ (cellB db [.string dir] 9 ++ (rowA A3 (flat enE T ++ sp3) 37 ++ (cellB wb [walkV sb db] 49 ++ (cellB rb [.bool false] 4 ++ (cellB lb [.int .i64 leave] 3 ++ (cellB tb [.slice A zs.length cap] 22 ++ R)))))))))))
      refine wp_rangeO hS rfl (EntersC.out (P := Tryd.prog) (f := 51)) ?_
      intro fn l D2 w2 O hL hS
      refine (Walk1_any (B := B) (R := rowA A3 (flat enE T ++ sp3) 37 ++ (cellB wb [walkV sb db] 49 ++ (cellB rb [.bool false] 4 ++ (cellB lb [.int .i64 leave] 3 ++ (cellB tb [.slice A zs.length cap] 22 ++ R))))) (sb := sb) (db := db) (l0 := l) (A := A3) (cap := cap3) (t := T) (dir := dir) (r := inferInstance) (J := WkJ2 (belowL dir T).length l ab pb (O .ready none) (objB D2 (.deferred (some [])) ++ (cellB nb [.int .i64 N] 3 ++ (objB D (.deferred (some [])) ++ [])))) (Jx := noJ) (by omega) hdir (fun e he => Hsm.out e (Hwm.out e he).1) ?_ (d := objB l (O .ready none) ++ (cellB ab [.int .i64 0] 3 ++ (cellB pb [.int .i64 0] 3 ++ (objB D2 (.deferred (some [])) ++ (cellB nb [.int .i64 N] 3 ++ (objB D (.deferred (some [])) ++ [])))))) (by unfold WkJ2; rw [List.length_nil, pairsN_0]; rfl) ?_).mono ?_
      · rintro F pre x d w hx hpl hab rfl hS
        simp only [List.append_assoc, List.nil_append] at hS
        obtain ⟨P0, hP0⟩ : ∃ P0, pairsN (belowL dir T).length pre.length = P0 := ⟨_, rfl⟩
        rw [hP0] at hS
        have hPb : P0 ≤ 8192 := by rw [← hP0]; exact pairsN_le (by have := List.length_filter_le (fun e : En => aboveB dir e.path) T; unfold belowL; omega)
        have hbl : (belowL dir T).length ≤ 1024 := by have := List.length_filter_le (fun e : En => aboveB dir e.path) T; unfold belowL; omega
        have HP0 := Lib.hid hP0
        clear hP0
        refine hL.yield2 hS ?_
        intro K hK
        (try simp only [Act.put, List.setIfInBounds_toArray, List.set_cons_zero, List.set_cons_succ])
        refine wpIn_skip ?_
        refine hK _ _ (cellB ab [.int .i64 pre.length] 3 ++ (cellB pb [.int .i64 P0] 3 ++ (objB D2 (.deferred (some [])) ++ (cellB nb [.int .i64 N] 3 ++ (objB D (.deferred (some [])) ++ (F ++ (cellB sb [.slice A3 T.length cap3] 22 ++ (cellB db [.string dir] 9 ++ (rowA A3 (flat enE T ++ sp3) 37 ++ (cellB wb [walkV sb db] 49 ++ (cellB rb [.bool false] 4 ++ (cellB lb [.int .i64 leave] 3 ++ (cellB tb [.slice A zs.length cap] 22 ++ R))))))))))))) hS.to ?_
        clear hK hS
        intro w3 hS
        refine wpIn_block ?_
        refine wpIn_seq_k fun K2 h2 => ?_
        refine wpIn_region_of (by rintro ⟨a, w, h⟩; exact h) rfl ?_
        go_wp2_with (first | (refine wl_isld rfl ?_; ((refine wl_value rfl (ex_ldC hS rfl rfl CellAt.out) ?_); (try simp only [Act.put, List.setIfInBounds_toArray, List.set_cons_zero, List.set_cons_succ]))) | (refine wl_st rfl rfl rfl rfl rfl hS (of_decide_eq_true rfl) ?_; intro _ hS; (try simp only [evT, evC, List.getD_cons_succ, List.getD_cons_zero, List.set_cons_zero, List.set_cons_succ] at hS); (try simp only [List.set_cons_zero, List.set_cons_succ] at hS); (try simp only [Act.put, List.setIfInBounds_toArray, List.set_cons_zero, List.set_cons_succ])))
        rw [show (pre.length : Int) + 1 = (((pre ++ [x]).length : Nat) : Int) by simp] at hS
        refine wpIn_seq_k fun K3 h3 => ?_
        refine wpIn_seq_k fun K4 h4 => ?_
        have hpl2 : (pre ++ [x]).length = pre.length + 1 := by simp
        obtain ⟨p1, hp1⟩ : ∃ p1, (pre ++ [x]).length = p1 := ⟨_, rfl⟩
        rw [hp1] at hS hpl2
        have Hp1 := Lib.hid hp1
        have hp1b : p1 ≤ 1024 := by omega
        have Hpl2 := Lib.hid hpl2
        clear hp1 hpl2
        refine wpIn_region_of (by rintro ⟨a, w, h⟩; exact h) rfl ?_
        by_cases h8 : 8 < p1
        · have d8 : decide ((p1 : Int) > 8) = true := decide_eq_true (by omega)
          have e8 : decide (8 < (p1 : Int)) = true := decide_eq_true (by omega)
          go_wp2_with ((refine wl_isld rfl ?_; ((refine wl_value rfl (ex_ldC hS rfl rfl CellAt.out) ?_); (try simp only [Act.put, List.setIfInBounds_toArray, List.set_cons_zero, List.set_cons_succ]))))
          refine wpIn_cond_true rfl ?_
          refine wpIn_exit ?_
          simp only [Exit.then, Exit.inBlock, if_true]
          refine hL.end_ (H := cellB ab [.int .i64 p1] 3 ++ (cellB pb [.int .i64 P0] 3 ++ (objB D2 (.deferred (some [])) ++ (cellB nb [.int .i64 N] 3 ++ (objB D (.deferred (some [])) ++ (F ++ (cellB sb [.slice A3 T.length cap3] 22 ++ (cellB db [.string dir] 9 ++ (rowA A3 (flat enE T ++ sp3) 37 ++ (cellB wb [walkV sb db] 49 ++ (cellB rb [.bool false] 4 ++ (cellB lb [.int .i64 leave] 3 ++ (cellB tb [.slice A zs.length cap] 22 ++ R))))))))))))) hS.to ?_
          intro w5 hS
          refine .inl ⟨rfl, _, rfl, ?_⟩
          rw [Hp1.out, Hpl2.out, pairsN_big (by have := Hpl2.out; omega), HP0.out, ← Hpl2.out]
          simp only [List.append_assoc, List.nil_append]
          exact hS.to
        · have d8 : decide ((p1 : Int) > 8) = false := decide_eq_false (by omega)
          have e8 : decide (8 < (p1 : Int)) = false := decide_eq_false (by omega)
          go_wp2_with ((refine wl_isld rfl ?_; ((refine wl_value rfl (ex_ldC hS rfl rfl CellAt.out) ?_); (try simp only [Act.put, List.setIfInBounds_toArray, List.set_cons_zero, List.set_cons_succ]))))
          refine wpIn_cond_false rfl ?_
          refine wpIn_skip ?_
          refine h3 _ _ ?_
          clear h3
          refine wpIn_seq_k fun K5 h5 => ?_
          refine wpIn_region_of (by rintro ⟨a, w, h⟩; exact h) rfl ?_
          go_wp2_with ((refine wl_isld rfl ?_; ((refine wl_value rfl (ex_ldC hS rfl rfl CellAt.out) ?_); (try simp only [Act.put, List.setIfInBounds_toArray, List.set_cons_zero, List.set_cons_succ]))))
          refine wpIn_block ?_
          refine wp_rangeI hL hS rfl (EntersC.out (P := Tryd.prog) (f := 51)) ?_
          intro fn3 l3 w5 O3 hL3 hS
          refine (Walk1_any (B := B) (R := rowA A3 (flat enE T ++ sp3) 37 ++ (cellB wb [walkV sb db] 49 ++ (cellB rb [.bool false] 4 ++ (cellB lb [.int .i64 leave] 3 ++ (cellB tb [.slice A zs.length cap] 22 ++ R))))) (sb := sb) (db := db) (l0 := l3) (A := A3) (cap := cap3) (t := T) (dir := dir) (r := inferInstance) (J := WkJ3 P0 l3 pb (O3 .ready none) (objB l (O .busy none) ++ (cellB ab [.int .i64 p1] 3 ++ (objB D2 (.deferred (some [])) ++ (cellB nb [.int .i64 N] 3 ++ (objB D (.deferred (some [])) ++ F)))))) (Jx := noJ) (by omega) hdir (fun e he => Hsm.out e (Hwm.out e he).1) ?_ (d := objB l3 (O3 .ready none) ++ (cellB pb [.int .i64 P0] 3 ++ (objB l (O .busy none) ++ (cellB ab [.int .i64 p1] 3 ++ (objB D2 (.deferred (some [])) ++ (cellB nb [.int .i64 N] 3 ++ (objB D (.deferred (some [])) ++ F))))))) (by unfold WkJ3; rw [List.length_nil, Nat.add_zero]) ?_).mono ?_
          · rintro F3 pre3 x3 d3 w6 hx3 hpl3 hab3 rfl hS
            simp only [List.append_assoc, List.nil_append] at hS
            refine hL3.yield2 hS ?_
            intro K hK
            (try simp only [Act.put, List.setIfInBounds_toArray, List.set_cons_zero, List.set_cons_succ])
            refine wpIn_skip ?_
            obtain ⟨n3, hn3⟩ : ∃ n3, P0 + pre3.length = n3 := ⟨_, rfl⟩
            have hn4 : n3 ≤ 9300 := by omega
            have Hn3 := Lib.hid hn3
            rw [hn3] at hS
            clear hn3
            refine hK _ _ (cellB pb [.int .i64 n3] 3 ++ (objB l (O .busy none) ++ (cellB ab [.int .i64 p1] 3 ++ (objB D2 (.deferred (some [])) ++ (cellB nb [.int .i64 N] 3 ++ (objB D (.deferred (some [])) ++ (F ++ (F3 ++ (cellB sb [.slice A3 T.length cap3] 22 ++ (cellB db [.string dir] 9 ++ (rowA A3 (flat enE T ++ sp3) 37 ++ (cellB wb [walkV sb db] 49 ++ (cellB rb [.bool false] 4 ++ (cellB lb [.int .i64 leave] 3 ++ (cellB tb [.slice A zs.length cap] 22 ++ R))))))))))))))) hS.to ?_
            clear hK hS
            intro w7 hS
            refine wpIn_block ?_
            refine wpIn_region_of (by rintro ⟨a, w, h⟩; exact h) rfl ?_
            go_wp2_with (first | (refine wl_isld rfl ?_; ((refine wl_value rfl (ex_ldC hS rfl rfl CellAt.out) ?_); (try simp only [Act.put, List.setIfInBounds_toArray, List.set_cons_zero, List.set_cons_succ]))) | (refine wl_st rfl rfl rfl rfl rfl hS (of_decide_eq_true rfl) ?_; intro _ hS; (try simp only [evT, evC, List.getD_cons_succ, List.getD_cons_zero, List.set_cons_zero, List.set_cons_succ] at hS); (try simp only [List.set_cons_zero, List.set_cons_succ] at hS); (try simp only [Act.put, List.setIfInBounds_toArray, List.set_cons_zero, List.set_cons_succ])))
            (try simp only [Exit.inBlock])
            refine hL3.end_ (H := cellB pb [.int .i64 ((n3 : Int) + 1)] 3 ++ (objB l (O .busy none) ++ (cellB ab [.int .i64 p1] 3 ++ (objB D2 (.deferred (some [])) ++ (cellB nb [.int .i64 N] 3 ++ (objB D (.deferred (some [])) ++ (F ++ (F3 ++ (cellB sb [.slice A3 T.length cap3] 22 ++ (cellB db [.string dir] 9 ++ (rowA A3 (flat enE T ++ sp3) 37 ++ (cellB wb [walkV sb db] 49 ++ (cellB rb [.bool false] 4 ++ (cellB lb [.int .i64 leave] 3 ++ (cellB tb [.slice A zs.length cap] 22 ++ R))))))))))))))) hS.to ?_
            intro w8 hS
            refine .inl ⟨rfl, _, rfl, ?_⟩
            rw [show ((P0 + (pre3 ++ [x3]).length : Nat) : Int) = (n3 : Int) + 1 by rw [List.length_append, List.length_singleton, ← Hn3.out]; omega]
            simp only [List.append_assoc, List.nil_append]
            exact hS.to
          · simp only [List.append_assoc, List.nil_append]
            exact hS.to
          · rintro e w' ⟨v, rfl, ⟨d, rfl, hS⟩ | ⟨_, _, _, h, _⟩⟩
            · simp only [List.append_assoc, List.nil_append] at hS
              refine ⟨_, .ready, none, _, rfl, by decide, hS, ?_⟩
              intro w4 hS
              simp only [Exit.inBlock, Exit.then]
              refine hL.end_ (H := cellB ab [.int .i64 p1] 3 ++ (cellB pb [.int .i64 ((P0 + (belowL dir T).length : Nat) : Int)] 3 ++ (objB D2 (.deferred (some [])) ++ (cellB nb [.int .i64 N] 3 ++ (objB D (.deferred (some [])) ++ (F ++ (cellB sb [.slice A3 T.length cap3] 22 ++ (cellB db [.string dir] 9 ++ (rowA A3 (flat enE T ++ sp3) 37 ++ (cellB wb [walkV sb db] 49 ++ (cellB rb [.bool false] 4 ++ (cellB lb [.int .i64 leave] 3 ++ (cellB tb [.slice A zs.length cap] 22 ++ R))))))))))))) hS.to ?_
              intro w5 hS
              refine .inl ⟨rfl, _, rfl, ?_⟩
              rw [Hp1.out, Hpl2.out, pairsN_up (by have := Hpl2.out; omega), HP0.out, ← Hpl2.out]
              simp only [List.append_assoc, List.nil_append]
              exact hS.to
            · exact False.elim h
      · simp only [List.append_assoc, List.nil_append]
        exact hS.to
      · rintro e w' ⟨v, rfl, ⟨d, rfl, hS⟩ | ⟨_, _, _, h, _⟩⟩
        · simp only [List.append_assoc, List.nil_append] at hS
          refine ⟨_, .ready, none, _, rfl, by decide, hS, ?_⟩
          intro w4 hS
          simp only [Exit.inBlock, Exit.then]
          rcases Hws.out with ⟨he, hsl⟩ | ⟨he, hsl⟩
          · obtain ⟨m, hm⟩ : ∃ m, (belowL dir T).length = m := ⟨_, rfl⟩
            have hm1 : m ≤ 1024 := by rw [← hm]; have := List.length_filter_le (fun e : En => aboveB dir e.path) T; unfold belowL; omega
            rw [hm] at hS hN1 hN2 hsl
            rw [← hsl, he]
            have d2 : ((m : Int) == (m : Int)) = true := by simp
            clear he hsl Hws Hwm HN
            obtain ⟨q, hq⟩ : ∃ q : Nat, pairsN m m = q := ⟨_, rfl⟩
            rw [hq] at hS
            have e4 : wrap64 (min 8 (m : Int) * (m : Int)) = (q : Int) := by
              rw [← hq]
              exact pairsN_wrap hm1
            have d4 : ((q : Int) == wrap64 (min 8 (m : Int) * (m : Int))) = true := by rw [e4]; simp
            have E4 := Lib.hid e4
            clear e4
            by_cases hNm : N = m
            · subst hNm
              clear hN2
              go_wp2_with (first | (refine wl_isld rfl ?_; ((refine wl_value rfl (ex_ldC hS rfl rfl CellAt.out) ?_); (try simp only [Act.put, List.setIfInBounds_toArray, List.set_cons_zero, List.set_cons_succ]))) | (refine wl_st rfl rfl rfl rfl rfl hS (of_decide_eq_true rfl) ?_; intro _ hS; (try simp only [evT, evC, List.getD_cons_succ, List.getD_cons_zero, List.set_cons_zero, List.set_cons_succ] at hS); (try simp only [List.set_cons_zero, List.set_cons_succ] at hS); (try simp only [Act.put, List.setIfInBounds_toArray, List.set_cons_zero, List.set_cons_succ])))
              refine post_marks2 (D := D) (D2 := D2) (v := .bool true) (H := cellB rb [.bool true] 4 ++ R) hS.to rfl ?_
              intro w' hS
              exact ⟨run_results (rs := [.cell 6 4]) (vs := [.bool true]) rfl (.cell rfl (ldv_sc (Sh.ldC hS rfl)) .nil), rfl, hS.to⟩
            · have hNl : (N : Int) = leave := by
                rcases hN2 with h | h
                · exact absurd h hNm
                · exact h
              subst hNl
              have d5 : ((N : Int) == (m : Int)) = false := beq_no (by omega)
              have d6 : ((N : Int) == (N : Int)) = true := by simp
              clear hN2 hNm hN1
              go_wp2_with (first | (refine wl_isld rfl ?_; ((refine wl_value rfl (ex_ldC hS rfl rfl CellAt.out) ?_); (try simp only [Act.put, List.setIfInBounds_toArray, List.set_cons_zero, List.set_cons_succ]))) | (refine wl_st rfl rfl rfl rfl rfl hS (of_decide_eq_true rfl) ?_; intro _ hS; (try simp only [evT, evC, List.getD_cons_succ, List.getD_cons_zero, List.set_cons_zero, List.set_cons_succ] at hS); (try simp only [List.set_cons_zero, List.set_cons_succ] at hS); (try simp only [Act.put, List.setIfInBounds_toArray, List.set_cons_zero, List.set_cons_succ])))
              refine post_marks2 (D := D) (D2 := D2) (v := .bool true) (H := cellB rb [.bool true] 4 ++ R) hS.to rfl ?_
              intro w' hS
              exact ⟨run_results (rs := [.cell 6 4]) (vs := [.bool true]) rfl (.cell rfl (ldv_sc (Sh.ldC hS rfl)) .nil), rfl, hS.to⟩
          · rw [hsl] at hS hN1
            have hN0 : N = 0 := by simpa using hN1
            subst hN0
            have d2 : ((subR zs dir).2 == 0) = false := beq_no he
            have d3 : ((subR zs dir).2 != 0) = true := bne_no he
            rw [List.length_nil, pairsN_0] at hS
            clear he hsl hN1 hN2
            go_wp2_with (first | (refine wl_isld rfl ?_; ((refine wl_value rfl (ex_ldC hS rfl rfl CellAt.out) ?_); (try simp only [Act.put, List.setIfInBounds_toArray, List.set_cons_zero, List.set_cons_succ]))) | (refine wl_st rfl rfl rfl rfl rfl hS (of_decide_eq_true rfl) ?_; intro _ hS; (try simp only [evT, evC, List.getD_cons_succ, List.getD_cons_zero, List.set_cons_zero, List.set_cons_succ] at hS); (try simp only [List.set_cons_zero, List.set_cons_succ] at hS); (try simp only [Act.put, List.setIfInBounds_toArray, List.set_cons_zero, List.set_cons_succ])))
            refine post_marks2 (D := D) (D2 := D2) (v := .bool true) (H := cellB rb [.bool true] 4 ++ R) hS.to rfl ?_
            intro w' hS
            exact ⟨run_results (rs := [.cell 6 4]) (vs := [.bool true]) rfl (.cell rfl (ldv_sc (Sh.ldC hS rfl)) .nil), rfl, hS.to⟩
        · exact False.elim h
end
end Go.Tk
