/- Paths, by the document: a name; pieces; the names of a path. -/
import Derived.Test.YtclmemhginekbaaDoorP5
set_option linter.unusedSectionVars false
set_option linter.unusedSimpArgs false
set_option linter.unusedVariables false
namespace Go.Tk
open Go.RowKit Go.Proofs

section
variable {B : Base} {R H H1 : HL} {w w' : World}
set_option maxRecDepth 100000 in
set_option maxHeartbeats 1600000 in
theorem NameR_bad (hS : Sh B R w) (s : ByteArray) (hs : s.size ≤ 16777216) (hb : nameB s = false) (hc : s.size < 1 ∨ 64 < s.size ∨ s.toList = [46] ∨ s.toList = [46, 46]) :
    Calls Tryd.prog 88 #[.string s] w fun e w' => e = .returned (.bool (nameB s)) ∧ Sh B R w' := by
  rw [hb]
  clear hb
  by_cases h1 : s.size < 1
  · have d1 : decide ((s.size : Int) < 1) = true := decide_eq_true (by omega)
    clear h1 hc
    go_enter Tryd.func88, Tryd.ntmps88
    go_wp2
    go_ret
    exact ⟨rfl, hS⟩
  have d1 : decide ((s.size : Int) < 1) = false := decide_eq_false (by omega)
  by_cases h2 : 64 < s.size
  · have d2 : decide (64 < (s.size : Int)) = true := decide_eq_true (by omega)
    clear h1 h2 hc
    go_enter Tryd.func88, Tryd.ntmps88
    go_wp2
    go_ret
    exact ⟨rfl, hS⟩
  have d2 : decide (64 < (s.size : Int)) = false := decide_eq_false (by omega)
  by_cases h3 : s.toList = [46]
  · have d3 : (s.toList == [46]) = true := by simp [h3]
    clear h1 h2 h3 hc
    go_enter Tryd.func88, Tryd.ntmps88
    go_wp2
    go_ret
    exact ⟨rfl, hS⟩
  have d3 : (s.toList == [46]) = false := beq_no h3
  have h4 : s.toList = [46, 46] := by
    rcases hc with h | h | h | h
    · exact absurd h h1
    · exact absurd h h2
    · exact absurd h h3
    · exact h
  have d4 : (s.toList == [46, 46]) = true := by simp [h4]
  clear h1 h2 h3 h4 hc
  go_enter Tryd.func88, Tryd.ntmps88
  go_wp2
  go_ret
  exact ⟨rfl, hS⟩
set_option maxRecDepth 100000 in
set_option maxHeartbeats 3200000 in
theorem NameR_ok (hS : Sh B R w) (s : ByteArray) (hs : s.size ≤ 16777216) (h1 : 1 ≤ s.size) (h2 : s.size ≤ 64) (h3 : ¬ s.toList = [46]) (h4 : ¬ s.toList = [46, 46]) (hn : s.data.toList.all okC = nameB s) :
    Calls Tryd.prog 88 #[.string s] w fun e w' => e = .returned (.bool (nameB s)) ∧ Sh B R w' := by
  have d1 : decide ((s.size : Int) < 1) = false := decide_eq_false (by omega)
  have d2 : decide (64 < (s.size : Int)) = false := decide_eq_false (by omega)
  have d3 : (s.toList == [46]) = false := beq_no h3
  have d4 : (s.toList == [46, 46]) = false := beq_no h4
  have Hn := Lib.hid hn
  obtain ⟨nb, hnb⟩ : ∃ nb, nameB s = nb := ⟨_, rfl⟩
  rw [hnb]
  have Hnb := Lib.hid hnb
  clear h1 h2 h3 h4 hn hnb
  go_enter Tryd.func88, Tryd.ntmps88
  go_wp2
  refine wp_loopS [3] [2, 4, 21, 22, 23, 24, 25, 26, 27, 28, 29, 30, 31, 32, 33, 34, 35, 36, 37, 38, 39, 40, 41, 42, 43, 44, 45, 46, 47, 48, 49, 50, 51, 52, 53, 54, 55, 56, 57, 58, 59, 60, 61, 62, 63, 64] (fun i : Nat => [.int .i64 i]) (NameI s R B) (fun i => s.size - i) ((0 : Nat)) rfl (⟨Nat.zero_le _, fun _ _ h => absurd h (Nat.not_lt_zero _), hS⟩) ?_
  clear hS
  rintro i J w ⟨hi, hok, hS⟩
  have Hok := Lib.hid hok
  clear hok
  (simp only [Frm, setsT, junkT, List.setIfInBounds_toArray, List.set_cons_zero, List.set_cons_succ])
  by_cases hlt : i < s.size
  · have Hc := Lib.hid (okC_int s[i])
    go_wp2
    all_goals first
      | (have hcf : okC s[i] = false := by
           rw [Hc.out]
           apply decide_eq_false
           clear hS Hok Hn Hc Hnb
           simp only [Bool.and_eq_true, Bool.or_eq_true, decide_eq_true_eq, bne_iff_ne, ne_eq, Bool.not_eq_true', Bool.not_eq_false', Bool.or_eq_false_iff, Bool.and_eq_false_iff, decide_eq_false_iff_not, beq_iff_eq, beq_eq_false_iff_ne, bne_eq_false_iff_eq] at *
           omega
         go_ret
         refine ⟨?_, hS⟩
         rw [← Hnb.out, nameB_no hlt hcf]
         rfl)
      | (have hct : okC s[i] = true := by
           rw [Hc.out]
           apply decide_eq_true
           clear hS Hok Hn Hc Hnb
           simp only [Bool.and_eq_true, Bool.or_eq_true, decide_eq_true_eq, bne_iff_ne, ne_eq, Bool.not_eq_true', Bool.not_eq_false', Bool.or_eq_false_iff, Bool.and_eq_false_iff, decide_eq_false_iff_not, beq_iff_eq, beq_eq_false_iff_ne, bne_eq_false_iff_eq] at *
           omega
         exact ⟨i + 1, ⟨hlt, fun j hj hji => by rcases Nat.lt_succ_iff_lt_or_eq.1 hji with h | h; exact Hok.out j hj h; subst h; exact hct, hS⟩, (by (try dsimp only); omega), rfl, (by (simp only [blankT, junkT, List.cons_append, List.nil_append, List.setIfInBounds_toArray, List.set_cons_zero, List.set_cons_succ])), rfl⟩)
  · have Hall := Lib.hid (show nb = true by
      rw [← Hnb.out, ← Hn.out, List.all_eq_true]
      intro c hc
      obtain ⟨j, hj, rfl⟩ := List.getElem_of_mem hc
      have hj' : j < s.size := by rw [ba_size]; exact hj
      exact Hok.out j hj' (by omega))
    go_wp2
    go_ret
    exact ⟨by rw [Hall.out]; rfl, hS⟩
theorem NameR_any (hS : Sh B R w) (s : ByteArray) (hs : s.size ≤ 16777216) : Calls Tryd.prog 88 #[.string s] w fun e w' => e = .returned (.bool (nameB s)) ∧ Sh B R w' := by
  by_cases hc : s.size < 1 ∨ 64 < s.size ∨ s.toList = [46] ∨ s.toList = [46, 46]
  · refine NameR_bad hS s hs ?_ hc
    unfold nameB
    rw [str_eq s [46], str_eq s [46, 46]]
    rcases hc with h | h | h | h
    · simp [h]; omega
    · simp; omega
    · simp [h]
    · simp [h]
  · have h1 : 1 ≤ s.size := by omega
    have h2 : s.size ≤ 64 := by omega
    have h3 : ¬ s.toList = [46] := fun h => hc (.inr (.inr (.inl h)))
    have h4 : ¬ s.toList = [46, 46] := fun h => hc (.inr (.inr (.inr h)))
    refine NameR_ok hS s hs h1 h2 h3 h4 ?_
    unfold nameB
    rw [str_eq s [46], str_eq s [46, 46]]
    simp [h1, h2, h3, h4]
theorem pc_hit {l : List UInt8} {f i : Nat} (hf : f ≤ i) (hi : l[i]? = some 47) (hno : (47 : UInt8) ∉ (l.drop f).take (i - f)) : splitL (l.drop f) = (l.drop f).take (i - f) :: splitL (l.drop (i + 1)) := by
  have h1 : l.drop f = (l.drop f).take (i - f) ++ 47 :: l.drop (i + 1) := by
    have h2 : (l.drop f).drop (i - f) = 47 :: l.drop (i + 1) := by
      rw [List.drop_drop, show f + (i - f) = i by omega]
      have hlt := (List.getElem?_eq_some_iff.1 hi).1
      have := (List.getElem?_eq_some_iff.1 hi).2
      rw [← this, List.getElem_cons_drop]
    rw [← h2, List.take_append_drop]
  conv => lhs; rw [h1]
  rw [splitL_hit hno]
theorem pc_end {l : List UInt8} {f : Nat} (hno : (47 : UInt8) ∉ (l.drop f).take (l.length - f)) : splitL (l.drop f) = [(l.drop f).take (l.length - f)] := by
  rw [List.take_of_length_le (by simp)] at hno ⊢
  exact splitL_miss hno
theorem pc_next {l : List UInt8} {f i : Nat} (hf : f ≤ i) {c : UInt8} (hi : l[i]? = some c) (hc : c ≠ 47) (hno : (47 : UInt8) ∉ (l.drop f).take (i - f)) : (47 : UInt8) ∉ (l.drop f).take (i + 1 - f) := by
  rw [show i + 1 - f = (i - f) + 1 by omega, List.take_add_one, List.getElem?_drop, show f + (i - f) = i by omega, hi]
  simp only [Option.toList_some, List.mem_append, List.mem_singleton, not_or]
  exact ⟨hno, fun h => hc h.symm⟩
theorem ba_get (s : ByteArray) {i : Nat} (h : i < s.size) : s.data.toList[i]? = some s[i] := by
  rw [Array.getElem?_toList]
  exact Array.getElem?_eq_getElem h
theorem ext_mk (s : ByteArray) (f i : Nat) : mkB ((s.data.toList.drop f).take (i - f)) = s.extract f i := by
  apply ba_ext
  rw [Lib.extract_data]
structure PcSt where
  i : Nat
  from_ : Nat
  A : Option Addr
  ls : List ByteArray
  sp : List Value
  cap : Nat
def PcI (B : Base) (R : HL) (s : ByteArray) (x : PcSt) (w : World) : Prop :=
  x.i ≤ s.size + 1 ∧ x.from_ ≤ x.i ∧ x.ls.length ≤ x.i ∧ (x.i ≤ s.size → piecesB s = x.ls ++ (splitL (s.data.toList.drop x.from_)).map mkB ∧ (47 : UInt8) ∉ (s.data.toList.drop x.from_).take (x.i - x.from_)) ∧ (s.size < x.i → piecesB s = x.ls) ∧
    OwnSl strE x.A x.ls x.sp x.cap ∧ Sh B (rowA x.A (flat strE x.ls ++ x.sp) 9 ++ R) w
def PiecesP (B : Base) (R : HL) (s : ByteArray) (e : Ending) (w' : World) : Prop :=
  ∃ A sp cap, e = .returned (.slice A (piecesB s).length cap) ∧ OwnSl strE A (piecesB s) sp cap ∧ Sh B (rowA A (flat strE (piecesB s) ++ sp) 9 ++ R) w'
set_option maxRecDepth 100000 in
set_option maxHeartbeats 1600000 in
theorem Pieces_any (hS : Sh B R w) (s : ByteArray) (hs : s.size ≤ 16777216) : Calls Tryd.prog 87 #[.string s] w (PiecesP B R s) := by
  go_enter Tryd.func87, Tryd.ntmps87
  go_wp2
  have h0 : PcI B R s ⟨0, 0, none, [], [], 0⟩ _ := ⟨Nat.zero_le _, Nat.le_refl _, Nat.le_refl _, fun _ => ⟨by simp [piecesB], by simp⟩, fun h => absurd h (by simp), OwnSl.nothing, hS⟩
  clear hS
  refine wp_loopS [3, 4, 5] [6, 7, 8, 9, 10, 11, 12, 13, 14, 15, 16, 17, 18, 19, 20, 21, 22, 23, 24, 25, 26, 27, 28, 29, 30] (fun x : PcSt => [.slice x.A x.ls.length x.cap, .int .i64 x.from_, .int .i64 x.i]) (PcI B R s) (fun x => s.size + 1 - x.i) (⟨0, 0, none, [], [], 0⟩) rfl (h0) ?_
  clear h0
  rintro ⟨i, f, A, ls, sp, cap⟩ J w ⟨hi, hf, hll, hin, hout, hO, hS⟩
  dsimp only at hi hf hll hin hout hO hS
  have Hin := Lib.hid hin
  have Hout := Lib.hid hout
  clear hin hout
  (simp only [Frm, setsT, junkT, List.setIfInBounds_toArray, List.set_cons_zero, List.set_cons_succ])
  by_cases hlt : i ≤ s.size
  · obtain ⟨hp, hno⟩ := Hin.out hlt
    have Hno := Lib.hid hno
    have Hp := Lib.hid hp
    clear hp hno
    by_cases hie : i = s.size
    · have d1 : ((i : Int) == (s.size : Int)) = true := by rw [hie]; simp
      have d2 : (i == s.size) = true := by simp [hie]
      have Hend := Lib.hid (show piecesB s = ls ++ [s.extract f i] by
        have hl : i = s.data.toList.length := by rw [hie, ba_size]
        rw [Hp.out]
        have := Hno.out
        rw [hl] at this
        rw [pc_end this, ← hl, List.map_cons, List.map_nil, ext_mk])
      have Hie := Lib.hid hie
      clear hie
      go_wp2_with (first | (refine wl_buildSlice (E := strE) ([s.extract f i]) rfl rfl (by simp only [List.map_toArray, List.map_cons, List.map_nil]; rfl) rfl (by decide) (by decide) hS ?_; intro _ _ hS hN; (try simp only [Act.put, List.setIfInBounds_toArray, List.set_cons_zero, List.set_cons_succ])) | (refine wl_ap (E := strE) rfl rfl rfl rfl hS ?_ ?_ ?_ ?_ ?_; (focus (first | rfl | omega)); (focus (first | rfl | omega)); (focus ((simp only [List.length_cons, List.length_nil]; omega))); (focus decide); intro _ _ _ _ hO2 hS; (try simp only [Act.put, List.setIfInBounds_toArray, List.set_cons_zero, List.set_cons_succ])) | (refine wl_isld rfl ?_; ((first | refine wl_value rfl (ex_l0 hS rfl rfl rfl CellAt.out) ?_ | refine wl_value rfl (ex_lf hS rfl rfl rfl CellAt.out) ?_ | refine wl_value rfl (ex_l1 hS rfl rfl rfl CellAt.out) ?_ | refine wl_value rfl (ex_ldC hS rfl rfl CellAt.out) ?_ | refine wl_value rfl (ex_l0 hS rfl rfl rfl rfl) ?_ | refine wl_value rfl (ex_lf hS rfl rfl rfl rfl) ?_ | refine wl_value rfl (ex_l1 hS rfl rfl rfl rfl) ?_ | refine wl_value rfl (ex_ldC hS rfl rfl rfl) ?_ | refine wl_value rfl (ex_l00 hS rfl rfl CellAt.out) ?_ | refine wl_value rfl (ex_l00 hS rfl rfl rfl) ?_ | refine wl_value rfl (ex_l0f hS rfl rfl CellAt.out) ?_ | refine wl_value rfl (ex_l0f hS rfl rfl rfl) ?_ | refine wl_value rfl (ex_lr hS rfl rfl rfl rfl) ?_ | refine wl_value rfl (ex_lr0 hS rfl rfl rfl) ?_ | refine wl_value rfl (ex_lrz hS rfl rfl rfl) ?_ | refine wl_value rfl (ex_lrf hS rfl rfl rfl) ?_ | refine wl_value rfl (ex_ldrC hS rfl rfl) ?_ | refine wl_value rfl (ex_ldr0 hS rfl rfl rfl) ?_); (try simp only [Act.put, List.setIfInBounds_toArray, List.set_cons_zero, List.set_cons_succ]))) | ((first | refine wl_value rfl (ex_ix hS rfl rfl rfl ?_) ?_); (focus (first | rfl | omega | (simp; done))); (try simp only [Act.put, List.setIfInBounds_toArray, List.set_cons_zero, List.set_cons_succ])) | ((first | refine wl_value rfl (ex_eqA rfl rfl rfl) ?_ | refine wl_value rfl (ex_neA rfl rfl rfl) ?_); (try simp only [Act.put, List.setIfInBounds_toArray, List.set_cons_zero, List.set_cons_succ])) | (refine wl_alloc rfl rfl hS ?_; intro _ _ hS; (try simp only [Act.put, List.setIfInBounds_toArray, List.set_cons_zero, List.set_cons_succ])) | (refine wl_box rfl rfl rfl rfl hS ?_; intro _ _ hS; (try simp only [Act.put, List.setIfInBounds_toArray, List.set_cons_zero, List.set_cons_succ])) | (refine wl_st rfl rfl rfl rfl rfl hS (of_decide_eq_true rfl) ?_; intro _ hS; (try simp only [evT, evC, List.getD_cons_succ, List.getD_cons_zero, List.set_cons_zero, List.set_cons_succ] at hS); (try simp only [List.set_cons_zero, List.set_cons_succ] at hS); (try simp only [Act.put, List.setIfInBounds_toArray, List.set_cons_zero, List.set_cons_succ])) | (refine wl_strC rfl rfl rfl rfl hS rfl rfl ?_; intro _ hS; (try simp only [evT, evC, List.getD_cons_succ, List.getD_cons_zero, List.set_cons_zero, List.set_cons_succ] at hS); (try simp only [Act.put, List.setIfInBounds_toArray, List.set_cons_zero, List.set_cons_succ])))
      (refine ⟨((⟨i + 1, i + 1, _, ls ++ [s.extract f i], _, _⟩ : PcSt)), (⟨(by show i + 1 ≤ s.size + 1; omega), Nat.le_refl _, (by simp; omega), (fun h => absurd (show i + 1 ≤ s.size from h) (by have := Hie.out; omega)), (fun _ => Hend.out), hO2, hS.to⟩), (by (try dsimp only); omega), rfl, (by (simp only [blankT, junkT, List.cons_append, List.nil_append, List.setIfInBounds_toArray, List.set_cons_zero, List.set_cons_succ])), rfl⟩)
    · have hil : i < s.size := by omega
      have d1 : ((i : Int) == (s.size : Int)) = false := beq_no (by omega)
      have d2 : (i == s.size) = false := beq_no hie
      have hg := ba_get s hil
      by_cases h47 : s[i] = 47
      · have d3 : ((s[i].toNat : Int) == 47) = true := by rw [h47]; rfl
        have Hhit := Lib.hid (show piecesB s = (ls ++ [s.extract f i]) ++ (splitL (s.data.toList.drop (i + 1))).map mkB by
          rw [Hp.out, pc_hit hf (by rw [hg, h47]) Hno.out, List.map_cons, ext_mk]; simp)
        clear hg h47 hie
        go_wp2_with (first | (refine wl_buildSlice (E := strE) ([s.extract f i]) rfl rfl (by simp only [List.map_toArray, List.map_cons, List.map_nil]; rfl) rfl (by decide) (by decide) hS ?_; intro _ _ hS hN; (try simp only [Act.put, List.setIfInBounds_toArray, List.set_cons_zero, List.set_cons_succ])) | (refine wl_ap (E := strE) rfl rfl rfl rfl hS ?_ ?_ ?_ ?_ ?_; (focus (first | rfl | omega)); (focus (first | rfl | omega)); (focus ((simp only [List.length_cons, List.length_nil]; omega))); (focus decide); intro _ _ _ _ hO2 hS; (try simp only [Act.put, List.setIfInBounds_toArray, List.set_cons_zero, List.set_cons_succ])) | (refine wl_isld rfl ?_; ((first | refine wl_value rfl (ex_l0 hS rfl rfl rfl CellAt.out) ?_ | refine wl_value rfl (ex_lf hS rfl rfl rfl CellAt.out) ?_ | refine wl_value rfl (ex_l1 hS rfl rfl rfl CellAt.out) ?_ | refine wl_value rfl (ex_ldC hS rfl rfl CellAt.out) ?_ | refine wl_value rfl (ex_l0 hS rfl rfl rfl rfl) ?_ | refine wl_value rfl (ex_lf hS rfl rfl rfl rfl) ?_ | refine wl_value rfl (ex_l1 hS rfl rfl rfl rfl) ?_ | refine wl_value rfl (ex_ldC hS rfl rfl rfl) ?_ | refine wl_value rfl (ex_l00 hS rfl rfl CellAt.out) ?_ | refine wl_value rfl (ex_l00 hS rfl rfl rfl) ?_ | refine wl_value rfl (ex_l0f hS rfl rfl CellAt.out) ?_ | refine wl_value rfl (ex_l0f hS rfl rfl rfl) ?_ | refine wl_value rfl (ex_lr hS rfl rfl rfl rfl) ?_ | refine wl_value rfl (ex_lr0 hS rfl rfl rfl) ?_ | refine wl_value rfl (ex_lrz hS rfl rfl rfl) ?_ | refine wl_value rfl (ex_lrf hS rfl rfl rfl) ?_ | refine wl_value rfl (ex_ldrC hS rfl rfl) ?_ | refine wl_value rfl (ex_ldr0 hS rfl rfl rfl) ?_); (try simp only [Act.put, List.setIfInBounds_toArray, List.set_cons_zero, List.set_cons_succ]))) | ((first | refine wl_value rfl (ex_ix hS rfl rfl rfl ?_) ?_); (focus (first | rfl | omega | (simp; done))); (try simp only [Act.put, List.setIfInBounds_toArray, List.set_cons_zero, List.set_cons_succ])) | ((first | refine wl_value rfl (ex_eqA rfl rfl rfl) ?_ | refine wl_value rfl (ex_neA rfl rfl rfl) ?_); (try simp only [Act.put, List.setIfInBounds_toArray, List.set_cons_zero, List.set_cons_succ])) | (refine wl_alloc rfl rfl hS ?_; intro _ _ hS; (try simp only [Act.put, List.setIfInBounds_toArray, List.set_cons_zero, List.set_cons_succ])) | (refine wl_box rfl rfl rfl rfl hS ?_; intro _ _ hS; (try simp only [Act.put, List.setIfInBounds_toArray, List.set_cons_zero, List.set_cons_succ])) | (refine wl_st rfl rfl rfl rfl rfl hS (of_decide_eq_true rfl) ?_; intro _ hS; (try simp only [evT, evC, List.getD_cons_succ, List.getD_cons_zero, List.set_cons_zero, List.set_cons_succ] at hS); (try simp only [List.set_cons_zero, List.set_cons_succ] at hS); (try simp only [Act.put, List.setIfInBounds_toArray, List.set_cons_zero, List.set_cons_succ])) | (refine wl_strC rfl rfl rfl rfl hS rfl rfl ?_; intro _ hS; (try simp only [evT, evC, List.getD_cons_succ, List.getD_cons_zero, List.set_cons_zero, List.set_cons_succ] at hS); (try simp only [Act.put, List.setIfInBounds_toArray, List.set_cons_zero, List.set_cons_succ])))
        (refine ⟨((⟨i + 1, i + 1, _, ls ++ [s.extract f i], _, _⟩ : PcSt)), (⟨(by show i + 1 ≤ s.size + 1; omega), Nat.le_refl _, (by simp; omega), (fun _ => ⟨Hhit.out, (by simp)⟩), (fun h => absurd (show s.size < i + 1 from h) (by omega)), hO2, hS.to⟩), (by (try dsimp only); omega), rfl, (by (simp only [blankT, junkT, List.cons_append, List.nil_append, List.setIfInBounds_toArray, List.set_cons_zero, List.set_cons_succ])), rfl⟩)
      · have d3 : ((s[i].toNat : Int) == 47) = false := beq_no (by
          intro h
          apply h47
          have h2 : s[i].toNat = 47 := by omega
          exact UInt8.toNat_inj.1 h2)
        have Hnx := Lib.hid (pc_next hf hg h47 Hno.out)
        clear hg h47 hie
        go_wp2_with (first | (refine wl_isld rfl ?_; ((first | refine wl_value rfl (ex_l0 hS rfl rfl rfl CellAt.out) ?_ | refine wl_value rfl (ex_lf hS rfl rfl rfl CellAt.out) ?_ | refine wl_value rfl (ex_l1 hS rfl rfl rfl CellAt.out) ?_ | refine wl_value rfl (ex_ldC hS rfl rfl CellAt.out) ?_ | refine wl_value rfl (ex_l0 hS rfl rfl rfl rfl) ?_ | refine wl_value rfl (ex_lf hS rfl rfl rfl rfl) ?_ | refine wl_value rfl (ex_l1 hS rfl rfl rfl rfl) ?_ | refine wl_value rfl (ex_ldC hS rfl rfl rfl) ?_ | refine wl_value rfl (ex_l00 hS rfl rfl CellAt.out) ?_ | refine wl_value rfl (ex_l00 hS rfl rfl rfl) ?_ | refine wl_value rfl (ex_l0f hS rfl rfl CellAt.out) ?_ | refine wl_value rfl (ex_l0f hS rfl rfl rfl) ?_ | refine wl_value rfl (ex_lr hS rfl rfl rfl rfl) ?_ | refine wl_value rfl (ex_lr0 hS rfl rfl rfl) ?_ | refine wl_value rfl (ex_lrz hS rfl rfl rfl) ?_ | refine wl_value rfl (ex_lrf hS rfl rfl rfl) ?_ | refine wl_value rfl (ex_ldrC hS rfl rfl) ?_ | refine wl_value rfl (ex_ldr0 hS rfl rfl rfl) ?_); (try simp only [Act.put, List.setIfInBounds_toArray, List.set_cons_zero, List.set_cons_succ]))) | ((first | refine wl_value rfl (ex_ix hS rfl rfl rfl ?_) ?_); (focus (first | rfl | omega | (simp; done))); (try simp only [Act.put, List.setIfInBounds_toArray, List.set_cons_zero, List.set_cons_succ])) | ((first | refine wl_value rfl (ex_eqA rfl rfl rfl) ?_ | refine wl_value rfl (ex_neA rfl rfl rfl) ?_); (try simp only [Act.put, List.setIfInBounds_toArray, List.set_cons_zero, List.set_cons_succ])) | (refine wl_alloc rfl rfl hS ?_; intro _ _ hS; (try simp only [Act.put, List.setIfInBounds_toArray, List.set_cons_zero, List.set_cons_succ])) | (refine wl_box rfl rfl rfl rfl hS ?_; intro _ _ hS; (try simp only [Act.put, List.setIfInBounds_toArray, List.set_cons_zero, List.set_cons_succ])) | (refine wl_st rfl rfl rfl rfl rfl hS (of_decide_eq_true rfl) ?_; intro _ hS; (try simp only [evT, evC, List.getD_cons_succ, List.getD_cons_zero, List.set_cons_zero, List.set_cons_succ] at hS); (try simp only [List.set_cons_zero, List.set_cons_succ] at hS); (try simp only [Act.put, List.setIfInBounds_toArray, List.set_cons_zero, List.set_cons_succ])) | (refine wl_strC rfl rfl rfl rfl hS rfl rfl ?_; intro _ hS; (try simp only [evT, evC, List.getD_cons_succ, List.getD_cons_zero, List.set_cons_zero, List.set_cons_succ] at hS); (try simp only [Act.put, List.setIfInBounds_toArray, List.set_cons_zero, List.set_cons_succ])))
        (refine ⟨((⟨i + 1, f, A, ls, sp, cap⟩ : PcSt)), (⟨(by show i + 1 ≤ s.size + 1; omega), (by show f ≤ i + 1; omega), (by show ls.length ≤ i + 1; omega), (fun _ => ⟨Hp.out, Hnx.out⟩), (fun h => absurd (show s.size < i + 1 from h) (by omega)), hO, hS⟩), (by (try dsimp only); omega), rfl, (by (simp only [blankT, junkT, List.cons_append, List.nil_append, List.setIfInBounds_toArray, List.set_cons_zero, List.set_cons_succ])), rfl⟩)
  · have He := Lib.hid (Hout.out (by omega))
    have d1 : decide ((i : Int) ≤ (s.size : Int)) = false := decide_eq_false (by omega)
    have d2 : decide (i ≤ s.size) = false := decide_eq_false hlt
    go_wp2_with (first | (refine wl_isld rfl ?_; ((first | refine wl_value rfl (ex_l0 hS rfl rfl rfl CellAt.out) ?_ | refine wl_value rfl (ex_lf hS rfl rfl rfl CellAt.out) ?_ | refine wl_value rfl (ex_l1 hS rfl rfl rfl CellAt.out) ?_ | refine wl_value rfl (ex_ldC hS rfl rfl CellAt.out) ?_ | refine wl_value rfl (ex_l0 hS rfl rfl rfl rfl) ?_ | refine wl_value rfl (ex_lf hS rfl rfl rfl rfl) ?_ | refine wl_value rfl (ex_l1 hS rfl rfl rfl rfl) ?_ | refine wl_value rfl (ex_ldC hS rfl rfl rfl) ?_ | refine wl_value rfl (ex_l00 hS rfl rfl CellAt.out) ?_ | refine wl_value rfl (ex_l00 hS rfl rfl rfl) ?_ | refine wl_value rfl (ex_l0f hS rfl rfl CellAt.out) ?_ | refine wl_value rfl (ex_l0f hS rfl rfl rfl) ?_ | refine wl_value rfl (ex_lr hS rfl rfl rfl rfl) ?_ | refine wl_value rfl (ex_lr0 hS rfl rfl rfl) ?_ | refine wl_value rfl (ex_lrz hS rfl rfl rfl) ?_ | refine wl_value rfl (ex_lrf hS rfl rfl rfl) ?_ | refine wl_value rfl (ex_ldrC hS rfl rfl) ?_ | refine wl_value rfl (ex_ldr0 hS rfl rfl rfl) ?_); (try simp only [Act.put, List.setIfInBounds_toArray, List.set_cons_zero, List.set_cons_succ]))) | ((first | refine wl_value rfl (ex_ix hS rfl rfl rfl ?_) ?_); (focus (first | rfl | omega | (simp; done))); (try simp only [Act.put, List.setIfInBounds_toArray, List.set_cons_zero, List.set_cons_succ])) | ((first | refine wl_value rfl (ex_eqA rfl rfl rfl) ?_ | refine wl_value rfl (ex_neA rfl rfl rfl) ?_); (try simp only [Act.put, List.setIfInBounds_toArray, List.set_cons_zero, List.set_cons_succ])) | (refine wl_alloc rfl rfl hS ?_; intro _ _ hS; (try simp only [Act.put, List.setIfInBounds_toArray, List.set_cons_zero, List.set_cons_succ])) | (refine wl_box rfl rfl rfl rfl hS ?_; intro _ _ hS; (try simp only [Act.put, List.setIfInBounds_toArray, List.set_cons_zero, List.set_cons_succ])) | (refine wl_st rfl rfl rfl rfl rfl hS (of_decide_eq_true rfl) ?_; intro _ hS; (try simp only [evT, evC, List.getD_cons_succ, List.getD_cons_zero, List.set_cons_zero, List.set_cons_succ] at hS); (try simp only [List.set_cons_zero, List.set_cons_succ] at hS); (try simp only [Act.put, List.setIfInBounds_toArray, List.set_cons_zero, List.set_cons_succ])) | (refine wl_strC rfl rfl rfl rfl hS rfl rfl ?_; intro _ hS; (try simp only [evT, evC, List.getD_cons_succ, List.getD_cons_zero, List.set_cons_zero, List.set_cons_succ] at hS); (try simp only [Act.put, List.setIfInBounds_toArray, List.set_cons_zero, List.set_cons_succ])))
    go_ret
    unfold PiecesP
    rw [He.out]
    exact ⟨A, sp, cap, rfl, hO, hS⟩
def okP (s : ByteArray) : Bool := (namesB s).isSome
def NamesRP (B : Base) (R : HL) (s : ByteArray) (e : Ending) (w' : World) : Prop :=
  ∃ A sp cap, e = .returned (.tuple #[.slice A (namesL s).length cap, .bool (okP s)]) ∧ OwnSl strE A (namesL s) sp cap ∧ Sh B (rowA A (flat strE (namesL s) ++ sp) 9 ++ R) w'
def NmI (B : Base) (A : Option Addr) (s : ByteArray) (sp : List Value) (R : HL) (i : Nat) (w : World) : Prop := i ≤ (piecesB s).length ∧ (∀ j x, (piecesB s)[j]? = some x → j < i → nameB x = true) ∧ Sh B (rowA A (flat strE (piecesB s) ++ sp) 9 ++ R) w
theorem namesR_none {s : ByteArray} (h : namesB s = none) : namesL s = [] ∧ okP s = false := by unfold namesL okP; rw [h]; exact ⟨rfl, rfl⟩
theorem namesR_some {s : ByteArray} {l : List ByteArray} (h : namesB s = some l) : namesL s = l ∧ okP s = true := by unfold namesL okP; rw [h]; exact ⟨rfl, rfl⟩
set_option maxRecDepth 100000 in
set_option maxHeartbeats 1600000 in
theorem NamesR_any (hS : Sh B R w) (s : ByteArray) (hs : s.size ≤ 16777216) : Calls Tryd.prog 74 #[.string s] w (NamesRP B R s) := by
  by_cases h0 : s.size = 0
  · have hn : namesB s = some [] := by unfold namesB; rw [if_pos h0]
    have d0 : s.toList = [] := by rw [ByteArray.toList_eq s]; have := ba_size s; rw [h0] at this; exact List.eq_nil_of_length_eq_zero this.symm
    have d1 : s.toList.isEmpty = true := by rw [d0]; rfl
    have Hn := Lib.hid (namesR_some hn)
    clear hn h0
    go_enter Tryd.func74, Tryd.ntmps74
    go_wp2
    go_ret2
    unfold NamesRP
    rw [Hn.out.1, Hn.out.2]
    exact ⟨none, [], 0, rfl, OwnSl.nothing, hS⟩
  · have d0 : ¬ s.toList = [] := by rw [ByteArray.toList_eq s]; intro h; apply h0; rw [ba_size, h]; rfl
    have d1 : s.toList.isEmpty = false := by rw [Bool.eq_false_iff]; simpa using d0
    have hsp := fun (w : World) (R : HL) (hS : Sh B R w) => Pieces_any hS s hs
    have Hall := Lib.hid (show (piecesB s).all nameB = true → (¬ 32 < (piecesB s).length → namesB s = some (piecesB s)) ∧ (32 < (piecesB s).length → namesB s = none) from fun h => ⟨fun h32 => by unfold namesB; rw [if_neg h0, if_neg h32, if_pos h], fun h32 => by unfold namesB; rw [if_neg h0, if_pos h32]⟩)
    have Hno := Lib.hid (show ∀ x, x ∈ piecesB s → nameB x = false → namesB s = none by
      intro x hx hf
      unfold namesB
      rw [if_neg h0]
      split
      · rfl
      · rw [if_neg]
        intro ha
        rw [List.all_eq_true] at ha
        rw [ha x hx] at hf
        cases hf)
    have hpl : (piecesB s).length ≤ 16777217 := by
      have h1 := Lib.countB_le slash (by decide) s.size s (Nat.le_refl _)
      rw [pieces_length]; omega
    clear h0
    go_enter Tryd.func74, Tryd.ntmps74
    go_wp2_with (first | (go_at_call 87; refine ((hsp _ _ hS)).mono ?_; rintro e w' (⟨A, sp, cap, rfl, hO, hS⟩)) | (refine wl_isld rfl ?_; ((first | refine wl_value rfl (ex_l0 hS rfl rfl rfl CellAt.out) ?_ | refine wl_value rfl (ex_lf hS rfl rfl rfl CellAt.out) ?_ | refine wl_value rfl (ex_l1 hS rfl rfl rfl CellAt.out) ?_ | refine wl_value rfl (ex_ldC hS rfl rfl CellAt.out) ?_ | refine wl_value rfl (ex_l0 hS rfl rfl rfl rfl) ?_ | refine wl_value rfl (ex_lf hS rfl rfl rfl rfl) ?_ | refine wl_value rfl (ex_l1 hS rfl rfl rfl rfl) ?_ | refine wl_value rfl (ex_ldC hS rfl rfl rfl) ?_ | refine wl_value rfl (ex_l00 hS rfl rfl CellAt.out) ?_ | refine wl_value rfl (ex_l00 hS rfl rfl rfl) ?_ | refine wl_value rfl (ex_l0f hS rfl rfl CellAt.out) ?_ | refine wl_value rfl (ex_l0f hS rfl rfl rfl) ?_ | refine wl_value rfl (ex_lr hS rfl rfl rfl rfl) ?_ | refine wl_value rfl (ex_lr0 hS rfl rfl rfl) ?_ | refine wl_value rfl (ex_lrz hS rfl rfl rfl) ?_ | refine wl_value rfl (ex_lrf hS rfl rfl rfl) ?_ | refine wl_value rfl (ex_ldrC hS rfl rfl) ?_ | refine wl_value rfl (ex_ldr0 hS rfl rfl rfl) ?_); (try simp only [Act.put, List.setIfInBounds_toArray, List.set_cons_zero, List.set_cons_succ]))) | ((first | refine wl_value rfl (ex_ix hS rfl rfl rfl ?_) ?_); (focus (first | rfl | omega | (simp; done))); (try simp only [Act.put, List.setIfInBounds_toArray, List.set_cons_zero, List.set_cons_succ])) | ((first | refine wl_value rfl (ex_eqA rfl rfl rfl) ?_ | refine wl_value rfl (ex_neA rfl rfl rfl) ?_); (try simp only [Act.put, List.setIfInBounds_toArray, List.set_cons_zero, List.set_cons_succ])) | (refine wl_alloc rfl rfl hS ?_; intro _ _ hS; (try simp only [Act.put, List.setIfInBounds_toArray, List.set_cons_zero, List.set_cons_succ])) | (refine wl_box rfl rfl rfl rfl hS ?_; intro _ _ hS; (try simp only [Act.put, List.setIfInBounds_toArray, List.set_cons_zero, List.set_cons_succ])) | (refine wl_st rfl rfl rfl rfl rfl hS (of_decide_eq_true rfl) ?_; intro _ hS; (try simp only [evT, evC, List.getD_cons_succ, List.getD_cons_zero, List.set_cons_zero, List.set_cons_succ] at hS); (try simp only [List.set_cons_zero, List.set_cons_succ] at hS); (try simp only [Act.put, List.setIfInBounds_toArray, List.set_cons_zero, List.set_cons_succ])) | (refine wl_strC rfl rfl rfl rfl hS rfl rfl ?_; intro _ hS; (try simp only [evT, evC, List.getD_cons_succ, List.getD_cons_zero, List.set_cons_zero, List.set_cons_succ] at hS); (try simp only [Act.put, List.setIfInBounds_toArray, List.set_cons_zero, List.set_cons_succ])))
    have h0 : NmI B A s sp R 0 _ := ⟨Nat.zero_le _, fun _ _ _ h => absurd h (Nat.not_lt_zero _), hS⟩
    clear hS
    refine wp_loopS [5] [2, 3, 10, 11, 12, 13, 14, 15, 16, 17, 18, 19, 20, 21] (fun i : Nat => [.int .i64 i]) (NmI B A s sp R) (fun i => (piecesB s).length - i) ((0 : Nat)) rfl (h0) ?_
    clear h0
    rintro i J w ⟨hi, hok, hS⟩
    have Hok := Lib.hid hok
    clear hok
    (simp only [Frm, setsT, junkT, List.setIfInBounds_toArray, List.set_cons_zero, List.set_cons_succ])
    by_cases hlt : i < (piecesB s).length
    · obtain ⟨x, gx⟩ := Nth.of hlt
      have hxs : x.size ≤ 16777216 := Nat.le_trans (pieces_small s x gx.mem) hs
      have hnm := fun (w : World) (R : HL) (hS : Sh B R w) => NameR_any hS x hxs
      cases hb : nameB x with
      | true =>
        rw [hb] at hnm
        have Hb := Lib.hid hb
        clear hb
        go_wp2_with (first | (go_at_call 88; refine ((hnm _ _ hS)).mono ?_; rintro e w' (⟨rfl, hS⟩)) | (refine wl_isld rfl ?_; ((first | refine wl_value rfl (ex_l0 hS rfl rfl rfl CellAt.out) ?_ | refine wl_value rfl (ex_lf hS rfl rfl rfl CellAt.out) ?_ | refine wl_value rfl (ex_l1 hS rfl rfl rfl CellAt.out) ?_ | refine wl_value rfl (ex_ldC hS rfl rfl CellAt.out) ?_ | refine wl_value rfl (ex_l0 hS rfl rfl rfl rfl) ?_ | refine wl_value rfl (ex_lf hS rfl rfl rfl rfl) ?_ | refine wl_value rfl (ex_l1 hS rfl rfl rfl rfl) ?_ | refine wl_value rfl (ex_ldC hS rfl rfl rfl) ?_ | refine wl_value rfl (ex_l00 hS rfl rfl CellAt.out) ?_ | refine wl_value rfl (ex_l00 hS rfl rfl rfl) ?_ | refine wl_value rfl (ex_l0f hS rfl rfl CellAt.out) ?_ | refine wl_value rfl (ex_l0f hS rfl rfl rfl) ?_ | refine wl_value rfl (ex_lr hS rfl rfl rfl rfl) ?_ | refine wl_value rfl (ex_lr0 hS rfl rfl rfl) ?_ | refine wl_value rfl (ex_lrz hS rfl rfl rfl) ?_ | refine wl_value rfl (ex_lrf hS rfl rfl rfl) ?_ | refine wl_value rfl (ex_ldrC hS rfl rfl) ?_ | refine wl_value rfl (ex_ldr0 hS rfl rfl rfl) ?_); (try simp only [Act.put, List.setIfInBounds_toArray, List.set_cons_zero, List.set_cons_succ]))) | ((first | refine wl_value rfl (ex_ix hS rfl rfl rfl ?_) ?_); (focus (first | rfl | omega | (simp; done))); (try simp only [Act.put, List.setIfInBounds_toArray, List.set_cons_zero, List.set_cons_succ])) | ((first | refine wl_value rfl (ex_eqA rfl rfl rfl) ?_ | refine wl_value rfl (ex_neA rfl rfl rfl) ?_); (try simp only [Act.put, List.setIfInBounds_toArray, List.set_cons_zero, List.set_cons_succ])) | (refine wl_alloc rfl rfl hS ?_; intro _ _ hS; (try simp only [Act.put, List.setIfInBounds_toArray, List.set_cons_zero, List.set_cons_succ])) | (refine wl_box rfl rfl rfl rfl hS ?_; intro _ _ hS; (try simp only [Act.put, List.setIfInBounds_toArray, List.set_cons_zero, List.set_cons_succ])) | (refine wl_st rfl rfl rfl rfl rfl hS (of_decide_eq_true rfl) ?_; intro _ hS; (try simp only [evT, evC, List.getD_cons_succ, List.getD_cons_zero, List.set_cons_zero, List.set_cons_succ] at hS); (try simp only [List.set_cons_zero, List.set_cons_succ] at hS); (try simp only [Act.put, List.setIfInBounds_toArray, List.set_cons_zero, List.set_cons_succ])) | (refine wl_strC rfl rfl rfl rfl hS rfl rfl ?_; intro _ hS; (try simp only [evT, evC, List.getD_cons_succ, List.getD_cons_zero, List.set_cons_zero, List.set_cons_succ] at hS); (try simp only [Act.put, List.setIfInBounds_toArray, List.set_cons_zero, List.set_cons_succ])))
        (refine ⟨((i + 1 : Nat)), (⟨hlt, fun j y hy hj => by rcases Nat.lt_succ_iff_lt_or_eq.1 hj with h | h; exact Hok.out j y hy h; subst h; rw [gx.get] at hy; cases hy; exact Hb.out, hS⟩), (by (try dsimp only); omega), rfl, (by (simp only [blankT, junkT, List.cons_append, List.nil_append, List.setIfInBounds_toArray, List.set_cons_zero, List.set_cons_succ])), rfl⟩)
      | false =>
        rw [hb] at hnm
        have Hn := Lib.hid (namesR_none (Hno.out x gx.mem hb))
        clear hb
        go_wp2_with (first | (go_at_call 88; refine ((hnm _ _ hS)).mono ?_; rintro e w' (⟨rfl, hS⟩)) | (refine wl_isld rfl ?_; ((first | refine wl_value rfl (ex_l0 hS rfl rfl rfl CellAt.out) ?_ | refine wl_value rfl (ex_lf hS rfl rfl rfl CellAt.out) ?_ | refine wl_value rfl (ex_l1 hS rfl rfl rfl CellAt.out) ?_ | refine wl_value rfl (ex_ldC hS rfl rfl CellAt.out) ?_ | refine wl_value rfl (ex_l0 hS rfl rfl rfl rfl) ?_ | refine wl_value rfl (ex_lf hS rfl rfl rfl rfl) ?_ | refine wl_value rfl (ex_l1 hS rfl rfl rfl rfl) ?_ | refine wl_value rfl (ex_ldC hS rfl rfl rfl) ?_ | refine wl_value rfl (ex_l00 hS rfl rfl CellAt.out) ?_ | refine wl_value rfl (ex_l00 hS rfl rfl rfl) ?_ | refine wl_value rfl (ex_l0f hS rfl rfl CellAt.out) ?_ | refine wl_value rfl (ex_l0f hS rfl rfl rfl) ?_ | refine wl_value rfl (ex_lr hS rfl rfl rfl rfl) ?_ | refine wl_value rfl (ex_lr0 hS rfl rfl rfl) ?_ | refine wl_value rfl (ex_lrz hS rfl rfl rfl) ?_ | refine wl_value rfl (ex_lrf hS rfl rfl rfl) ?_ | refine wl_value rfl (ex_ldrC hS rfl rfl) ?_ | refine wl_value rfl (ex_ldr0 hS rfl rfl rfl) ?_); (try simp only [Act.put, List.setIfInBounds_toArray, List.set_cons_zero, List.set_cons_succ]))) | ((first | refine wl_value rfl (ex_ix hS rfl rfl rfl ?_) ?_); (focus (first | rfl | omega | (simp; done))); (try simp only [Act.put, List.setIfInBounds_toArray, List.set_cons_zero, List.set_cons_succ])) | ((first | refine wl_value rfl (ex_eqA rfl rfl rfl) ?_ | refine wl_value rfl (ex_neA rfl rfl rfl) ?_); (try simp only [Act.put, List.setIfInBounds_toArray, List.set_cons_zero, List.set_cons_succ])) | (refine wl_alloc rfl rfl hS ?_; intro _ _ hS; (try simp only [Act.put, List.setIfInBounds_toArray, List.set_cons_zero, List.set_cons_succ])) | (refine wl_box rfl rfl rfl rfl hS ?_; intro _ _ hS; (try simp only [Act.put, List.setIfInBounds_toArray, List.set_cons_zero, List.set_cons_succ])) | (refine wl_st rfl rfl rfl rfl rfl hS (of_decide_eq_true rfl) ?_; intro _ hS; (try simp only [evT, evC, List.getD_cons_succ, List.getD_cons_zero, List.set_cons_zero, List.set_cons_succ] at hS); (try simp only [List.set_cons_zero, List.set_cons_succ] at hS); (try simp only [Act.put, List.setIfInBounds_toArray, List.set_cons_zero, List.set_cons_succ])) | (refine wl_strC rfl rfl rfl rfl hS rfl rfl ?_; intro _ hS; (try simp only [evT, evC, List.getD_cons_succ, List.getD_cons_zero, List.set_cons_zero, List.set_cons_succ] at hS); (try simp only [Act.put, List.setIfInBounds_toArray, List.set_cons_zero, List.set_cons_succ])))
        go_ret2
        unfold NamesRP
        rw [Hn.out.1, Hn.out.2]
        exact ⟨none, [], 0, rfl, OwnSl.nothing, hS.to⟩
    · have Ha := Hall.out (by
          rw [List.all_eq_true]
          intro x hx
          obtain ⟨j, hj⟩ := List.getElem?_of_mem hx
          exact Hok.out j x hj (by have := (List.getElem?_eq_some_iff.1 hj).1; omega))
      by_cases h32 : 32 < (piecesB s).length
      · have Hn := Lib.hid (namesR_none (Ha.2 h32))
        have d2 : decide ((32 : Int) < ((piecesB s).length : Int)) = true := decide_eq_true (by omega)
        have d3 : decide (32 < (piecesB s).length) = true := decide_eq_true h32
        clear Ha h32
        go_wp2_with (first | (refine wl_isld rfl ?_; ((first | refine wl_value rfl (ex_l0 hS rfl rfl rfl CellAt.out) ?_ | refine wl_value rfl (ex_lf hS rfl rfl rfl CellAt.out) ?_ | refine wl_value rfl (ex_l1 hS rfl rfl rfl CellAt.out) ?_ | refine wl_value rfl (ex_ldC hS rfl rfl CellAt.out) ?_ | refine wl_value rfl (ex_l0 hS rfl rfl rfl rfl) ?_ | refine wl_value rfl (ex_lf hS rfl rfl rfl rfl) ?_ | refine wl_value rfl (ex_l1 hS rfl rfl rfl rfl) ?_ | refine wl_value rfl (ex_ldC hS rfl rfl rfl) ?_ | refine wl_value rfl (ex_l00 hS rfl rfl CellAt.out) ?_ | refine wl_value rfl (ex_l00 hS rfl rfl rfl) ?_ | refine wl_value rfl (ex_l0f hS rfl rfl CellAt.out) ?_ | refine wl_value rfl (ex_l0f hS rfl rfl rfl) ?_ | refine wl_value rfl (ex_lr hS rfl rfl rfl rfl) ?_ | refine wl_value rfl (ex_lr0 hS rfl rfl rfl) ?_ | refine wl_value rfl (ex_lrz hS rfl rfl rfl) ?_ | refine wl_value rfl (ex_lrf hS rfl rfl rfl) ?_ | refine wl_value rfl (ex_ldrC hS rfl rfl) ?_ | refine wl_value rfl (ex_ldr0 hS rfl rfl rfl) ?_); (try simp only [Act.put, List.setIfInBounds_toArray, List.set_cons_zero, List.set_cons_succ]))) | ((first | refine wl_value rfl (ex_ix hS rfl rfl rfl ?_) ?_); (focus (first | rfl | omega | (simp; done))); (try simp only [Act.put, List.setIfInBounds_toArray, List.set_cons_zero, List.set_cons_succ])) | ((first | refine wl_value rfl (ex_eqA rfl rfl rfl) ?_ | refine wl_value rfl (ex_neA rfl rfl rfl) ?_); (try simp only [Act.put, List.setIfInBounds_toArray, List.set_cons_zero, List.set_cons_succ])) | (refine wl_alloc rfl rfl hS ?_; intro _ _ hS; (try simp only [Act.put, List.setIfInBounds_toArray, List.set_cons_zero, List.set_cons_succ])) | (refine wl_box rfl rfl rfl rfl hS ?_; intro _ _ hS; (try simp only [Act.put, List.setIfInBounds_toArray, List.set_cons_zero, List.set_cons_succ])) | (refine wl_st rfl rfl rfl rfl rfl hS (of_decide_eq_true rfl) ?_; intro _ hS; (try simp only [evT, evC, List.getD_cons_succ, List.getD_cons_zero, List.set_cons_zero, List.set_cons_succ] at hS); (try simp only [List.set_cons_zero, List.set_cons_succ] at hS); (try simp only [Act.put, List.setIfInBounds_toArray, List.set_cons_zero, List.set_cons_succ])) | (refine wl_strC rfl rfl rfl rfl hS rfl rfl ?_; intro _ hS; (try simp only [evT, evC, List.getD_cons_succ, List.getD_cons_zero, List.set_cons_zero, List.set_cons_succ] at hS); (try simp only [Act.put, List.setIfInBounds_toArray, List.set_cons_zero, List.set_cons_succ])))
        go_ret2
        unfold NamesRP
        rw [Hn.out.1, Hn.out.2]
        exact ⟨none, [], 0, rfl, OwnSl.nothing, hS.to⟩
      · have Hn := Lib.hid (namesR_some (Ha.1 h32))
        have d2 : decide ((32 : Int) < ((piecesB s).length : Int)) = false := decide_eq_false (by omega)
        have d3 : decide (32 < (piecesB s).length) = false := decide_eq_false h32
        clear Ha h32
        go_wp2_with (first | (refine wl_isld rfl ?_; ((first | refine wl_value rfl (ex_l0 hS rfl rfl rfl CellAt.out) ?_ | refine wl_value rfl (ex_lf hS rfl rfl rfl CellAt.out) ?_ | refine wl_value rfl (ex_l1 hS rfl rfl rfl CellAt.out) ?_ | refine wl_value rfl (ex_ldC hS rfl rfl CellAt.out) ?_ | refine wl_value rfl (ex_l0 hS rfl rfl rfl rfl) ?_ | refine wl_value rfl (ex_lf hS rfl rfl rfl rfl) ?_ | refine wl_value rfl (ex_l1 hS rfl rfl rfl rfl) ?_ | refine wl_value rfl (ex_ldC hS rfl rfl rfl) ?_ | refine wl_value rfl (ex_l00 hS rfl rfl CellAt.out) ?_ | refine wl_value rfl (ex_l00 hS rfl rfl rfl) ?_ | refine wl_value rfl (ex_l0f hS rfl rfl CellAt.out) ?_ | refine wl_value rfl (ex_l0f hS rfl rfl rfl) ?_ | refine wl_value rfl (ex_lr hS rfl rfl rfl rfl) ?_ | refine wl_value rfl (ex_lr0 hS rfl rfl rfl) ?_ | refine wl_value rfl (ex_lrz hS rfl rfl rfl) ?_ | refine wl_value rfl (ex_lrf hS rfl rfl rfl) ?_ | refine wl_value rfl (ex_ldrC hS rfl rfl) ?_ | refine wl_value rfl (ex_ldr0 hS rfl rfl rfl) ?_); (try simp only [Act.put, List.setIfInBounds_toArray, List.set_cons_zero, List.set_cons_succ]))) | ((first | refine wl_value rfl (ex_ix hS rfl rfl rfl ?_) ?_); (focus (first | rfl | omega | (simp; done))); (try simp only [Act.put, List.setIfInBounds_toArray, List.set_cons_zero, List.set_cons_succ])) | ((first | refine wl_value rfl (ex_eqA rfl rfl rfl) ?_ | refine wl_value rfl (ex_neA rfl rfl rfl) ?_); (try simp only [Act.put, List.setIfInBounds_toArray, List.set_cons_zero, List.set_cons_succ])) | (refine wl_alloc rfl rfl hS ?_; intro _ _ hS; (try simp only [Act.put, List.setIfInBounds_toArray, List.set_cons_zero, List.set_cons_succ])) | (refine wl_box rfl rfl rfl rfl hS ?_; intro _ _ hS; (try simp only [Act.put, List.setIfInBounds_toArray, List.set_cons_zero, List.set_cons_succ])) | (refine wl_st rfl rfl rfl rfl rfl hS (of_decide_eq_true rfl) ?_; intro _ hS; (try simp only [evT, evC, List.getD_cons_succ, List.getD_cons_zero, List.set_cons_zero, List.set_cons_succ] at hS); (try simp only [List.set_cons_zero, List.set_cons_succ] at hS); (try simp only [Act.put, List.setIfInBounds_toArray, List.set_cons_zero, List.set_cons_succ])) | (refine wl_strC rfl rfl rfl rfl hS rfl rfl ?_; intro _ hS; (try simp only [evT, evC, List.getD_cons_succ, List.getD_cons_zero, List.set_cons_zero, List.set_cons_succ] at hS); (try simp only [Act.put, List.setIfInBounds_toArray, List.set_cons_zero, List.set_cons_succ])))
        go_ret2
        unfold NamesRP
        rw [Hn.out.1, Hn.out.2]
        exact ⟨A, sp, cap, rfl, hO, hS⟩
set_option maxRecDepth 100000 in
theorem PathR_any (hS : Sh B R w) (s : ByteArray) (hs : s.size ≤ 16777216) : Calls Tryd.prog 61 #[.string s] w fun e w' => e = .returned (.bool (okP s)) ∧ Sh B R w' := by
  have hn := fun (w : World) (R : HL) (hS : Sh B R w) => NamesR_any hS s hs
  go_enter Tryd.func61, Tryd.ntmps61
  go_wp2_with (first | (go_at_call 74; refine ((hn _ _ hS)).mono ?_; rintro e w' (⟨A, sp, cap, rfl, hO, hS⟩)) | (refine wl_isld rfl ?_; ((first | refine wl_value rfl (ex_l0 hS rfl rfl rfl CellAt.out) ?_ | refine wl_value rfl (ex_lf hS rfl rfl rfl CellAt.out) ?_ | refine wl_value rfl (ex_l1 hS rfl rfl rfl CellAt.out) ?_ | refine wl_value rfl (ex_ldC hS rfl rfl CellAt.out) ?_ | refine wl_value rfl (ex_l0 hS rfl rfl rfl rfl) ?_ | refine wl_value rfl (ex_lf hS rfl rfl rfl rfl) ?_ | refine wl_value rfl (ex_l1 hS rfl rfl rfl rfl) ?_ | refine wl_value rfl (ex_ldC hS rfl rfl rfl) ?_ | refine wl_value rfl (ex_l00 hS rfl rfl CellAt.out) ?_ | refine wl_value rfl (ex_l00 hS rfl rfl rfl) ?_ | refine wl_value rfl (ex_l0f hS rfl rfl CellAt.out) ?_ | refine wl_value rfl (ex_l0f hS rfl rfl rfl) ?_ | refine wl_value rfl (ex_lr hS rfl rfl rfl rfl) ?_ | refine wl_value rfl (ex_lr0 hS rfl rfl rfl) ?_ | refine wl_value rfl (ex_lrz hS rfl rfl rfl) ?_ | refine wl_value rfl (ex_lrf hS rfl rfl rfl) ?_ | refine wl_value rfl (ex_ldrC hS rfl rfl) ?_ | refine wl_value rfl (ex_ldr0 hS rfl rfl rfl) ?_); (try simp only [Act.put, List.setIfInBounds_toArray, List.set_cons_zero, List.set_cons_succ]))) | ((first | refine wl_value rfl (ex_ix hS rfl rfl rfl ?_) ?_); (focus (first | rfl | omega | (simp; done))); (try simp only [Act.put, List.setIfInBounds_toArray, List.set_cons_zero, List.set_cons_succ])) | ((first | refine wl_value rfl (ex_eqA rfl rfl rfl) ?_ | refine wl_value rfl (ex_neA rfl rfl rfl) ?_); (try simp only [Act.put, List.setIfInBounds_toArray, List.set_cons_zero, List.set_cons_succ])) | (refine wl_alloc rfl rfl hS ?_; intro _ _ hS; (try simp only [Act.put, List.setIfInBounds_toArray, List.set_cons_zero, List.set_cons_succ])) | (refine wl_box rfl rfl rfl rfl hS ?_; intro _ _ hS; (try simp only [Act.put, List.setIfInBounds_toArray, List.set_cons_zero, List.set_cons_succ])) | (refine wl_st rfl rfl rfl rfl rfl hS (of_decide_eq_true rfl) ?_; intro _ hS; (try simp only [evT, evC, List.getD_cons_succ, List.getD_cons_zero, List.set_cons_zero, List.set_cons_succ] at hS); (try simp only [List.set_cons_zero, List.set_cons_succ] at hS); (try simp only [Act.put, List.setIfInBounds_toArray, List.set_cons_zero, List.set_cons_succ])) | (refine wl_strC rfl rfl rfl rfl hS rfl rfl ?_; intro _ hS; (try simp only [evT, evC, List.getD_cons_succ, List.getD_cons_zero, List.set_cons_zero, List.set_cons_succ] at hS); (try simp only [Act.put, List.setIfInBounds_toArray, List.set_cons_zero, List.set_cons_succ])))
  go_ret
  exact ⟨rfl, hS.to⟩
end
end Go.Tk
