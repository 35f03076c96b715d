/- QueueBounds: without requests that come back never more wait than may. -/
import Derived.Test.YteahpjecpdcpaaaQ10
set_option linter.unusedSectionVars false
set_option linter.unusedSimpArgs false
set_option linter.unusedVariables false
namespace Go.Tk
open Go.RowKit Go.Proofs

/-- One call of a script. -/
structure ActV where
  kind : Int
  id : Int
  key : Int
  until_ : Int
  A : Option Addr
  n : Nat
  cap : Nat
  ks : List Int
def ActV.cells (a : ActV) : List Value := [.int .i64 a.kind, .int .u64 a.id, .int .u8 a.key, .int .i64 a.until_, .slice a.A a.n a.cap]
def actE : Enc ActV := {
  val a := .agg a.cells.toArray
  cells := ActV.cells
  valc _ := rfl
  k := 5
  pos := by decide
  len _ := rfl
  one a v hv := by
    simp only [ActV.cells, List.mem_cons, List.not_mem_nil, or_false] at hv
    rcases hv with rfl | rfl | rfl | rfl | rfl <;> rfl }

theorem take_rows (q : QS) (id : Int) : ((q.take id).2.2.rows false).length ≤ (q.rows false).length := by
  unfold QS.take
  cases hg : mget q.items id with
  | none => exact Nat.le_refl _
  | some x =>
    obtain ⟨l1, l2, hl, hl1⟩ := mget_split hg
    simp only
    split
    · exact Nat.le_refl _
    · unfold QS.rows
      simp only [hl, mput_split hl1, List.length_map, List.filter_append, List.filter_cons, List.length_append]
      simp
      split <;> simp
theorem end_rows (q : QS) (id : Int) : ((q.end_ id).2.rows false).length ≤ (q.rows false).length := by
  unfold QS.end_
  cases hg : mget q.items id with
  | none => exact Nat.le_refl _
  | some x =>
    unfold QS.rows
    simp only [List.length_map]
    exact (List.Sublist.filter _ (List.filter_sublist (l := q.items))).length_le
theorem added_rows (q : QS) (id : Int) (key : Dig) (u : Int) (blk : Nat) : ((q.added id key u blk).rows false).length = (q.rows false).length + 1 := by
  unfold QS.rows QS.added
  simp [List.filter_append]
theorem take_most (q : QS) (id : Int) : (q.take id).2.2.most = q.most := by
  unfold QS.take
  cases mget q.items id with
  | none => rfl
  | some x => simp only; split <;> rfl
theorem end_most (q : QS) (id : Int) : (q.end_ id).2.most = q.most := by
  unfold QS.end_
  cases mget q.items id <;> rfl

def StepP (B : Base) (R : HL) (q : QS) (b mi mk i : Nat) (e : Ending) (w' : World) : Prop :=
  ∃ q' v, e = .returned v ∧ QAt B q' b mi mk R w' ∧ q'.Wf ∧ q'.Lim (i + 1) ∧ q'.most = q.most ∧ (q'.rows false).length ≤ (q.rows false).length
section
variable {B : Base} {R : HL} {w : World} {q : QS} {b mi mk i : Nat}
theorem Take_step (hQ : QAt B q b mi mk R w) (hW : q.Wf) (hL : q.Lim i) (hi : i ≤ 4294967295) (id : Int) : Calls Try.prog 14 #[.pointer (some ⟨b, 0, none⟩), .int .u64 id] w (StepP B R q b mi mk i) :=
  (Take_any hQ id (hL.take hi)).mono fun _ _ h => ⟨_, _, h.1, h.2, take_wf hW id, take_lim hL id, take_most q id, take_rows q id⟩
theorem End_step (hQ : QAt B q b mi mk R w) (hW : q.Wf) (hL : q.Lim i) (id : Int) : Calls Try.prog 15 #[.pointer (some ⟨b, 0, none⟩), .int .u64 id] w (StepP B R q b mi mk i) :=
  (End_any hQ id).mono fun _ _ h => ⟨_, _, h.1, h.2, end_wf hW id, end_lim hL id, end_most q id, end_rows q id⟩
def SubP (B : Base) (R : HL) (q : QS) (b mi mk i : Nat) (e : Ending) (w' : World) : Prop :=
  ∃ q' c, e = .returned (.int .i64 c) ∧ QAt B q' b mi mk R w' ∧ q'.Wf ∧ q'.Lim (i + 1) ∧ q'.most = q.most ∧
    ((c = 0 ∧ ¬ q.most ≤ (q.rows false).length ∧ (q'.rows false).length = (q.rows false).length + 1) ∨ ((q'.rows false).length = (q.rows false).length ∧ ((c = 7 ∧ q.most ≤ (q.rows false).length) ∨ c = 1 ∨ c = 9)))
theorem Submit_step (hQ : QAt B q b mi mk R w) (hW : q.Wf) (hL : q.Lim i) (hi : i ≤ 4294967295) (id : Int) (key : Dig) (u : Int) :
    Calls Try.prog 12 #[.pointer (some ⟨b, 0, none⟩), .int .u64 id, .agg key.cells.toArray, .int .i64 u] w (SubP B R q b mi mk i) :=
  (Submit_any hQ hW (hL.known hi) id key u).mono fun e w' h => by
    obtain ⟨he, h1, h2⟩ := h
    by_cases hc : q.code id u = 0
    · obtain ⟨blk, h1⟩ := h1 hc
      have hk := code_known hc
      refine ⟨_, _, he, h1, added_wf hW key u blk hk, added_lim hL key u blk hk, rfl, .inl ⟨hc, ?_, added_rows q id key u blk⟩⟩
      intro hle
      unfold QS.code at hc
      rw [if_pos hk, if_pos hle] at hc
      cases hc
    · refine ⟨q, _, he, h2 hc, hW, hL.up (Nat.le_succ _), rfl, .inr ⟨rfl, ?_⟩⟩
      unfold QS.code at hc ⊢
      split
      · split
        · exact .inl ⟨rfl, by assumption⟩
        · split
          · exact .inr (.inl rfl)
          · simp_all
      · exact .inr (.inr rfl)
end

def BoundsI (B : Base) (R : HL) (n : Int) (b mi mk : Nat) (i : Nat) (w : World) : Prop :=
  ∃ q, QAt B q b mi mk R w ∧ q.Wf ∧ q.Lim i ∧ q.most = n ∧ ((q.rows false).length : Int) ≤ n

set_option maxRecDepth 100000 in
set_option maxHeartbeats 1600000 in
theorem Bounds_any {B : Base} {H : HL} {w : World} (hS : Sh B H w) (n : Int) {A : Option Addr} {cap : Nat} {xs : List ActV} (hA : RdB actE B A xs) (hlen : xs.length ≤ 4294967295) :
    Calls Try.prog 3 #[.int .i64 n, .slice A xs.length cap] w fun e w' => e = .returned (.bool true) ∧ Sh B H w' := by
  by_cases hn : n < 1 ∨ n > 1024
  · by_cases h0 : n < 1
    · go_enter Try.func3, Try.ntmps3
      go_wp2_with (first | (go_at_call 9; refine ((New_bad hS n hn)).mono ?_; rintro e w' (⟨rfl, hS⟩)) | (go_at_call 10; refine ((alive_any hS)).mono ?_; rintro e w' (⟨rfl, hS⟩)))
      go_ret
      exact ⟨rfl, hS⟩
    · have h0' : n > 1024 := by omega
      go_enter Try.func3, Try.ntmps3
      go_wp2_with (first | (go_at_call 9; refine ((New_bad hS n hn)).mono ?_; rintro e w' (⟨rfl, hS⟩)) | (go_at_call 10; refine ((alive_any hS)).mono ?_; rintro e w' (⟨rfl, hS⟩)))
      go_ret
      exact ⟨rfl, hS⟩
  · have h1 : 1 ≤ n := by omega
    have h2 : n ≤ 1024 := by omega
    go_enter Try.func3, Try.ntmps3
    go_wp2_with (first | (go_at_call 9; refine ((New_ok hS n h1 h2)).mono ?_; rintro e w' (⟨b, mi, mk, rfl, hQ⟩)))
    refine wp_loopS [33] [4, 8, 9, 10, 34, 35, 36, 37, 38, 39, 40, 41, 42, 43, 44, 45, 46, 47, 48, 49, 50, 51, 52, 53, 54, 55, 56, 57, 58, 59, 60, 61, 62, 63, 64, 65, 66, 67, 68, 69, 70, 71, 72, 73, 74, 75, 76, 77, 78, 79, 80, 81, 82, 83, 84, 85, 86, 87, 88, 89, 90, 91, 92, 93, 94, 95] (fun i : Nat => [.int .i64 i]) (BoundsI B H n b mi mk) (fun i => xs.length - i) 0 rfl ⟨q0 n, hQ, q0_wf n, ⟨Nat.zero_le _, fun _ h => nomatch h⟩, rfl, by show (0 : Int) ≤ n; omega⟩ ?_
    clear hS hQ
    rintro i J w ⟨q, ⟨es1, c1, es2, c2, hS, hm1, hm2⟩, hWf, hL, hqn, hrow⟩
    (simp only [Frm, setsT, junkT, List.setIfInBounds_toArray, List.set_cons_zero, List.set_cons_succ])
    by_cases hlt : i < xs.length
    · obtain ⟨x, hx⟩ := at_ hlt
      have Hx := Lib.hid hx
      clear hx
      have hlt' : (i : Int) < xs.length := by omega
      go_wp2_with (first | (refine wl_idx rfl rfl rfl rfl ((by omega)) hlt' hA.ok ?_; (try simp only [Int.toNat_natCast]); (try simp only [Act.put, List.setIfInBounds_toArray, List.set_cons_zero, List.set_cons_succ])) | (refine wl_ldr rfl rfl rfl (show World.rangeAt _ _ _ x.cells from RdAt.range (RdB.at_ hA _) hS Hx.out) rfl ?_; (try simp only [Act.put, List.setIfInBounds_toArray, List.set_cons_zero, List.set_cons_succ])) | (refine wl_alloc rfl rfl hS ?_; intro ab _ hS; (try simp only [Act.put, List.setIfInBounds_toArray, List.set_cons_zero, List.set_cons_succ])) | (refine wl_str0 rfl rfl rfl rfl ((show x.cells.length = 5 from rfl)) ((actE.one x)) hS rfl ?_; intro _ hS; (try simp only [evT, evC, List.getD_cons_succ, List.getD_cons_zero, List.set_cons_zero, List.set_cons_succ] at hS); (try simp only [Act.put, List.setIfInBounds_toArray, List.set_cons_zero, List.set_cons_succ])) | (refine wl_ld rfl rfl rfl (Sh.ldC hS rfl) ?_; (try simp only [Act.put, List.setIfInBounds_toArray, List.set_cons_zero, List.set_cons_succ])))
      · -- Submit
        go_wp2_with (first | (go_at_call 11; refine ((Len_any (QAt.of (q := q) b mi mk hS hm1 hm2) (hWf.ord (hL.known (by omega))))).mono ?_; rintro e w' (⟨rfl, ⟨es1, c1, es2, c2, hS, hm1, hm2⟩⟩)))
        (refine wp_drawn (S := ((fun w' => w'.cell? ⟨ab, 1, none⟩ = some (.int .u64 x.id) ∧ w'.cell? ⟨ab, 2, none⟩ = some (.int .u8 x.key) ∧ w'.cell? ⟨ab, 3, none⟩ = some (.int .i64 x.until_)))) ([(0, true), (1, true), (2, true), (3, true), (4, true), (6, true), (7, true), (5, false), (8, false), (9, true)]) (by kernel_rfl) (by kernel_rfl) (by intro d _ _ _ _ h; cases d <;> exact h) ?_; have hS := hS.drew; simp only [picks_cons, picks_nil, opAt, List.toList_toArray])
        have hW := And.intro (Sh.ldC (b := ab) (off := 1) hS rfl) (And.intro (Sh.ldC (b := ab) (off := 2) hS rfl) (Sh.ldC (b := ab) (off := 3) hS rfl))
        (refine wpH_U (v := ?_) rfl ?_ hW ?_; rotate_left; (focus (intro _ _; go_simp; (try with_reducible rfl))); (try simp only [Act.put, List.setIfInBounds_toArray, List.set_cons_zero, List.set_cons_succ]))
        (refine wpH_U (v := ?_) rfl ?_ hW ?_; rotate_left; (focus (intro _ _; go_simp; (try with_reducible rfl))); (try simp only [Act.put, List.setIfInBounds_toArray, List.set_cons_zero, List.set_cons_succ]))
        (refine wpH_U rfl (fun _ hT => (ex_ld rfl rfl hT.1)) hW ?_; (try simp only [Act.put, List.setIfInBounds_toArray, List.set_cons_zero, List.set_cons_succ]))
        (refine wpH_U (v := ?_) rfl ?_ hW ?_; rotate_left; (focus (intro _ _; go_simp; (try with_reducible rfl))); (try simp only [Act.put, List.setIfInBounds_toArray, List.set_cons_zero, List.set_cons_succ]))
        (refine wpH_U rfl (fun _ hT => (ex_ld rfl rfl hT.2.1)) hW ?_; (try simp only [Act.put, List.setIfInBounds_toArray, List.set_cons_zero, List.set_cons_succ]))
        (refine wpH_U (v := ?_) rfl ?_ hW ?_; rotate_left; (focus (intro _ _; go_simp; (try with_reducible rfl))); (try simp only [Act.put, List.setIfInBounds_toArray, List.set_cons_zero, List.set_cons_succ]))
        (refine wpH_U rfl (fun _ hT => (ex_ld rfl rfl hT.2.2)) hW ?_; (try simp only [Act.put, List.setIfInBounds_toArray, List.set_cons_zero, List.set_cons_succ]))
        (refine wpH_ex ?_)
        clear hW
        go_wp2_with (first | (go_at_call 13; refine ((key_any hS x.key)).mono ?_; rintro e w' (⟨rfl, hS⟩)))
        refine ⟨And.intro (Sh.ldC (b := ab) (off := 1) hS rfl) (And.intro (Sh.ldC (b := ab) (off := 2) hS rfl) (Sh.ldC (b := ab) (off := 3) hS rfl)), ?_⟩
        (refine wpH_ex ?_)
        go_wp2_with (first | (go_at_call 12; refine ((Submit_step (QAt.of (q := q) b mi mk hS hm1 hm2) hWf hL (by omega) x.id (Dig.of x.key) x.until_)).mono ?_; rintro e w' (⟨q', c, rfl, ⟨es1, c1, es2, c2, hS, hm1, hm2⟩, hWf', hL', hqn', hc⟩)))
        refine ⟨And.intro (Sh.ldC (b := ab) (off := 1) hS rfl) (And.intro (Sh.ldC (b := ab) (off := 2) hS rfl) (Sh.ldC (b := ab) (off := 3) hS rfl)), ?_⟩
        have hW := And.intro (Sh.ldC (b := ab) (off := 1) hS rfl) (And.intro (Sh.ldC (b := ab) (off := 2) hS rfl) (Sh.ldC (b := ab) (off := 3) hS rfl))
        (refine wpH_U (v := ?_) rfl ?_ hW ?_; rotate_left; (focus (intro _ _; go_simp; (try with_reducible rfl))); (try simp only [Act.put, List.setIfInBounds_toArray, List.set_cons_zero, List.set_cons_succ]))
        (refine wpH_done (by assumption) ?_)
        clear hW
        rcases hc with ⟨rfl, hle, hlen2⟩ | ⟨hlen2, ⟨rfl, hle⟩ | rfl | rfl⟩
        · rw [hqn] at hle
          go_wp2_with (first | (go_at_call 11; refine ((Len_any (QAt.of (q := q') b mi mk hS hm1 hm2) (hWf'.ord (hL'.known (by omega))))).mono ?_; rintro e w' (⟨rfl, ⟨es1, c1, es2, c2, hS, hm1, hm2⟩⟩)) | (go_at_call 16; refine ((All_any (QAt.of (q := q') b mi mk hS hm1 hm2) (hWf'.ord (hL'.known (by omega))))).mono ?_; rintro e w' (⟨A2, sp, cp, rfl, hA2, ⟨es1, c1, es2, c2, hS, hm1, hm2⟩⟩)))
          refine ⟨i + 1, ⟨q', ⟨_, _, _, _, hS.to, hm1, hm2⟩, hWf', hL', by omega, by omega⟩, by omega, rfl, ?_, rfl⟩
          (simp only [blankT, junkT, List.cons_append, List.nil_append, List.setIfInBounds_toArray, List.set_cons_zero, List.set_cons_succ])
        · rw [hqn] at hle
          go_wp2_with (first | (go_at_call 11; refine ((Len_any (QAt.of (q := q') b mi mk hS hm1 hm2) (hWf'.ord (hL'.known (by omega))))).mono ?_; rintro e w' (⟨rfl, ⟨es1, c1, es2, c2, hS, hm1, hm2⟩⟩)) | (go_at_call 16; refine ((All_any (QAt.of (q := q') b mi mk hS hm1 hm2) (hWf'.ord (hL'.known (by omega))))).mono ?_; rintro e w' (⟨A2, sp, cp, rfl, hA2, ⟨es1, c1, es2, c2, hS, hm1, hm2⟩⟩)))
          refine ⟨i + 1, ⟨q', ⟨_, _, _, _, hS.to, hm1, hm2⟩, hWf', hL', by omega, by omega⟩, by omega, rfl, ?_, rfl⟩
          (simp only [blankT, junkT, List.cons_append, List.nil_append, List.setIfInBounds_toArray, List.set_cons_zero, List.set_cons_succ])
        · go_wp2_with (first | (go_at_call 11; refine ((Len_any (QAt.of (q := q') b mi mk hS hm1 hm2) (hWf'.ord (hL'.known (by omega))))).mono ?_; rintro e w' (⟨rfl, ⟨es1, c1, es2, c2, hS, hm1, hm2⟩⟩)) | (go_at_call 16; refine ((All_any (QAt.of (q := q') b mi mk hS hm1 hm2) (hWf'.ord (hL'.known (by omega))))).mono ?_; rintro e w' (⟨A2, sp, cp, rfl, hA2, ⟨es1, c1, es2, c2, hS, hm1, hm2⟩⟩)))
          refine ⟨i + 1, ⟨q', ⟨_, _, _, _, hS.to, hm1, hm2⟩, hWf', hL', by omega, by omega⟩, by omega, rfl, ?_, rfl⟩
          (simp only [blankT, junkT, List.cons_append, List.nil_append, List.setIfInBounds_toArray, List.set_cons_zero, List.set_cons_succ])
        · go_wp2_with (first | (go_at_call 11; refine ((Len_any (QAt.of (q := q') b mi mk hS hm1 hm2) (hWf'.ord (hL'.known (by omega))))).mono ?_; rintro e w' (⟨rfl, ⟨es1, c1, es2, c2, hS, hm1, hm2⟩⟩)) | (go_at_call 16; refine ((All_any (QAt.of (q := q') b mi mk hS hm1 hm2) (hWf'.ord (hL'.known (by omega))))).mono ?_; rintro e w' (⟨A2, sp, cp, rfl, hA2, ⟨es1, c1, es2, c2, hS, hm1, hm2⟩⟩)))
          refine ⟨i + 1, ⟨q', ⟨_, _, _, _, hS.to, hm1, hm2⟩, hWf', hL', by omega, by omega⟩, by omega, rfl, ?_, rfl⟩
          (simp only [blankT, junkT, List.cons_append, List.nil_append, List.setIfInBounds_toArray, List.set_cons_zero, List.set_cons_succ])
      · go_wp2_with (first | (go_at_call 14; refine ((Take_step (QAt.of (q := q) b mi mk hS hm1 hm2) hWf hL (by omega) x.id)).mono ?_; rintro e w' (⟨q', v, rfl, ⟨es1, c1, es2, c2, hS, hm1, hm2⟩, hWf', hL', hqn', hrow'⟩)) | (go_at_call 11; refine ((Len_any (QAt.of (q := q') b mi mk hS hm1 hm2) (hWf'.ord (hL'.known (by omega))))).mono ?_; rintro e w' (⟨rfl, ⟨es1, c1, es2, c2, hS, hm1, hm2⟩⟩)) | (go_at_call 16; refine ((All_any (QAt.of (q := q') b mi mk hS hm1 hm2) (hWf'.ord (hL'.known (by omega))))).mono ?_; rintro e w' (⟨A2, sp, cp, rfl, hA2, ⟨es1, c1, es2, c2, hS, hm1, hm2⟩⟩)))
        refine ⟨i + 1, ⟨q', ⟨_, _, _, _, hS.to, hm1, hm2⟩, hWf', hL', by omega, by omega⟩, by omega, rfl, ?_, rfl⟩
        (simp only [blankT, junkT, List.cons_append, List.nil_append, List.setIfInBounds_toArray, List.set_cons_zero, List.set_cons_succ])
      · go_wp2_with (first | (go_at_call 15; refine ((End_step (QAt.of (q := q) b mi mk hS hm1 hm2) hWf hL x.id)).mono ?_; rintro e w' (⟨q', v, rfl, ⟨es1, c1, es2, c2, hS, hm1, hm2⟩, hWf', hL', hqn', hrow'⟩)) | (go_at_call 11; refine ((Len_any (QAt.of (q := q') b mi mk hS hm1 hm2) (hWf'.ord (hL'.known (by omega))))).mono ?_; rintro e w' (⟨rfl, ⟨es1, c1, es2, c2, hS, hm1, hm2⟩⟩)) | (go_at_call 16; refine ((All_any (QAt.of (q := q') b mi mk hS hm1 hm2) (hWf'.ord (hL'.known (by omega))))).mono ?_; rintro e w' (⟨A2, sp, cp, rfl, hA2, ⟨es1, c1, es2, c2, hS, hm1, hm2⟩⟩)))
        refine ⟨i + 1, ⟨q', ⟨_, _, _, _, hS.to, hm1, hm2⟩, hWf', hL', by omega, by omega⟩, by omega, rfl, ?_, rfl⟩
        (simp only [blankT, junkT, List.cons_append, List.nil_append, List.setIfInBounds_toArray, List.set_cons_zero, List.set_cons_succ])
      · have hWf' := hWf
        have hL' := hL.up (Nat.le_succ i)
        go_wp2_with (first | (go_at_call 11; refine ((Len_any (QAt.of (q := q) b mi mk hS hm1 hm2) (hWf'.ord (hL'.known (by omega))))).mono ?_; rintro e w' (⟨rfl, ⟨es1, c1, es2, c2, hS, hm1, hm2⟩⟩)) | (go_at_call 16; refine ((All_any (QAt.of (q := q) b mi mk hS hm1 hm2) (hWf'.ord (hL'.known (by omega))))).mono ?_; rintro e w' (⟨A2, sp, cp, rfl, hA2, ⟨es1, c1, es2, c2, hS, hm1, hm2⟩⟩)))
        refine ⟨i + 1, ⟨q, ⟨_, _, _, _, hS.to, hm1, hm2⟩, hWf', hL', by omega, by omega⟩, by omega, rfl, ?_, rfl⟩
        (simp only [blankT, junkT, List.cons_append, List.nil_append, List.setIfInBounds_toArray, List.set_cons_zero, List.set_cons_succ])
    · have hlt' : ¬ (i : Int) < xs.length := by omega
      go_wp2_with (first | (go_at_call 10; refine ((alive_any hS)).mono ?_; rintro e w' (⟨rfl, hS⟩)))
      go_ret
      exact ⟨rfl, hS.to⟩
end Go.Tk
