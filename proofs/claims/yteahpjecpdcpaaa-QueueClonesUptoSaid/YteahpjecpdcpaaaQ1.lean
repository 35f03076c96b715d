/- The queue's methods that find one request: what each does. -/
import Derived.Test.YteahpjecpdcpaaaQ0
set_option linter.unusedSectionVars false
set_option linter.unusedSimpArgs false
set_option linter.unusedVariables false
namespace Go.Tk
open Go.RowKit Go.Proofs

set_option maxRecDepth 100000 in
set_option maxHeartbeats 400000 in
theorem New_bad {B : Base} {H : HL} {w : World} (hS : Sh B H w) (n : Int) (hn : n < 1 ∨ n > 1024) :
    Calls Try.prog 9 #[.int .i64 n] w fun e w' => e = .returned (.tuple #[.pointer none, .int .i64 1]) ∧ Sh B H w' := by
  by_cases h1 : n < 1
  · go_enter Try.func9, Try.ntmps9
    go_wp2
    go_ret2
    exact ⟨rfl, hS⟩
  · have h2 : n > 1024 := by omega
    clear hn
    go_enter Try.func9, Try.ntmps9
    go_wp2
    go_ret2
    exact ⟨rfl, hS⟩

def NewP (B : Base) (R : HL) (n : Int) (e : Ending) (w' : World) : Prop := ∃ b m1 m2, e = .returned (.tuple #[.pointer (some ⟨b, 0, none⟩), .int .i64 0]) ∧ QAt B ⟨n, 0, [], []⟩ b m1 m2 R w'
set_option maxRecDepth 100000 in
set_option maxHeartbeats 400000 in
theorem New_ok {B : Base} {R : HL} {w : World} (hS : Sh B R w) (n : Int) (h1 : 1 ≤ n) (h2 : n ≤ 1024) :
    Calls Try.prog 9 #[.int .i64 n] w (NewP B R n) := by
  have h3 : ¬ n < 1 := by omega
  go_enter Try.func9, Try.ntmps9
  go_wp2_with (first | (refine wl_makeMap rfl rfl hS ?_; intro _ _ hS; (try simp only [Act.put, List.setIfInBounds_toArray, List.set_cons_zero, List.set_cons_succ])) | (refine wl_box rfl rfl rfl rfl hS ?_; intro _ _ hS; (try simp only [Act.put, List.setIfInBounds_toArray, List.set_cons_zero, List.set_cons_succ])))
  go_ret2
  exact ⟨_, _, _, rfl, ⟨_, _, _, _, hS, MapIs.empty, MapIs.empty⟩⟩

set_option maxRecDepth 100000 in
set_option maxHeartbeats 400000 in
theorem made_nil (w : World) : Calls Try.prog 32 #[.pointer none] w fun e w' => e = .returned (.bool false) ∧ w = w' := by
  go_enter Try.func32, Try.ntmps32
  go_wp2
  go_ret
  exact ⟨rfl, rfl⟩

set_option maxRecDepth 100000 in
set_option maxHeartbeats 400000 in
theorem made_yes {B : Base} {H R : HL} {w : World} (hS : Sh B H w) {b m T : Nat} {v0 v1 v3 : Value} [HasCell H b [v0, v1, .map (some m), v3] T R] :
    Calls Try.prog 32 #[.pointer (some ⟨b, 0, none⟩)] w fun e w' => e = .returned (.bool true) ∧ w = w' := by
  have hm := fun w => run_neq_map_nil (P := Try.prog) w 64 28 75 (some m) Try.underlying64
  go_enter Try.func32, Try.ntmps32
  go_wp2_with (first | (refine wl_ld rfl rfl rfl (Sh.ldC hS rfl) ?_; (try simp only [Act.put, List.setIfInBounds_toArray, List.set_cons_zero, List.set_cons_succ])))
  go_ret
  exact ⟨rfl, rfl⟩

def QS.take (q : QS) (id : Int) : Wait × Int × QS :=
  match mget q.items id with
  | none => (Wait.zero, 8, q)
  | some x => if x.out then (Wait.zero, 261, q) else
    let x' : ItemB := ⟨x.blk, { x.w with tries := x.w.tries + 1 }, true⟩
    (x'.w, 0, { q with items := mput q.items id x' })

theorem ItemB.set_out (x : ItemB) (o : Bool) : x.cells.set 36 (.bool o) = (⟨x.blk, x.w, o⟩ : ItemB).cells := by
  simp only [ItemB.cells]
  rw [List.set_append_right _ _ (by simp [x.w.len]), x.w.len]
  rfl
theorem ItemB.set_tries (x : ItemB) (n : Int) : x.cells.set 34 (.int .i64 n) = (⟨x.blk, { x.w with tries := n }, x.out⟩ : ItemB).cells := by
  simp only [ItemB.cells, Wait.cells, List.cons_append, List.set_cons_succ, List.append_assoc]
  rw [List.set_append_right _ _ (by simp [x.w.key.len]), x.w.key.len]
  rfl
theorem ItemB.lt36 (x : ItemB) (n : Nat) (h : n < 37) : n < x.cells.length := by rw [x.len]; exact h
theorem item_range {B : Base} {H R : HL} {w : World} {T : Nat} (hS : Sh B H w) (x : ItemB) [HasCell H x.blk x.cells T R] : w.rangeAt x.blk 0 x.w.cells := by
  have := hS.rangeC (b := x.blk) 0 36
  rw [List.drop_zero] at this
  have e : x.cells.take 36 = x.w.cells := by
    simp only [ItemB.cells]
    rw [List.take_append_of_le_length (by simp [x.w.len]), List.take_of_length_le (by simp [x.w.len])]
  rwa [e] at this

theorem wait_range {B : Base} {H R : HL} {w : World} {b T : Nat} (hS : Sh B H w) (x : Wait) [HasCell H b x.cells T R] : w.rangeAt b 0 x.cells := by
  have := hS.rangeC (b := b) 0 36
  rwa [List.drop_zero, List.take_of_length_le (by simp [x.len])] at this

def TakeP (B : Base) (R : HL) (q : QS) (b mi mk : Nat) (id : Int) (e : Ending) (w' : World) : Prop :=
  e = .returned (.tuple #[.agg (q.take id).1.cells.toArray, .int .i64 (q.take id).2.1]) ∧ QAt B (q.take id).2.2 b mi mk R w'

set_option maxRecDepth 100000 in
set_option maxHeartbeats 800000 in
theorem Take_any {B : Base} {R : HL} {w : World} {q : QS} {b mi mk : Nat} (hQ : QAt B q b mi mk R w) (id : Int) (hb : ∀ x, mget q.items id = some x → 0 ≤ x.w.tries ∧ x.w.tries < 4611686018427387904) :
    Calls Try.prog 14 #[.pointer (some ⟨b, 0, none⟩), .int .u64 id] w (TakeP B R q b mi mk id) := by
  obtain ⟨es1, c1, es2, c2, hS, hm1, hm2⟩ := hQ.out
  cases hg : mget q.items id with
  | none =>
    have hfin : q.take id = (Wait.zero, 8, q) := by simp [QS.take, hg]
    have Hg := Lib.hid hg
    have Hf := Lib.hid hfin
    clear hg hb hfin
    go_enter Try.func14, Try.ntmps14
    go_wp2_with (first | (go_at_call 32; refine (made_yes hS).mono ?_; rintro e w' ⟨rfl, rfl⟩) | (refine wl_alloc rfl rfl hS ?_; intro _ _ hS; (try simp only [Act.put, List.setIfInBounds_toArray, List.set_cons_zero, List.set_cons_succ])) | (refine wl_ld rfl rfl rfl (Sh.ldC hS rfl) ?_; (try simp only [Act.put, List.setIfInBounds_toArray, List.set_cons_zero, List.set_cons_succ])) | (refine wl_lookup hm1 rfl rfl rfl rfl hS (mnone Hg.out) ?_; (try simp only [Act.put, List.setIfInBounds_toArray, List.set_cons_zero, List.set_cons_succ])) | (refine wl_str0 rfl rfl rfl rfl (Wait.len Wait.zero) (Wait.one Wait.zero) hS rfl ?_; intro _ hS; (try simp only [evT, evC, List.getD_cons_succ, List.getD_cons_zero, List.set_cons_zero, List.set_cons_succ] at hS); (try simp only [Act.put, List.setIfInBounds_toArray, List.set_cons_zero, List.set_cons_succ])))
    refine bodyPost_res (rs := [.cell 4 38, .tmp 5]) rfl (.cell rfl (ldv_row (hS.rangeC 0 36) (by rfl)) (.tmp .nil)) rfl ?_
    have hf := Hf.out
    unfold TakeP
    rw [hf]
    exact ⟨rfl, ⟨_, _, _, _, hS.drop, hm1, hm2⟩⟩
  | some x =>
    obtain ⟨l1, l2, hl, hl1⟩ := mget_split hg
    have hb1 := hb x hg
    have hv : (mget q.items id).elim (.pointer none) ItemB.ptr = .pointer (some ⟨x.blk, 0, none⟩) := msome hg
    have Hv := Lib.hid hv
    cases ho : x.out with
    | true =>
      have hfin : q.take id = (Wait.zero, 261, q) := by simp [QS.take, hg, ho]
      have Hf := Lib.hid hfin
      have Hl := Lib.hid hl
      rw [hl, itemsH_append, itemsH_cons, List.append_assoc, List.append_assoc] at hS
      have hx : x.cells[36]? = some (.bool true) := by rw [← ho]; exact Wait.at36 _ _ _
      have Hx := Lib.hid hx
      clear hg hb hb1 hfin ho hl hl1 hx hv
      go_enter Try.func14, Try.ntmps14
      go_wp2_with (first | (go_at_call 32; refine (made_yes hS).mono ?_; rintro e w' ⟨rfl, rfl⟩) | (refine wl_alloc rfl rfl hS ?_; intro _ _ hS; (try simp only [Act.put, List.setIfInBounds_toArray, List.set_cons_zero, List.set_cons_succ])) | (refine wl_ld rfl rfl rfl (Sh.ldC hS rfl) ?_; (try simp only [Act.put, List.setIfInBounds_toArray, List.set_cons_zero, List.set_cons_succ])) | (refine wl_ld rfl rfl rfl (Sh.ldC (b := x.blk) hS Hx.out) ?_; (try simp only [Act.put, List.setIfInBounds_toArray, List.set_cons_zero, List.set_cons_succ])) | (refine wl_lookup hm1 rfl rfl rfl rfl hS Hv.out ?_; (try simp only [Act.put, List.setIfInBounds_toArray, List.set_cons_zero, List.set_cons_succ])) | (refine wl_str0 rfl rfl rfl rfl (Wait.len Wait.zero) (Wait.one Wait.zero) hS rfl ?_; intro _ hS; (try simp only [evT, evC, List.getD_cons_succ, List.getD_cons_zero, List.set_cons_zero, List.set_cons_succ] at hS); (try simp only [Act.put, List.setIfInBounds_toArray, List.set_cons_zero, List.set_cons_succ])))
      refine bodyPost_res (rs := [.cell 4 38, .tmp 5]) rfl (.cell rfl (ldv_row (hS.rangeC 0 36) (by rfl)) (.tmp .nil)) rfl ?_
      have hf := Hf.out
      unfold TakeP
      rw [hf]
      refine ⟨rfl, ⟨_, _, _, _, ?_, hm1, hm2⟩⟩
      rw [Hl.out, itemsH_append, itemsH_cons, List.append_assoc, List.append_assoc]
      exact hS.drop
    | false =>
      have hfin : q.take id = ({ x.w with tries := x.w.tries + 1 }, 0, { q with items := l1 ++ (id, ⟨x.blk, { x.w with tries := x.w.tries + 1 }, true⟩) :: l2 }) := by
        simp only [QS.take, hg, ho]
        rw [hl, mput_split hl1]
        simp
      have hm1' : MapIs ikv ItemB.ptr es1 c1 (l1 ++ (id, (⟨x.blk, { x.w with tries := x.w.tries + 1 }, true⟩ : ItemB)) :: l2) := by
        refine hm1.same ?_
        rw [hl]; simp [ItemB.ptr]
      have Hf := Lib.hid hfin
      rw [hl, itemsH_append, itemsH_cons, List.append_assoc, List.append_assoc] at hS
      have hx : x.cells[36]? = some (.bool false) := by rw [← ho]; exact Wait.at36 _ _ _
      have Hx := Lib.hid hx
      obtain ⟨hb1, hb2⟩ := hb1
      clear hg hb hfin ho hl hl1 hx hv
      go_enter Try.func14, Try.ntmps14
      go_wp2_with (first | (go_at_call 32; refine (made_yes hS).mono ?_; rintro e w' ⟨rfl, rfl⟩) | (refine wl_alloc rfl rfl hS ?_; intro _ _ hS; (try simp only [Act.put, List.setIfInBounds_toArray, List.set_cons_zero, List.set_cons_succ])) | (refine wl_ld rfl rfl rfl (Sh.ldC hS rfl) ?_; (try simp only [Act.put, List.setIfInBounds_toArray, List.set_cons_zero, List.set_cons_succ])) | (refine wl_ld rfl rfl rfl (Sh.ldC (b := x.blk) hS Hx.out) ?_; (try simp only [Act.put, List.setIfInBounds_toArray, List.set_cons_zero, List.set_cons_succ])) | (refine wl_lookup hm1 rfl rfl rfl rfl hS Hv.out ?_; (try simp only [Act.put, List.setIfInBounds_toArray, List.set_cons_zero, List.set_cons_succ])) | (refine wl_st (b := x.blk) (off := 36) rfl rfl rfl rfl rfl hS (x.lt36 36 (by decide)) ?_; intro _ hS; (try simp only [evT, evC, List.getD_cons_succ, List.getD_cons_zero, List.set_cons_zero, List.set_cons_succ] at hS); rw [ItemB.set_out] at hS; (try simp only [Act.put, List.setIfInBounds_toArray, List.set_cons_zero, List.set_cons_succ])) | (refine wl_ld rfl rfl rfl (Sh.ldC (b := x.blk) hS (Wait.at34 x.w [.bool true])) ?_; (try simp only [Act.put, List.setIfInBounds_toArray, List.set_cons_zero, List.set_cons_succ])) | (refine wl_st (b := x.blk) (off := 34) rfl rfl rfl rfl rfl hS (ItemB.lt36 _ 34 (by decide)) ?_; intro _ hS; (try simp only [evT, evC, List.getD_cons_succ, List.getD_cons_zero, List.set_cons_zero, List.set_cons_succ] at hS); rw [ItemB.set_tries] at hS; (try simp only [Act.put, List.setIfInBounds_toArray, List.set_cons_zero, List.set_cons_succ])) | (refine wl_ldr rfl rfl rfl (item_range hS ⟨x.blk, { x.w with tries := x.w.tries + 1 }, true⟩) (Wait.len _) ?_; (try simp only [Act.put, List.setIfInBounds_toArray, List.set_cons_zero, List.set_cons_succ])) | (refine wl_str0 rfl rfl rfl rfl (Wait.len _) (Wait.one _) hS rfl ?_; intro _ hS; (try simp only [evT, evC, List.getD_cons_succ, List.getD_cons_zero, List.set_cons_zero, List.set_cons_succ] at hS); (try simp only [Act.put, List.setIfInBounds_toArray, List.set_cons_zero, List.set_cons_succ])))
      refine bodyPost_res (rs := [.cell 4 38, .tmp 5]) rfl (.cell rfl (ldv_row (wait_range hS { x.w with tries := x.w.tries + 1 }) (Wait.len _)) (.tmp .nil)) rfl ?_
      have hf := Hf.out
      unfold TakeP
      rw [hf]
      refine ⟨?_, ⟨_, _, _, _, ?_, hm1', hm2⟩⟩
      · rfl
      · rw [itemsH_append, itemsH_cons, List.append_assoc, List.append_assoc]
        exact hS.drop
end Go.Tk
