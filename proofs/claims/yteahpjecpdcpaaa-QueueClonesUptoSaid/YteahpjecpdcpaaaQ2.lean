/- The queue's other methods at one request. -/
import Derived.Test.YteahpjecpdcpaaaQ1
set_option linter.unusedSectionVars false
set_option linter.unusedSimpArgs false
set_option linter.unusedVariables false
namespace Go.Tk
open Go.RowKit Go.Proofs

def QS.back (q : QS) (id : Int) : Int × QS :=
  match mget q.items id with
  | none => (8, q)
  | some x => if x.out then (0, { q with items := mput q.items id ⟨x.blk, x.w, false⟩ }) else (261, q)
def QS.end_ (q : QS) (id : Int) : Int × QS :=
  match mget q.items id with
  | none => (8, q)
  | some _ => (0, { q with items := mdel q.items id })
def QS.find (q : QS) (id : Int) : Wait × Bool × Int :=
  match mget q.items id with
  | none => (Wait.zero, false, 8)
  | some x => (x.w, !x.out, 0)

/-- One request's other form, in its place. -/
theorem items_turn {es : Array MapEntry} {c : Nat} {l1 l2 : List (Int × ItemB)} {id : Int} {x y : ItemB} (h : MapIs ikv ItemB.ptr es c (l1 ++ (id, x) :: l2)) (hb : y.blk = x.blk) : MapIs ikv ItemB.ptr es c (l1 ++ (id, y) :: l2) := by
  refine h.same ?_
  simp [ItemB.ptr, hb]

def BackP (B : Base) (R : HL) (q : QS) (b mi mk : Nat) (id : Int) (e : Ending) (w' : World) : Prop :=
  e = .returned (.int .i64 (q.back id).1) ∧ QAt B (q.back id).2 b mi mk R w'
set_option maxRecDepth 100000 in
set_option maxHeartbeats 800000 in
theorem Back_any {B : Base} {R : HL} {w : World} {q : QS} {b mi mk : Nat} (hQ : QAt B q b mi mk R w) (id : Int) :
    Calls Try.prog 17 #[.pointer (some ⟨b, 0, none⟩), .int .u64 id] w (BackP B R q b mi mk id) := by
  obtain ⟨es1, c1, es2, c2, hS, hm1, hm2⟩ := hQ.out
  cases hg : mget q.items id with
  | none =>
    have hfin : q.back id = (8, q) := by simp [QS.back, hg]
    have Hg := Lib.hid hg
    have Hf := Lib.hid hfin
    clear hg hfin
    go_enter Try.func17, Try.ntmps17
    go_wp2_with (first | (go_at_call 32; refine ((made_yes hS)).mono ?_; rintro e w' (⟨rfl, rfl⟩)) | (refine wl_ld rfl rfl rfl (Sh.ldC hS rfl) ?_; (try simp only [Act.put, List.setIfInBounds_toArray, List.set_cons_zero, List.set_cons_succ])) | (refine wl_lookup hm1 rfl rfl rfl rfl hS (mnone Hg.out) ?_; (try simp only [Act.put, List.setIfInBounds_toArray, List.set_cons_zero, List.set_cons_succ])))
    go_ret
    have hf := Hf.out
    unfold BackP
    rw [hf]
    exact ⟨rfl, ⟨_, _, _, _, hS, hm1, hm2⟩⟩
  | some x =>
    obtain ⟨l1, l2, hl, hl1⟩ := mget_split hg
    have hv : (mget q.items id).elim (.pointer none) ItemB.ptr = .pointer (some ⟨x.blk, 0, none⟩) := msome hg
    have Hv := Lib.hid hv
    have HS := hS
    rw [hl, itemsH_append, itemsH_cons, List.append_assoc, List.append_assoc] at hS
    cases ho : x.out with
    | false =>
      have hfin : q.back id = (261, q) := by simp [QS.back, hg, ho]
      have Hf := Lib.hid hfin
      have hx : x.cells[36]? = some (.bool false) := by rw [← ho]; exact Wait.at36 _ _ _
      have Hx := Lib.hid hx
      clear hg hfin ho hl hl1 hx hv
      go_enter Try.func17, Try.ntmps17
      go_wp2_with (first | (go_at_call 32; refine ((made_yes hS)).mono ?_; rintro e w' (⟨rfl, rfl⟩)) | (refine wl_ld rfl rfl rfl (Sh.ldC hS rfl) ?_; (try simp only [Act.put, List.setIfInBounds_toArray, List.set_cons_zero, List.set_cons_succ])) | (refine wl_ld rfl rfl rfl (Sh.ldC (b := x.blk) hS Hx.out) ?_; (try simp only [Act.put, List.setIfInBounds_toArray, List.set_cons_zero, List.set_cons_succ])) | (refine wl_lookup hm1 rfl rfl rfl rfl hS Hv.out ?_; (try simp only [Act.put, List.setIfInBounds_toArray, List.set_cons_zero, List.set_cons_succ])))
      go_ret
      have hf := Hf.out
      unfold BackP
      rw [hf]
      exact ⟨rfl, ⟨_, _, _, _, HS, hm1, hm2⟩⟩
    | true =>
      have hfin : q.back id = (0, { q with items := l1 ++ (id, ⟨x.blk, x.w, false⟩) :: l2 }) := by
        simp only [QS.back, hg, ho]
        rw [hl, mput_split hl1]
        simp
      have hm1' := items_turn (x := x) (y := ⟨x.blk, x.w, false⟩) (hl ▸ hm1) rfl
      have Hf := Lib.hid hfin
      have hx : x.cells[36]? = some (.bool true) := by rw [← ho]; exact Wait.at36 _ _ _
      have Hx := Lib.hid hx
      clear hg hfin ho hl hl1 hx hv HS
      go_enter Try.func17, Try.ntmps17
      go_wp2_with (first | (go_at_call 32; refine ((made_yes hS)).mono ?_; rintro e w' (⟨rfl, rfl⟩)) | (refine wl_ld rfl rfl rfl (Sh.ldC hS rfl) ?_; (try simp only [Act.put, List.setIfInBounds_toArray, List.set_cons_zero, List.set_cons_succ])) | (refine wl_ld rfl rfl rfl (Sh.ldC (b := x.blk) hS Hx.out) ?_; (try simp only [Act.put, List.setIfInBounds_toArray, List.set_cons_zero, List.set_cons_succ])) | (refine wl_lookup hm1 rfl rfl rfl rfl hS Hv.out ?_; (try simp only [Act.put, List.setIfInBounds_toArray, List.set_cons_zero, List.set_cons_succ])) | (refine wl_st (b := x.blk) (off := 36) rfl rfl rfl rfl rfl hS (x.lt36 36 (by decide)) ?_; intro _ hS; (try simp only [evT, evC, List.getD_cons_succ, List.getD_cons_zero, List.set_cons_zero, List.set_cons_succ] at hS); rw [ItemB.set_out] at hS; (try simp only [Act.put, List.setIfInBounds_toArray, List.set_cons_zero, List.set_cons_succ])))
      go_ret
      have hf := Hf.out
      unfold BackP
      rw [hf]
      refine ⟨rfl, ⟨_, _, _, _, ?_, hm1', hm2⟩⟩
      rw [itemsH_append, itemsH_cons, List.append_assoc, List.append_assoc]
      exact hS

def EndP (B : Base) (R : HL) (q : QS) (b mi mk : Nat) (id : Int) (e : Ending) (w' : World) : Prop :=
  e = .returned (.int .i64 (q.end_ id).1) ∧ QAt B (q.end_ id).2 b mi mk R w'
set_option maxRecDepth 100000 in
set_option maxHeartbeats 800000 in
theorem End_any {B : Base} {R : HL} {w : World} {q : QS} {b mi mk : Nat} (hQ : QAt B q b mi mk R w) (id : Int) :
    Calls Try.prog 15 #[.pointer (some ⟨b, 0, none⟩), .int .u64 id] w (EndP B R q b mi mk id) := by
  obtain ⟨es1, c1, es2, c2, hS, hm1, hm2⟩ := hQ.out
  cases hg : mget q.items id with
  | none =>
    have hfin : q.end_ id = (8, q) := by simp [QS.end_, hg]
    have Hg := Lib.hid hg
    have Hf := Lib.hid hfin
    clear hg hfin
    go_enter Try.func15, Try.ntmps15
    go_wp2_with (first | (go_at_call 32; refine ((made_yes hS)).mono ?_; rintro e w' (⟨rfl, rfl⟩)) | (refine wl_ld rfl rfl rfl (Sh.ldC hS rfl) ?_; (try simp only [Act.put, List.setIfInBounds_toArray, List.set_cons_zero, List.set_cons_succ])) | (refine wl_lookup hm1 rfl rfl rfl rfl hS (mnone Hg.out) ?_; (try simp only [Act.put, List.setIfInBounds_toArray, List.set_cons_zero, List.set_cons_succ])))
    go_ret
    have hf := Hf.out
    unfold EndP
    rw [hf]
    exact ⟨rfl, ⟨_, _, _, _, hS, hm1, hm2⟩⟩
  | some x =>
    obtain ⟨l1, l2, hl, hl1⟩ := mget_split hg
    have hv : (mget q.items id).elim (.pointer none) ItemB.ptr = .pointer (some ⟨x.blk, 0, none⟩) := msome hg
    have Hv := Lib.hid hv
    have hfin : q.end_ id = (0, { q with items := mdel q.items id }) := by simp [QS.end_, hg]
    have hdel : mdel q.items id = l1 ++ l2 := by rw [hl]; exact mdel_split (hl ▸ hm1.nodup)
    have Hf := Lib.hid hfin
    have Hd := Lib.hid hdel
    rw [hl, itemsH_append, itemsH_cons, List.append_assoc, List.append_assoc] at hS
    clear hg hfin hl hl1 hv hdel
    go_enter Try.func15, Try.ntmps15
    go_wp2_with (first | (go_at_call 32; refine ((made_yes hS)).mono ?_; rintro e w' (⟨rfl, rfl⟩)) | (refine wl_ld rfl rfl rfl (Sh.ldC hS rfl) ?_; (try simp only [Act.put, List.setIfInBounds_toArray, List.set_cons_zero, List.set_cons_succ])) | (refine wl_lookup hm1 rfl rfl rfl rfl hS Hv.out ?_; (try simp only [Act.put, List.setIfInBounds_toArray, List.set_cons_zero, List.set_cons_succ])) | (refine wl_delete hm1 rfl rfl rfl rfl hS ?_; intro _ _ _ hS hm1'; (try simp only [evT, evC, List.getD_cons_succ, List.getD_cons_zero, List.set_cons_zero, List.set_cons_succ] at hS); (try simp only [Act.put, List.setIfInBounds_toArray, List.set_cons_zero, List.set_cons_succ])))
    go_ret
    have hf := Hf.out
    unfold EndP
    rw [hf]
    refine ⟨rfl, ⟨_, _, _, _, ?_, hm1', hm2⟩⟩
    show Sh B (_ ++ (_ ++ (_ ++ (itemsH (mdel q.items id) ++ R)))) _
    rw [Hd.out, itemsH_append, List.append_assoc]
    exact hS.sub (by
      refine List.Sublist.append_left (List.Sublist.append_left (List.Sublist.append_left (List.Sublist.append_left ?_ _) _) _) _
      exact List.sublist_append_right _ _)

def KnownP (B : Base) (R : HL) (q : QS) (b mi mk : Nat) (e : Ending) (w' : World) : Prop := e = .returned (.int .i64 q.known.length) ∧ QAt B q b mi mk R w'
set_option maxRecDepth 100000 in
set_option maxHeartbeats 800000 in
theorem Known_any {B : Base} {R : HL} {w : World} {q : QS} {b mi mk : Nat} (hQ : QAt B q b mi mk R w) :
    Calls Try.prog 19 #[.pointer (some ⟨b, 0, none⟩)] w (KnownP B R q b mi mk) := by
  obtain ⟨es1, c1, es2, c2, hS, hm1, hm2⟩ := hQ.out
  go_enter Try.func19, Try.ntmps19
  go_wp2_with (first | (go_at_call 32; refine ((made_yes hS)).mono ?_; rintro e w' (⟨rfl, rfl⟩)) | (refine wl_ld rfl rfl rfl (Sh.ldC hS rfl) ?_; (try simp only [Act.put, List.setIfInBounds_toArray, List.set_cons_zero, List.set_cons_succ])) | (refine wl_lenMap hm2 rfl rfl rfl hS ?_; (try simp only [Act.put, List.setIfInBounds_toArray, List.set_cons_zero, List.set_cons_succ])))
  go_ret
  exact ⟨rfl, ⟨_, _, _, _, hS, hm1, hm2⟩⟩

def FindP (B : Base) (R : HL) (q : QS) (b mi mk : Nat) (id : Int) (e : Ending) (w' : World) : Prop :=
  e = .returned (.tuple #[.agg (q.find id).1.cells.toArray, .bool (q.find id).2.1, .int .i64 (q.find id).2.2]) ∧ QAt B q b mi mk R w'
set_option maxRecDepth 100000 in
set_option maxHeartbeats 800000 in
theorem Find_any {B : Base} {R : HL} {w : World} {q : QS} {b mi mk : Nat} (hQ : QAt B q b mi mk R w) (id : Int) :
    Calls Try.prog 29 #[.pointer (some ⟨b, 0, none⟩), .int .u64 id] w (FindP B R q b mi mk id) := by
  obtain ⟨es1, c1, es2, c2, hS, hm1, hm2⟩ := hQ.out
  cases hg : mget q.items id with
  | none =>
    have hfin : q.find id = (Wait.zero, false, 8) := by simp [QS.find, hg]
    have Hg := Lib.hid hg
    have Hf := Lib.hid hfin
    clear hg hfin
    go_enter Try.func29, Try.ntmps29
    go_wp2_with (first | (go_at_call 32; refine ((made_yes hS)).mono ?_; rintro e w' (⟨rfl, rfl⟩)) | (refine wl_alloc rfl rfl hS ?_; intro _ _ hS; (try simp only [Act.put, List.setIfInBounds_toArray, List.set_cons_zero, List.set_cons_succ])) | (refine wl_ld rfl rfl rfl (Sh.ldC hS rfl) ?_; (try simp only [Act.put, List.setIfInBounds_toArray, List.set_cons_zero, List.set_cons_succ])) | (refine wl_lookup hm1 rfl rfl rfl rfl hS (mnone Hg.out) ?_; (try simp only [Act.put, List.setIfInBounds_toArray, List.set_cons_zero, List.set_cons_succ])) | (refine wl_str0 rfl rfl rfl rfl (Wait.len Wait.zero) (Wait.one Wait.zero) hS rfl ?_; intro _ hS; (try simp only [evT, evC, List.getD_cons_succ, List.getD_cons_zero, List.set_cons_zero, List.set_cons_succ] at hS); (try simp only [Act.put, List.setIfInBounds_toArray, List.set_cons_zero, List.set_cons_succ])))
    refine bodyPost_res (rs := [.cell 4 38, .tmp 5, .tmp 6]) rfl (.cell rfl (ldv_row (hS.rangeC 0 36) (by rfl)) (.tmp (.tmp .nil))) rfl ?_
    have hf := Hf.out
    unfold FindP
    rw [hf]
    exact ⟨rfl, ⟨_, _, _, _, hS.drop, hm1, hm2⟩⟩
  | some x =>
    obtain ⟨l1, l2, hl, hl1⟩ := mget_split hg
    have hv : (mget q.items id).elim (.pointer none) ItemB.ptr = .pointer (some ⟨x.blk, 0, none⟩) := msome hg
    have Hv := Lib.hid hv
    have hfin : q.find id = (x.w, !x.out, 0) := by simp [QS.find, hg]
    have Hf := Lib.hid hfin
    have Hl := Lib.hid hl
    have hx : x.cells[36]? = some (.bool x.out) := Wait.at36 _ _ _
    have Hx := Lib.hid hx
    rw [hl, itemsH_append, itemsH_cons, List.append_assoc, List.append_assoc] at hS
    clear hg hfin hl hl1 hx hv
    go_enter Try.func29, Try.ntmps29
    go_wp2_with (first | (go_at_call 32; refine ((made_yes hS)).mono ?_; rintro e w' (⟨rfl, rfl⟩)) | (refine wl_alloc rfl rfl hS ?_; intro _ _ hS; (try simp only [Act.put, List.setIfInBounds_toArray, List.set_cons_zero, List.set_cons_succ])) | (refine wl_ld rfl rfl rfl (Sh.ldC hS rfl) ?_; (try simp only [Act.put, List.setIfInBounds_toArray, List.set_cons_zero, List.set_cons_succ])) | (refine wl_lookup hm1 rfl rfl rfl rfl hS Hv.out ?_; (try simp only [Act.put, List.setIfInBounds_toArray, List.set_cons_zero, List.set_cons_succ])))
    have hc : ∀ w', (∃ R', Sh B (cellB x.blk x.cells 77 ++ R') w') → w'.cell? ⟨x.blk, 36, none⟩ = some (.bool x.out) := fun w' h => h.elim fun _ h => Sh.ldC (b := x.blk) h Hx.out
    (refine wp_drawn (S := (fun w' => ∃ R', Sh B (cellB x.blk x.cells 77 ++ R') w')) ([(0, true), (1, true), (2, true), (3, true), (4, true), (5, true), (6, true), (7, true), (8, true), (9, false), (10, true), (11, true)]) (by kernel_rfl) (by kernel_rfl) (by intro d _ _ _ _ h; cases d <;> exact h) ?_; have hS := hS.drew; simp only [picks_cons, picks_nil, opAt, List.toList_toArray])
    have hW : (fun w' => ∃ R', Sh B (cellB x.blk x.cells 77 ++ R') w') _ := ⟨_, hS.pick HasCell.out⟩
    (refine wpH_U (v := ?_) rfl ?_ hW ?_; rotate_left; (focus (intro _ _; go_simp; (try with_reducible rfl))); (try simp only [Act.put, List.setIfInBounds_toArray, List.set_cons_zero, List.set_cons_succ]))
    (refine wpH_U (v := ?_) rfl ?_ hW ?_; rotate_left; (focus (intro _ _; go_simp; (try with_reducible rfl))); (try simp only [Act.put, List.setIfInBounds_toArray, List.set_cons_zero, List.set_cons_succ]))
    (refine wpH_U (v := ?_) rfl ?_ hW ?_; rotate_left; (focus (intro _ _; go_simp; (try with_reducible rfl))); (try simp only [Act.put, List.setIfInBounds_toArray, List.set_cons_zero, List.set_cons_succ]))
    (refine wpH_U rfl (fun _ hT => (ex_ldr rfl rfl (item_range hT.choose_spec x) x.w.len)) hW ?_; (try simp only [Act.put, List.setIfInBounds_toArray, List.set_cons_zero, List.set_cons_succ]))
    (refine wpH_U (v := ?_) rfl ?_ hW ?_; rotate_left; (focus (intro _ _; go_simp; (try with_reducible rfl))); (try simp only [Act.put, List.setIfInBounds_toArray, List.set_cons_zero, List.set_cons_succ]))
    (refine wpH_U (v := ?_) rfl ?_ hW ?_; rotate_left; (focus (intro _ _; go_simp; (try with_reducible rfl))); (try simp only [Act.put, List.setIfInBounds_toArray, List.set_cons_zero, List.set_cons_succ]))
    (refine wpH_U (v := ?_) rfl ?_ hW ?_; rotate_left; (focus (intro _ _; go_simp; (try with_reducible rfl))); (try simp only [Act.put, List.setIfInBounds_toArray, List.set_cons_zero, List.set_cons_succ]))
    (refine wpH_U rfl (fun _ hT => (ex_ld rfl rfl (hc _ hT))) hW ?_; (try simp only [Act.put, List.setIfInBounds_toArray, List.set_cons_zero, List.set_cons_succ]))
    (refine wpH_U (v := ?_) rfl ?_ hW ?_; rotate_left; (focus (intro _ _; go_simp; (try with_reducible rfl))); (try simp only [Act.put, List.setIfInBounds_toArray, List.set_cons_zero, List.set_cons_succ]))
    (refine wpH_ex ?_)
    clear hW
    (refine wl_str0 rfl rfl rfl rfl x.w.len x.w.one hS rfl ?_; intro _ hS; (try simp only [evT, evC, List.getD_cons_succ, List.getD_cons_zero, List.set_cons_zero, List.set_cons_succ] at hS); (try simp only [Act.put, List.setIfInBounds_toArray, List.set_cons_zero, List.set_cons_succ]))
    (refine wpList_nil (And.intro (b := wpG _ _ _ _ _ _ _) ?_ ?_))
    · exact ⟨_, hS.pick HasCell.out⟩
    have hW : (fun w' => ∃ R', Sh B (cellB x.blk x.cells 77 ++ R') w') _ := ⟨_, hS.pick HasCell.out⟩
    (refine wpH_U (v := ?_) rfl ?_ hW ?_; rotate_left; (focus (intro _ _; go_simp; (try with_reducible rfl))); (try simp only [Act.put, List.setIfInBounds_toArray, List.set_cons_zero, List.set_cons_succ]))
    (refine wpH_U (v := ?_) rfl ?_ hW ?_; rotate_left; (focus (intro _ _; go_simp; (try with_reducible rfl))); (try simp only [Act.put, List.setIfInBounds_toArray, List.set_cons_zero, List.set_cons_succ]))
    (refine wpH_done (by assumption) ?_)
    go_wp2_with (first | (refine wl_ld rfl rfl rfl (Sh.ldC hS rfl) ?_; (try simp only [Act.put, List.setIfInBounds_toArray, List.set_cons_zero, List.set_cons_succ])))
    refine bodyPost_res (rs := [.cell 4 38, .tmp 5, .tmp 6]) rfl (.cell rfl (ldv_row hS.rangeAll x.w.len) (.tmp (.tmp .nil))) rfl ?_
    have hf := Hf.out
    unfold FindP
    rw [hf]
    refine ⟨rfl, _, _, _, _, ?_, hm1, hm2⟩
    rw [Hl.out, itemsH_append, itemsH_cons, List.append_assoc, List.append_assoc]
    exact hS.drop
end Go.Tk
