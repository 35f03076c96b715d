/- One byte's digest; a request that waits. -/
import Derived.Test.YteahpjecpdcpaaaQ8
set_option linter.unusedSectionVars false
set_option linter.unusedSimpArgs false
set_option linter.unusedVariables false
namespace Go.Tk
open Go.RowKit Go.Proofs

def Dig.of (b : Int) : Dig := ⟨b :: List.replicate 31 0, rfl⟩
theorem key_build (b : Int) : Instr.fill (fun i => some (i * 1, 1)) Dig.zero.cells.toArray [(0, .int .u8 b)] = some (Dig.of b).cells.toArray := by
  refine (fill_cons [.int .u8 b] [] [.int .u8 0] (List.replicate 31 (.int .u8 0)) rfl rfl rfl rfl rfl).trans ?_
  rfl
def KeyP (B : Base) (H : HL) (b : Int) (e : Ending) (w' : World) : Prop := e = .returned (.agg (Dig.of b).cells.toArray) ∧ Sh B H w'
set_option maxRecDepth 100000 in
set_option maxHeartbeats 800000 in
theorem key_any {B : Base} {H : HL} {w : World} (hS : Sh B H w) (b : Int) : Calls Try.prog 13 #[.int .u8 b] w (KeyP B H b) := by
  go_enter Try.func13, Try.ntmps13
  go_wp2_with (first | (refine wl_alloc rfl rfl hS ?_; intro rb _ hS; (try simp only [Act.put, List.setIfInBounds_toArray, List.set_cons_zero, List.set_cons_succ])) | (refine wl_buildA ((Dig.of b).cells) _ rfl rfl (by simp only [List.map_toArray, List.map_cons, List.map_nil]; rfl) ((key_build b)) ?_; (try simp only [Act.put, List.setIfInBounds_toArray, List.set_cons_zero, List.set_cons_succ])) | (refine wl_str0 rfl rfl rfl rfl ((Dig.len (Dig.of b))) ((Dig.one (Dig.of b))) hS rfl ?_; intro _ hS; (try simp only [evT, evC, List.getD_cons_succ, List.getD_cons_zero, List.set_cons_zero, List.set_cons_succ] at hS); (try simp only [Act.put, List.setIfInBounds_toArray, List.set_cons_zero, List.set_cons_succ])))
  refine bodyPost_res (rs := [.cell 2 35]) rfl (.cell rfl (ldv_row (Sh.rangeAll (b := rb) hS) (Dig.len _)) .nil) rfl ?_
  exact ⟨rfl, hS.drop⟩
section
variable {B : Base} {R : HL} {w : World} {q : QS} {b mi mk : Nat}
def OkP (B : Base) (R : HL) (q : QS) (b mi mk : Nat) (id : Int) (key : Dig) (u : Int) (e : Ending) (w' : World) : Prop := ∃ blk, e = .returned (.int .i64 0) ∧ QAt B (q.added id key u blk) b mi mk R w'
theorem Submit_ok (hQ : QAt B q b mi mk R w) (hO : q.Wf) (hn : q.known.length ≤ 4294967296) {id u : Int} (key : Dig) (hc : q.code id u = 0) :
    Calls Try.prog 12 #[.pointer (some ⟨b, 0, none⟩), .int .u64 id, .agg key.cells.toArray, .int .i64 u] w (OkP B R q b mi mk id key u) :=
  (Submit_any hQ hO hn id key u).mono fun e w' h => by
    obtain ⟨he, h1, _⟩ := h
    obtain ⟨blk, h1⟩ := h1 hc
    exact ⟨blk, by rw [he, hc], h1⟩
theorem Submit_no (hQ : QAt B q b mi mk R w) (hO : q.Wf) (hn : q.known.length ≤ 4294967296) {id u c : Int} (key : Dig) (hc : q.code id u = c) (h0 : c ≠ 0) :
    Calls Try.prog 12 #[.pointer (some ⟨b, 0, none⟩), .int .u64 id, .agg key.cells.toArray, .int .i64 u] w fun e w' => e = .returned (.int .i64 c) ∧ QAt B q b mi mk R w' :=
  (Submit_any hQ hO hn id key u).mono fun e w' h => ⟨by rw [h.1, hc], h.2.2 (by rw [hc]; exact h0)⟩
theorem First_nil (hQ : QAt B q b mi mk R w) (hO : q.Ord) :
    Calls Try.prog 20 #[.pointer (some ⟨b, 0, none⟩), .slice none 0 0] w (FirstP B R q b mi mk []) :=
  First_any (KA := none) (ks := []) (ksp := []) (kcap := 0) (R := R) hQ OwnSl.nothing hO
end

@[reducible] def q0 (n : Int) : QS := ⟨n, 0, [], []⟩
theorem q0_wf (n : Int) : (q0 n).Wf := {
  born := .nil
  ones _ h := nomatch h
  known _ h := nomatch h
  ids _ h := nomatch h
  le _ h := nomatch h
  born_ := rfl }
theorem added_wf {q : QS} (h : q.Wf) {id : Int} (key : Dig) (u : Int) (blk : Nat) (hid : mget q.known id = none) : (q.added id key u blk).Wf := {
  born := by
    show (q.items ++ [_]).Pairwise _
    rw [List.pairwise_append]
    refine ⟨h.born, List.pairwise_singleton _ _, ?_⟩
    intro p hp r hr
    obtain rfl := List.mem_singleton.1 hr
    have := (h.le p hp).2
    show p.2.w.born < q.born + 1
    omega
  ones p hp := by
    have hp : p ∈ mput q.known id 1 := hp
    rw [mput_new hid] at hp
    rcases List.mem_append.1 hp with hp | hp
    · exact h.ones p hp
    · obtain rfl := List.mem_singleton.1 hp; rfl
  known p hp := by
    have hp : p ∈ q.items ++ [_] := hp
    show mget (mput q.known id 1) p.1 = some 1
    rcases List.mem_append.1 hp with hp | hp
    · have := h.known p hp
      rw [mget_mput]
      split <;> simp_all
    · obtain rfl := List.mem_singleton.1 hp
      rw [mget_mput]; simp
  ids p hp := by
    have hp : p ∈ q.items ++ [_] := hp
    rcases List.mem_append.1 hp with hp | hp
    · exact h.ids p hp
    · obtain rfl := List.mem_singleton.1 hp; rfl
  le p hp := by
    have hp : p ∈ q.items ++ [_] := hp
    show _ ∧ _ ≤ q.born + 1
    rcases List.mem_append.1 hp with hp | hp
    · have := h.le p hp; exact ⟨this.1, by omega⟩
    · obtain rfl := List.mem_singleton.1 hp
      have := h.born_
      exact ⟨by show 1 ≤ q.born + 1; omega, Int.le_refl _⟩
  born_ := by
    show q.born + 1 = ((mput q.known id 1).length : Int)
    rw [mput_new hid, h.born_]; simp }

def w7 : Wait := ⟨7, Dig.of 1, 1, 0, 0⟩
@[reducible] def q1 (blk : Nat) : QS := (q0 1).added 7 (Dig.of 1) 0 blk
theorem q1_rows (blk : Nat) : (q1 blk).rows false = [w7] := rfl
theorem q1_wf (blk : Nat) : (q1 blk).Wf := added_wf (q0_wf 1) _ _ _ rfl
theorem q1_few (blk : Nat) : (q1 blk).known.length ≤ 4294967296 := by show 1 ≤ _; omega
theorem First_q1 {B : Base} {R : HL} {w : World} {blk b mi mk : Nat} (hQ : QAt B (q1 blk) b mi mk R w) : Calls Try.prog 20 #[.pointer (some ⟨b, 0, none⟩), .slice none 0 0] w fun e w' => e = .returned (.tuple #[.agg w7.cells.toArray, .bool true]) ∧ QAt B (q1 blk) b mi mk R w' :=
  (First_nil hQ ((q1_wf blk).ord (q1_few blk))).mono fun _ _ h => ⟨h.1, h.2⟩
theorem Len_q1 {B : Base} {R : HL} {w : World} {blk b mi mk : Nat} (hQ : QAt B (q1 blk) b mi mk R w) : Calls Try.prog 11 #[.pointer (some ⟨b, 0, none⟩)] w fun e w' => e = .returned (.int .i64 1) ∧ QAt B (q1 blk) b mi mk R w' :=
  (Len_any hQ ((q1_wf blk).ord (q1_few blk))).mono fun _ _ h => ⟨h.1, h.2⟩
theorem wait_self (a : Wait) (w : World) : (Op.equalIn 10000 38 (.agg a.cells.toArray) (.agg a.cells.toArray)).run Try.prog w = .ok true w := by
  have := wait_eq a a 9997 w
  simpa using this
theorem w7_build {z : List Value} (hz : z = Wait.zero.cells) : Instr.fill (fun i => [(0, 1), (1, 32), (33, 1), (34, 1), (35, 1)].toArray[i]?) z.toArray [(0, .int .u64 7), (1, .agg (Dig.of 1).cells.toArray), (2, .int .i64 1)] = some w7.cells.toArray := by
  subst hz
  refine (fill_cons [.int .u64 7] [] [.int .u64 0] _ rfl rfl rfl rfl rfl).trans ?_
  refine (fill_cons (Dig.of 1).cells [.int .u64 7] (List.replicate 32 (.int .u8 0)) _ rfl rfl (Dig.len _) rfl rfl).trans ?_
  refine (fill_cons [.int .i64 1] (.int .u64 7 :: (Dig.of 1).cells) [.int .i64 0] [.int .i64 0, .int .i64 0] rfl rfl rfl rfl rfl).trans ?_
  rfl

set_option maxRecDepth 100000 in
set_option maxHeartbeats 800000 in
theorem alive_any {B : Base} {H : HL} {w : World} (hS : Sh B H w) : Calls Try.prog 10 #[] w fun e w' => e = .returned (.bool true) ∧ Sh B H w' := by
  go_enter Try.func10, Try.ntmps10
  go_wp2_with (first | (go_at_call 9; refine ((New_ok hS 1 (by omega) (by omega))).mono ?_; rintro e w' (⟨b, mi, mk, rfl, ⟨es1, c1, es2, c2, hS, hm1, hm2⟩⟩)) | (go_at_call 13; refine ((key_any hS 1)).mono ?_; rintro e w' (⟨rfl, hS⟩)) | (refine wl_alloc rfl rfl hS ?_; intro rb _ hS; (try simp only [Act.put, List.setIfInBounds_toArray, List.set_cons_zero, List.set_cons_succ])) | (go_at_call 12; refine ((Submit_ok (q := q0 1) (QAt.of (q := q0 1) b mi mk hS hm1 hm2) (q0_wf 1) (by decide) (Dig.of 1) rfl)).mono ?_; rintro e w' (⟨blk, rfl, ⟨es1, c1, es2, c2, hS, hm1, hm2⟩⟩)) | (go_at_call 20; refine ((First_q1 (QAt.of (q := q1 blk) b mi mk hS hm1 hm2))).mono ?_; rintro e w' (⟨rfl, ⟨es1, c1, es2, c2, hS, hm1, hm2⟩⟩)) | (refine wl_str0 rfl rfl rfl rfl w7.len w7.one hS rfl ?_; intro _ hS; (try simp only [evT, evC, List.getD_cons_succ, List.getD_cons_zero, List.set_cons_zero, List.set_cons_succ] at hS); (try simp only [Act.put, List.setIfInBounds_toArray, List.set_cons_zero, List.set_cons_succ])))
  (refine wp_drawn (S := ((fun w' => w'.rangeAt rb 0 w7.cells))) ([(0, true), (1, true), (2, true), (3, true), (4, true), (5, true), (6, true), (7, false), (8, true), (9, true), (10, true), (11, true), (12, true), (13, false), (14, true), (15, true), (16, true), (17, true), (18, false), (19, false), (20, true), (21, true), (22, true)]) (by kernel_rfl) (by kernel_rfl) (by intro d _ _ _ _ h; cases d <;> exact h) ?_; have hS := hS.drew; simp only [picks_cons, picks_nil, opAt, List.toList_toArray])
  have hW : World.rangeAt _ rb 0 w7.cells := Sh.rangeAll (b := rb) hS
  (refine wpH_U (v := ?_) rfl ?_ hW ?_; rotate_left; (focus (intro _ _; go_simp; (try with_reducible rfl))); (try simp only [Act.put, List.setIfInBounds_toArray, List.set_cons_zero, List.set_cons_succ]))
  (refine wpH_U (v := ?_) rfl ?_ hW ?_; rotate_left; (focus (intro _ _; go_simp; (try with_reducible rfl))); (try simp only [Act.put, List.setIfInBounds_toArray, List.set_cons_zero, List.set_cons_succ]))
  (refine wpH_U (v := ?_) rfl ?_ hW ?_; rotate_left; (focus (intro _ _; go_simp; (try with_reducible rfl))); (try simp only [Act.put, List.setIfInBounds_toArray, List.set_cons_zero, List.set_cons_succ]))
  (refine wpH_U (v := ?_) rfl ?_ hW ?_; rotate_left; (focus (intro _ _; go_simp; (try with_reducible rfl))); (try simp only [Act.put, List.setIfInBounds_toArray, List.set_cons_zero, List.set_cons_succ]))
  (refine wpH_U (v := ?_) rfl ?_ hW ?_; rotate_left; (focus (intro _ _; go_simp; (try with_reducible rfl))); (try simp only [Act.put, List.setIfInBounds_toArray, List.set_cons_zero, List.set_cons_succ]))
  (refine wpH_U (v := ?_) rfl ?_ hW ?_; rotate_left; (focus (intro _ _; go_simp; (try with_reducible rfl))); (try simp only [Act.put, List.setIfInBounds_toArray, List.set_cons_zero, List.set_cons_succ]))
  (refine wpH_U rfl (fun _ hT => (ex_ldr rfl rfl hT w7.len)) hW ?_; (try simp only [Act.put, List.setIfInBounds_toArray, List.set_cons_zero, List.set_cons_succ]))
  (refine wpH_ex ?_)
  clear hW
  go_wp2_with (first | (go_at_call 13; refine ((key_any hS 1)).mono ?_; rintro e w' (⟨rfl, hS⟩)))
  refine ⟨Sh.rangeAll (b := rb) hS, ?_⟩
  have hW : World.rangeAt _ rb 0 w7.cells := Sh.rangeAll (b := rb) hS
  (refine wpH_U rfl (fun _ _ => ex_build w7.cells _ rfl (by simp only [List.map_toArray, List.map_cons, List.map_nil]; rfl) ((w7_build rfl))) hW ?_; (try simp only [Act.put, List.setIfInBounds_toArray, List.set_cons_zero, List.set_cons_succ]))
  (refine wpH_U rfl (fun _ hT => (ex_eql rfl rfl rfl Try.eqGuardType38 (wait_self w7 _))) hW ?_; (try simp only [Act.put, List.setIfInBounds_toArray, List.set_cons_zero, List.set_cons_succ]))
  (refine wpH_U (v := ?_) rfl ?_ hW ?_; rotate_left; (focus (intro _ _; go_simp; (try with_reducible rfl))); (try simp only [Act.put, List.setIfInBounds_toArray, List.set_cons_zero, List.set_cons_succ]))
  (refine wpH_U (v := ?_) rfl ?_ hW ?_; rotate_left; (focus (intro _ _; go_simp; (try with_reducible rfl))); (try simp only [Act.put, List.setIfInBounds_toArray, List.set_cons_zero, List.set_cons_succ]))
  (refine wpH_U (v := ?_) rfl ?_ hW ?_; rotate_left; (focus (intro _ _; go_simp; (try with_reducible rfl))); (try simp only [Act.put, List.setIfInBounds_toArray, List.set_cons_zero, List.set_cons_succ]))
  (refine wpH_ex ?_)
  clear hW
  go_wp2_with (first | (go_at_call 11; refine ((Len_q1 (QAt.of (q := q1 blk) b mi mk hS hm1 hm2))).mono ?_; rintro e w' (⟨rfl, ⟨es1, c1, es2, c2, hS, hm1, hm2⟩⟩)))
  refine ⟨Sh.rangeAll (b := rb) hS, ?_⟩
  have hW : World.rangeAt _ rb 0 w7.cells := Sh.rangeAll (b := rb) hS
  (refine wpH_U (v := ?_) rfl ?_ hW ?_; rotate_left; (focus (intro _ _; go_simp; (try with_reducible rfl))); (try simp only [Act.put, List.setIfInBounds_toArray, List.set_cons_zero, List.set_cons_succ]))
  (refine wpH_U (v := ?_) rfl ?_ hW ?_; rotate_left; (focus (intro _ _; go_simp; (try with_reducible rfl))); (try simp only [Act.put, List.setIfInBounds_toArray, List.set_cons_zero, List.set_cons_succ]))
  (refine wpH_U (v := ?_) rfl ?_ hW ?_; rotate_left; (focus (intro _ _; go_simp; (try with_reducible rfl))); (try simp only [Act.put, List.setIfInBounds_toArray, List.set_cons_zero, List.set_cons_succ]))
  (refine wpH_U (v := ?_) rfl ?_ hW ?_; rotate_left; (focus (intro _ _; go_simp; (try with_reducible rfl))); (try simp only [Act.put, List.setIfInBounds_toArray, List.set_cons_zero, List.set_cons_succ]))
  (refine wpH_ex ?_)
  clear hW
  go_wp2_with (first | (go_at_call 13; refine ((key_any hS 1)).mono ?_; rintro e w' (⟨rfl, hS⟩)))
  refine ⟨Sh.rangeAll (b := rb) hS, ?_⟩
  (refine wpH_ex ?_)
  go_wp2_with (first | (go_at_call 12; refine ((Submit_no (q := q1 blk) (QAt.of (q := q1 blk) b mi mk hS hm1 hm2) (q1_wf blk) (q1_few blk) (Dig.of 1) (c := 7) rfl (by decide))).mono ?_; rintro e w' (⟨rfl, ⟨es1, c1, es2, c2, hS, hm1, hm2⟩⟩)))
  refine ⟨Sh.rangeAll (b := rb) hS, ?_⟩
  have hW : World.rangeAt _ rb 0 w7.cells := Sh.rangeAll (b := rb) hS
  (refine wpH_U (v := ?_) rfl ?_ hW ?_; rotate_left; (focus (intro _ _; go_simp; (try with_reducible rfl))); (try simp only [Act.put, List.setIfInBounds_toArray, List.set_cons_zero, List.set_cons_succ]))
  (refine wpH_U (v := ?_) rfl ?_ hW ?_; rotate_left; (focus (intro _ _; go_simp; (try with_reducible rfl))); (try simp only [Act.put, List.setIfInBounds_toArray, List.set_cons_zero, List.set_cons_succ]))
  (refine wpH_U (v := ?_) rfl ?_ hW ?_; rotate_left; (focus (intro _ _; go_simp; (try with_reducible rfl))); (try simp only [Act.put, List.setIfInBounds_toArray, List.set_cons_zero, List.set_cons_succ]))
  (refine wpH_done (by assumption) ?_)
  go_wp2
  go_ret
  trace_state
  exact ⟨rfl, hS.to⟩
end Go.Tk
