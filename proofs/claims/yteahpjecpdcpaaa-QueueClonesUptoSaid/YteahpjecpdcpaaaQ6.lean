/- The queue's Submit. -/
import Derived.Test.YteahpjecpdcpaaaQ5
set_option linter.unusedSectionVars false
set_option linter.unusedSimpArgs false
set_option linter.unusedVariables false
namespace Go.Tk
open Go.RowKit Go.Proofs

structure QS.Wf (q : QS) : Prop where
  born : q.items.Pairwise (fun p r => p.2.w.born < r.2.w.born)
  ones : ∀ p ∈ q.known, p.2 = 1
  known : ∀ p ∈ q.items, mget q.known p.1 = some 1
  ids : ∀ p ∈ q.items, p.2.w.id = p.1
  le : ∀ p ∈ q.items, 1 ≤ p.2.w.born ∧ p.2.w.born ≤ q.born
  born_ : q.born = q.known.length

theorem up_le {l : List Int} {a n : Int} (h : l.Pairwise (· < ·)) (hl : ∀ x ∈ l, a < x ∧ x ≤ n) (ha : a ≤ n) : (l.length : Int) ≤ n - a := by
  induction l generalizing a with
  | nil => simp; omega
  | cons x l ih =>
    rw [List.pairwise_cons] at h
    have hx := hl x (by simp)
    have := ih (a := x) h.2 (fun y hy => ⟨h.1 y hy, (hl y (by simp [hy])).2⟩) hx.2
    simp only [List.length_cons]; omega
theorem QS.Wf.few {q : QS} (h : q.Wf) : q.items.length ≤ q.known.length := by
  have := up_le (l := q.items.map (·.2.w.born)) (a := 0) (n := q.born) (by rw [List.pairwise_map]; exact h.born) (by
    intro x hx
    obtain ⟨p, hp, rfl⟩ := List.mem_map.1 hx
    have := h.le p hp; omega) (by rw [h.born_]; omega)
  rw [List.length_map, h.born_] at this
  omega
theorem QS.Wf.ord {q : QS} (h : q.Wf) (hn : q.known.length ≤ 4294967296) : q.Ord := ⟨h.born, Nat.le_trans h.few hn⟩

theorem wait_build (id born u : Int) (key : Dig) {z : List Value} (hz : z = Wait.zero.cells) : Instr.fill (fun i => [(0, 1), (1, 32), (33, 1), (34, 1), (35, 1)].toArray[i]?) z.toArray [(0, .int .u64 id), (1, .agg key.cells.toArray), (2, .int .i64 born), (4, .int .i64 u)] = some (Wait.cells ⟨id, key, born, 0, u⟩).toArray := by
  subst hz
  refine (fill_cons [.int .u64 id] [] [.int .u64 0] _ rfl rfl rfl rfl rfl).trans ?_
  refine (fill_cons key.cells [.int .u64 id] (List.replicate 32 (.int .u8 0)) _ rfl rfl key.len rfl rfl).trans ?_
  refine (fill_cons [.int .i64 born] (.int .u64 id :: key.cells) [.int .i64 0] [.int .i64 0, .int .i64 0] rfl rfl rfl rfl (by simp [key.len])).trans ?_
  rw [show ((.int .u64 id :: key.cells) ++ ([.int .i64 born] ++ [.int .i64 0, .int .i64 0])) = (.int .u64 id :: (key.cells ++ [.int .i64 born, .int .i64 0])) ++ ([.int .i64 0] ++ []) from by simp]
  refine (fill_cons [.int .i64 u] _ [.int .i64 0] _ rfl rfl rfl rfl (by simp [key.len])).trans ?_
  rw [fill_nil]
  simp [Wait.cells]
theorem item_build (w : Wait) {z : List Value} (hz : z = Wait.zero.cells ++ [Value.bool false]) : Instr.fill (fun i => [(0, 36), (36, 1)].toArray[i]?) z.toArray [(0, .agg w.cells.toArray)] = some (w.cells ++ [Value.bool false]).toArray := by
  subst hz
  refine (fill_cons w.cells [] Wait.zero.cells [.bool false] rfl rfl w.len (Wait.len _) rfl).trans ?_
  rfl

def QS.code (q : QS) (id u : Int) : Int :=
  if mget q.known id = none then if q.most ≤ (q.rows false).length then 7 else if u < 0 then 1 else 0 else 9
@[reducible] def QS.added (q : QS) (id : Int) (key : Dig) (u : Int) (blk : Nat) : QS :=
  { q with born := q.born + 1, known := mput q.known id 1, items := q.items ++ [(id, ⟨blk, ⟨id, key, q.born + 1, 0, u⟩, false⟩)] }
def SubmitP (B : Base) (R : HL) (q : QS) (b mi mk : Nat) (id : Int) (key : Dig) (u : Int) (e : Ending) (w' : World) : Prop :=
  e = .returned (.int .i64 (q.code id u)) ∧ (q.code id u = 0 → ∃ blk, QAt B (q.added id key u blk) b mi mk R w') ∧ (q.code id u ≠ 0 → QAt B q b mi mk R w')

theorem mget_mem {κ ν : Type} [DecidableEq κ] {m : List (κ × ν)} {k : κ} {v : ν} (h : mget m k = some v) : (k, v) ∈ m := by
  obtain ⟨l1, l2, rfl, _⟩ := mget_split h
  simp

section
variable {B : Base} {R : HL} {w : World} {q : QS} {b mi mk : Nat}
set_option maxRecDepth 100000 in
set_option maxHeartbeats 800000 in
theorem Submit_any (hQ : QAt B q b mi mk R w) (hO : q.Wf) (hn : q.known.length ≤ 4294967296) (id : Int) (key : Dig) (u : Int) :
    Calls Try.prog 12 #[.pointer (some ⟨b, 0, none⟩), .int .u64 id, .agg key.cells.toArray, .int .i64 u] w (SubmitP B R q b mi mk id key u) := by
  obtain ⟨es1, c1, es2, c2, hS, hm1, hm2⟩ := hQ.out
  cases hg : mget q.known id with
  | some n =>
    have hn : n = 1 := hO.ones _ (mget_mem hg)
    subst hn
    have hfin : q.code id u = 9 := by simp [QS.code, hg]
    have Hg := Lib.hid hg
    have Hf := Lib.hid hfin
    clear hg hfin
    go_enter Try.func12, Try.ntmps12
    go_wp2_with (first | (go_at_call 32; refine ((made_yes hS)).mono ?_; rintro e w' (⟨rfl, rfl⟩)) | (refine wl_ld rfl rfl rfl (Sh.ldC hS rfl) ?_; (try simp only [Act.put, List.setIfInBounds_toArray, List.set_cons_zero, List.set_cons_succ])) | (refine wl_lookup hm2 rfl rfl rfl rfl hS (msome Hg.out) ?_; (try simp only [Act.put, List.setIfInBounds_toArray, List.set_cons_zero, List.set_cons_succ])) | (refine wl_box rfl rfl rfl rfl hS ?_; intro _ _ hS; (try simp only [Act.put, List.setIfInBounds_toArray, List.set_cons_zero, List.set_cons_succ])))
    go_ret
    have hf := Hf.out
    exact ⟨by rw [hf]; rfl, (fun h => by rw [hf] at h; cases h), fun _ => ⟨_, _, _, _, hS.drop, hm1, hm2⟩⟩
  | none =>
    have Hg := Lib.hid hg
    clear hg
    go_enter Try.func12, Try.ntmps12
    go_wp2_with (first | (go_at_call 32; refine ((made_yes hS)).mono ?_; rintro e w' (⟨rfl, rfl⟩)) | (refine wl_ld rfl rfl rfl (Sh.ldC hS rfl) ?_; (try simp only [Act.put, List.setIfInBounds_toArray, List.set_cons_zero, List.set_cons_succ])) | (refine wl_lookup hm2 rfl rfl rfl rfl hS (mnone Hg.out) ?_; (try simp only [Act.put, List.setIfInBounds_toArray, List.set_cons_zero, List.set_cons_succ])) | (refine wl_box rfl rfl rfl rfl hS ?_; intro kb _ hS; (try simp only [Act.put, List.setIfInBounds_toArray, List.set_cons_zero, List.set_cons_succ])))
    have hQ1 : QAt B q b mi mk (cellB kb key.cells 35 ++ R) _ := ⟨_, _, _, _, hS.drew.to, hm1, hm2⟩
    have hc : ∀ w', (∃ R', Sh B (cellB b [.int .i64 q.most, .int .i64 q.born, .map (some mi), .map (some mk)] 67 ++ R') w') → w'.cell? ⟨b, 0, none⟩ = some (.int .i64 q.most) := fun w' h => h.elim fun _ h => Sh.ldC (b := b) h rfl
    (refine wp_drawn (S := (fun w' => ∃ R', Sh B (cellB b [.int .i64 q.most, .int .i64 q.born, .map (some mi), .map (some mk)] 67 ++ R') w')) ([(0, true), (2, true), (3, true), (4, true), (5, true), (1, false), (6, true), (7, true)]) (by kernel_rfl) (by kernel_rfl) (by intro d _ _ _ _ h; cases d <;> exact h) ?_; have hS := hS.drew; simp only [picks_cons, picks_nil, opAt, List.toList_toArray])
    have hW : (fun w' => ∃ R', Sh B (cellB b [.int .i64 q.most, .int .i64 q.born, .map (some mi), .map (some mk)] 67 ++ R') w') _ := ⟨_, hS.pick HasCell.out⟩
    (refine wpH_U (v := ?_) rfl ?_ hW ?_; rotate_left; (focus (intro _ _; go_simp; (try with_reducible rfl))); (try simp only [Act.put, List.setIfInBounds_toArray, List.set_cons_zero, List.set_cons_succ]))
    (refine wpH_U (v := ?_) rfl ?_ hW ?_; rotate_left; (focus (intro _ _; go_simp; (try with_reducible rfl))); (try simp only [Act.put, List.setIfInBounds_toArray, List.set_cons_zero, List.set_cons_succ]))
    (refine wpH_U (v := ?_) rfl ?_ hW ?_; rotate_left; (focus (intro _ _; go_simp; (try with_reducible rfl))); (try simp only [Act.put, List.setIfInBounds_toArray, List.set_cons_zero, List.set_cons_succ]))
    (refine wpH_U (v := ?_) rfl ?_ hW ?_; rotate_left; (focus (intro _ _; go_simp; (try with_reducible rfl))); (try simp only [Act.put, List.setIfInBounds_toArray, List.set_cons_zero, List.set_cons_succ]))
    (refine wpH_U rfl (fun _ hT => (ex_ld rfl rfl (hc _ hT))) hW ?_; (try simp only [Act.put, List.setIfInBounds_toArray, List.set_cons_zero, List.set_cons_succ]))
    (refine wpH_ex ?_)
    clear hW hS
    go_wp2_with (first | (go_at_call 11; refine ((Len_any hQ1 (hO.ord hn))).mono ?_; rintro e w' (⟨rfl, hQ2⟩)))
    obtain ⟨es1, c1, es2, c2, hS, hm1, hm2⟩ := hQ2.out
    refine ⟨⟨_, hS.pick HasCell.out⟩, ?_⟩
    have hW : (fun w' => ∃ R', Sh B (cellB b [.int .i64 q.most, .int .i64 q.born, .map (some mi), .map (some mk)] 67 ++ R') w') _ := ⟨_, hS.pick HasCell.out⟩
    (refine wpH_U (v := ?_) rfl ?_ hW ?_; rotate_left; (focus (intro _ _; go_simp; (try with_reducible rfl))); (try simp only [Act.put, List.setIfInBounds_toArray, List.set_cons_zero, List.set_cons_succ]))
    (refine wpH_U (v := ?_) rfl ?_ hW ?_; rotate_left; (focus (intro _ _; go_simp; (try with_reducible rfl))); (try simp only [Act.put, List.setIfInBounds_toArray, List.set_cons_zero, List.set_cons_succ]))
    (refine wpH_done (by assumption) ?_)
    clear hW hc
    by_cases h1 : q.most ≤ (q.rows false).length
    · go_wp2_with (first | (refine wl_ld rfl rfl rfl (Sh.ldC hS rfl) ?_; (try simp only [Act.put, List.setIfInBounds_toArray, List.set_cons_zero, List.set_cons_succ])))
      go_ret
      have hf : q.code id u = 7 := by simp [QS.code, Hg.out, h1]
      exact ⟨by rw [hf]; rfl, (fun h => by rw [hf] at h; cases h), fun _ => ⟨_, _, _, _, hS.to, hm1, hm2⟩⟩
    · by_cases h2 : u < 0
      · go_wp2_with (first | (refine wl_ld rfl rfl rfl (Sh.ldC hS rfl) ?_; (try simp only [Act.put, List.setIfInBounds_toArray, List.set_cons_zero, List.set_cons_succ])))
        go_ret
        have hf : q.code id u = 1 := by simp [QS.code, Hg.out, h1, h2]
        exact ⟨by rw [hf]; rfl, (fun h => by rw [hf] at h; cases h), fun _ => ⟨_, _, _, _, hS.to, hm1, hm2⟩⟩
      · go_wp2_with (first | (refine wl_ld rfl rfl rfl (Sh.ldC hS rfl) ?_; (try simp only [Act.put, List.setIfInBounds_toArray, List.set_cons_zero, List.set_cons_succ])) | (refine wl_st rfl rfl rfl rfl rfl hS (of_decide_eq_true rfl) ?_; intro _ hS; (try simp only [evT, evC, List.getD_cons_succ, List.getD_cons_zero, List.set_cons_zero, List.set_cons_succ] at hS); (try simp only [List.set_cons_zero, List.set_cons_succ] at hS); (try simp only [Act.put, List.setIfInBounds_toArray, List.set_cons_zero, List.set_cons_succ])) | (refine wl_mapUpdate (v := ((1 : Int))) hm2 rfl rfl rfl rfl rfl hS ?_; intro _ _ _ hS hm2; (try simp only [evT, evC, List.getD_cons_succ, List.getD_cons_zero, List.set_cons_zero, List.set_cons_succ] at hS); (try simp only [Act.put, List.setIfInBounds_toArray, List.set_cons_zero, List.set_cons_succ])))
        have hwr : wrap64 (q.born + 1) = q.born + 1 := by have := hO.born_; unfold wrap64; omega
        rw [hwr] at hS
        (refine wp_drawn (S := ((fun w' => w'.cell? ⟨b, 1, none⟩ = some (.int .i64 (q.born + 1)) ∧ w'.cell? ⟨b, 2, none⟩ = some (.map (some mi)) ∧ w'.rangeAt kb 0 key.cells))) ([(0, true), (1, true), (2, true), (3, true), (4, true), (5, true), (6, true), (7, true), (8, true), (9, true), (10, true), (11, true), (12, true), (13, true), (14, false), (15, false)]) (by kernel_rfl) (by kernel_rfl) (by intro d _ _ _ _ h; cases d <;> exact h) ?_; have hS := hS.drew; simp only [picks_cons, picks_nil, opAt, List.toList_toArray])
        have hW := And.intro (Sh.ldC (b := b) (off := 1) hS rfl) (And.intro (Sh.ldC (b := b) (off := 2) hS rfl) (Sh.rangeAll (b := kb) hS))
        (refine wpH_U (v := ?_) rfl ?_ hW ?_; rotate_left; (focus (intro _ _; go_simp; (try with_reducible rfl))); (try simp only [Act.put, List.setIfInBounds_toArray, List.set_cons_zero, List.set_cons_succ]))
        (refine wpH_U (v := ?_) rfl ?_ hW ?_; rotate_left; (focus (intro _ _; go_simp; (try with_reducible rfl))); (try simp only [Act.put, List.setIfInBounds_toArray, List.set_cons_zero, List.set_cons_succ]))
        (refine wpH_U (v := ?_) rfl ?_ hW ?_; rotate_left; (focus (intro _ _; go_simp; (try with_reducible rfl))); (try simp only [Act.put, List.setIfInBounds_toArray, List.set_cons_zero, List.set_cons_succ]))
        (refine wpH_U rfl (fun _ hT => (ex_ld rfl rfl hT.2.1)) hW ?_; (try simp only [Act.put, List.setIfInBounds_toArray, List.set_cons_zero, List.set_cons_succ]))
        (refine wpH_U (v := ?_) rfl ?_ hW ?_; rotate_left; (focus (intro _ _; go_simp; (try with_reducible rfl))); (try simp only [Act.put, List.setIfInBounds_toArray, List.set_cons_zero, List.set_cons_succ]))
        (refine wpH_U (v := ?_) rfl ?_ hW ?_; rotate_left; (focus (intro _ _; go_simp; (try with_reducible rfl))); (try simp only [Act.put, List.setIfInBounds_toArray, List.set_cons_zero, List.set_cons_succ]))
        (refine wpH_U rfl (fun _ hT => (ex_ldr rfl rfl hT.2.2 key.len)) hW ?_; (try simp only [Act.put, List.setIfInBounds_toArray, List.set_cons_zero, List.set_cons_succ]))
        (refine wpH_U (v := ?_) rfl ?_ hW ?_; rotate_left; (focus (intro _ _; go_simp; (try with_reducible rfl))); (try simp only [Act.put, List.setIfInBounds_toArray, List.set_cons_zero, List.set_cons_succ]))
        (refine wpH_U (v := ?_) rfl ?_ hW ?_; rotate_left; (focus (intro _ _; go_simp; (try with_reducible rfl))); (try simp only [Act.put, List.setIfInBounds_toArray, List.set_cons_zero, List.set_cons_succ]))
        (refine wpH_U (v := ?_) rfl ?_ hW ?_; rotate_left; (focus (intro _ _; go_simp; (try with_reducible rfl))); (try simp only [Act.put, List.setIfInBounds_toArray, List.set_cons_zero, List.set_cons_succ]))
        (refine wpH_U rfl (fun _ hT => (ex_ld rfl rfl hT.1)) hW ?_; (try simp only [Act.put, List.setIfInBounds_toArray, List.set_cons_zero, List.set_cons_succ]))
        (refine wpH_U (v := ?_) rfl ?_ hW ?_; rotate_left; (focus (intro _ _; go_simp; (try with_reducible rfl))); (try simp only [Act.put, List.setIfInBounds_toArray, List.set_cons_zero, List.set_cons_succ]))
        (refine wpH_U rfl (fun _ _ => ex_build (Wait.cells ⟨id, key, q.born + 1, 0, u⟩) _ rfl (by simp only [List.map_toArray, List.map_cons, List.map_nil]; rfl) ((wait_build _ _ _ _ rfl))) hW ?_; (try simp only [Act.put, List.setIfInBounds_toArray, List.set_cons_zero, List.set_cons_succ]))
        (refine wpH_U rfl (fun _ _ => ex_build ((Wait.cells ⟨id, key, q.born + 1, 0, u⟩ ++ [.bool false])) _ rfl (by simp only [List.map_toArray, List.map_cons, List.map_nil]; rfl) ((item_build _ rfl))) hW ?_; (try simp only [Act.put, List.setIfInBounds_toArray, List.set_cons_zero, List.set_cons_succ]))
        (refine wpH_ex ?_)
        clear hW
        go_wp2_with (first | (refine wl_box rfl rfl rfl rfl hS ?_; intro xb _ hS; (try simp only [Act.put, List.setIfInBounds_toArray, List.set_cons_zero, List.set_cons_succ])))
        refine ⟨And.intro (Sh.ldC (b := b) (off := 1) hS rfl) (And.intro (Sh.ldC (b := b) (off := 2) hS rfl) (Sh.rangeAll (b := kb) hS)), ?_⟩
        (refine wpH_ex ?_)
        go_wp2_with (first | (refine wl_mapUpdate (v := ((⟨xb, ⟨id, key, q.born + 1, 0, u⟩, false⟩ : ItemB))) hm1 rfl rfl rfl rfl rfl hS ?_; intro _ _ _ hS hm1; (try simp only [evT, evC, List.getD_cons_succ, List.getD_cons_zero, List.set_cons_zero, List.set_cons_succ] at hS); (try simp only [Act.put, List.setIfInBounds_toArray, List.set_cons_zero, List.set_cons_succ])))
        refine ⟨And.intro (Sh.ldC (b := b) (off := 1) hS rfl) (And.intro (Sh.ldC (b := b) (off := 2) hS rfl) (Sh.rangeAll (b := kb) hS)), ?_⟩
        (refine wpH_done (by assumption) ?_)
        go_wp2
        go_ret
        have hi : mget q.items id = none := by
          cases hx : mget q.items id with
          | none => rfl
          | some x => have := hO.known _ (mget_mem hx); rw [Hg.out] at this; cases this
        have hf : q.code id u = 0 := by unfold QS.code; rw [if_pos Hg.out, if_neg (by omega), if_neg (by omega)]
        rw [mput_new hi] at hm1
        refine ⟨by rw [hf]; rfl, fun _ => ⟨xb, _, _, _, _, ?_, hm1, hm2⟩, fun h => absurd hf h⟩
        show Sh B (_ ++ (_ ++ (_ ++ (itemsH (q.items ++ [(id, _)]) ++ R)))) _
        rw [itemsH_append, itemsH_cons, itemsH_nil, List.append_nil, List.append_assoc]
        simp only [QS.added, ItemB.cells]
        exact hS.to
end
end Go.Tk
