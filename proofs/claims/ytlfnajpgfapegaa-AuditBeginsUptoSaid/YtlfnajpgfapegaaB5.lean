/- Workers that live; a worker's block taken out. -/
import Derived.Test.YtlfnajpgfapegaaB4
set_option linter.unusedSectionVars false
set_option linter.unusedSimpArgs false
set_option linter.unusedVariables false
namespace Go.Tk
open Go.RowKit Go.Proofs

section
variable {p q : Bk} {ids l1 l2 : List (Int × (Nat × Rq))} {wks k1 k2 : List (Int × WkB)} {es1 es2 : Array MapEntry} {c1 c2 : Nat} {MA : Option Addr} {md msp : List Value} {mcap : Nat}
theorem BkIs.cfg (hb : BkIs p ids wks es1 es2 c1 c2 MA md msp mcap) (h1 : q.ids = p.ids) (h2 : q.wks = p.wks) (h3 : q.must = p.must) : BkIs q ids wks es1 es2 c1 c2 MA md msp mcap :=
  ⟨hb.m1, by rw [h1]; exact hb.e1, hb.m2, by rw [h2]; exact hb.e2, by rw [h3]; exact hb.mu, hb.ow⟩
theorem BkIs.setR {n : Int} {blk : Nat} {r r' : Rq} (hb : BkIs p (l1 ++ (n, (blk, r)) :: l2) wks es1 es2 c1 c2 MA md msp mcap) (h1 : mget l1 n = none) : BkIs (p.setR n r') (l1 ++ (n, (blk, r')) :: l2) wks es1 es2 c1 c2 MA md msp mcap := by
  refine ⟨hb.m1.same (by simp), ?_, hb.m2, hb.e2, hb.mu, hb.ow⟩
  show _ = mput p.ids n r'
  rw [← hb.e1]
  simp only [List.map_append, List.map_cons]
  rw [mput_split2 (by rw [mget_map (fun x : Nat × Rq => x.2)]; rw [h1]; rfl)]
theorem BkIs.setW {m : Int} {x x' : WkB} (hb : BkIs p ids (k1 ++ (m, x) :: k2) es1 es2 c1 c2 MA md msp mcap) (h2 : mget k1 m = none) (hx : x'.blk = x.blk) (how : OwnD (intE .u64) x'.A x'.dead x'.w.owes x'.sp x'.cap) : BkIs (p.setW m x'.w) ids (k1 ++ (m, x') :: k2) es1 es2 c1 c2 MA md msp mcap := by
  refine ⟨hb.m1, hb.e1, hb.m2.same (by simp [wkV, hx]), ?_, hb.mu, ?_⟩
  · show _ = mput p.wks m x'.w
    rw [← hb.e2]
    simp only [List.map_append, List.map_cons]
    rw [mput_split2 (by rw [mget_map (fun x : WkB => x.w)]; rw [h2]; rfl)]
  · intro y hy
    rcases List.mem_append.1 hy with hy | hy
    · exact hb.ow y (List.mem_append_left _ hy)
    · rcases List.mem_cons.1 hy with rfl | hy
      · exact how
      · exact hb.ow y (List.mem_append_right _ (List.mem_cons_of_mem _ hy))
theorem BkIs.wkN (hb : BkIs p ids wks es1 es2 c1 c2 MA md msp mcap) (n : Int) : mget p.wks n = (mget wks n).map (·.w) := by
  rw [← hb.e2, mget_map (fun x : WkB => x.w)]
theorem BkIs.lives (hb : BkIs p ids wks es1 es2 c1 c2 MA md msp mcap) (n : Int) : p.lives n = ((mget wks n).map (·.w)).filter fun w => decide (w.state ≠ 6) := by
  unfold Bk.lives; rw [hb.wkN]
end
/-- What lives answers. -/
def lvV (wks : List (Int × WkB)) (n : Int) : Value := match mget wks n with
  | none => .pointer none
  | some x => if x.w.state = 6 then .pointer none else .pointer (some ⟨x.blk, 0, none⟩)
theorem lvV_none {wks : List (Int × WkB)} {n : Int} (h : ((mget wks n).map (·.w)).filter (fun w => decide (w.state ≠ 6)) = none) : lvV wks n = .pointer none := by
  unfold lvV
  cases hg : mget wks n with
  | none => rfl
  | some x =>
    rw [hg] at h
    by_cases hs : x.w.state = 6
    · simp [hs]
    · simp [Option.filter, hs] at h
theorem lvV_some {wks : List (Int × WkB)} {n : Int} {v : Wk} (h : ((mget wks n).map (·.w)).filter (fun w => decide (w.state ≠ 6)) = some v) : ∃ k1 k2 x, wks = k1 ++ (n, x) :: k2 ∧ mget k1 n = none ∧ x.w = v ∧ x.w.state ≠ 6 ∧ lvV wks n = .pointer (some ⟨x.blk, 0, none⟩) := by
  unfold lvV
  cases hg : mget wks n with
  | none => rw [hg] at h; simp at h
  | some x =>
    rw [hg] at h
    by_cases hs : x.w.state = 6
    · simp [Option.filter, hs] at h
    · obtain ⟨k1, k2, h1, h2⟩ := mget_split2 hg
      simp [Option.filter, hs] at h
      exact ⟨k1, k2, x, h1, h2, h, hs, by simp [hs]⟩
instance HasIn.midW {H H1 H2 H3 H4 : HL} {m : Int} {x : WkB} {k1 k2 : List (Int × WkB)} [h1 : HasC H (cellB x.blk (wkB x) 132) H1] [h4 : HasC H1 (rowA x.A (x.dead ++ (flat (intE .u64) x.w.owes ++ x.sp)) 46) H4] [h2 : HasC H4 (wksH k1) H2] [h3 : HasC H2 (wksH k2) H3] : HasIn H (wksH (k1 ++ (m, x) :: k2)) := ⟨fun y hy => by
  rw [wksH_append, wksH_cons] at hy
  rcases List.mem_append.1 hy with hy | hy
  · exact PickL.mem h1.out (List.mem_append_right _ (PickL.mem h4.out (List.mem_append_right _ (PickL.mem h2.out (List.mem_append_left _ hy)))))
  · rcases List.mem_append.1 hy with hy | hy
    · rcases List.mem_append.1 hy with hy | hy
      · exact PickL.mem h1.out (List.mem_append_left _ hy)
      · exact PickL.mem h1.out (List.mem_append_right _ (PickL.mem h4.out (List.mem_append_left _ hy)))
    · exact PickL.mem h1.out (List.mem_append_right _ (PickL.mem h4.out (List.mem_append_right _ (PickL.mem h2.out (List.mem_append_right _ (PickL.mem h3.out (List.mem_append_left _ hy)))))))⟩
section
variable {B : Base} {R H R1 R2 : HL} {w : World} {b mi mw : Nat} {p : Bk}
theorem lives_raw {MA : Option Addr} {mcap c : Nat} {es : Array MapEntry} {wks : List (Int × WkB)} (hS : Sh B H w) [h1 : HasCell H b (bkC p mi mw MA mcap) 58 R1] [h2 : HasMap H mw es c R2] [h3 : HasIn H (wksH wks)] (hm : MapIs nkv wkV es c wks) (n : Int) :
    Calls Try.prog 94 #[.pointer (some ⟨b, 0, none⟩), .int .i64 n] w fun e w' => e = .returned (lvV wks n) ∧ Sh B H w' := by
  unfold lvV
  cases hg : mget wks n with
  | none => exact lives_none hS hm hg
  | some x =>
    by_cases hs : x.w.state = 6
    · simp only [hs, if_true]; exact lives_dead hS hm hg hs
    · simp only [hs, if_false]; exact lives_some hS hm hg hs
/-- A worker's block taken out. -/
theorem wks_open {m : Int} {x : WkB} {k1 k2 : List (Int × WkB)} (hS : Sh B H w) [h : HasC H (wksH (k1 ++ (m, x) :: k2)) R1] : Sh B (cellB x.blk (wkB x) 132 ++ (rowA x.A (x.dead ++ (flat (intE .u64) x.w.owes ++ x.sp)) 46 ++ (wksH k1 ++ (wksH k2 ++ R1)))) w := by
  have h2 := hS.pick h.out
  rw [wksH_append, wksH_cons] at h2
  unfold oneW at h2
  simp only [List.append_assoc] at h2
  exact h2.to
theorem shutW {m : Int} {x : WkB} {ids : List (Int × (Nat × Rq))} {k1 k2 : List (Int × WkB)} {es1 es2 : Array MapEntry} {c1 c2 : Nat} {MA : Option Addr} {md msp : List Value} {mcap : Nat}
    (hb : BkIs p ids (k1 ++ (m, x) :: k2) es1 es2 c1 c2 MA md msp mcap) (hS : Sh B H w) [h : Sup H (bkH p b mi mw MA md msp mcap es1 es2 c1 c2 (cellB x.blk (wkB x) 132 ++ (rowA x.A (x.dead ++ (flat (intE .u64) x.w.owes ++ x.sp)) 46 ++ (wksH k1 ++ (wksH k2 ++ (rqH ids ++ R))))))] : BAt B p b mi mw R w := by
  refine ⟨_, _, _, _, _, _, _, _, _, _, ?_, hb⟩
  rw [wksH_append, wksH_cons]
  unfold oneW
  simp only [List.append_assoc]
  exact (h.out _ _ hS).to
theorem shutRW {n m : Int} {blk : Nat} {r : Rq} {x : WkB} {l1 l2 : List (Int × (Nat × Rq))} {k1 k2 : List (Int × WkB)} {es1 es2 : Array MapEntry} {c1 c2 : Nat} {MA : Option Addr} {md msp : List Value} {mcap : Nat}
    (hb : BkIs p (l1 ++ (n, (blk, r)) :: l2) (k1 ++ (m, x) :: k2) es1 es2 c1 c2 MA md msp mcap) (hS : Sh B H w) [h : Sup H (bkH p b mi mw MA md msp mcap es1 es2 c1 c2 (cellB blk (rqC r) 83 ++ (rqH l1 ++ (rqH l2 ++ (cellB x.blk (wkB x) 132 ++ (rowA x.A (x.dead ++ (flat (intE .u64) x.w.owes ++ x.sp)) 46 ++ (wksH k1 ++ (wksH k2 ++ R))))))))] : BAt B p b mi mw R w := by
  have h2 := h.out _ _ hS
  refine ⟨_, _, _, _, _, _, _, _, _, _, ?_, hb⟩
  rw [wksH_append, wksH_cons, rqH_append, rqH_cons]
  unfold oneW
  simp only [List.append_assoc]
  exact h2.to
end
end Go.Tk
