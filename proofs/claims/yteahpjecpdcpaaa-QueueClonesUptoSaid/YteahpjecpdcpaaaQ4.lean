/- The queue's rows, by a walk over the map. -/
import Derived.Test.YteahpjecpdcpaaaQ3
import Derived.Test.YteahpjecpdcpaaaTkL
set_option linter.unusedSectionVars false
set_option linter.unusedSimpArgs false
set_option linter.unusedVariables false
namespace Go.Tk
open Go.RowKit Go.Proofs

def QS.rows (q : QS) (out : Bool) : List Wait := (q.items.filter (fun p => p.2.out == out)).map (·.2.w)
structure QS.Ord (q : QS) : Prop where
  born : q.items.Pairwise (fun p r => p.2.w.born < r.2.w.born)
  max : q.items.length ≤ 4294967296

def RowsP (B : Base) (R : HL) (q : QS) (b mi mk : Nat) (out : Bool) (e : Ending) (w' : World) : Prop :=
  ∃ A sp cap, e = .returned (.slice A (q.rows out).length cap) ∧ OwnSl waitE A (q.rows out) sp cap ∧ QAt B q b mi mk (rowA A (flat waitE (q.rows out) ++ sp) 38 ++ R) w'

theorem items_mem {l : List (Int × ItemB)} {p : Int × ItemB} (h : p ∈ l) : (p.2.blk, Obj.cells p.2.cells.toArray 77) ∈ itemsH l :=
  List.mem_flatMap.2 ⟨p, h, by simp [cellB]⟩

theorem items_range {B : Base} {H : HL} {w : World} {l : List (Int × ItemB)} [HasIn H (itemsH l)] (hS : Sh B H w) {p : Int × ItemB} (h : p ∈ l) : w.rangeAt p.2.blk 0 p.2.w.cells := by
  have := hS.rangeIn (itemsH l) (items_mem h) 0 36
  have e : (p.2.cells.drop 0).take 36 = p.2.w.cells := by simp [ItemB.cells, List.take_append_of_le_length, p.2.w.len, List.take_of_length_le]
  rwa [e] at this

theorem born_inj {l : List Wait} (h : l.Pairwise (fun a b => a.born < b.born)) {a b : Wait} (ha : a ∈ l) (hb : b ∈ l) (he : a.born = b.born) : a = b := by
  induction l with
  | nil => cases ha
  | cons x l ih =>
    rw [List.pairwise_cons] at h
    rcases List.mem_cons.1 ha with h1 | h1 <;> rcases List.mem_cons.1 hb with h2 | h2
    · rw [h1, h2]
    · have := h.1 _ h2; rw [h1] at he; omega
    · have := h.1 _ h1; rw [h2] at he; omega
    · exact ih h.2 h1 h2
theorem rows_born {q : QS} (hO : q.Ord) (out : Bool) : (q.rows out).Pairwise (fun a b => a.born < b.born) := by
  unfold QS.rows
  rw [List.pairwise_map]
  exact (hO.born.filter _)
theorem rows_eq {q : QS} (hO : q.Ord) {out : Bool} {ys : List Wait} (hp : ys.Perm (q.rows out)) (hs : ys.Pairwise (fun x y => 0 ≤ bornC y x)) : ys = q.rows out := by
  have hb := rows_born hO out
  refine List.Perm.eq_of_pairwise (le := fun a b => a.born ≤ b.born) ?_ ?_ ?_ hp
  · intro a b ha hb' h1 h2
    have ha' := hp.mem_iff.1 ha
    have he : a.born = b.born := by omega
    exact born_inj hb ha' hb' he
  · refine hs.imp ?_
    intro a b h
    unfold bornC cmpI at h
    by_cases h1 : b.born < a.born
    · simp [h1] at h
    · show a.born ≤ b.born; omega
  · exact hb.imp fun h => by omega

structure RowsSt where
  left : List (Int × ItemB)
  acc : List Wait
  A : Option Addr
  sp : List Value
  cap : Nat
def RowsI (B : Base) (R : HL) (q : QS) (b mi mk r : Nat) (es1 es2 : Array MapEntry) (c1 c2 : Nat) (out : Bool) (s : RowsSt) (w : World) : Prop :=
  ∃ seen, IterIs ikv ItemB.ptr es1 seen s.left ∧ OwnSl waitE s.A s.acc s.sp s.cap ∧ (∀ p ∈ s.left, p ∈ q.items) ∧
    (s.acc ++ (s.left.filter (fun p => p.2.out == out)).map (·.2.w)).Perm (q.rows out) ∧
    Sh B (rowA s.A (flat waitE s.acc ++ s.sp) 38 ++ (iterB r mi c1 seen c1 ++ (cellB b [.int .i64 q.most, .int .i64 q.born, .map (some mi), .map (some mk)] 67 ++ (mapB mk es2 c2 ++ (mapB mi es1 c1 ++ (itemsH q.items ++ R)))))) w

instance : Inhabited Wait := ⟨Wait.zero⟩
theorem cmpI_neg (a b : Int) : cmpI a b < 0 ↔ a < b := by
  unfold cmpI
  by_cases h1 : a < b
  · simp [h1]
  · by_cases h2 : b < a <;> simp [h1, h2]
theorem ltBorn (x y : Wait) : Go.Proofs.ltOf bornC x y = decide (x.born < y.born) := by
  by_cases h : x.born < y.born
  · have : bornC x y < 0 := (cmpI_neg _ _).2 h
    simp [ltOf, h, this]
  · have : ¬ bornC x y < 0 := fun h' => h ((cmpI_neg _ _).1 h')
    simp [ltOf, h]; omega
theorem bornSWO : Go.Sort.SWO (Go.Proofs.ltOf bornC) := {
  irrefl x := by simp [ltBorn]
  trans x y z h1 h2 := by simp only [ltBorn, decide_eq_true_eq] at *; omega
  ntrans x y z h1 h2 := by simp only [ltBorn, decide_eq_false_iff_not] at *; omega }
theorem sortWait {B : Base} {H : HL} {w : World} {A : Option Addr} {xs : List Wait} {sp : List Value} {cap T : Nat} {C : HL → HL} (hOw : OwnSl waitE A xs sp cap) (hS : Sh B H w) [hp : CtxRow H A (flat waitE xs ++ sp) T C] (hmax : xs.length < 4611686018427387904) :
    Calls Try.prog 43 #[.slice A xs.length cap, .func (.func 47) #[] #[]] w (SortP waitE bornC B A xs sp cap T C) := by
  have aE : ∀ w, (isAgg 38).run Try.prog w = .ok true w := Try.isAgg38
  have zE : ∀ w, (Go.sizeOf 38).run Try.prog w = .ok waitE.k w := Try.sizeOf38
  have eg : ∀ args w, (callFunc 47 args).run Try.prog w = .ok (.enter 47 args) w := enters_of Try.func47 (by kernel_rfl) rfl
  exact sortK (E := waitE) Try.sortW aE zE (fun _ => rfl) bornSWO eg rows1_any hOw hS hmax
set_option maxRecDepth 100000 in
set_option maxHeartbeats 800000 in
theorem rows_any {B : Base} {R : HL} {w : World} {q : QS} {b mi mk : Nat} (hQ : QAt B q b mi mk R w) (hO : q.Ord) (out : Bool) :
    Calls Try.prog 31 #[.pointer (some ⟨b, 0, none⟩), .bool out] w (RowsP B R q b mi mk out) := by
  obtain ⟨es1, c1, es2, c2, hS, hm1, hm2⟩ := hQ.out
  go_enter Try.func31, Try.ntmps31
  go_wp2_with (first | (go_at_call 32; refine ((made_yes hS)).mono ?_; rintro e w' (⟨rfl, rfl⟩)) | (refine wl_ld rfl rfl rfl (Sh.ldC hS rfl) ?_; (try simp only [Act.put, List.setIfInBounds_toArray, List.set_cons_zero, List.set_cons_succ])) | (refine wl_range hm1 rfl rfl rfl hS ?_; intro r _ hS hI; (try simp only [Act.put, List.setIfInBounds_toArray, List.set_cons_zero, List.set_cons_succ])))
  refine wp_loopS [5] [7, 17, 18, 19, 20, 21, 22, 23, 24, 25, 26, 27, 28, 29, 30, 31, 32, 33] (fun s : RowsSt => [.slice s.A s.acc.length s.cap]) (RowsI B R q b mi mk r es1 es2 c1 c2 out) (fun s => s.left.length) ⟨q.items, [], none, [], 0⟩ rfl ?_ ?_
  · exact ⟨_, hI, OwnSl.nothing, fun _ h => h, .refl _, hS⟩
  clear hS hI
  rintro ⟨left, acc, A, sp, cap⟩ J w ⟨seen, hI, hA, hl, hperm, hS⟩
  (simp only [Frm, setsT, junkT, List.setIfInBounds_toArray, List.set_cons_zero, List.set_cons_succ])
  have hn : acc.length ≤ 4294967296 := by
    have h1 := hperm.length_eq
    have h2 : (q.rows out).length ≤ q.items.length := by unfold QS.rows; rw [List.length_map]; exact List.length_filter_le _ _
    have h3 := hO.max
    simp at h1; omega
  go_wp2_with (first | (refine wl_next hm1 rfl rfl rfl hS hI ?_ ?_))
  · rintro rfl
    go_wp2_with (first | (go_at_call 43; refine ((sortWait hA hS (by omega))).mono ?_; rintro e w' (⟨rfl, ys, hp, hs, hO2, hS⟩)))
    go_ret
    have hys := rows_eq hO (hp.trans (by simpa using hperm)) hs
    subst hys
    refine ⟨_, _, _, ?_, hO2, _, _, _, _, ?_, hm1, hm2⟩
    · rw [← hp.length_eq]; rfl
    · exact hS.to
  · rintro l1 k x l2 rfl seen' w' hS hI' hc
    clear hI
    (try simp only [Act.put, List.setIfInBounds_toArray, List.set_cons_zero, List.set_cons_succ])
    have hp := hl (k, x) (by simp)
    have hb : x.cells[36]? = some (.bool x.out) := Wait.at36 _ _ _
    have Hb := Lib.hid hb
    clear hb
    go_wp2_with (first | (refine wl_entry hm1 rfl rfl rfl hS hc ?_; (try simp only [Act.put, List.setIfInBounds_toArray, List.set_cons_zero, List.set_cons_succ]); simp only [ItemB.ptr]) | (refine wl_ld rfl rfl rfl (hS.ldIn (itemsH q.items) (items_mem hp) Hb.out) ?_; (try simp only [Act.put, List.setIfInBounds_toArray, List.set_cons_zero, List.set_cons_succ])) | (refine wl_ldr rfl rfl rfl (items_range hS hp) x.w.len ?_; (try simp only [Act.put, List.setIfInBounds_toArray, List.set_cons_zero, List.set_cons_succ])) | (refine wl_buildSlice (E := waitE) [x.w] rfl rfl (by simp only [List.map_toArray, List.map_cons, List.map_nil]; rfl) rfl (by decide) (by decide) hS ?_; intro _ _ hS hN; (try simp only [Act.put, List.setIfInBounds_toArray, List.set_cons_zero, List.set_cons_succ])) | (refine wl_append rfl rfl rfl rfl hS hA hN.at_ ((by simp; omega)) (by decide) ?_; intro _ _ _ _ hA2 hS; (try simp only [Act.put, List.setIfInBounds_toArray, List.set_cons_zero, List.set_cons_succ])))
    · refine ⟨⟨l1 ++ l2, acc ++ [x.w], _, _, _⟩, ⟨_, hI', hA2, ?_, ?_, hS.drop⟩, ?_, rfl, ?_, rfl⟩
      · intro p h; exact hl p (by simp at h ⊢; rcases h with h | h <;> simp [h])
      · refine .trans ?_ hperm
        have hc1 : (x.out == out) = true := by assumption
        simp only [List.filter_append, List.map_append, List.filter_cons, hc1, if_true, List.map_cons]
        simp only [List.append_assoc, List.cons_append, List.nil_append]
        exact (List.perm_middle.symm).append_left _
      · simp
      · (simp only [blankT, junkT, List.cons_append, List.nil_append, List.setIfInBounds_toArray, List.set_cons_zero, List.set_cons_succ])
    · refine ⟨⟨l1 ++ l2, acc, _, _, _⟩, ⟨_, hI', hA, ?_, ?_, hS⟩, ?_, rfl, ?_, rfl⟩
      · intro p h; exact hl p (by simp at h ⊢; rcases h with h | h <;> simp [h])
      · refine .trans ?_ hperm
        have hc1 : (x.out == out) = false := by assumption
        simp only [List.filter_append, List.map_append, List.filter_cons, hc1, Bool.false_eq_true, if_false]
        exact .refl _
      · simp
      · (simp only [blankT, junkT, List.cons_append, List.nil_append, List.setIfInBounds_toArray, List.set_cons_zero, List.set_cons_succ])
end Go.Tk
