/- Both queues in one memory: what each call does to both. -/
import Derived.Test.YteahpjecpdcpaaaQ20
set_option linter.unusedSectionVars false
set_option linter.unusedSimpArgs false
set_option linter.unusedVariables false
namespace Go.Tk
open Go.RowKit Go.Proofs

structure Mem (B : Base) (q : QS) (L : List It) (b mi mk rb : Nat) (R : HL) (w : World) : Prop where
  out : ∃ A sp cap es1 c1 es2 c2, Sh B (cellB b [.int .i64 q.most, .int .i64 q.born, .map (some mi), .map (some mk)] 67 ++ (mapB mk es2 c2 ++ (mapB mi es1 c1 ++ (itemsH q.items ++
    (cellB rb [.int .i64 q.most, .slice A L.length cap] 50 ++ (rowA A (flat itE L ++ sp) 91 ++ R)))))) w ∧ MapIs ikv ItemB.ptr es1 c1 q.items ∧ MapIs ikv iiv es2 c2 q.known ∧ OwnSl itE A L sp cap

section
variable {B : Base} {R : HL} {w : World} {q : QS} {L : List It} {b mi mk rb N : Nat}
theorem Mem.of {H R1 R2 R3 R4 R5 R6 : HL} {A : Option Addr} {sp : List Value} {cap : Nat} {es1 es2 : Array MapEntry} {c1 c2 : Nat} (q : QS) (L : List It) (b mi mk rb : Nat) (hS : Sh B H w) (hm1 : MapIs ikv ItemB.ptr es1 c1 q.items) (hm2 : MapIs ikv iiv es2 c2 q.known) (hO : OwnSl itE A L sp cap)
    [h1 : HasC H (cellB b [.int .i64 q.most, .int .i64 q.born, .map (some mi), .map (some mk)] 67) R1] [h2 : HasC R1 (mapB mk es2 c2) R2] [h3 : HasC R2 (mapB mi es1 c1) R3] [h4 : HasC R3 (itemsH q.items) R4]
    [h5 : HasC R4 (cellB rb [.int .i64 q.most, .slice A L.length cap] 50) R5] [h6 : HasC R5 (rowA A (flat itE L ++ sp) 91) R6] : Mem B q L b mi mk rb R6 w :=
  ⟨A, sp, cap, es1, c1, es2, c2, (hS.pick h1.out).under fun _ _ h => (h.pick h2.out).under fun _ _ h => (h.pick h3.out).under fun _ _ h => (h.pick h4.out).under fun _ _ h => (h.pick h5.out).under fun _ _ h => h.pick h6.out, hm1, hm2, hO⟩
/-- What a call of the queue's leaves. -/
theorem Mem.onQ {f : FuncId} {args : Array Value} {Post : Ending → World → Prop} (hM : Mem B q L b mi mk rb R w)
    (h : ∀ A sp cap, OwnSl itE A L sp cap → QAt B q b mi mk (cellB rb [.int .i64 q.most, .slice A L.length cap] 50 ++ (rowA A (flat itE L ++ sp) 91 ++ R)) w → Calls Try.prog f args w Post) : Calls Try.prog f args w Post := by
  obtain ⟨A, sp, cap, es1, c1, es2, c2, hS, hm1, hm2, hO⟩ := hM.out
  exact h A sp cap hO ⟨es1, c1, es2, c2, hS, hm1, hm2⟩
theorem Mem.ofQ {q' : QS} {A : Option Addr} {sp : List Value} {cap : Nat} (hO : OwnSl itE A L sp cap) (hm : q'.most = q.most) (h : QAt B q' b mi mk (cellB rb [.int .i64 q.most, .slice A L.length cap] 50 ++ (rowA A (flat itE L ++ sp) 91 ++ R)) w) : Mem B q' L b mi mk rb R w := by
  obtain ⟨es1, c1, es2, c2, hS, hm1, hm2⟩ := h.out
  exact ⟨A, sp, cap, es1, c1, es2, c2, by rw [hm] at hS ⊢; exact hS, hm1, hm2, hO⟩
/-- .. and of the document's. -/
theorem Mem.onR {f : FuncId} {args : Array Value} {L' : List It} {v : Value} (hM : Mem B q L b mi mk rb R w)
    (h : ∀ R' w, RQ B q.most L rb R' w → Calls Try.prog f args w fun e w' => e = .returned v ∧ RQ B q.most L' rb R' w') : Calls Try.prog f args w fun e w' => e = .returned v ∧ Mem B q L' b mi mk rb R w' := by
  obtain ⟨A, sp, cap, es1, c1, es2, c2, hS, hm1, hm2, hO⟩ := hM.out
  refine (h (cellB b [.int .i64 q.most, .int .i64 q.born, .map (some mi), .map (some mk)] 67 ++ (mapB mk es2 c2 ++ (mapB mi es1 c1 ++ (itemsH q.items ++ R)))) w ⟨A, sp, cap, hS.to, hO⟩).mono ?_
  rintro e w' ⟨he, A', sp', cap', hS', hO'⟩
  exact ⟨he, A', sp', cap', es1, c1, es2, c2, hS'.to, hm1, hm2, hO'⟩

/-! Take -/
def stepP (B : Base) (L : List It) (b mi mk rb : Nat) (R : HL) (most : Int) (v : Value) (L' : List It) (N : Nat) (e : Ending) (w' : World) : Prop :=
  ∃ q', e = .returned v ∧ Mem B q' L b mi mk rb R w' ∧ Rel q' L' (N + 1) ∧ q'.most = most
theorem Rel.up (h : Rel q L N) {M : Nat} (hM : N ≤ M) : Rel q L M := ⟨h.known, h.items, h.born, h.st, h.ids, h.bornL, Nat.le_trans h.few hM, fun x hx => ⟨(h.tries x hx).1, Int.le_trans (h.tries x hx).2 (by omega)⟩⟩
theorem Rel.take (h : Rel q L N) (id : Int) : (q.take id).1 = (takeI id L).1 ∧ (q.take id).2.1 = (takeI id L).2.1 ∧ Rel (q.take id).2.2 (takeI id L).2.2 (N + 1) ∧ (q.take id).2.2.most = q.most := by
  cases hf : fdI id L 0 with
  | none =>
    have hn := (h.absent hf).1
    simp only [QS.take, takeI, hf, hn]
    exact ⟨by trivial, by trivial, h.up (by omega), by trivial⟩
  | some p =>
    obtain ⟨i, x⟩ := p
    by_cases h3 : x.st = 3
    · have hn := h.over hf h3
      simp only [QS.take, takeI, hf, hn, h3, if_true]
      exact ⟨by trivial, by trivial, h.up (by omega), by trivial⟩
    · obtain ⟨I1, it, I2, hI, h1, hnd, hw, ho, hset, _⟩ := h.split hf h3
      have hg : mget q.items id = some it := by
        rw [hI]; exact mget_of_mem (by rw [← hI]; exact hnd) (by simp)
      have hx := (fdI_nth hf).mem
      by_cases hs : x.st = 1
      · have ho' : it.out = false := by rw [ho, hs]; rfl
        have ht := h.tries x hx
        have hm : mput q.items id ⟨it.blk, { x.w with tries := x.w.tries + 1 }, true⟩ = I1 ++ (id, ⟨it.blk, { x.w with tries := x.w.tries + 1 }, true⟩) :: I2 := by rw [hI, mput_split h1]
        have hr := hset { x.w with tries := x.w.tries + 1 } 2 (N + 1) (fdI_id hf) rfl (.inr rfl) (by omega) ⟨by show 0 ≤ x.w.tries + 1; omega, by show x.w.tries + 1 ≤ _; omega⟩
        simp only [QS.take, takeI, hf, hg, h3, hs, ho', hm, if_true, if_false, Bool.false_eq_true, hw]
        exact ⟨by trivial, by trivial, hr, by trivial⟩
      · have hs2 : x.st = 2 := by rcases h.st x hx with h | h | h <;> simp_all
        have ho' : it.out = true := by rw [ho, hs2]; rfl
        simp only [QS.take, takeI, hf, hg, hs2, ho', if_true]
        exact ⟨by trivial, by trivial, h.up (by omega), by trivial⟩
theorem pTake (hM : Mem B q L b mi mk rb R w) (h : Rel q L N) (hN : N ≤ 4294967295) (id : Int) : Calls Try.prog 14 #[.pointer (some ⟨b, 0, none⟩), .int .u64 id] w
    (stepP B L b mi mk rb R q.most (.tuple #[.agg (takeI id L).1.cells.toArray, .int .i64 (takeI id L).2.1]) (takeI id L).2.2 N) :=
  hM.onQ fun A sp cap hO hQ => (Take_any hQ id (by
    intro x hx
    have := h.wf
    obtain ⟨x', hx', he⟩ : ∃ y ∈ L, x.w = y.w := by
      have hm : itv (id, x) ∈ q.items.map itv := List.mem_map.2 ⟨_, mget_mem hx, rfl⟩
      rw [h.items] at hm
      obtain ⟨y, hy, he⟩ := List.mem_map.1 hm
      simp only [itv, liv, Prod.mk.injEq] at he
      exact ⟨y, (List.mem_filter.1 hy).1, he.2.1.symm⟩
    have := h.tries x' hx'
    rw [he]; omega)).mono fun e w' hp => by
    obtain ⟨h1, h2, h3, h4⟩ := h.take id
    exact ⟨_, by rw [hp.1, h1, h2], Mem.ofQ hO h4 hp.2, h3, h4⟩
theorem rTake (hM : Mem B q L b mi mk rb R w) (ht : ∀ x ∈ L, 0 ≤ x.w.tries ∧ x.w.tries < 4611686018427387904) (id : Int) : Calls Try.prog 35 #[.pointer (some ⟨rb, 0, none⟩), .int .u64 id] w
    fun e w' => e = .returned (.tuple #[.agg (takeI id L).1.cells.toArray, .int .i64 (takeI id L).2.1]) ∧ Mem B q (takeI id L).2.2 b mi mk rb R w' :=
  hM.onR fun R' w hR => Take_ref hR id ht

/-! Back, End -/
theorem Rel.back (h : Rel q L N) (id : Int) : (q.back id).1 = (backI id L).1 ∧ Rel (q.back id).2 (backI id L).2 (N + 1) ∧ (q.back id).2.most = q.most := by
  cases hf : fdI id L 0 with
  | none =>
    have hn := (h.absent hf).1
    simp only [QS.back, backI, hf, hn]
    exact ⟨by trivial, h.up (by omega), by trivial⟩
  | some p =>
    obtain ⟨i, x⟩ := p
    by_cases h3 : x.st = 3
    · have hn := h.over hf h3
      simp only [QS.back, backI, hf, hn, h3, if_true]
      exact ⟨by trivial, h.up (by omega), by trivial⟩
    · obtain ⟨I1, it, I2, hI, h1, hnd, hw, ho, hset, _⟩ := h.split hf h3
      have hg : mget q.items id = some it := by
        rw [hI]; exact mget_of_mem (by rw [← hI]; exact hnd) (by simp)
      have hx := (fdI_nth hf).mem
      by_cases hs : x.st = 2
      · have ho' : it.out = true := by rw [ho, hs]; rfl
        have ht := h.tries x hx
        have hm : mput q.items id ⟨it.blk, x.w, false⟩ = I1 ++ (id, ⟨it.blk, x.w, false⟩) :: I2 := by rw [hI, mput_split h1]
        have hr := hset x.w 1 (N + 1) (fdI_id hf) rfl (.inl rfl) (by omega) ⟨ht.1, by omega⟩
        simp only [QS.back, backI, hf, hg, hs, ho', hm, if_true, hw]
        exact ⟨by trivial, hr, by trivial⟩
      · have hs2 : x.st = 1 := by rcases h.st x hx with h | h | h <;> simp_all
        have ho' : it.out = false := by rw [ho, hs2]; rfl
        simp only [QS.back, backI, hf, hg, hs2, ho', Bool.false_eq_true, if_false]
        exact ⟨by trivial, h.up (by omega), by trivial⟩
theorem Rel.end_ (h : Rel q L N) (id : Int) : (q.end_ id).1 = (endI id L).1 ∧ Rel (q.end_ id).2 (endI id L).2 (N + 1) ∧ (q.end_ id).2.most = q.most := by
  cases hf : fdI id L 0 with
  | none =>
    have hn := (h.absent hf).1
    simp only [QS.end_, endI, hf, hn]
    exact ⟨by trivial, h.up (by omega), by trivial⟩
  | some p =>
    obtain ⟨i, x⟩ := p
    by_cases h3 : x.st = 3
    · have hn := h.over hf h3
      simp only [QS.end_, endI, hf, hn, h3, if_true]
      exact ⟨by trivial, h.up (by omega), by trivial⟩
    · obtain ⟨I1, it, I2, hI, h1, hnd, hw, ho, _, hdel⟩ := h.split hf h3
      have hg : mget q.items id = some it := by
        rw [hI]; exact mget_of_mem (by rw [← hI]; exact hnd) (by simp)
      have hm : mdel q.items id = I1 ++ I2 := by rw [hI, mdel_split (by rw [← hI]; exact hnd)]
      have hr := hdel (N + 1) (by omega)
      simp only [QS.end_, endI, hf, hg, h3, hm, if_false]
      exact ⟨by trivial, hr, by trivial⟩
theorem pBack (hM : Mem B q L b mi mk rb R w) (h : Rel q L N) (id : Int) : Calls Try.prog 17 #[.pointer (some ⟨b, 0, none⟩), .int .u64 id] w (stepP B L b mi mk rb R q.most (.int .i64 (backI id L).1) (backI id L).2 N) :=
  hM.onQ fun A sp cap hO hQ => (Back_any hQ id).mono fun e w' hp => by
    obtain ⟨h1, h3, h4⟩ := h.back id
    exact ⟨_, by rw [hp.1, h1], Mem.ofQ hO h4 hp.2, h3, h4⟩
theorem rBack (hM : Mem B q L b mi mk rb R w) (id : Int) : Calls Try.prog 36 #[.pointer (some ⟨rb, 0, none⟩), .int .u64 id] w fun e w' => e = .returned (.int .i64 (backI id L).1) ∧ Mem B q (backI id L).2 b mi mk rb R w' :=
  hM.onR fun R' w hR => Back_ref hR id
theorem pEnd (hM : Mem B q L b mi mk rb R w) (h : Rel q L N) (id : Int) : Calls Try.prog 15 #[.pointer (some ⟨b, 0, none⟩), .int .u64 id] w (stepP B L b mi mk rb R q.most (.int .i64 (endI id L).1) (endI id L).2 N) :=
  hM.onQ fun A sp cap hO hQ => (End_any hQ id).mono fun e w' hp => by
    obtain ⟨h1, h3, h4⟩ := h.end_ id
    exact ⟨_, by rw [hp.1, h1], Mem.ofQ hO h4 hp.2, h3, h4⟩
theorem rEnd (hM : Mem B q L b mi mk rb R w) (id : Int) : Calls Try.prog 37 #[.pointer (some ⟨rb, 0, none⟩), .int .u64 id] w fun e w' => e = .returned (.int .i64 (endI id L).1) ∧ Mem B q (endI id L).2 b mi mk rb R w' :=
  hM.onR fun R' w hR => End_ref hR id
end
end Go.Tk
