/- One call of the queue alone, told over all that were ever let in; and which request comes next. -/
import Derived.Test.YteahpjecpdcpaaaQ27
set_option linter.unusedSectionVars false
set_option linter.unusedSimpArgs false
set_option linter.unusedVariables false
namespace Go.Tk
open Go.RowKit Go.Proofs

def idsI (L : List It) : List Int := L.map (fun x => x.w.id)
theorem idsI_len (L : List It) : (idsI L).length = L.length := List.length_map _
theorem inL_split {L1 L2 : List It} (x : It) (st : Int) : inL st (L1 ++ x :: L2) = inL st L1 ++ ((if x.st = st then [x.w] else []) ++ inL st L2) := by
  unfold inL
  rw [List.filter_append, List.filter_cons, List.map_append]
  by_cases h : x.st = st <;> simp [h]
theorem inL_sum : ∀ {L : List It}, (∀ x ∈ L, x.st = 1 ∨ x.st = 2 ∨ x.st = 3) → (inL 1 L).length + (inL 2 L).length + (inL 3 L).length = L.length
  | [], _ => rfl
  | x :: L, h => by
    have ih := inL_sum (L := L) fun y hy => h y (List.mem_cons_of_mem _ hy)
    have e := fun st => inL_split (L1 := []) (L2 := L) x st
    simp only [List.nil_append] at e
    rw [e 1, e 2, e 3]
    have hn : ∀ st, inL st [] = [] := fun _ => rfl
    simp only [hn, List.nil_append, List.length_append, List.length_cons]
    rcases h x (List.mem_cons_self ..) with h | h | h <;> simp [h] <;> omega
theorem fdI_at {id : Int} {L : List It} {i : Nat} {x : It} (h : fdI id L 0 = some (i, x)) : L = L.take i ++ x :: L.drop (i + 1) ∧ (∀ z, L.set i z = L.take i ++ z :: L.drop (i + 1)) ∧ x.w.id = id := by
  obtain ⟨_, hs, hid, _⟩ := fdI_split h
  simp only [Nat.sub_zero] at hs
  exact ⟨hs, fun z => set_take (fdI_nth h).lt z, hid⟩
theorem set_ids {id : Int} {L : List It} {i : Nat} {x z : It} (h : fdI id L 0 = some (i, x)) (hz : z.w.id = x.w.id) : idsI (L.set i z) = idsI L := by
  obtain ⟨hs, hset, _⟩ := fdI_at h
  unfold idsI
  rw [hset z]
  conv => rhs; rw [hs]
  simp [hz]
theorem set_over {id : Int} {L : List It} {i : Nat} {x z : It} (h : fdI id L 0 = some (i, x)) (st : Int) (h1 : x.st ≠ st) (h2 : z.st ≠ st) : (inL st (L.set i z)).length = (inL st L).length := by
  obtain ⟨hs, hset, _⟩ := fdI_at h
  rw [hset z, inL_split]
  conv => rhs; rw [hs, inL_split]
  simp [h1, h2]
theorem set_more {id : Int} {L : List It} {i : Nat} {x z : It} (h : fdI id L 0 = some (i, x)) (st : Int) (h1 : x.st ≠ st) (h2 : z.st = st) : (inL st (L.set i z)).length = (inL st L).length + 1 := by
  obtain ⟨hs, hset, _⟩ := fdI_at h
  rw [hset z, inL_split]
  conv => rhs; rw [hs, inL_split]
  simp [h1, h2]
  omega
theorem takeI_keep (id : Int) (L : List It) : idsI (takeI id L).2.2 = idsI L ∧ (inL 3 (takeI id L).2.2).length = (inL 3 L).length := by
  cases hf : fdI id L 0 with
  | none => simp [takeI, hf]
  | some p =>
    obtain ⟨i, x⟩ := p
    by_cases h3 : x.st = 3
    · simp [takeI, hf, h3]
    · by_cases h1 : x.st = 1
      · simp only [takeI, hf, h3, h1, if_true, if_false]
        exact ⟨set_ids hf rfl, set_over hf 3 h3 (by simp)⟩
      · simp [takeI, hf, h3, h1]
theorem backI_keep (id : Int) (L : List It) : idsI (backI id L).2 = idsI L ∧ (inL 3 (backI id L).2).length = (inL 3 L).length := by
  cases hf : fdI id L 0 with
  | none => simp [backI, hf]
  | some p =>
    obtain ⟨i, x⟩ := p
    by_cases h3 : x.st = 3
    · simp [backI, hf, h3]
    · by_cases h1 : x.st = 2
      · simp only [backI, hf, h3, h1, if_true, if_false]
        exact ⟨set_ids hf rfl, set_over hf 3 h3 (by simp)⟩
      · simp [backI, hf, h3, h1]
theorem endI_keep (id : Int) (L : List It) : idsI (endI id L).2 = idsI L ∧ (((endI id L).1 = 0 ∧ (inL 3 (endI id L).2).length = (inL 3 L).length + 1) ∨ ((endI id L).1 = 8 ∧ (inL 3 (endI id L).2).length = (inL 3 L).length)) := by
  cases hf : fdI id L 0 with
  | none => simp [endI, hf]
  | some p =>
    obtain ⟨i, x⟩ := p
    by_cases h3 : x.st = 3
    · simp [endI, hf, h3]
    · simp only [endI, hf, h3, if_false]
      exact ⟨set_ids hf rfl, .inl ⟨trivial, set_more hf 3 h3 rfl⟩⟩
theorem subI_keep (most : Int) (id : Int) (key : Dig) (u : Int) (L : List It) :
    ((subI most id key u L).1 = 0 ∧ id ∉ idsI L ∧ idsI (subI most id key u L).2 = idsI L ++ [id] ∧ (inL 3 (subI most id key u L).2).length = (inL 3 L).length) ∨ ((subI most id key u L).1 ≠ 0 ∧ (subI most id key u L).2 = L) := by
  unfold subI
  cases hf : fdI id L 0 with
  | some p => right; exact ⟨by simp, rfl⟩
  | none =>
    simp only
    by_cases h1 : most ≤ (inL 1 L).length
    · right; simp [h1]
    · by_cases h2 : u < 0
      · right; simp [h1, h2]
      · left
        simp only [h1, h2, if_false]
        refine ⟨trivial, ?_, by simp [idsI], ?_⟩
        · intro hm
          obtain ⟨x, hx, he⟩ := List.mem_map.1 hm
          exact fdI_none hf x hx he
        · rw [inL_split]; simp [inL]

/-- What the lists of the law have in common with the queue. -/
structure OrdOk (q : QS) (L : List It) (n : Int) (ins en : List Int) (N : Nat) : Prop where
  rel : Rel q L N
  most : q.most = n
  ids : ins = idsI L
  over : en.length = (inL 3 L).length
section
variable {B : Base} {R : HL} {w : World} {q : QS} {L : List It} {b mi mk N : Nat} {n : Int} {ins en : List Int}
theorem OrdOk.len (h : OrdOk q L n ins en N) : L.length = ins.length := by rw [h.ids, idsI_len]
theorem OrdOk.sum (h : OrdOk q L n ins en N) : (inL 1 L).length + (inL 2 L).length + en.length = ins.length := by rw [h.over, inL_sum h.rel.st, h.len]
theorem OrdOk.le (h : OrdOk q L n ins en N) : ins.length ≤ N := by rw [← h.len]; exact h.rel.few
theorem OrdOk.up (h : OrdOk q L n ins en N) : OrdOk q L n ins en (N + 1) := ⟨h.rel.up (Nat.le_succ _), h.most, h.ids, h.over⟩
theorem OrdOk.ord (h : OrdOk q L n ins en N) (hN : N ≤ 4294967290) : q.Ord := h.rel.wf.ord (by rw [h.rel.knl]; have := h.rel.few; omega)

def qkeepP (B : Base) (R : HL) (b mi mk : Nat) (n : Int) (ins en : List Int) (N : Nat) (v : Value) (e : Ending) (w' : World) : Prop :=
  ∃ q' L', e = .returned v ∧ QAt B q' b mi mk R w' ∧ OrdOk q' L' n ins en (N + 1)
theorem tries_of {q : QS} (h : Rel q L N) (hN : N ≤ 4294967295) {id : Int} : ∀ x, mget q.items id = some x → 0 ≤ x.w.tries ∧ x.w.tries < 4611686018427387904 := by
  intro x hx
  obtain ⟨x', hx', he⟩ : ∃ y ∈ L, x.w = y.w := by
    have hm : itv (id, x) ∈ q.items.map itv := List.mem_map.2 ⟨_, mget_mem hx, rfl⟩
    rw [h.items] at hm
    obtain ⟨y, hy, he⟩ := List.mem_map.1 hm
    simp only [itv, liv, Prod.mk.injEq] at he
    exact ⟨y, (List.mem_filter.1 hy).1, he.2.1.symm⟩
  have := h.tries x' hx'
  rw [he]; omega
theorem qTake (hQ : QAt B q b mi mk R w) (h : OrdOk q L n ins en N) (hN : N ≤ 4294967295) (id : Int) : Calls Try.prog 14 #[.pointer (some ⟨b, 0, none⟩), .int .u64 id] w
    fun e w' => ∃ q', e = .returned (.tuple #[.agg (takeI id L).1.cells.toArray, .int .i64 (takeI id L).2.1]) ∧ QAt B q' b mi mk R w' ∧ OrdOk q' (takeI id L).2.2 n ins en (N + 1) :=
  (Take_any hQ id (tries_of h.rel hN)).mono fun e w' hp => by
    obtain ⟨h1, h2, h3, h4⟩ := h.rel.take id
    obtain ⟨k1, k2⟩ := takeI_keep id L
    exact ⟨_, by rw [hp.1, h1, h2], hp.2, ⟨h3, h4.trans h.most, h.ids.trans k1.symm, h.over.trans k2.symm⟩⟩
theorem qBack (hQ : QAt B q b mi mk R w) (h : OrdOk q L n ins en N) (id : Int) : Calls Try.prog 17 #[.pointer (some ⟨b, 0, none⟩), .int .u64 id] w
    fun e w' => ∃ q' L' c, e = .returned (.int .i64 c) ∧ QAt B q' b mi mk R w' ∧ OrdOk q' L' n ins en (N + 1) :=
  (Back_any hQ id).mono fun e w' hp => by
    obtain ⟨h1, h3, h4⟩ := h.rel.back id
    obtain ⟨k1, k2⟩ := backI_keep id L
    exact ⟨_, _, _, hp.1, hp.2, ⟨h3, h4.trans h.most, h.ids.trans k1.symm, h.over.trans k2.symm⟩⟩
def qendP (B : Base) (R : HL) (b mi mk : Nat) (n : Int) (ins en : List Int) (N : Nat) (id : Int) (e : Ending) (w' : World) : Prop :=
  ∃ q' L' c, e = .returned (.int .i64 c) ∧ QAt B q' b mi mk R w' ∧ ((c = 0 ∧ OrdOk q' L' n ins (en ++ [id]) (N + 1)) ∨ (c = 8 ∧ OrdOk q' L' n ins en (N + 1)))
theorem qEnd (hQ : QAt B q b mi mk R w) (h : OrdOk q L n ins en N) (id : Int) : Calls Try.prog 15 #[.pointer (some ⟨b, 0, none⟩), .int .u64 id] w (qendP B R b mi mk n ins en N id) :=
  (End_any hQ id).mono fun e w' hp => by
    obtain ⟨h1, h3, h4⟩ := h.rel.end_ id
    obtain ⟨k1, k2⟩ := endI_keep id L
    refine ⟨(q.end_ id).2, (endI id L).2, (endI id L).1, by rw [hp.1, h1], hp.2, ?_⟩
    rcases k2 with ⟨c, k2⟩ | ⟨c, k2⟩
    · exact .inl ⟨c, h3, h4.trans h.most, h.ids.trans k1.symm, by rw [k2, List.length_append, List.length_singleton, h.over]⟩
    · exact .inr ⟨c, h3, h4.trans h.most, h.ids.trans k1.symm, h.over.trans k2.symm⟩
def qsubP (B : Base) (R : HL) (b mi mk : Nat) (n : Int) (ins en : List Int) (N : Nat) (id : Int) (e : Ending) (w' : World) : Prop :=
  ∃ q' L' c, e = .returned (.int .i64 c) ∧ QAt B q' b mi mk R w' ∧ ((c = 0 ∧ id ∉ ins ∧ OrdOk q' L' n (ins ++ [id]) en (N + 1)) ∨ (c ≠ 0 ∧ OrdOk q' L' n ins en (N + 1)))
theorem qSubmit (hQ : QAt B q b mi mk R w) (h : OrdOk q L n ins en N) (hN : N ≤ 4294967295) (id : Int) (key : Dig) (u : Int) : Calls Try.prog 12 #[.pointer (some ⟨b, 0, none⟩), .int .u64 id, .agg key.cells.toArray, .int .i64 u] w (qsubP B R b mi mk n ins en N id) :=
  (Submit_any hQ h.rel.wf (by rw [h.rel.knl]; have := h.rel.few; omega) id key u).mono fun e w' hp => by
    obtain ⟨he, h0, h1⟩ := hp
    have hc := h.rel.code id u key
    rcases subI_keep q.most id key u L with ⟨k0, k1, k2, k3⟩ | ⟨k0, k1⟩
    · obtain ⟨blk, hQ'⟩ := h0 (hc.trans k0)
      refine ⟨_, _, _, he, hQ', .inl ⟨hc.trans k0, h.ids ▸ k1, h.rel.add id u key blk k0, h.most, by rw [k2, h.ids], h.over.trans k3.symm⟩⟩
    · refine ⟨q, L, _, he, h1 (by rw [hc]; exact k0), .inr ⟨by rw [hc]; exact k0, h.up⟩⟩

/-! Which request comes next -/
theorem nextI {w : Wait} {t : List Wait} (h : Rel q L N) (hw : inL 1 L = w :: t) :
    ∃ i : Nat, w.born = (i : Int) + 1 ∧ (idsI L)[i]? = some w.id ∧ (takeI w.id L).2.1 = 0 ∧ inL 1 (takeI w.id L).2.2 = t ∧ ∀ y ∈ t, w.born < y.born := by
  unfold inL at hw
  obtain ⟨x, M, hM, rfl, ht⟩ := List.map_eq_cons_iff.1 hw
  obtain ⟨L1, L2, rfl, hL1, hx, hL2⟩ := List.filter_eq_cons_iff.1 hM
  have hx1 : x.st = 1 := of_decide_eq_true hx
  have hn1 : inL 1 L1 = [] := by
    unfold inL
    rw [List.filter_eq_nil_iff.2 (fun y hy => hL1 y hy)]
    rfl
  have hf : ∀ (A : List It) (m : Nat), (∀ y ∈ A, y.w.id ≠ x.w.id) → fdI x.w.id (A ++ x :: L2) m = some (m + A.length, x) := by
    intro A
    induction A with
    | nil => intro m _; simp [fdI]
    | cons y A ih =>
      intro m hA
      rw [List.cons_append, fdI, if_neg (hA y (List.mem_cons_self ..)), ih (m + 1) fun z hz => hA z (List.mem_cons_of_mem _ hz)]
      simp; omega
  have hnd := h.ids
  rw [List.map_append, List.map_cons, List.nodup_append] at hnd
  have hf0 := hf L1 0 fun y hy e => hnd.2.2 y.w.id (List.mem_map.2 ⟨y, hy, rfl⟩) x.w.id (List.mem_cons_self ..) e
  rw [Nat.zero_add] at hf0
  have hb : x.w.born = (L1.length : Int) + 1 := h.bornL L1.length x (by simp)
  refine ⟨L1.length, hb, by simp [idsI], ?_, ?_, ?_⟩
  · simp [takeI, hf0, hx1]
  · simp only [takeI, hf0, hx1]
    obtain ⟨_, hset, _⟩ := fdI_at hf0
    simp only [show (1 : Int) ≠ 3 from by decide, if_false, if_true]
    rw [List.set_append_right _ _ (Nat.le_refl _), Nat.sub_self, List.set_cons_zero, inL_split, hn1]
    simp only [List.nil_append]
    rw [if_neg (by decide), List.nil_append]
    show (L2.filter _).map _ = t
    rw [← ht, hL2]
  · intro y hy
    rw [← ht, ← hL2] at hy
    obtain ⟨z, hz, rfl⟩ := List.mem_map.1 hy
    have hz := (List.mem_filter.1 hz).1
    obtain ⟨k, hk, rfl⟩ := List.getElem_of_mem hz
    have := h.bornL (L1.length + 1 + k) L2[k] (by
      rw [List.getElem?_append_right (by omega)]
      rw [show L1.length + 1 + k - L1.length = k + 1 from by omega, List.getElem?_cons_succ]
      exact List.getElem?_eq_getElem hk)
    rw [this, hb]; omega
theorem first_none : firstI [] ([] : List Wait) = (Wait.zero, false) := rfl
theorem first_some (w : Wait) (t : List Wait) : firstI [] (w :: t) = (w, true) := by
  have e : keyIs [] w = true := by simp [keyIs]
  rw [firstI, e]; rfl
theorem qFirst (hQ : QAt B q b mi mk R w) (h : Rel q L N) (hO : q.Ord) : Calls Try.prog 20 #[.pointer (some ⟨b, 0, none⟩), .slice none 0 0] w
    fun e w' => e = .returned (.tuple #[.agg (firstI [] (inL 1 L)).1.cells.toArray, .bool (firstI [] (inL 1 L)).2]) ∧ QAt B q b mi mk R w' :=
  (First_nil hQ hO).mono fun _ _ hp => ⟨by rw [hp.1, h.first], hp.2⟩
theorem qFirst1 {v : Wait} {t : List Wait} (hQ : QAt B q b mi mk R w) (h : Rel q L N) (hO : q.Ord) (hL : inL 1 L = v :: t) : Calls Try.prog 20 #[.pointer (some ⟨b, 0, none⟩), .slice none 0 0] w
    fun e w' => e = .returned (.tuple #[.agg v.cells.toArray, .bool true]) ∧ QAt B q b mi mk R w' :=
  (qFirst hQ h hO).mono fun _ _ hp => by rw [hL, first_some] at hp; exact hp
theorem qFirst0 (hQ : QAt B q b mi mk R w) (h : Rel q L N) (hO : q.Ord) (hL : inL 1 L = []) : Calls Try.prog 20 #[.pointer (some ⟨b, 0, none⟩), .slice none 0 0] w
    fun e w' => e = .returned (.tuple #[.agg Wait.zero.cells.toArray, .bool false]) ∧ QAt B q b mi mk R w' :=
  (qFirst hQ h hO).mono fun _ _ hp => by rw [hL, first_none] at hp; exact hp
theorem qTake0 {v : Wait} {t : List Wait} (hQ : QAt B q b mi mk R w) (h : Rel q L N) (hN : N ≤ 4294967295) (hL : inL 1 L = v :: t) : Calls Try.prog 14 #[.pointer (some ⟨b, 0, none⟩), .int .u64 v.id] w
    fun e w' => ∃ (q' : QS) (L' : List It) (x : Wait), e = .returned (.tuple #[.agg x.cells.toArray, .int .i64 0]) ∧ QAt B q' b mi mk R w' ∧ Rel q' L' (N + 1) ∧ idsI L' = idsI L ∧ inL 1 L' = t :=
  (Take_any hQ v.id (tries_of h hN)).mono fun e w' hp => by
    obtain ⟨h1, h2, h3, h4⟩ := h.take v.id
    obtain ⟨i, _, _, k1, k2, _⟩ := nextI h hL
    exact ⟨_, _, _, by rw [hp.1, h2, k1], hp.2, h3, (takeI_keep v.id L).1, k2⟩
end
end Go.Tk
