/- The queue and the document's: what they have in common, and that every call keeps it. -/
import Derived.Test.YteahpjecpdcpaaaQ19
set_option linter.unusedSectionVars false
set_option linter.unusedSimpArgs false
set_option linter.unusedVariables false
namespace Go.Tk
open Go.RowKit Go.Proofs

def itv (p : Int × ItemB) : Int × Wait × Bool := (p.1, p.2.w, p.2.out)
def liv (x : It) : Int × Wait × Bool := (x.w.id, x.w, decide (x.st = 2))
def live (x : It) : Bool := decide (x.st ≠ 3)
structure Rel (q : QS) (L : List It) (N : Nat) : Prop where
  known : q.known = L.map (fun x => (x.w.id, (1 : Int)))
  items : q.items.map itv = (L.filter live).map liv
  born : q.born = L.length
  st : ∀ x ∈ L, x.st = 1 ∨ x.st = 2 ∨ x.st = 3
  ids : (L.map (fun x => x.w.id)).Nodup
  bornL : ∀ (i : Nat) (x : It), L[i]? = some x → x.w.born = (i : Int) + 1
  few : L.length ≤ N
  tries : ∀ x ∈ L, 0 ≤ x.w.tries ∧ x.w.tries ≤ N

theorem fdI_none {id : Int} : ∀ {L : List It} {n : Nat}, fdI id L n = none → ∀ x ∈ L, x.w.id ≠ id
  | [], n, h => by simp
  | y :: L, n, h => by
    rw [fdI] at h
    split at h
    · cases h
    · rename_i hy
      intro x hx
      rcases List.mem_cons.1 hx with rfl | hx
      · exact hy
      · exact fdI_none h x hx
theorem fdI_split {id : Int} : ∀ {L : List It} {n i : Nat} {x : It}, fdI id L n = some (i, x) → n ≤ i ∧ L = L.take (i - n) ++ x :: L.drop (i - n + 1) ∧ x.w.id = id ∧ ∀ y ∈ L.take (i - n), y.w.id ≠ id
  | [], n, i, x, h => by simp [fdI] at h
  | y :: L, n, i, x, h => by
    rw [fdI] at h
    split at h
    · rename_i hy
      simp only [Option.some.injEq, Prod.mk.injEq] at h
      obtain ⟨rfl, rfl⟩ := h
      exact ⟨Nat.le_refl _, by simp, hy, by simp⟩
    · rename_i hy
      obtain ⟨h1, h2, h3, h4⟩ := fdI_split h
      have e : i - n = (i - (n + 1)) + 1 := by omega
      rw [e]
      refine ⟨by omega, ?_, h3, ?_⟩
      · simp only [List.take_succ_cons, List.drop_succ_cons, List.cons_append]
        rw [← h2]
      · intro z hz
        rw [List.take_succ_cons] at hz
        rcases List.mem_cons.1 hz with rfl | hz
        · exact hy
        · exact h4 z hz
theorem set_take {α : Type} {L : List α} {i : Nat} (h : i < L.length) (z : α) : L.set i z = L.take i ++ z :: L.drop (i + 1) := by rw [List.set_eq_take_append_cons_drop, if_pos h]

section
variable {q : QS} {L : List It} {N : Nat}
theorem mget_map_none {l : List It} {id : Int} (h : ∀ x ∈ l, x.w.id ≠ id) : mget (l.map (fun x => (x.w.id, (1 : Int)))) id = none := by
  rw [mget_none, List.map_map]
  intro hm
  obtain ⟨x, hx, he⟩ := List.mem_map.1 hm
  exact h x hx he
theorem items_ids (h : q.items.map itv = (L.filter live).map liv) : q.items.map (·.1) = (L.filter live).map (fun x => x.w.id) := by
  have := congrArg (List.map (fun t : Int × Wait × Bool => t.1)) h
  simpa [Function.comp_def, itv, liv] using this
theorem Rel.absent (h : Rel q L N) {id : Int} (hf : fdI id L 0 = none) : mget q.items id = none ∧ mget q.known id = none := by
  have hn := fdI_none hf
  refine ⟨?_, by rw [h.known]; exact mget_map_none hn⟩
  rw [mget_none, items_ids h.items]
  intro hm
  obtain ⟨x, hx, he⟩ := List.mem_map.1 hm
  exact hn x (List.mem_filter.1 hx).1 he
theorem Rel.there (h : Rel q L N) {id : Int} {i : Nat} {x : It} (hf : fdI id L 0 = some (i, x)) : mget q.known id = some 1 := by
  obtain ⟨_, hs, hid, _⟩ := fdI_split hf
  have hn : (q.known.map (·.1)).Nodup := by rw [h.known, List.map_map]; exact h.ids
  refine mget_of_mem hn ?_
  rw [h.known, ← hid]
  exact List.mem_map.2 ⟨x, (fdI_nth hf).mem, rfl⟩
theorem filter_off {l : List It} {p : It → Bool} {x : It} {l1 l2 : List It} (hl : l = l1 ++ x :: l2) (hx : p x = false) : l.filter p = l1.filter p ++ l2.filter p := by rw [hl]; simp [hx]
theorem Rel.over (h : Rel q L N) {id : Int} {i : Nat} {x : It} (hf : fdI id L 0 = some (i, x)) (h3 : x.st = 3) : mget q.items id = none := by
  obtain ⟨_, hs, hid, hl1⟩ := fdI_split hf
  simp only [Nat.sub_zero] at hs hl1
  rw [mget_none, items_ids h.items]
  intro hm
  have hnd := h.ids
  rw [hs, List.map_append, List.map_cons, List.nodup_append, List.nodup_cons] at hnd
  rw [filter_off hs (by simp [live, h3]), List.map_append, List.mem_append] at hm
  rcases hm with hm | hm
  · obtain ⟨y, hy, he⟩ := List.mem_map.1 hm
    exact hl1 y (List.mem_filter.1 hy).1 he
  · obtain ⟨y, hy, he⟩ := List.mem_map.1 hm
    exact hnd.2.1.1 (List.mem_map.2 ⟨y, (List.mem_filter.1 hy).1, he.trans hid.symm⟩)

theorem Rel.split (h : Rel q L N) {id : Int} {i : Nat} {x : It} (hf : fdI id L 0 = some (i, x)) (h3 : x.st ≠ 3) :
    ∃ I1 it I2, q.items = I1 ++ (id, it) :: I2 ∧ mget I1 id = none ∧ (q.items.map (·.1)).Nodup ∧ it.w = x.w ∧ it.out = decide (x.st = 2) ∧
      (∀ (w' : Wait) (st' : Int) (M : Nat), w'.id = id → w'.born = x.w.born → (st' = 1 ∨ st' = 2) → N ≤ M → (0 ≤ w'.tries ∧ w'.tries ≤ M) → Rel { q with items := I1 ++ (id, ⟨it.blk, w', decide (st' = 2)⟩) :: I2 } (L.set i ⟨w', st'⟩) M) ∧
      (∀ M : Nat, N ≤ M → Rel { q with items := I1 ++ I2 } (L.set i ⟨x.w, 3⟩) M) := by
  obtain ⟨_, hs, hid, hl1⟩ := fdI_split hf
  simp only [Nat.sub_zero] at hs hl1
  have gx := fdI_nth hf
  have hlt := gx.lt
  have hlx : live x = true := by simp [live, h3]
  have hit := h.items
  rw [hs, List.filter_append, List.filter_cons_of_pos hlx, List.map_append, List.map_cons] at hit
  obtain ⟨I1, I2', hI, h1, h2⟩ := List.map_eq_append_iff.1 hit
  obtain ⟨p, I2, rfl, hp, h2'⟩ := List.map_eq_cons_iff.1 h2
  clear h2
  obtain ⟨pid, it⟩ := p
  simp only [itv, liv, Prod.mk.injEq] at hp
  obtain ⟨hp1, hp2, hp3⟩ := hp
  have hpid : pid = id := hp1.trans hid
  subst hpid
  have hids : (q.items.map (·.1)).Nodup := by
    rw [items_ids h.items]
    exact (h.ids.sublist ((List.filter_sublist (l := L)).map _))
  have hI1 : mget I1 pid = Option.none := by
    rw [hI, List.map_append, List.map_cons, List.nodup_append] at hids
    rw [mget_none]
    intro hm
    exact hids.2.2 pid hm pid (List.mem_cons_self ..) rfl
  have hset : ∀ z : It, L.set i z = L.take i ++ z :: L.drop (i + 1) := fun z => set_take hlt z
  have hidm : ∀ z : It, z.w.id = pid → (L.set i z).map (fun x => x.w.id) = L.map (fun x => x.w.id) := by
    intro z hz
    rw [hset z]
    conv => rhs; rw [hs]
    simp [hz, hid]
  have hkn : ∀ z : It, z.w.id = pid → (L.set i z).map (fun x => (x.w.id, (1 : Int))) = L.map (fun x => (x.w.id, (1 : Int))) := by
    intro z hz
    rw [hset z]
    conv => rhs; rw [hs]
    simp [hz, hid]
  have hbn : ∀ z : It, z.w.born = x.w.born → ∀ (j : Nat) (y : It), (L.set i z)[j]? = Option.some y → y.w.born = (j : Int) + 1 := by
    intro z hz j y hj
    by_cases hij : i = j
    · subst hij
      rw [List.getElem?_set_self hlt] at hj
      cases hj
      rw [hz]; exact h.bornL i x gx.get
    · rw [List.getElem?_set_ne hij] at hj
      exact h.bornL j y hj
  have hmem : ∀ (z y : It), y ∈ L.set i z → y = z ∨ y ∈ L := by
    intro z y hy
    rw [hset z] at hy
    rcases List.mem_append.1 hy with hy | hy
    · exact .inr (List.mem_of_mem_take hy)
    · rcases List.mem_cons.1 hy with hy | hy
      · exact .inl hy
      · exact .inr (List.mem_of_mem_drop hy)
  refine ⟨I1, it, I2, hI, hI1, hids, hp2, hp3, ?_, ?_⟩
  · intro w' st' M hw hb hst hNM ht
    refine ⟨?_, ?_, ?_, ?_, ?_, hbn _ hb, ?_, ?_⟩
    · show q.known = _
      rw [hkn ⟨w', st'⟩ hw]; exact h.known
    · show (I1 ++ _ :: I2).map itv = _
      have hl : live ⟨w', st'⟩ = true := by rcases hst with rfl | rfl <;> rfl
      rw [hset, List.filter_append, List.filter_cons_of_pos hl, List.map_append, List.map_cons, List.map_append, List.map_cons, h1, h2']
      simp [itv, liv, hw]
    · show q.born = _
      rw [List.length_set]; exact h.born
    · intro y hy
      rcases hmem _ y hy with rfl | hy
      · rcases hst with h | h <;> simp [h]
      · exact h.st y hy
    · rw [hidm ⟨w', st'⟩ hw]; exact h.ids
    · rw [List.length_set]; exact Nat.le_trans h.few hNM
    · intro y hy
      rcases hmem _ y hy with rfl | hy
      · exact ht
      · have := h.tries y hy; exact ⟨this.1, by omega⟩
  · intro M hNM
    refine ⟨?_, ?_, ?_, ?_, ?_, hbn _ rfl, ?_, ?_⟩
    · show q.known = _
      rw [hkn ⟨x.w, 3⟩ hid]; exact h.known
    · show (I1 ++ I2).map itv = _
      have hl : live ⟨x.w, 3⟩ = false := rfl
      rw [hset, List.filter_append, List.filter_cons_of_neg (by simp [hl]), List.map_append, List.map_append, h1, h2']
    · show q.born = _
      rw [List.length_set]; exact h.born
    · intro y hy
      rcases hmem _ y hy with rfl | hy
      · simp
      · exact h.st y hy
    · rw [hidm ⟨x.w, 3⟩ hid]; exact h.ids
    · rw [List.length_set]; exact Nat.le_trans h.few hNM
    · intro y hy
      rcases hmem _ y hy with rfl | hy
      · have := h.tries x gx.mem; exact ⟨this.1, Int.le_trans this.2 (by omega)⟩
      · have := h.tries y hy; exact ⟨this.1, by omega⟩

theorem Rel.rows (h : Rel q L N) : q.rows false = inL 1 L ∧ q.rows true = inL 2 L := by
  have key : ∀ out : Bool, q.rows out = ((q.items.map itv).filter (fun t => t.2.2 == out)).map (fun t => t.2.1) := by
    intro out
    unfold QS.rows
    rw [List.filter_map, List.map_map]
    rfl
  refine ⟨?_, ?_⟩
  · rw [key, h.items, List.filter_map, List.map_map, List.filter_filter]
    unfold inL
    have e : L.filter (fun a => (((fun t : Int × Wait × Bool => t.2.2 == false) ∘ liv) a && live a)) = L.filter (fun x => decide (x.st = 1)) := by
      refine List.filter_congr fun x hx => ?_
      rcases h.st x hx with h | h | h <;> simp [liv, live, h]
    rw [e]
    rfl
  · rw [key, h.items, List.filter_map, List.map_map, List.filter_filter]
    unfold inL
    have e : L.filter (fun a => (((fun t : Int × Wait × Bool => t.2.2 == true) ∘ liv) a && live a)) = L.filter (fun x => decide (x.st = 2)) := by
      refine List.filter_congr fun x hx => ?_
      rcases h.st x hx with h | h | h <;> simp [liv, live, h]
    rw [e]
    rfl
theorem Rel.late (h : Rel q L N) (now : Int) : q.late now = lateI now L := by
  unfold QS.late lateW lateI
  have e1 : q.items.map (·.2.w) = (L.filter live).map (·.w) := by
    have := congrArg (List.map (fun t : Int × Wait × Bool => t.2.1)) h.items
    simpa [Function.comp_def, itv, liv] using this
  rw [e1, List.filter_map, List.map_map, List.filter_filter]
  have e : L.filter (fun a => ((overBy now ∘ fun x : It => x.w) a && live a)) = L.filter (isLate now) := by
    refine List.filter_congr fun x hx => ?_
    simp [isLate, overBy, live, Bool.and_comm]
  rw [e]
  rfl
theorem Rel.wf (h : Rel q L N) : q.Wf := by
  have e1 : q.items.map (fun p => (p.1, p.2.w)) = (L.filter live).map (fun x => (x.w.id, x.w)) := by
    have := congrArg (List.map (fun t : Int × Wait × Bool => (t.1, t.2.1))) h.items
    simpa [Function.comp_def, itv, liv] using this
  have hm : ∀ p ∈ q.items, ∃ x ∈ L, p.1 = x.w.id ∧ p.2.w = x.w := by
    intro p hp
    have : (p.1, p.2.w) ∈ (L.filter live).map (fun x => (x.w.id, x.w)) := by rw [← e1]; exact List.mem_map.2 ⟨p, hp, rfl⟩
    obtain ⟨x, hx, he⟩ := List.mem_map.1 this
    simp only [Prod.mk.injEq] at he
    exact ⟨x, (List.mem_filter.1 hx).1, he.1.symm, he.2.symm⟩
  have hL : L.Pairwise (fun a b => a.w.born < b.w.born) := by
    rw [List.pairwise_iff_getElem]
    intro i j hi hj hij
    rw [h.bornL i _ (List.getElem?_eq_getElem hi), h.bornL j _ (List.getElem?_eq_getElem hj)]
    omega
  refine ⟨?_, ?_, ?_, ?_, ?_, ?_⟩
  · have h2 : ((L.filter live).map (fun x => (x.w.id, x.w))).Pairwise (fun a b => a.2.born < b.2.born) := by
      rw [List.pairwise_map]; exact hL.sublist List.filter_sublist
    rw [← e1, List.pairwise_map] at h2
    exact h2
  · intro p hp
    rw [h.known] at hp
    obtain ⟨x, _, rfl⟩ := List.mem_map.1 hp
    rfl
  · intro p hp
    obtain ⟨x, hx, h1, _⟩ := hm p hp
    have hn : (q.known.map (·.1)).Nodup := by rw [h.known, List.map_map]; exact h.ids
    refine mget_of_mem hn ?_
    rw [h.known, h1]
    exact List.mem_map.2 ⟨x, hx, rfl⟩
  · intro p hp
    obtain ⟨x, hx, h1, h2⟩ := hm p hp
    rw [h1, h2]
  · intro p hp
    obtain ⟨x, hx, h1, h2⟩ := hm p hp
    obtain ⟨i, hi, rfl⟩ := List.getElem_of_mem hx
    rw [h2, h.bornL i _ (List.getElem?_eq_getElem hi), h.born]
    omega
  · rw [h.born, h.known, List.length_map]
end
end Go.Tk
