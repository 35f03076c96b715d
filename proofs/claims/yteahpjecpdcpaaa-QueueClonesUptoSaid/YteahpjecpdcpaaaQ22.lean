/- Both queues in one memory: Submit, Find, First, Late. -/
import Derived.Test.YteahpjecpdcpaaaQ21
set_option linter.unusedSectionVars false
set_option linter.unusedSimpArgs false
set_option linter.unusedVariables false
namespace Go.Tk
open Go.RowKit Go.Proofs

section
variable {B : Base} {R : HL} {w : World} {q : QS} {L : List It} {b mi mk rb N : Nat}
theorem Rel.code (h : Rel q L N) (id u : Int) (key : Dig) : q.code id u = (subI q.most id key u L).1 := by
  cases hf : fdI id L 0 with
  | none =>
    have hn := (h.absent hf).2
    unfold QS.code subI
    rw [if_pos hn, hf, h.rows.1]
    simp only
    split
    · rfl
    · split <;> rfl
  | some p =>
    have hn := h.there (i := p.1) (x := p.2) hf
    unfold QS.code subI
    rw [if_neg (by rw [hn]; simp), hf]
theorem Rel.keep (h : Rel q L N) (id u : Int) (key : Dig) (hc : (subI q.most id key u L).1 ≠ 0) : (subI q.most id key u L).2 = L := by
  unfold subI at *
  split
  · rfl
  · rename_i hn
    simp only [hn] at hc
    split
    · rfl
    · rename_i h1
      rw [if_neg h1] at hc
      split
      · rfl
      · rename_i h2
        rw [if_neg h2] at hc
        exact absurd rfl hc
theorem Rel.add (h : Rel q L N) (id u : Int) (key : Dig) (blk : Nat) (hc : (subI q.most id key u L).1 = 0) : Rel (q.added id key u blk) (subI q.most id key u L).2 (N + 1) := by
  unfold subI at *
  split at hc
  · cases hc
  · rename_i hn
    split at hc
    · cases hc
    · rename_i h1
      rw [if_neg h1]
      split at hc
      · cases hc
      · rename_i h2
        rw [if_neg h2]
        have hk := (h.absent hn).2
        refine ⟨?_, ?_, ?_, ?_, ?_, ?_, ?_, ?_⟩
        · show mput q.known id 1 = _
          rw [mput_new hk, h.known]; simp
        · show (q.items ++ _).map itv = _
          rw [List.filter_append, List.map_append, List.map_append, h.items]
          simp [live, liv, itv, h.born]
        · show q.born + 1 = _
          rw [h.born]; simp
        · intro x hx
          rcases List.mem_append.1 hx with hx | hx
          · exact h.st x hx
          · rw [List.mem_singleton] at hx; subst hx; exact .inl rfl
        · rw [List.map_append, List.nodup_append]
          refine ⟨h.ids, by simp, ?_⟩
          intro a ha c hc' e
          simp only [List.map_cons, List.map_nil, List.mem_singleton] at hc'
          subst hc'; subst e
          obtain ⟨x, hx, he⟩ := List.mem_map.1 ha
          exact fdI_none hn x hx he
        · intro i x hx
          by_cases hi : i < L.length
          · rw [List.getElem?_append_left hi] at hx; exact h.bornL i x hx
          · rw [List.getElem?_append_right (by omega)] at hx
            have : i = L.length := by
              have := (List.getElem?_eq_some_iff.1 hx).1
              simp at this; omega
            subst this
            simp at hx
            rw [← hx]
        · have := h.few
          simp; omega
        · intro x hx
          rcases List.mem_append.1 hx with hx | hx
          · have := h.tries x hx; exact ⟨this.1, by omega⟩
          · rw [List.mem_singleton] at hx; subst hx
            exact ⟨by show (0 : Int) ≤ 0; omega, by show (0 : Int) ≤ _; omega⟩
theorem Rel.knl (h : Rel q L N) : q.known.length = L.length := by rw [h.known, List.length_map]
theorem pSubmit (hM : Mem B q L b mi mk rb R w) (h : Rel q L N) (hN : N ≤ 4294967295) (id : Int) (key : Dig) (u : Int) : Calls Try.prog 12 #[.pointer (some ⟨b, 0, none⟩), .int .u64 id, .agg key.cells.toArray, .int .i64 u] w
    (stepP B L b mi mk rb R q.most (.int .i64 (subI q.most id key u L).1) (subI q.most id key u L).2 N) :=
  hM.onQ fun A sp cap hO hQ => (Submit_any hQ h.wf (by rw [h.knl]; have := h.few; omega) id key u).mono fun e w' hp => by
    obtain ⟨he, h0, h1⟩ := hp
    have hc := h.code id u key
    by_cases hz : q.code id u = 0
    · obtain ⟨blk, hQ'⟩ := h0 hz
      exact ⟨_, by rw [he, hc], Mem.ofQ hO rfl hQ', h.add id u key blk (hc ▸ hz), rfl⟩
    · refine ⟨q, by rw [he, hc], Mem.ofQ hO rfl (h1 hz), ?_, rfl⟩
      rw [h.keep id u key (hc ▸ hz)]
      exact h.up (by omega)
theorem rSubmit {most : Int} (hq : q.most = most) (hM : Mem B q L b mi mk rb R w) (hL : L.length ≤ 4294967290) (id : Int) (key : Dig) (u : Int) : Calls Try.prog 34 #[.pointer (some ⟨rb, 0, none⟩), .int .u64 id, .agg key.cells.toArray, .int .i64 u] w
    fun e w' => e = .returned (.int .i64 (subI most id key u L).1) ∧ Mem B q (subI most id key u L).2 b mi mk rb R w' := by
  subst hq
  exact hM.onR fun R' w hR => Submit_ref hR id key u (by omega)

theorem Rel.find (h : Rel q L N) (id : Int) : q.find id = findI id L := by
  cases hf : fdI id L 0 with
  | none =>
    have hn := (h.absent hf).1
    simp only [QS.find, findI, hf, hn]
  | some p =>
    obtain ⟨i, x⟩ := p
    by_cases h3 : x.st = 3
    · have hn := h.over hf h3
      simp only [QS.find, findI, hf, hn, h3, if_true]
    · obtain ⟨I1, it, I2, hI, h1, hnd, hw, ho, _, _⟩ := h.split hf h3
      have hg : mget q.items id = some it := by
        rw [hI]; exact mget_of_mem (by rw [← hI]; exact hnd) (by simp)
      have hx := (fdI_nth hf).mem
      have he : (!decide (x.st = 2)) = decide (x.st = 1) := by
        rcases h.st x hx with e | e | e
        · rw [e]; rfl
        · rw [e]; rfl
        · exact absurd e h3
      unfold QS.find findI
      rw [hg, hf]
      show (it.w, !it.out, (0 : Int)) = if x.st = 3 then _ else _
      rw [if_neg h3, hw, ho, he]
theorem first_eq (ks : List Dig) : ∀ l : List Wait, firstI ks l = (match l.find? (hitK ks) with | some w => (w, true) | none => (Wait.zero, false))
  | [] => rfl
  | x :: l => by
    have e : keyIs ks x = hitK ks x := by
      unfold keyIs hitK
      congr 1
      rw [Bool.eq_iff_iff]
      rw [List.any_eq_true, decide_eq_true_eq]
      constructor
      · rintro ⟨k, hk, he⟩
        rw [← of_decide_eq_true he]; exact hk
      · intro hk
        exact ⟨_, hk, decide_eq_true rfl⟩
    rw [firstI, List.find?_cons, e, first_eq ks l]
    cases hitK ks x <;> rfl
theorem Rel.first (h : Rel q L N) (ks : List Dig) : q.first ks = firstI ks (inL 1 L) := by
  rw [first_eq, ← h.rows.1]; rfl
end
end Go.Tk
