/- A drawn region whose last operation may turn what the others read. -/
import Derived.Test.YtclmemhginekbaaDoorTkQ
set_option linter.unusedSectionVars false
set_option linter.unusedSimpArgs false
set_option linter.unusedVariables false
namespace Go.Tk
open Go.RowKit Go.Proofs

section
variable {P : Program} {ops : Array Oper} {Q : Exit → Act → World → Prop} {md : Region.Mode} {S : World → Prop}

/-- What is listed has all that it waits for ahead of it. -/
def Closed (md : Region.Mode) (ops : Array Oper) (listed : Array Bool) : Prop :=
  ∀ (k : Nat) (o : Oper), ops[k]? = some o → listed.getD k false = true → ∀ e ∈ o.after, Region.binds md e = true → listed.getD e.on false = true
/-- Every other one lies behind a later one. -/
def LastIs (md : Region.Mode) (ops : Array Oper) : Prop :=
  ∀ k, k + 1 < ops.size → ∃ (m : Nat) (o : Oper), k < m ∧ ops[m]? = some o ∧ ∃ e ∈ o.after, Region.binds md e = true ∧ e.on = k
def lastIs (md : Region.Mode) (ops : Array Oper) : Bool :=
  (List.range ops.size).all fun k => decide (ops.size ≤ k + 1) || (List.range ops.size).any fun m => decide (k < m) && (match ops[m]? with | some o => o.after.any fun e => Region.binds md e && (e.on == k) | none => false)
theorem lastIs_spec (h : lastIs md ops = true) : LastIs md ops := by
  intro k hk
  simp only [lastIs, List.all_eq_true, List.mem_range, Bool.or_eq_true, decide_eq_true_eq, List.any_eq_true, Bool.and_eq_true] at h
  rcases h k (by omega) with h | ⟨m, _, hm, h⟩
  · omega
  · cases ho : ops[m]? with
    | none => simp [ho] at h
    | some o =>
      simp only [ho] at h
      rw [Array.any_eq_true] at h
      obtain ⟨i, hi, he⟩ := h
      simp only [Bool.and_eq_true, beq_iff_eq] at he
      refine ⟨m, o, hm, ?_, o.after[i], Array.getElem_mem hi, he.1, he.2⟩
      first | exact ho | rfl
theorem getD_tf {listed : Array Bool} {k : Nat} (hk : k < listed.size) : listed.getD k true = listed.getD k false := by simp [hk]
theorem last_all {listed : Array Bool} (hl : LastIs md ops) (hc : Closed md ops listed) {j : Nat} (hj : j ∈ Region.ready md ops listed) (he : j + 1 = ops.size) : ∀ k, k < j → listed.getD k false = true := by
  obtain ⟨_, oj, hoj, hall⟩ := mem_ready.1 hj
  have : ∀ d k, k + d + 1 = j → listed.getD k false = true := by
    intro d
    induction d using Nat.strongRecOn with
    | _ d ih =>
      intro k hk
      obtain ⟨m, o, hm, ho, e, hea, heb, heo⟩ := hl k (by omega)
      have hms := (Array.getElem?_eq_some_iff.1 ho).1
      by_cases hmj : m = j
      · subst hmj
        rw [hoj] at ho
        cases ho
        rw [← heo]; exact hall e hea heb
      · have h1 := ih (j - m - 1) (by omega) m (by omega)
        rw [← heo]
        exact hc m o ho h1 e hea heb
  intro k hk
  exact this (j - k - 1) k (by omega)
theorem closed_set {listed : Array Bool} (hc : Closed md ops listed) {j : Nat} (hj : j ∈ Region.ready md ops listed) : Closed md ops (listed.setIfInBounds j true) := by
  obtain ⟨_, oj, hoj, hall⟩ := mem_ready.1 hj
  intro k o ho hk e he hb
  by_cases hkj : j = k
  · subst hkj
    rw [hoj] at ho; cases ho
    exact getD_set_true (hall e he hb)
  · rw [getD_set_ne false hkj] at hk
    exact getD_set_true (hc k o ho hk e he hb)
theorem closed_none {n : Nat} : Closed md ops (Array.replicate n false) := by
  intro k o ho hk
  rw [Array.getD_eq_getD_getElem?, Array.getElem?_replicate] at hk
  split at hk <;> simp at hk

/-- Whatever order is picked: S holds behind every operation but the last. -/
def wpAnyF (P : Program) (md : Region.Mode) (ops : Array Oper) (Q : Exit → Act → World → Prop) (S : World → Prop) : Nat → Array Bool → Act → World → Prop
  | 0, listed, a, w => Region.ready md ops listed = [] ∧ Q .normal a w
  | fuel + 1, listed, a, w =>
    (Region.ready md ops listed = [] → Q .normal a w) ∧
    ∀ i ∈ Region.ready md ops listed, wpOp P ops Q i (fun a' w' => (i + 1 = ops.size ∨ S w') ∧ wpAnyF P md ops Q S fuel (listed.setIfInBounds i true) a' w') a w
theorem wpAny_ofF : ∀ (fuel : Nat) (listed : Array Bool) (a : Act) (w : World), wpAnyF P md ops Q S fuel listed a w → wpAny P md ops Q fuel listed a w
  | 0, _, _, _, h => h
  | fuel + 1, _, _, _, h => ⟨h.1, fun i hi => wpOp_mono (fun a' w' h' => wpAny_ofF fuel _ a' w' h'.2) (h.2 i hi)⟩

theorem wpAnyF_first {i : Nat} {oi : Oper} {v : Value} (hL : LastIs md ops) (hi : ops[i]? = some oi) (hsel : ∀ (j : Nat) (o : Oper) cs b, ops[j]? = some o → o.op ≠ .select cs b)
    (hQ : ∀ c a w, Q (.panic c) (a.put oi.dst v) w → Q (.panic c) a w) :
    ∀ (fuel : Nat) (listed : Array Bool) (a : Act) (w : World), listed.size = ops.size → Closed md ops listed →
      (∀ j oj, ops[j]? = some oj → j ≠ i → listed.getD j true = false → (∀ e ∈ oj.after, Region.binds md e = true → e.on ≠ i) → oi.apart ops oj = true) →
      i ∈ Region.ready md ops listed → YieldsIf P ops S oi v a → S w →
      wpAnyF P md ops Q S fuel (listed.setIfInBounds i true) (a.put oi.dst v) w → wpAnyF P md ops Q S (fuel + 1) listed a w := by
  intro fuel
  induction fuel with
  | zero =>
    intro listed a w _ _ _ hr hy hS H
    refine ⟨fun h => (by rw [h] at hr; cases hr), fun j hj => ?_⟩
    by_cases hji : j = i
    · subst hji; exact hy.wpOp hi hS ⟨.inr hS, H⟩
    · have := ready_mono hj hji
      rw [H.1] at this
      cases this
  | succ fuel ih =>
    intro listed a w hsz hcl hfree hr hy hS H
    refine ⟨fun h => (by rw [h] at hr; cases hr), fun j hj => ?_⟩
    by_cases hji : j = i
    · subst hji; exact hy.wpOp hi hS ⟨.inr hS, H⟩
    · have hjl : j + 1 ≠ ops.size := by
        intro he
        have his : i < ops.size := (Array.getElem?_eq_some_iff.1 hi).1
        have := last_all hL hcl hj he i (by omega)
        have h0 := (mem_ready.1 hr).1
        rw [getD_tf (by omega)] at h0
        rw [h0] at this; cases this
      have h1 := H.2 j (ready_mono hj hji)
      obtain ⟨hjun, oj, hoj, hall⟩ := mem_ready.1 hj
      have hnot : ∀ e ∈ oj.after, Region.binds md e = true → e.on ≠ i := fun e he hb heq => by
        have h1 := hall e he hb
        have h0 := (mem_ready.1 hr).1
        rw [heq] at h1
        rcases Nat.lt_or_ge i listed.size with h' | h'
        · simp [h'] at h0 h1; rw [h0] at h1; cases h1
        · simp [Array.getElem?_eq_none h'] at h1
      have h2 := wpOp_putIf hoj (hfree j oj hoj hji hjun hnot) (fun cs b => hsel i oi cs b hi) (fun cs b => hsel j oj cs b hoj) hQ hy h1
      have hfree' : ∀ k ok, ops[k]? = some ok → k ≠ i → (listed.setIfInBounds j true).getD k true = false →
          (∀ e ∈ ok.after, Region.binds md e = true → e.on ≠ i) → oi.apart ops ok = true := fun k ok hk hki hun hno => by
        refine hfree k ok hk hki ?_ hno
        by_cases hjk : j = k
        · subst hjk; exact hjun
        · rw [getD_set_ne true hjk] at hun; exact hun
      refine wpOp_mono (fun a' w' h3 => ?_) h2
      have hSw : S w' := h3.2.1.resolve_left hjl
      refine ⟨.inr hSw, ih (listed.setIfInBounds j true) a' w' (by simpa using hsz) (closed_set hcl hj) hfree' (ready_mono hr (Ne.symm hji)) h3.1 hSw ?_⟩
      rw [Array.setIfInBounds_comm _ _ hji]
      exact h3.2.2

/-- The operations themselves in an order: behind the last nothing is asked of S. -/
def wpF (P : Program) (ops : Array Oper) (Q : Exit → Act → World → Prop) (S : World → Prop) : List (Oper × Bool) → Act → World → Prop
  | [], a, w => Q .normal a w
  | (o, true) :: rest, a, w => ∃ v, YieldsIf P ops S o v a ∧ S w ∧ wpF P ops Q S rest (a.put o.dst v) w
  | (o, false) :: rest, a, w => wpList P ops (Exit.then (fun a' w' => (rest = [] ∨ S w') ∧ wpF P ops Q S rest a' w') Q) [o] a w

/-- An order, looked at: only the last operation of all stands last. -/
def okF (ops : Array Oper) : List (Nat × Bool) → Array Bool → Bool
  | [], listed => (Region.ready .any ops listed).isEmpty
  | (i, true) :: rest, listed => Region.free .any ops listed i && (Region.ready .any ops listed).contains i && okF ops rest (listed.setIfInBounds i true)
  | (i, false) :: rest, listed => (Region.ready .any ops listed == [i]) && (!rest.isEmpty || decide (i + 1 = ops.size)) && okF ops rest (listed.setIfInBounds i true)

theorem wpF_sound (hL : LastIs .any ops) (hs : Region.noSelect ops = true) (hQ : ∀ d v c a w, Q (.panic c) (Act.put a d v) w → Q (.panic c) a w) :
    ∀ (l : List (Nat × Bool)) (listed : Array Bool) (fuel : Nat) (a : Act) (w : World), (∀ p ∈ l, p.1 < ops.size) → listed.size = ops.size → Closed .any ops listed → okF ops l listed = true → l.length ≤ fuel →
      wpF P ops Q S (picks ops.toList l) a w → wpAnyF P .any ops Q S fuel listed a w
  | [], listed, fuel, a, w, _, _, _, ho, _, h => by
    simp only [okF, List.isEmpty_iff] at ho
    cases fuel with
    | zero => exact ⟨ho, h⟩
    | succ n => exact ⟨fun _ => h, by rw [ho]; simp⟩
  | (i, true) :: rest, listed, fuel, a, w, hl, hsz, hc, ho, hf, h => by
    simp only [okF, Bool.and_eq_true] at ho
    obtain ⟨v, hy, hS, h⟩ := h
    have hi : ops[i]? = some (opAt ops.toList i) := by have := opAt_get (ops := ops.toList) (i := i) (by simpa using hl (i, true) List.mem_cons_self); simpa using this
    obtain ⟨fuel, rfl⟩ : ∃ m, fuel = m + 1 := ⟨fuel - 1, by simp at hf; omega⟩
    have hr : i ∈ Region.ready .any ops listed := by simpa using ho.1.2
    exact wpAnyF_first hL hi (Region.noSelect_spec hs) (hQ _ _) fuel listed a w hsz hc (Region.free_spec hi ho.1.1) hr hy hS
      (wpF_sound hL hs hQ rest _ fuel _ w (fun p hp => hl p (List.mem_cons_of_mem _ hp)) (by simpa using hsz) (closed_set hc hr) ho.2 (by simp at hf; omega) h)
  | (i, false) :: rest, listed, fuel, a, w, hl, hsz, hc, ho, hf, h => by
    simp only [okF, Bool.and_eq_true, beq_iff_eq, Bool.or_eq_true, Bool.not_eq_true', decide_eq_true_eq] at ho
    have hi : ops[i]? = some (opAt ops.toList i) := by have := opAt_get (ops := ops.toList) (i := i) (by simpa using hl (i, false) List.mem_cons_self); simpa using this
    obtain ⟨fuel, rfl⟩ : ∃ m, fuel = m + 1 := ⟨fuel - 1, by simp at hf; omega⟩
    have hr : i ∈ Region.ready .any ops listed := by rw [ho.1.1]; simp
    refine ⟨fun h0 => absurd (ho.1.1 ▸ h0) (by simp), fun j hj => ?_⟩
    rw [ho.1.1, List.mem_singleton] at hj
    subst hj
    refine wpOp_mono (fun a' w' h' => ⟨?_, wpF_sound hL hs hQ rest _ fuel _ _ (fun p hp => hl p (List.mem_cons_of_mem _ hp)) (by simpa using hsz) (closed_set hc hr) ho.2 (by simp at hf; omega) h'.2⟩) (wpH_E hi h)
    rcases h'.1 with h1 | h1
    · left
      have hre : rest = [] := by
        cases rest with
        | nil => rfl
        | cons p r => simp [picks] at h1
      rcases ho.1.2 with h2 | h2
      · subst hre; simp at h2
      · exact h2
    · exact .inr h1

theorem wp_drawnF {B : Base} {H : HL} {id : Nat} {a : Act} {w : World} (hS : Sh B H w) (l : List (Nat × Bool)) (hm : P.follows .mixedOrders = true)
    (hs : (lastIs .any ops && Region.noSelect ops && okF ops l (Array.replicate ops.size false) && decide (l.length ≤ ops.size) && l.all (fun p => decide (p.1 < ops.size))) = true)
    (hQ : ∀ d v c a w, Q (.panic c) (Act.put a d v) w → Q (.panic c) a w) (h : wpF P ops Q (Sh B H) (picks ops.toList l) a w.drew) : (Code.region id ops true).wp P Q a w := by
  simp only [Bool.and_eq_true, decide_eq_true_eq, List.all_eq_true] at hs
  exact wp_region_any hm (wpAny_ofF _ _ _ _ (wpF_sound (S := Sh B H) (lastIs_spec hs.1.1.1.1) hs.1.1.1.2 hQ l _ _ a _ (fun p hp => hs.2 p hp) (by simp) closed_none hs.1.1.2 hs.1.2 h))

theorem wpF_done {K C : Act → World → Prop} {Q' : Exit → Act → World → Prop} {a : Act} {w : World} (hK : ∀ a w, C a w → K a w) (h : C a w) : wpF P ops (Exit.then K Q') S [] a w := hK _ _ h
theorem wpF_doneB {id : Nat} {K C : Act → World → Prop} {Q' : Exit → Act → World → Prop} {a : Act} {w : World} (hK : ∀ a w, C a w → K a w) (h : C a w) : wpF P ops (Exit.inBlock id (Exit.then K Q')) S [] a w := hK _ _ h
theorem wpF_nil {Q : Exit → Act → World → Prop} {a : Act} {w : World} (h : Q .normal a w) : wpF P ops Q S [] a w := h
theorem wpH_doneB {id : Nat} {K C : Act → World → Prop} {Q' : Exit → Act → World → Prop} {a : Act} {w : World} (hK : ∀ a w, C a w → K a w) (h : C a w) : wpG P ops (Exit.inBlock id (Exit.then K Q')) S [] a w := hK _ _ h
theorem wpF_U {o : Oper} {v : Value} {rest : List (Oper × Bool)} {a : Act} {w : World} (hw : Region.wanted o (yielded ops a.tmps) = true)
    (hy : ∀ w, S w → (execOp a.eval o).run P w = .ok (.value v) w) (hS : S w) (h : wpF P ops Q S rest (a.put o.dst v) w) : wpF P ops Q S ((o, true) :: rest) a w := ⟨v, .inl ⟨hw, hy⟩, hS, h⟩
theorem wpF_not {o : Oper} {rest : List (Oper × Bool)} {a : Act} {w : World} (hw : Region.wanted o (yielded ops a.tmps) = false)
    (hS : S w) (h : wpF P ops Q S rest (a.put o.dst undef) w) : wpF P ops Q S ((o, true) :: rest) a w := ⟨undef, .inr ⟨hw, rfl⟩, hS, h⟩
theorem wpF_ex {o : Oper} {rest : List (Oper × Bool)} {a : Act} {w : World}
    (h : wpList P ops (Exit.then (fun a' w' => (rest = [] ∨ S w') ∧ wpF P ops Q S rest a' w') Q) [o] a w) : wpF P ops Q S ((o, false) :: rest) a w := h
theorem wpF_isld {rest : List (Oper × Bool)} {o : Oper} {a : Act} {w : World} {T : TypeId} {x : Operand} (ho : o.op = .load T x) (h : wpF P ops Q S ((o, true) :: rest) a w) : wpF P ops Q S ((o, true) :: rest) a w := h
end
end Go.Tk
