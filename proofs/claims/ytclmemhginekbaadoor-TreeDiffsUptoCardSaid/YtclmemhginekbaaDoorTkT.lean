/- Drawn regions in which several operations act, whichever comes first. -/
import Derived.Test.YtclmemhginekbaaDoorTkR
set_option linter.unusedSectionVars false
set_option linter.unusedSimpArgs false
set_option linter.unusedVariables false
namespace Go.Tk
open Go.RowKit Go.Proofs

/-- An order, with branches where more than one that acts may come up. -/
inductive Pl where
  | done
  | u (i : Nat) (r : Pl)
  | e (i : Nat) (r : Pl)
  | b (i : Nat) (ri rest : Pl)
def Pl.alts : Pl → List Nat
  | .e i _ => [i]
  | .b i _ r => i :: r.alts
  | _ => []
def Pl.isDone : Pl → Bool
  | .done => true
  | _ => false
def Pl.depth : Pl → Nat
  | .done => 0
  | .u _ r => r.depth + 1
  | .e _ r => r.depth + 1
  | .b _ ri r => max (ri.depth + 1) r.depth
def Pl.bounded (n : Nat) : Pl → Bool
  | .done => true
  | .u i r => decide (i < n) && r.bounded n
  | .e i r => decide (i < n) && r.bounded n
  | .b i ri r => decide (i < n) && ri.bounded n && r.bounded n
def okT (ops : Array Oper) : Bool → Pl → Array Bool → Bool
  | false, .done, listed => (Region.ready .any ops listed).isEmpty
  | false, .u i r, listed => Region.free .any ops listed i && (Region.ready .any ops listed).contains i && okT ops false r (listed.setIfInBounds i true)
  | false, .e i r, listed => (Region.ready .any ops listed == [i]) && (!r.isDone || decide (i + 1 = ops.size)) && okT ops false r (listed.setIfInBounds i true)
  | false, .b i ri r, listed => (Region.ready .any ops listed == i :: r.alts) && (!ri.isDone || decide (i + 1 = ops.size)) && okT ops false ri (listed.setIfInBounds i true) && okT ops true r listed
  | true, .e i r, listed => (!r.isDone || decide (i + 1 = ops.size)) && okT ops false r (listed.setIfInBounds i true)
  | true, .b i ri r, listed => (!ri.isDone || decide (i + 1 = ops.size)) && okT ops false ri (listed.setIfInBounds i true) && okT ops true r listed
  | true, _, _ => false

inductive PlO where
  | done
  | u (o : Oper) (r : PlO)
  | e (o : Oper) (r : PlO)
  | b (o : Oper) (ro rest : PlO)
def PlO.isDone : PlO → Bool
  | .done => true
  | _ => false
def pk (ops : List Oper) : Pl → PlO
  | .done => .done
  | .u i r => .u (opAt ops i) (pk ops r)
  | .e i r => .e (opAt ops i) (pk ops r)
  | .b i ri r => .b (opAt ops i) (pk ops ri) (pk ops r)
theorem pk_done (ops : List Oper) : pk ops .done = .done := rfl
theorem pk_u (ops : List Oper) (i : Nat) (r : Pl) : pk ops (.u i r) = .u (opAt ops i) (pk ops r) := rfl
theorem pk_e (ops : List Oper) (i : Nat) (r : Pl) : pk ops (.e i r) = .e (opAt ops i) (pk ops r) := rfl
theorem pk_b (ops : List Oper) (i : Nat) (ri r : Pl) : pk ops (.b i ri r) = .b (opAt ops i) (pk ops ri) (pk ops r) := rfl
theorem pk_isDone (ops : List Oper) (p : Pl) : (pk ops p).isDone = p.isDone := by cases p <;> rfl

section
variable {P : Program} {ops : Array Oper} {Q : Exit → Act → World → Prop} {S : World → Prop}
def wpT (P : Program) (ops : Array Oper) (Q : Exit → Act → World → Prop) (S : World → Prop) : PlO → Act → World → Prop
  | .done, a, w => Q .normal a w
  | .u o r, a, w => ∃ v, YieldsIf P ops S o v a ∧ S w ∧ wpT P ops Q S r (a.put o.dst v) w
  | .e o r, a, w => wpList P ops (Exit.then (fun a' w' => (r.isDone = true ∨ S w') ∧ wpT P ops Q S r a' w') Q) [o] a w
  | .b o ro r, a, w => wpList P ops (Exit.then (fun a' w' => (ro.isDone = true ∨ S w') ∧ wpT P ops Q S ro a' w') Q) [o] a w ∧ wpT P ops Q S r a w

theorem wpT_sound (hL : LastIs .any ops) (hs : Region.noSelect ops = true) (hQ : ∀ d v c a w, Q (.panic c) (Act.put a d v) w → Q (.panic c) a w) :
    ∀ (p : Pl) (listed : Array Bool) (a : Act) (w : World), p.bounded ops.size = true → listed.size = ops.size → Closed .any ops listed → wpT P ops Q S (pk ops.toList p) a w →
      (okT ops false p listed = true → ∀ fuel, p.depth ≤ fuel → wpAnyF P .any ops Q S fuel listed a w) ∧
      (okT ops true p listed = true → ∀ fuel, p.depth ≤ fuel + 1 → ∀ i ∈ p.alts, i ∈ Region.ready .any ops listed → wpOp P ops Q i (fun a' w' => (i + 1 = ops.size ∨ S w') ∧ wpAnyF P .any ops Q S fuel (listed.setIfInBounds i true) a' w') a w) := by
  have one : ∀ (i : Nat) (r : Pl) (listed : Array Bool) (a : Act) (w : World), i < ops.size → i ∈ Region.ready .any ops listed → (!r.isDone || decide (i + 1 = ops.size)) = true →
      (∀ a' w', wpT P ops Q S (pk ops.toList r) a' w' → ∀ fuel, r.depth ≤ fuel → wpAnyF P .any ops Q S fuel (listed.setIfInBounds i true) a' w') →
      wpList P ops (Exit.then (fun a' w' => ((pk ops.toList r).isDone = true ∨ S w') ∧ wpT P ops Q S (pk ops.toList r) a' w') Q) [opAt ops.toList i] a w →
      ∀ fuel, r.depth ≤ fuel → wpOp P ops Q i (fun a' w' => (i + 1 = ops.size ∨ S w') ∧ wpAnyF P .any ops Q S fuel (listed.setIfInBounds i true) a' w') a w := by
    intro i r listed a w hi hr hd hk h fuel hf
    have hi' : ops[i]? = some (opAt ops.toList i) := by have := opAt_get (ops := ops.toList) (i := i) (by simpa using hi); simpa using this
    refine wpOp_mono (fun a' w' h' => ⟨?_, hk a' w' h'.2 fuel hf⟩) (wpH_E hi' h)
    rcases h'.1 with h1 | h1
    · left
      rw [pk_isDone] at h1
      simpa [h1] using hd
    · exact .inr h1
  intro p
  induction p with
  | done =>
    intro listed a w _ _ _ h
    refine ⟨fun ho fuel _ => ?_, fun ho => by simp [okT] at ho⟩
    simp only [okT, List.isEmpty_iff] at ho
    cases fuel with
    | zero => exact ⟨ho, h⟩
    | succ n => exact ⟨fun _ => h, by rw [ho]; simp⟩
  | u i r ih =>
    intro listed a w hb hsz hc h
    refine ⟨fun ho fuel hf => ?_, fun ho => by simp [okT] at ho⟩
    simp only [okT, Bool.and_eq_true] at ho
    simp only [Pl.bounded, Bool.and_eq_true, decide_eq_true_eq] at hb
    obtain ⟨v, hy, hS, h⟩ := h
    have hi' : ops[i]? = some (opAt ops.toList i) := by have := opAt_get (ops := ops.toList) (i := i) (by simpa using hb.1); simpa using this
    simp only [Pl.depth] at hf
    obtain ⟨fuel, rfl⟩ : ∃ m, fuel = m + 1 := ⟨fuel - 1, by omega⟩
    have hr : i ∈ Region.ready .any ops listed := by simpa using ho.1.2
    exact wpAnyF_first hL hi' (Region.noSelect_spec hs) (hQ _ _) fuel listed a w hsz hc (Region.free_spec hi' ho.1.1) hr hy hS
      ((ih _ _ w hb.2 (by simpa using hsz) (closed_set hc hr) h).1 ho.2 fuel (by omega))
  | e i r ih =>
    intro listed a w hb hsz hc h
    simp only [Pl.bounded, Bool.and_eq_true, decide_eq_true_eq] at hb
    have key : i ∈ Region.ready .any ops listed → (!r.isDone || decide (i + 1 = ops.size)) = true → okT ops false r (listed.setIfInBounds i true) = true → ∀ fuel, r.depth ≤ fuel →
        wpOp P ops Q i (fun a' w' => (i + 1 = ops.size ∨ S w') ∧ wpAnyF P .any ops Q S fuel (listed.setIfInBounds i true) a' w') a w := fun hr hd ho =>
      one i r listed a w hb.1 hr hd (fun a' w' h' => (ih _ a' w' hb.2 (by simpa using hsz) (closed_set hc hr) h').1 ho) h
    refine ⟨fun ho fuel hf => ?_, fun ho fuel hf j hj hr => ?_⟩
    · simp only [okT, Bool.and_eq_true, beq_iff_eq] at ho
      simp only [Pl.depth] at hf
      obtain ⟨fuel, rfl⟩ : ∃ m, fuel = m + 1 := ⟨fuel - 1, by omega⟩
      have hr : i ∈ Region.ready .any ops listed := by rw [ho.1.1]; simp
      refine ⟨fun h0 => absurd (ho.1.1 ▸ h0) (by simp), fun j hj => ?_⟩
      rw [ho.1.1, List.mem_singleton] at hj
      subst hj
      exact key hr ho.1.2 ho.2 fuel (by omega)
    · simp only [okT, Bool.and_eq_true] at ho
      simp only [Pl.depth] at hf
      simp only [Pl.alts, List.mem_singleton] at hj
      subst hj
      exact key hr ho.1 ho.2 fuel (by omega)
  | b i ri r ihi ihr =>
    intro listed a w hb hsz hc h
    simp only [Pl.bounded, Bool.and_eq_true, decide_eq_true_eq] at hb
    obtain ⟨h1, h2⟩ := h
    have key : i ∈ Region.ready .any ops listed → (!ri.isDone || decide (i + 1 = ops.size)) = true → okT ops false ri (listed.setIfInBounds i true) = true → ∀ fuel, ri.depth ≤ fuel →
        wpOp P ops Q i (fun a' w' => (i + 1 = ops.size ∨ S w') ∧ wpAnyF P .any ops Q S fuel (listed.setIfInBounds i true) a' w') a w := fun hr hd ho =>
      one i ri listed a w hb.1.1 hr hd (fun a' w' h' => (ihi _ a' w' hb.1.2 (by simpa using hsz) (closed_set hc hr) h').1 ho) h1
    refine ⟨fun ho fuel hf => ?_, fun ho fuel hf j hj hr => ?_⟩
    · simp only [okT, Bool.and_eq_true, beq_iff_eq] at ho
      simp only [Pl.depth] at hf
      obtain ⟨fuel, rfl⟩ : ∃ m, fuel = m + 1 := ⟨fuel - 1, by omega⟩
      refine ⟨fun h0 => absurd (ho.1.1.1 ▸ h0) (by simp), fun j hj => ?_⟩
      have hr := hj
      rw [ho.1.1.1] at hj
      rcases List.mem_cons.1 hj with rfl | hj
      · exact key hr ho.1.1.2 ho.1.2 fuel (by omega)
      · exact (ihr listed a w hb.2 hsz hc h2).2 ho.2 fuel (by omega) j hj hr
    · simp only [okT, Bool.and_eq_true] at ho
      simp only [Pl.depth] at hf
      rcases List.mem_cons.1 hj with rfl | hj
      · exact key hr ho.1.1 ho.1.2 fuel (by omega)
      · exact (ihr listed a w hb.2 hsz hc h2).2 ho.2 fuel (by omega) j hj hr

theorem wp_drawnT {B : Base} {H : HL} {id : Nat} {a : Act} {w : World} (hS : Sh B H w) (p : Pl) (hm : P.follows .mixedOrders = true)
    (hs : (lastIs .any ops && Region.noSelect ops && okT ops false p (Array.replicate ops.size false) && decide (p.depth ≤ ops.size) && p.bounded ops.size) = true)
    (hQ : ∀ d v c a w, Q (.panic c) (Act.put a d v) w → Q (.panic c) a w) (h : wpT P ops Q (Sh B H) (pk ops.toList p) a w.drew) : (Code.region id ops true).wp P Q a w := by
  simp only [Bool.and_eq_true, decide_eq_true_eq] at hs
  exact wp_region_any hm (wpAny_ofF _ _ _ _ ((wpT_sound (S := Sh B H) (lastIs_spec hs.1.1.1.1) hs.1.1.1.2 hQ p _ a _ hs.2 (by simp) closed_none h).1 hs.1.1.2 _ hs.1.2))

theorem wpT_done {K C : Act → World → Prop} {Q' : Exit → Act → World → Prop} {a : Act} {w : World} (hK : ∀ a w, C a w → K a w) (h : C a w) : wpT P ops (Exit.then K Q') S .done a w := hK _ _ h
theorem wpT_doneB {id : Nat} {K C : Act → World → Prop} {Q' : Exit → Act → World → Prop} {a : Act} {w : World} (hK : ∀ a w, C a w → K a w) (h : C a w) : wpT P ops (Exit.inBlock id (Exit.then K Q')) S .done a w := hK _ _ h
theorem wpT_nil {Q : Exit → Act → World → Prop} {a : Act} {w : World} (h : Q .normal a w) : wpT P ops Q S .done a w := h
theorem wpT_U {o : Oper} {v : Value} {rest : PlO} {a : Act} {w : World} (hw : Region.wanted o (yielded ops a.tmps) = true)
    (hy : ∀ w, S w → (execOp a.eval o).run P w = .ok (.value v) w) (hS : S w) (h : wpT P ops Q S rest (a.put o.dst v) w) : wpT P ops Q S (.u o rest) a w := ⟨v, .inl ⟨hw, hy⟩, hS, h⟩
theorem wpT_not {o : Oper} {rest : PlO} {a : Act} {w : World} (hw : Region.wanted o (yielded ops a.tmps) = false)
    (hS : S w) (h : wpT P ops Q S rest (a.put o.dst undef) w) : wpT P ops Q S (.u o rest) a w := ⟨undef, .inr ⟨hw, rfl⟩, hS, h⟩
theorem wpT_ex {o : Oper} {rest : PlO} {a : Act} {w : World}
    (h : wpList P ops (Exit.then (fun a' w' => (rest.isDone = true ∨ S w') ∧ wpT P ops Q S rest a' w') Q) [o] a w) : wpT P ops Q S (.e o rest) a w := h
theorem wpT_br {o : Oper} {ro rest : PlO} {a : Act} {w : World}
    (h : wpList P ops (Exit.then (fun a' w' => (ro.isDone = true ∨ S w') ∧ wpT P ops Q S ro a' w') Q) [o] a w) (h2 : wpT P ops Q S rest a w) : wpT P ops Q S (.b o ro rest) a w := ⟨h, h2⟩
end
end Go.Tk
