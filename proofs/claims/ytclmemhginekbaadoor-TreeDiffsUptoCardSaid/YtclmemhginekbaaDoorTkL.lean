/- A loop: what it turns in the frame, by the state that it keeps. -/
import Derived.Test.YtclmemhginekbaaDoorTkH
set_option linter.unusedSectionVars false
set_option linter.unusedSimpArgs false
set_option linter.unusedVariables false
namespace Go.Tk
open Go.RowKit

/-- Slots written over. -/
def setsT (t : Array Value) : List Nat → List Value → Array Value
  | i :: is, v :: vs => setsT (t.setIfInBounds i v) is vs
  | _, _ => t
def junkT (t : Array Value) (J : Nat → Value) : List Nat → Array Value
  | i :: is => junkT (t.setIfInBounds i (J i)) J is
  | [] => t

/-- A frame behind a round, by the frame ahead of the loop. -/
def Frm (a0 : Act) (sig junk : List Nat) (vs : List Value) (J : Nat → Value) : Act := ⟨junkT (setsT a0.tmps sig vs) J junk, a0.defers⟩

theorem junkT_get (J : Nat → Value) (k : Nat) : ∀ (is : List Nat) (t : Array Value), (junkT t J is)[k]? = if k ∈ is ∧ k < t.size then some (J k) else t[k]?
  | [], t => by simp [junkT]
  | i :: is, t => by
    rw [junkT, junkT_get J k is, Array.size_setIfInBounds, Array.getElem?_setIfInBounds]
    by_cases h1 : k ∈ is <;> by_cases h2 : k < t.size <;> by_cases h3 : i = k
    all_goals first | subst h3 | skip
    all_goals simp_all
    all_goals (try intro h; exact absurd h.symm h3)
theorem setsT_map (f : Nat → Value) : ∀ (is : List Nat) (t : Array Value), setsT t is (is.map f) = junkT t f is
  | [], t => rfl
  | i :: is, t => by simp only [List.map_cons, setsT, junkT]; exact setsT_map f is _
theorem junkT_append (f : Nat → Value) : ∀ (is js : List Nat) (t : Array Value), junkT (junkT t f is) f js = junkT t f (is ++ js)
  | [], js, t => rfl
  | i :: is, js, t => by simp only [List.cons_append, junkT]; exact junkT_append f is js _
def blankT (t : Array Value) (is : List Nat) : Array Value := junkT t (fun _ => undef) is

theorem frm_of {a0 a : Act} {sig junk : List Nat} {vs : List Value} (hv : vs = sig.map fun i => a.tmps.getD i undef) (hb : blankT a.tmps (sig ++ junk) = blankT a0.tmps (sig ++ junk)) (hd : a.defers = a0.defers) :
    a = Frm a0 sig junk vs (fun i => a.tmps.getD i undef) := by
  subst hv
  cases a with
  | mk t d =>
    unfold Frm
    rw [setsT_map, junkT_append]
    simp only at hd
    subst hd
    congr 1
    apply Array.ext_getElem?
    intro k
    rw [junkT_get]
    have hk := congrArg (fun x => x[k]?) hb
    simp only [blankT, junkT_get] at hk
    have hs : t.size = a0.tmps.size := by
      have e1 : ∀ (is : List Nat) (t : Array Value), (blankT t is).size = t.size := by
        intro is
        induction is with
        | nil => intro t; rfl
        | cons i is ih => intro t; unfold blankT at ih ⊢; rw [junkT, ih]; simp
      have := congrArg Array.size hb
      rwa [e1, e1] at this
    by_cases h1 : k ∈ sig ++ junk <;> by_cases h2 : k < t.size
    · rw [if_pos ⟨h1, hs ▸ h2⟩]; simp [Array.getD, h2]
    · rw [if_neg (by rw [← hs]; exact fun h => h2 h.2)]; simp at h2 ⊢; rw [Array.getElem?_eq_none h2, Array.getElem?_eq_none (by omega)]
    · rw [if_neg (fun h => h1 h.1), if_neg (fun h => h1 h.1)] at hk
      rw [if_neg (fun h => h1 h.1), hk]
    · rw [if_neg (fun h => h1 h.1), if_neg (fun h => h1 h.1)] at hk
      rw [if_neg (fun h => h1 h.1), hk]

/-- A round's end. -/
def RoundEnd {σ : Type} (a0 : Act) (sig junk : List Nat) (enc : σ → List Value) (I : σ → World → Prop) (less : σ → Prop) (a : Act) (w : World) : Prop :=
  ∃ s, I s w ∧ less s ∧ enc s = (sig.map fun i => a.tmps.getD i undef) ∧ blankT a.tmps (sig ++ junk) = blankT a0.tmps (sig ++ junk) ∧ a.defers = a0.defers

theorem exists_least {p : Nat → Prop} : ∀ n, p n → ∃ n, p n ∧ ∀ m, p m → n ≤ m := by
  intro n
  induction n using Nat.strongRecOn with
  | _ n ih =>
    intro hn
    by_cases h : ∃ m, m < n ∧ p m
    · obtain ⟨m, hm, hp⟩ := h
      exact ih m hm hp
    · exact ⟨n, hn, fun m hp => Nat.le_of_not_lt fun hlt => h ⟨m, hlt, hp⟩⟩
open Classical in
noncomputable def least (p : Nat → Prop) : Nat := if h : ∃ n, p n then Classical.choose (exists_least h.choose h.choose_spec) else 0
theorem least_le {p : Nat → Prop} {n : Nat} (h : p n) : least p ≤ n := by
  have h' : ∃ n, p n := ⟨n, h⟩
  unfold least
  rw [dif_pos h']
  exact (Classical.choose_spec (exists_least h'.choose h'.choose_spec)).2 n h
theorem least_holds {p : Nat → Prop} {n : Nat} (h : p n) : p (least p) := by
  have h' : ∃ n, p n := ⟨n, h⟩
  unfold least
  rw [dif_pos h']
  exact (Classical.choose_spec (exists_least h'.choose h'.choose_spec)).1

theorem wp_loopS {P : Program} {c : Code} {Q : Exit → Act → World → Prop} {a0 : Act} {w0 : World} {σ : Type} (sig junk : List Nat) (enc : σ → List Value) (I : σ → World → Prop) (μ : σ → Nat) (s0 : σ)
    (h0 : enc s0 = sig.map fun i => a0.tmps.getD i undef) (hI : I s0 w0)
    (round : ∀ s J w, I s w → c.wp P (Exit.then (RoundEnd a0 sig junk enc I (fun s' => μ s' < μ s)) Q) (Frm a0 sig junk (enc s) J) w) : (Code.loop c).wp P Q a0 w0 := by
  refine wp_loop (fun a w => ∃ s J, I s w ∧ a = Frm a0 sig junk (enc s) J) (fun a w => least fun n => ∃ s J, I s w ∧ a = Frm a0 sig junk (enc s) J ∧ n = μ s) ⟨s0, _, hI, frm_of h0 rfl rfl⟩ ?_
  rintro a w ⟨s1, J1, h1, h2⟩
  obtain ⟨s, J, hI, ha, hm⟩ := least_holds (p := fun n => ∃ s J, I s w ∧ a = Frm a0 sig junk (enc s) J ∧ n = μ s) ⟨s1, J1, h1, h2, rfl⟩
  rw [hm]
  subst ha
  refine Code.wp_mono ?_ (round s J w hI)
  intro e a' w' h
  cases e <;> try exact h
  obtain ⟨s', hI', hl, hv, hb, hd⟩ := h
  have ha' := frm_of hv hb hd
  refine ⟨⟨s', _, hI', ha'⟩, Nat.lt_of_le_of_lt (least_le ⟨s', _, hI', ha', rfl⟩) hl⟩

theorem OwnSl.nothing {α : Type} {E : Enc α} : OwnSl E none [] [] 0 := ⟨fun _ => ⟨rfl, rfl, rfl⟩, (fun _ h => nomatch h), (by simp), Nat.zero_le _⟩
theorem wrap_succ {i n : Nat} (h : i < n) (hn : n ≤ 9223372036854775807) : wrap64 ((i : Int) + 1) = ((i + 1 : Nat) : Int) := by unfold wrap64; omega
/-- A piece among the others. -/
class HasIn (H C : HL) : Prop where out : ∀ p, p ∈ C → p ∈ H
instance (priority := 2000) HasIn.hd {C R : HL} : HasIn (C ++ R) C := ⟨fun _ h => List.mem_append_left _ h⟩
instance (priority := 500) HasIn.tl {d R C : HL} [h : HasIn R C] : HasIn (d ++ R) C := ⟨fun p hp => List.mem_append_right _ (h.out p hp)⟩
theorem Sh.ldIn {B : Base} {H : HL} {w : World} (C : HL) [h : HasIn H C] (hS : Sh B H w) {b off T : Nat} {l : List Value} {v : Value} (hm : (b, Obj.cells l.toArray T) ∈ C) (hv : l[off]? = some v) : w.cell? ⟨b, off, none⟩ = some v := by
  have := hS.own _ (h.out _ hm)
  simp [World.cell?, this, hv]
theorem Sh.rangeIn {B : Base} {H : HL} {w : World} (C : HL) [h : HasIn H C] (hS : Sh B H w) {b T : Nat} {l : List Value} (hm : (b, Obj.cells l.toArray T) ∈ C) (off n : Nat) : w.rangeAt b off ((l.drop off).take n) := by
  intro j v hv
  refine hS.ldIn C hm ?_
  rw [List.getElem?_take] at hv
  split at hv
  · rwa [List.getElem?_drop] at hv
  · cases hv
/-- Pieces in another order, some dropped. -/
class HasC (H c : HL) (R : outParam HL) : Prop where out : PickL H c R
instance (priority := 2000) HasC.hd {c R : HL} : HasC (c ++ R) c R := ⟨PickL.hd⟩
instance (priority := 500) HasC.tl {d R c R' : HL} [h : HasC R c R'] : HasC (d ++ R) c (d ++ R') := ⟨PickL.tl h.out⟩
class Sup (H H' : HL) : Prop where out : ∀ (B : Base) (w : World), Sh B H w → Sh B H' w
instance (priority := 3000) Sup.self {H : HL} : Sup H H := ⟨fun _ _ h => h⟩
instance (priority := 2500) Sup.nil {H : HL} : Sup H [] := ⟨fun _ _ h => h.sub (List.nil_sublist _)⟩
theorem Sh.under {B : Base} {c R H' : HL} {w : World} (h : Sh B (c ++ R) w) (f : ∀ (B : Base) (w : World), Sh B R w → Sh B H' w) : Sh B (c ++ H') w := h.pop (f _ _ h.push)
instance (priority := 1000) Sup.cons {H c R H' : HL} [hc : HasC H c R] [hs : Sup R H'] : Sup H (c ++ H') := ⟨fun _ _ h => (h.pick hc.out).under hs.out⟩
instance (priority := 500) Sup.drop {d R H' : HL} [hs : Sup R H'] : Sup (d ++ R) H' := ⟨fun _ _ h => hs.out _ _ h.drop⟩
theorem Sh.to {B : Base} {H H' : HL} {w : World} (h : Sh B H w) [s : Sup H H'] : Sh B H' w := s.out _ _ h
end Go.Tk
