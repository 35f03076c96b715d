/- What Apply answers, plain; the document's way and the program's meet; slices.IndexFunc and slices.DeleteFunc over entries; place; Apply's closure; tree.Apply; The changes between two trees lead from the one to the other, plain. -/
import Derived.Test.YtclmemhginekbaaDoorG2be3b0
import Derived.Test.YtclmemhginekbaaDoorGd91d94
set_option linter.unusedSectionVars false
set_option linter.unusedSimpArgs false
set_option linter.unusedVariables false
namespace Go.Tk
open Go.RowKit Go.Proofs
def srt : List En → List En
  | [] => []
  | e :: r => mergeE [e] (srt r)
theorem srt_perm : ∀ t : List En, (srt t).Perm t
  | [] => .refl _
  | e :: r => (mergeE_perm [e] (srt r)).trans ((srt_perm r).cons e)
theorem srt_sorted : ∀ t : List En, (∀ e ∈ t, okP e.path = true) → (srt t).Pairwise fun x y => 0 ≤ lessI y.path x.path
  | [], _ => .nil
  | e :: r, h => mergeE_sorted [e] (srt r) (fun x hx => by rw [List.mem_singleton.1 hx]; exact h e (by simp)) (fun x hx => h x (List.mem_cons_of_mem _ ((srt_perm r).subset hx))) (List.pairwise_singleton ..) (srt_sorted r fun x hx => h x (List.mem_cons_of_mem _ hx))
def sideI (e : En) (p : ByteArray) : Bool := decide (e = zE) || (decide (e.path = p) && mayB e)
def chOk (c : Ch) : Bool := !(decide (c.old = zE) && decide (c.new = zE)) && (sideI c.old c.path && sideI c.new c.path)
def befE (p : Option ByteArray) (q : ByteArray) : Bool := match p with | none => true | some a => decide (lessI a q < 0)
def chsG : Option ByteArray → List Ch → Bool
  | _, [] => true
  | p, c :: r => chOk c && (befE p c.path && chsG (some c.path) r)
theorem chsG_cons (p : Option ByteArray) (c : Ch) (r : List Ch) : chsG p (c :: r) = (chOk c && (befE p c.path && chsG (some c.path) r)) := by cases p <;> rfl
def standE (t : List En) (p : ByteArray) : En := match t.find? (fun e => decide (e.path = p)) with | some e => e | none => zE
def standsB (t : List En) (l : List Ch) : Bool := l.all fun c => decide (standE t c.path = c.old)
def inL (l : List Ch) (p : ByteArray) : Bool := l.any fun c => decide (c.path = p)
def newsL (l : List Ch) : List En := (l.map Ch.new).filter fun e => !decide (e = zE)
def applied (t : List En) (l : List Ch) : List En := (t.filter fun e => !inL l e.path) ++ newsL l
/-- What Apply answers. -/
def applyR (t : List En) (l : List Ch) : List En × Int :=
  if (checkA t).2 = 0 then (if chsG none l = true then (if standsB t l = true then (if (checkA (srt (applied t l))).2 = 0 then (srt (applied t l), 0) else ([], (checkA (srt (applied t l))).2)) else ([], 8)) else ([], 1)) else ([], (checkA t).2)
/-- Distinct paths of changes. -/
def DistC (l : List Ch) : Prop := l.Pairwise fun x y => ¬ x.path = y.path
theorem sideI_may {e : En} {p : ByteArray} (h : sideI e p = true) (hz : ¬ e = zE) : e.path = p ∧ mayB e = true := by
  unfold sideI at h
  simpa [hz] using h
theorem chOk_ok {c : Ch} (h : chOk c = true) : okP c.path = true ∧ sideI c.old c.path = true ∧ sideI c.new c.path = true := by
  unfold chOk at h
  simp only [Bool.and_eq_true, Bool.not_eq_true', Bool.and_eq_false_iff, decide_eq_false_iff_not] at h
  refine ⟨?_, h.2.1, h.2.2⟩
  rcases h.1 with h1 | h1
  · have := sideI_may h.2.1 h1
    rw [← this.1]; exact (mayB_ok this.2).1
  · have := sideI_may h.2.2 h1
    rw [← this.1]; exact (mayB_ok this.2).1
theorem chsG_all : ∀ (l : List Ch) (p : Option ByteArray), chsG p l = true → (∀ q, p = some q → okP q = true) → (∀ c ∈ l, chOk c = true) ∧ l.Pairwise (fun x y => lessI x.path y.path < 0) ∧ ∀ q, p = some q → ∀ c ∈ l, lessI q c.path < 0
  | [], _, _, _ => ⟨(fun _ h => nomatch h), .nil, (fun _ _ _ h => nomatch h)⟩
  | c :: r, p, h, hp => by
    rw [chsG_cons, Bool.and_eq_true, Bool.and_eq_true] at h
    have hc := chOk_ok h.1
    obtain ⟨h1, h2, h3⟩ := chsG_all r (some c.path) h.2.2 (fun q hq => by cases hq; exact hc.1)
    refine ⟨fun x hx => ?_, List.pairwise_cons.2 ⟨fun x hx => h3 _ rfl x hx, h2⟩, fun q hq x hx => ?_⟩
    · rcases List.mem_cons.1 hx with rfl | hx
      · exact h.1
      · exact h1 x hx
    · subst hq
      have h4 : lessI q c.path < 0 := of_decide_eq_true h.2.1
      rcases List.mem_cons.1 hx with rfl | hx
      · exact h4
      · exact lessI_trans (hp q rfl) hc.1 (chOk_ok (h1 x hx)).1 h4 (h3 _ rfl x hx)
theorem chsG_dist {l : List Ch} (h : chsG none l = true) : DistC l :=
  (chsG_all l none h (fun _ h => nomatch h)).2.1.imp fun {x y} h e => by rw [e, lessI_self] at h; omega
theorem inL_iff {l : List Ch} {p : ByteArray} : inL l p = true ↔ ∃ c ∈ l, c.path = p := by
  unfold inL
  rw [List.any_eq_true]
  simp only [decide_eq_true_eq]
theorem newsL_mem {l : List Ch} (h : ∀ c ∈ l, chOk c = true) {e : En} (he : e ∈ newsL l) : mayB e = true ∧ ∃ c ∈ l, c.new = e ∧ c.path = e.path := by
  unfold newsL at he
  rw [List.mem_filter, List.mem_map] at he
  obtain ⟨⟨c, hc, rfl⟩, hz⟩ := he
  have hz' : ¬ c.new = zE := by simpa using hz
  have := sideI_may (chOk_ok (h c hc)).2.2 hz'
  exact ⟨this.2, c, hc, rfl, this.1.symm⟩
theorem applied_ok {t : List En} {l : List Ch} (ht : ∀ e ∈ t, mayB e = true) (hd : Dist t) (h : chsG none l = true) : (∀ e ∈ applied t l, mayB e = true) ∧ Dist (applied t l) := by
  have hall := (chsG_all l none h (fun _ h => nomatch h)).1
  have hdl := chsG_dist h
  refine ⟨fun e he => ?_, ?_⟩
  · rcases List.mem_append.1 he with h1 | h1
    · exact ht e (List.mem_filter.1 h1).1
    · exact (newsL_mem hall h1).1
  · unfold Dist applied
    rw [List.pairwise_append]
    refine ⟨hd.filter _, ?_, fun x hx y hy he => ?_⟩
    · have : (l.map Ch.new).Pairwise fun x y => x = zE ∨ y = zE ∨ ¬ x.path = y.path := by
        rw [List.pairwise_map]
        refine List.Pairwise.imp_of_mem (fun {a b} ha hb hab => ?_) hdl
        by_cases h1 : a.new = zE
        · exact .inl h1
        by_cases h2 : b.new = zE
        · exact .inr (.inl h2)
        rw [(sideI_may (chOk_ok (hall a ha)).2.2 h1).1, (sideI_may (chOk_ok (hall b hb)).2.2 h2).1]
        exact .inr (.inr hab)
      refine List.Pairwise.imp_of_mem (fun {a b} ha hb hab => ?_) (this.filter _)
      have h1 : ¬ a = zE := by have := (List.mem_filter.1 ha).2; simpa using this
      have h2 : ¬ b = zE := by have := (List.mem_filter.1 hb).2; simpa using this
      rcases hab with h | h | h
      · exact absurd h h1
      · exact absurd h h2
      · exact h
    · obtain ⟨_, c, hc, h2, h3⟩ := newsL_mem hall hy
      have h4 := (List.mem_filter.1 hx).2
      have : inL l x.path = true := inL_iff.2 ⟨c, hc, by rw [h3, he]⟩
      rw [this] at h4; cases h4
/-- The document's way: in its place, or behind. -/
def refStep (t : List En) (out : List En) (c : Ch) : List En := match t.findIdx? (fun e => decide (e.path = c.path)) with | some k => out.set k c.new | none => out ++ [c.new]
def repl (l : List Ch) (e : En) : En := match l.find? (fun c => decide (c.path = e.path)) with | some c => c.new | none => e
def outs (t : List En) (l : List Ch) : List En := t.map (repl l) ++ (l.filter fun c => !t.any fun e => decide (e.path = c.path)).map Ch.new
theorem repl_snoc {l : List Ch} {c : Ch} {e : En} : repl (l ++ [c]) e = match l.find? (fun c => decide (c.path = e.path)) with | some c => c.new | none => if c.path = e.path then c.new else e := by
  unfold repl
  rw [List.find?_append]
  cases l.find? (fun c => decide (c.path = e.path)) with
  | some x => rfl
  | none => by_cases h : c.path = e.path <;> simp [h]
theorem refStep_outs {t : List En} (hd : Dist t) {l : List Ch} {c : Ch} (hc : ∀ x ∈ l, ¬ x.path = c.path) : refStep t (outs t l) c = outs t (l ++ [c]) := by
  unfold refStep outs
  cases hk : t.findIdx? (fun e => decide (e.path = c.path)) with
  | none =>
    rw [List.findIdx?_eq_none_iff] at hk
    have h1 : (t.any fun e => decide (e.path = c.path)) = false := by rw [List.any_eq_false]; intro e he; simpa using hk e he
    have h2 : t.map (repl (l ++ [c])) = t.map (repl l) := by
      refine List.map_congr_left fun e he => ?_
      rw [repl_snoc]
      have : ¬ c.path = e.path := fun h => by have := hk e he; simp [h] at this
      unfold repl
      cases l.find? (fun c => decide (c.path = e.path)) with
      | some x => rfl
      | none => simp [this]
    dsimp only
    rw [h2, List.filter_append, List.map_append, List.append_assoc]
    simp [h1]
  | some k =>
    rw [List.findIdx?_eq_some_iff_getElem] at hk
    obtain ⟨hlt, hp, _⟩ := hk
    have hp' : t[k].path = c.path := by simpa using hp
    have h1 : (t.any fun e => decide (e.path = c.path)) = true := List.any_eq_true.2 ⟨t[k], List.getElem_mem _, hp⟩
    have h2 : (t.map (repl l)).set k c.new = t.map (repl (l ++ [c])) := by
      apply List.ext_getElem (by simp)
      intro j hj1 hj2
      have hj : j < t.length := by simpa using hj2
      rw [List.getElem_set, List.getElem_map, List.getElem_map, repl_snoc]
      by_cases hjk : k = j
      · subst hjk
        have : l.find? (fun x => decide (x.path = t[k].path)) = none := List.find?_eq_none.2 fun x hx => by rw [hp']; simpa using hc x hx
        rw [if_pos rfl, this, if_pos hp'.symm]
      · rw [if_neg hjk]
        have hne : ¬ c.path = t[j].path := fun h => by
          have := hd.inj (List.getElem_mem hlt) (List.getElem_mem hj) (hp'.trans h)
          have h3 := List.pairwise_iff_getElem.1 hd
          rcases Nat.lt_or_gt_of_ne hjk with h4 | h4
          · exact h3 k j hlt hj h4 (by rw [this])
          · exact h3 j k hj hlt h4 (by rw [this])
        unfold repl
        cases l.find? (fun c => decide (c.path = t[j].path)) with
        | some x => rfl
        | none => simp [hne]
    dsimp only
    rw [← h2, List.filter_append]
    have h3 : ([c].filter fun c => !t.any fun e => decide (e.path = c.path)) = [] := by simp [h1]
    rw [h3, List.append_nil, List.set_append_left _ _ (by simpa using hlt)]
theorem foldR_outs {t : List En} (hd : Dist t) : ∀ (r l : List Ch), DistC (l ++ r) → r.foldl (refStep t) (outs t l) = outs t (l ++ r)
  | [], l, _ => by rw [List.append_nil]; rfl
  | c :: r, l, h => by
    have h1 : ∀ x ∈ l, ¬ x.path = c.path := fun x hx => (List.pairwise_append.1 h).2.2 x hx c (by simp)
    rw [List.foldl_cons, refStep_outs hd h1, foldR_outs hd r (l ++ [c]) (by rw [List.append_assoc]; exact h), List.append_assoc]
    rfl
theorem outs_nil (t : List En) : outs t [] = t := by
  unfold outs
  rw [show repl [] = id from funext fun e => rfl]
  simp
def newOf (l : List Ch) (p : ByteArray) : En := match l.find? (fun c => decide (c.path = p)) with | some c => c.new | none => zE
theorem newOf_of : ∀ {l : List Ch}, DistC l → ∀ {c : Ch}, c ∈ l → newOf l c.path = c.new
  | [], _, _, h => nomatch h
  | a :: l, hd, c, hc => by
    unfold newOf
    rw [List.find?_cons]
    have hd' := List.pairwise_cons.1 hd
    rcases List.mem_cons.1 hc with rfl | hc
    · simp
    · have : ¬ a.path = c.path := hd'.1 c hc
      simp only [this, decide_false]
      exact newOf_of hd'.2 hc
theorem filter_split {α : Type} (p : α → Bool) : ∀ (l : List α), l.Perm ((l.filter fun x => !p x) ++ l.filter p)
  | [] => .refl _
  | a :: l => by
    cases h : p a
    · simp only [List.filter_cons, h, Bool.not_false, if_true]
      exact (filter_split p l).cons a
    · simp only [List.filter_cons, h, Bool.not_true, if_true]
      exact ((filter_split p l).cons a).trans List.perm_middle.symm
theorem outs_perm {t : List En} (ht : ∀ e ∈ t, mayB e = true) (hd : Dist t) {l : List Ch} (hl : DistC l) : ((outs t l).filter fun e => !decide (e = zE)).Perm (applied t l) := by
  have hs := filter_split (fun e : En => inL l e.path) t
  have hc := filter_split (fun c : Ch => t.any fun e => decide (e.path = c.path)) l
  have h1 : ((t.filter fun e => !inL l e.path).map (repl l)) = t.filter fun e => !inL l e.path := by
    conv => rhs; rw [← List.map_id (t.filter fun e => !inL l e.path)]
    refine List.map_congr_left fun e he => ?_
    have h2 := (List.mem_filter.1 he).2
    unfold repl
    rw [List.find?_eq_none.2 (fun c hc2 => by
      intro h3
      have : inL l e.path = true := inL_iff.2 ⟨c, hc2, by simpa using h3⟩
      rw [this] at h2; cases h2)]
    rfl
  have h2 : ((t.filter fun e => inL l e.path).map (repl l)) = ((t.filter fun e => inL l e.path).map En.path).map (newOf l) := by
    rw [List.map_map]
    refine List.map_congr_left fun e he => ?_
    have h3 := (List.mem_filter.1 he).2
    obtain ⟨c, hc2, h4⟩ := inL_iff.1 h3
    unfold repl newOf
    show _ = (match l.find? (fun c => decide (c.path = e.path)) with | some c => c.new | none => zE)
    cases h5 : l.find? (fun c => decide (c.path = e.path)) with
    | some x => rfl
    | none => exact absurd (by simpa using h4) (List.find?_eq_none.1 h5 c hc2)
  have h3 : ((l.filter fun c => t.any fun e => decide (e.path = c.path)).map Ch.new) = ((l.filter fun c => t.any fun e => decide (e.path = c.path)).map Ch.path).map (newOf l) := by
    rw [List.map_map]
    refine List.map_congr_left fun c hc2 => ?_
    exact (newOf_of hl (List.mem_filter.1 hc2).1).symm
  have h4 : ((t.filter fun e => inL l e.path).map En.path).Perm ((l.filter fun c => t.any fun e => decide (e.path = c.path)).map Ch.path) := by
    refine perm_of_nodup ?_ ?_ fun p => ?_
    · exact List.pairwise_map.2 (hd.filter _)
    · exact List.pairwise_map.2 (hl.filter _)
    · simp only [List.mem_map, List.mem_filter, inL_iff, List.any_eq_true, decide_eq_true_eq]
      constructor
      · rintro ⟨e, ⟨he, c, hc2, h5⟩, rfl⟩
        exact ⟨c, ⟨hc2, e, he, h5.symm⟩, h5⟩
      · rintro ⟨c, ⟨hc2, e, he, h5⟩, rfl⟩
        exact ⟨e, ⟨he, c, hc2, h5.symm⟩, h5⟩
  have h5 : (outs t l).Perm ((t.filter fun e => !inL l e.path) ++ l.map Ch.new) := by
    unfold outs
    have a1 := hs.map (repl l)
    rw [List.map_append, h1, h2] at a1
    have a2 := (h4.map (newOf l))
    rw [← h3] at a2
    have a3 := hc.map Ch.new
    rw [List.map_append] at a3
    refine (List.Perm.append a1 (.refl _)).trans ?_
    rw [List.append_assoc]
    refine List.Perm.append (.refl _) ?_
    refine (List.Perm.append a2 (.refl _)).trans ?_
    exact List.perm_append_comm.trans a3.symm
  have h6 := h5.filter fun e => !decide (e = zE)
  have h7 : (t.filter fun e => !inL l e.path).filter (fun e => !decide (e = zE)) = t.filter fun e => !inL l e.path := List.filter_eq_self.2 fun e he => by
    have := mayB_zE (ht e (List.mem_filter.1 he).1)
    simpa using this
  rw [List.filter_append, h7] at h6
  exact h6
/-- Sorted, of these entries: there is just one such row. -/
theorem sorted_applied {t : List En} {l : List Ch} (ht : ∀ e ∈ t, mayB e = true) (hd : Dist t) (h : chsG none l = true) {ys : List En} (hp : ys.Perm (applied t l)) (hs : ys.Pairwise fun x y => 0 ≤ lessI y.path x.path) : ys = srt (applied t l) := by
  obtain ⟨h1, h2⟩ := applied_ok ht hd h
  have h3 : ∀ e ∈ srt (applied t l), okP e.path = true := fun e he => (mayB_ok (h1 e ((srt_perm _).subset he))).1
  exact sorted_uniq (hp.trans (srt_perm _).symm) hs (srt_sorted _ fun e he => (mayB_ok (h1 e he)).1) h3 (h2.perm (srt_perm _))
end Go.Tk

set_option linter.unusedSectionVars false
set_option linter.unusedSimpArgs false
set_option linter.unusedVariables false
namespace Go.Tk
open Go.RowKit Go.Proofs
/-- A function value that tells of an entry, over what stays. -/
structure PredC (B : Base) (R : HL) (g : Nat) (lb : Array Value) (pr : En → Bool) (ok : En → Prop) : Prop where
  enter : ∀ ar w, (callFunc g ar).run Tryd.prog w = .ok (.enter g ar) w
  call : ∀ (x : En) (H : HL) (w : World), ok x → (∃ d, H = d ++ R) → Sh B H w → Calls Tryd.prog g ([Value.agg x.cells.toArray].toArray ++ lb) w fun e w' => e = .returned (.bool (pr x)) ∧ Sh B H w'
def idxI (t : List En) (pr : En → Bool) : Int := match t.findIdx? pr with | some i => (i : Int) | none => -1
theorem idxI_at {t : List En} {pr : En → Bool} {i : Nat} {e : En} (h : ∀ j e, t[j]? = some e → j < i → pr e = false) (he : t[i]? = some e) (hp : pr e = true) : t.findIdx? pr = some i := by
  rw [List.findIdx?_eq_some_iff_getElem]
  obtain ⟨hi, hx⟩ := List.getElem?_eq_some_iff.1 he
  refine ⟨hi, by rw [hx]; exact hp, fun j hj => ?_⟩
  have := h j t[j] (List.getElem?_eq_getElem (by omega)) hj
  rw [this]; decide
theorem idxI_no {t : List En} {pr : En → Bool} (h : ∀ e ∈ t, pr e = false) : t.findIdx? pr = none := by
  rw [List.findIdx?_eq_none_iff]; intro e he; rw [h e he]
section
variable {B : Base} {R H H1 : HL} {w w' : World}
def IxI (B : Base) (H : HL) (t : List En) (pr : En → Bool) (i : Nat) (w : World) : Prop := i ≤ t.length ∧ (∀ j e, t[j]? = some e → j < i → pr e = false) ∧ Sh B H w
set_option maxRecDepth 100000 in
set_option maxHeartbeats 1600000 in
theorem IdxF_any {g : Nat} {lb : Array Value} {pr : En → Bool} {ok : En → Prop} (hp : PredC B R g lb pr ok) (hd : ∃ d, H = d ++ R) (hS : Sh B H w) {A : Option Addr} {cap : Nat} {t : List En} [r : RdAt enE B H A t] (hl : t.length ≤ 16777216) (hok : ∀ e ∈ t, ok e := by intros; trivial) :
    Calls Tryd.prog 66 #[.slice A t.length cap, .func (.func g) #[] lb] w fun e w' => e = .returned (.int .i64 (idxI t pr)) ∧ Sh B H w' := by
  have hE := hp.enter
  have hc := fun (x : En) (hx : ok x) (w : World) (hS : Sh B H w) => hp.call x H w hx hd hS
  have Hok := Lib.hid hok
  clear hp hd hok
  go_enter Tryd.func66, Tryd.ntmps66
  go_wp2_with (first | (refine wl_isld rfl ?_; ((first | refine wl_value rfl (ex_l0 hS rfl rfl rfl CellAt.out) ?_ | refine wl_value rfl (ex_lf hS rfl rfl rfl CellAt.out) ?_ | refine wl_value rfl (ex_l1 hS rfl rfl rfl CellAt.out) ?_ | refine wl_value rfl (ex_ldC hS rfl rfl CellAt.out) ?_ | refine wl_value rfl (ex_l0 hS rfl rfl rfl rfl) ?_ | refine wl_value rfl (ex_lf hS rfl rfl rfl rfl) ?_ | refine wl_value rfl (ex_l1 hS rfl rfl rfl rfl) ?_ | refine wl_value rfl (ex_ldC hS rfl rfl rfl) ?_ | refine wl_value rfl (ex_l00 hS rfl rfl CellAt.out) ?_ | refine wl_value rfl (ex_l00 hS rfl rfl rfl) ?_ | refine wl_value rfl (ex_l0f hS rfl rfl CellAt.out) ?_ | refine wl_value rfl (ex_l0f hS rfl rfl rfl) ?_ | refine wl_value rfl (ex_lr hS rfl rfl rfl rfl) ?_ | refine wl_value rfl (ex_lr0 hS rfl rfl rfl) ?_ | refine wl_value rfl (ex_lrz hS rfl rfl rfl) ?_ | refine wl_value rfl (ex_lrf hS rfl rfl rfl) ?_ | refine wl_value rfl (ex_ldrC hS rfl rfl) ?_ | refine wl_value rfl (ex_ldr0 hS rfl rfl rfl) ?_); (try simp only [Act.put, List.setIfInBounds_toArray, List.set_cons_zero, List.set_cons_succ]))) | ((first | refine wl_value rfl (ex_ix hS rfl rfl rfl ?_) ?_); (focus (first | rfl | omega | (simp; done))); (try simp only [Act.put, List.setIfInBounds_toArray, List.set_cons_zero, List.set_cons_succ])) | ((first | refine wl_value rfl (ex_eqA rfl rfl rfl) ?_ | refine wl_value rfl (ex_neA rfl rfl rfl) ?_); (try simp only [Act.put, List.setIfInBounds_toArray, List.set_cons_zero, List.set_cons_succ])) | (refine wl_alloc rfl rfl hS ?_; intro _ _ hS; (try simp only [Act.put, List.setIfInBounds_toArray, List.set_cons_zero, List.set_cons_succ])) | (refine wl_box rfl rfl rfl rfl hS ?_; intro _ _ hS; (try simp only [Act.put, List.setIfInBounds_toArray, List.set_cons_zero, List.set_cons_succ])) | (refine wl_st rfl rfl rfl rfl rfl hS (of_decide_eq_true rfl) ?_; intro _ hS; (try simp only [evT, evC, List.getD_cons_succ, List.getD_cons_zero, List.set_cons_zero, List.set_cons_succ] at hS); (try simp only [List.set_cons_zero, List.set_cons_succ] at hS); (try simp only [Act.put, List.setIfInBounds_toArray, List.set_cons_zero, List.set_cons_succ])) | (refine wl_strC rfl rfl rfl rfl hS rfl rfl ?_; intro _ hS; (try simp only [evT, evC, List.getD_cons_succ, List.getD_cons_zero, List.set_cons_zero, List.set_cons_succ] at hS); (try simp only [Act.put, List.setIfInBounds_toArray, List.set_cons_zero, List.set_cons_succ])))
  have h0 : IxI B H t pr 0 _ := ⟨Nat.zero_le _, fun _ _ _ h => absurd h (Nat.not_lt_zero _), hS⟩
  clear hS
  refine wp_loopS [8] [4, 5, 9, 10, 11, 12, 13, 14, 15, 16, 17, 18] (fun i : Nat => [.int .i64 i]) (IxI B H t pr) (fun i => t.length - i) (0) rfl (h0) ?_
  clear h0
  rintro i J w ⟨hi, hno, hS⟩
  have Hno := Lib.hid hno
  clear hno
  (simp only [Frm, setsT, junkT, List.setIfInBounds_toArray, List.set_cons_zero, List.set_cons_succ])
  by_cases hlt : i < t.length
  · obtain ⟨x, gx⟩ := Nth.of hlt
    have hcx := fun (w : World) (hS : Sh B H w) => hc x (Hok.out x gx.mem) w hS
    cases hx : pr x with
    | true =>
      rw [hx] at hcx
      have Hf := Lib.hid (idxI_at Hno.out gx.get hx)
      clear hx
      go_wp2_with (first | (refine wl_callV hE rfl rfl rfl rfl ?_; refine (hcx _ hS).mono ?_; rintro e' w' ⟨rfl, hS⟩; refine ⟨_, rfl, ?_⟩; (try simp only [Act.put, List.setIfInBounds_toArray, List.set_cons_zero, List.set_cons_succ])) | (refine wl_isld rfl ?_; ((first | refine wl_value rfl (ex_l0 hS rfl rfl rfl CellAt.out) ?_ | refine wl_value rfl (ex_lf hS rfl rfl rfl CellAt.out) ?_ | refine wl_value rfl (ex_l1 hS rfl rfl rfl CellAt.out) ?_ | refine wl_value rfl (ex_ldC hS rfl rfl CellAt.out) ?_ | refine wl_value rfl (ex_l0 hS rfl rfl rfl rfl) ?_ | refine wl_value rfl (ex_lf hS rfl rfl rfl rfl) ?_ | refine wl_value rfl (ex_l1 hS rfl rfl rfl rfl) ?_ | refine wl_value rfl (ex_ldC hS rfl rfl rfl) ?_ | refine wl_value rfl (ex_l00 hS rfl rfl CellAt.out) ?_ | refine wl_value rfl (ex_l00 hS rfl rfl rfl) ?_ | refine wl_value rfl (ex_l0f hS rfl rfl CellAt.out) ?_ | refine wl_value rfl (ex_l0f hS rfl rfl rfl) ?_ | refine wl_value rfl (ex_lr hS rfl rfl rfl rfl) ?_ | refine wl_value rfl (ex_lr0 hS rfl rfl rfl) ?_ | refine wl_value rfl (ex_lrz hS rfl rfl rfl) ?_ | refine wl_value rfl (ex_lrf hS rfl rfl rfl) ?_ | refine wl_value rfl (ex_ldrC hS rfl rfl) ?_ | refine wl_value rfl (ex_ldr0 hS rfl rfl rfl) ?_); (try simp only [Act.put, List.setIfInBounds_toArray, List.set_cons_zero, List.set_cons_succ]))) | ((first | refine wl_value rfl (ex_ix hS rfl rfl rfl ?_) ?_); (focus (first | rfl | omega | (simp; done))); (try simp only [Act.put, List.setIfInBounds_toArray, List.set_cons_zero, List.set_cons_succ])) | ((first | refine wl_value rfl (ex_eqA rfl rfl rfl) ?_ | refine wl_value rfl (ex_neA rfl rfl rfl) ?_); (try simp only [Act.put, List.setIfInBounds_toArray, List.set_cons_zero, List.set_cons_succ])) | (refine wl_alloc rfl rfl hS ?_; intro _ _ hS; (try simp only [Act.put, List.setIfInBounds_toArray, List.set_cons_zero, List.set_cons_succ])) | (refine wl_box rfl rfl rfl rfl hS ?_; intro _ _ hS; (try simp only [Act.put, List.setIfInBounds_toArray, List.set_cons_zero, List.set_cons_succ])) | (refine wl_st rfl rfl rfl rfl rfl hS (of_decide_eq_true rfl) ?_; intro _ hS; (try simp only [evT, evC, List.getD_cons_succ, List.getD_cons_zero, List.set_cons_zero, List.set_cons_succ] at hS); (try simp only [List.set_cons_zero, List.set_cons_succ] at hS); (try simp only [Act.put, List.setIfInBounds_toArray, List.set_cons_zero, List.set_cons_succ])) | (refine wl_strC rfl rfl rfl rfl hS rfl rfl ?_; intro _ hS; (try simp only [evT, evC, List.getD_cons_succ, List.getD_cons_zero, List.set_cons_zero, List.set_cons_succ] at hS); (try simp only [Act.put, List.setIfInBounds_toArray, List.set_cons_zero, List.set_cons_succ])))
      go_ret
      exact ⟨by unfold idxI; rw [Hf.out]; rfl, hS⟩
    | false =>
      rw [hx] at hcx
      have Hx := Lib.hid hx
      clear hx
      go_wp2_with (first | (refine wl_callV hE rfl rfl rfl rfl ?_; refine (hcx _ hS).mono ?_; rintro e' w' ⟨rfl, hS⟩; refine ⟨_, rfl, ?_⟩; (try simp only [Act.put, List.setIfInBounds_toArray, List.set_cons_zero, List.set_cons_succ])) | (refine wl_isld rfl ?_; ((first | refine wl_value rfl (ex_l0 hS rfl rfl rfl CellAt.out) ?_ | refine wl_value rfl (ex_lf hS rfl rfl rfl CellAt.out) ?_ | refine wl_value rfl (ex_l1 hS rfl rfl rfl CellAt.out) ?_ | refine wl_value rfl (ex_ldC hS rfl rfl CellAt.out) ?_ | refine wl_value rfl (ex_l0 hS rfl rfl rfl rfl) ?_ | refine wl_value rfl (ex_lf hS rfl rfl rfl rfl) ?_ | refine wl_value rfl (ex_l1 hS rfl rfl rfl rfl) ?_ | refine wl_value rfl (ex_ldC hS rfl rfl rfl) ?_ | refine wl_value rfl (ex_l00 hS rfl rfl CellAt.out) ?_ | refine wl_value rfl (ex_l00 hS rfl rfl rfl) ?_ | refine wl_value rfl (ex_l0f hS rfl rfl CellAt.out) ?_ | refine wl_value rfl (ex_l0f hS rfl rfl rfl) ?_ | refine wl_value rfl (ex_lr hS rfl rfl rfl rfl) ?_ | refine wl_value rfl (ex_lr0 hS rfl rfl rfl) ?_ | refine wl_value rfl (ex_lrz hS rfl rfl rfl) ?_ | refine wl_value rfl (ex_lrf hS rfl rfl rfl) ?_ | refine wl_value rfl (ex_ldrC hS rfl rfl) ?_ | refine wl_value rfl (ex_ldr0 hS rfl rfl rfl) ?_); (try simp only [Act.put, List.setIfInBounds_toArray, List.set_cons_zero, List.set_cons_succ]))) | ((first | refine wl_value rfl (ex_ix hS rfl rfl rfl ?_) ?_); (focus (first | rfl | omega | (simp; done))); (try simp only [Act.put, List.setIfInBounds_toArray, List.set_cons_zero, List.set_cons_succ])) | ((first | refine wl_value rfl (ex_eqA rfl rfl rfl) ?_ | refine wl_value rfl (ex_neA rfl rfl rfl) ?_); (try simp only [Act.put, List.setIfInBounds_toArray, List.set_cons_zero, List.set_cons_succ])) | (refine wl_alloc rfl rfl hS ?_; intro _ _ hS; (try simp only [Act.put, List.setIfInBounds_toArray, List.set_cons_zero, List.set_cons_succ])) | (refine wl_box rfl rfl rfl rfl hS ?_; intro _ _ hS; (try simp only [Act.put, List.setIfInBounds_toArray, List.set_cons_zero, List.set_cons_succ])) | (refine wl_st rfl rfl rfl rfl rfl hS (of_decide_eq_true rfl) ?_; intro _ hS; (try simp only [evT, evC, List.getD_cons_succ, List.getD_cons_zero, List.set_cons_zero, List.set_cons_succ] at hS); (try simp only [List.set_cons_zero, List.set_cons_succ] at hS); (try simp only [Act.put, List.setIfInBounds_toArray, List.set_cons_zero, List.set_cons_succ])) | (refine wl_strC rfl rfl rfl rfl hS rfl rfl ?_; intro _ hS; (try simp only [evT, evC, List.getD_cons_succ, List.getD_cons_zero, List.set_cons_zero, List.set_cons_succ] at hS); (try simp only [Act.put, List.setIfInBounds_toArray, List.set_cons_zero, List.set_cons_succ])))
      (refine ⟨((i + 1 : Nat)), (⟨hlt, fun j y hy hj => by rcases Nat.lt_succ_iff_lt_or_eq.1 hj with h | h; exact Hno.out j y hy h; subst h; rw [gx.get] at hy; cases hy; exact Hx.out, hS⟩), (by (try dsimp only); omega), rfl, (by (simp only [blankT, junkT, List.cons_append, List.nil_append, List.setIfInBounds_toArray, List.set_cons_zero, List.set_cons_succ])), rfl⟩)
  · have Hf := Lib.hid (idxI_no (pr := pr) (t := t) fun e he => by
      obtain ⟨j, hj⟩ := List.getElem?_of_mem he
      exact Hno.out j e hj (by have := (List.getElem?_eq_some_iff.1 hj).1; omega))
    go_wp2_with (first | (refine wl_isld rfl ?_; ((first | refine wl_value rfl (ex_l0 hS rfl rfl rfl CellAt.out) ?_ | refine wl_value rfl (ex_lf hS rfl rfl rfl CellAt.out) ?_ | refine wl_value rfl (ex_l1 hS rfl rfl rfl CellAt.out) ?_ | refine wl_value rfl (ex_ldC hS rfl rfl CellAt.out) ?_ | refine wl_value rfl (ex_l0 hS rfl rfl rfl rfl) ?_ | refine wl_value rfl (ex_lf hS rfl rfl rfl rfl) ?_ | refine wl_value rfl (ex_l1 hS rfl rfl rfl rfl) ?_ | refine wl_value rfl (ex_ldC hS rfl rfl rfl) ?_ | refine wl_value rfl (ex_l00 hS rfl rfl CellAt.out) ?_ | refine wl_value rfl (ex_l00 hS rfl rfl rfl) ?_ | refine wl_value rfl (ex_l0f hS rfl rfl CellAt.out) ?_ | refine wl_value rfl (ex_l0f hS rfl rfl rfl) ?_ | refine wl_value rfl (ex_lr hS rfl rfl rfl rfl) ?_ | refine wl_value rfl (ex_lr0 hS rfl rfl rfl) ?_ | refine wl_value rfl (ex_lrz hS rfl rfl rfl) ?_ | refine wl_value rfl (ex_lrf hS rfl rfl rfl) ?_ | refine wl_value rfl (ex_ldrC hS rfl rfl) ?_ | refine wl_value rfl (ex_ldr0 hS rfl rfl rfl) ?_); (try simp only [Act.put, List.setIfInBounds_toArray, List.set_cons_zero, List.set_cons_succ]))) | ((first | refine wl_value rfl (ex_ix hS rfl rfl rfl ?_) ?_); (focus (first | rfl | omega | (simp; done))); (try simp only [Act.put, List.setIfInBounds_toArray, List.set_cons_zero, List.set_cons_succ])) | ((first | refine wl_value rfl (ex_eqA rfl rfl rfl) ?_ | refine wl_value rfl (ex_neA rfl rfl rfl) ?_); (try simp only [Act.put, List.setIfInBounds_toArray, List.set_cons_zero, List.set_cons_succ])) | (refine wl_alloc rfl rfl hS ?_; intro _ _ hS; (try simp only [Act.put, List.setIfInBounds_toArray, List.set_cons_zero, List.set_cons_succ])) | (refine wl_box rfl rfl rfl rfl hS ?_; intro _ _ hS; (try simp only [Act.put, List.setIfInBounds_toArray, List.set_cons_zero, List.set_cons_succ])) | (refine wl_st rfl rfl rfl rfl rfl hS (of_decide_eq_true rfl) ?_; intro _ hS; (try simp only [evT, evC, List.getD_cons_succ, List.getD_cons_zero, List.set_cons_zero, List.set_cons_succ] at hS); (try simp only [List.set_cons_zero, List.set_cons_succ] at hS); (try simp only [Act.put, List.setIfInBounds_toArray, List.set_cons_zero, List.set_cons_succ])) | (refine wl_strC rfl rfl rfl rfl hS rfl rfl ?_; intro _ hS; (try simp only [evT, evC, List.getD_cons_succ, List.getD_cons_zero, List.set_cons_zero, List.set_cons_succ] at hS); (try simp only [Act.put, List.setIfInBounds_toArray, List.set_cons_zero, List.set_cons_succ])))
    go_ret
    exact ⟨by unfold idxI; rw [Hf.out]; rfl, hS⟩
set_option maxRecDepth 100000 in
theorem place1_any {pb : Nat} {p : ByteArray} : PredC B (cellB pb [.string p] 9 ++ R) 67 #[.pointer (some ⟨pb, 0, none⟩)] (fun e => decide (e.path = p)) (fun _ => True) := by
  refine ⟨EntersC.out (P := Tryd.prog) (f := 67), ?_⟩
  rintro x H w - ⟨d, rfl⟩ hS
  show Calls Tryd.prog 67 #[.agg x.cells.toArray, .pointer (some ⟨pb, 0, none⟩)] w _
  rw [← strEq]
  go_enter Tryd.func67, Tryd.ntmps67
  go_wp2_with (first | (refine wl_box rfl rfl rfl rfl hS ?_; intro xb _ hS; (try simp only [Act.put, List.setIfInBounds_toArray, List.set_cons_zero, List.set_cons_succ])) | (refine wl_isld rfl ?_; ((first | refine wl_value rfl (ex_l0 hS rfl rfl rfl CellAt.out) ?_ | refine wl_value rfl (ex_lf hS rfl rfl rfl CellAt.out) ?_ | refine wl_value rfl (ex_l1 hS rfl rfl rfl CellAt.out) ?_ | refine wl_value rfl (ex_ldC hS rfl rfl CellAt.out) ?_ | refine wl_value rfl (ex_l0 hS rfl rfl rfl rfl) ?_ | refine wl_value rfl (ex_lf hS rfl rfl rfl rfl) ?_ | refine wl_value rfl (ex_l1 hS rfl rfl rfl rfl) ?_ | refine wl_value rfl (ex_ldC hS rfl rfl rfl) ?_ | refine wl_value rfl (ex_l00 hS rfl rfl CellAt.out) ?_ | refine wl_value rfl (ex_l00 hS rfl rfl rfl) ?_ | refine wl_value rfl (ex_l0f hS rfl rfl CellAt.out) ?_ | refine wl_value rfl (ex_l0f hS rfl rfl rfl) ?_ | refine wl_value rfl (ex_lr hS rfl rfl rfl rfl) ?_ | refine wl_value rfl (ex_lr0 hS rfl rfl rfl) ?_ | refine wl_value rfl (ex_lrz hS rfl rfl rfl) ?_ | refine wl_value rfl (ex_lrf hS rfl rfl rfl) ?_ | refine wl_value rfl (ex_ldrC hS rfl rfl) ?_ | refine wl_value rfl (ex_ldr0 hS rfl rfl rfl) ?_); (try simp only [Act.put, List.setIfInBounds_toArray, List.set_cons_zero, List.set_cons_succ]))) | ((first | refine wl_value rfl (ex_ix hS rfl rfl rfl ?_) ?_); (focus (first | rfl | omega | (simp; done))); (try simp only [Act.put, List.setIfInBounds_toArray, List.set_cons_zero, List.set_cons_succ])) | ((first | refine wl_value rfl (ex_eqA rfl rfl rfl) ?_ | refine wl_value rfl (ex_neA rfl rfl rfl) ?_); (try simp only [Act.put, List.setIfInBounds_toArray, List.set_cons_zero, List.set_cons_succ])) | (refine wl_alloc rfl rfl hS ?_; intro _ _ hS; (try simp only [Act.put, List.setIfInBounds_toArray, List.set_cons_zero, List.set_cons_succ])) | (refine wl_box rfl rfl rfl rfl hS ?_; intro _ _ hS; (try simp only [Act.put, List.setIfInBounds_toArray, List.set_cons_zero, List.set_cons_succ])) | (refine wl_st rfl rfl rfl rfl rfl hS (of_decide_eq_true rfl) ?_; intro _ hS; (try simp only [evT, evC, List.getD_cons_succ, List.getD_cons_zero, List.set_cons_zero, List.set_cons_succ] at hS); (try simp only [List.set_cons_zero, List.set_cons_succ] at hS); (try simp only [Act.put, List.setIfInBounds_toArray, List.set_cons_zero, List.set_cons_succ])) | (refine wl_strC rfl rfl rfl rfl hS rfl rfl ?_; intro _ hS; (try simp only [evT, evC, List.getD_cons_succ, List.getD_cons_zero, List.set_cons_zero, List.set_cons_succ] at hS); (try simp only [Act.put, List.setIfInBounds_toArray, List.set_cons_zero, List.set_cons_succ])))
  go_ret
  exact ⟨rfl, hS.to⟩
set_option maxRecDepth 100000 in
theorem Place_any (hS : Sh B R w) {A : Option Addr} {cap : Nat} {t : List En} [r : RdAt enE B R A t] (hl : t.length ≤ 16777216) (p : ByteArray) :
    Calls Tryd.prog 46 #[.slice A t.length cap, .string p] w fun e w' => e = .returned (.int .i64 (findI t p)) ∧ Sh B R w' := by
  have hf := fun (w : World) (pb : Nat) (hS : Sh B (cellB pb [.string p] 9 ++ R) w) (r : RdAt enE B (cellB pb [.string p] 9 ++ R) A t) => IdxF_any (place1_any (pb := pb) (p := p)) ⟨[], rfl⟩ hS (cap := cap) (r := r) hl
  rw [show idxI t (fun e => decide (e.path = p)) = findI t p from rfl] at hf
  go_enter Tryd.func46, Tryd.ntmps46
  go_wp2_with (first | (refine wl_box rfl rfl rfl rfl hS ?_; intro pb _ hS; (try simp only [Act.put, List.setIfInBounds_toArray, List.set_cons_zero, List.set_cons_succ])) | (go_at_call 66; refine ((hf _ _ hS inferInstance)).mono ?_; rintro e w' (⟨rfl, hS⟩)) | (refine wl_isld rfl ?_; ((first | refine wl_value rfl (ex_l0 hS rfl rfl rfl CellAt.out) ?_ | refine wl_value rfl (ex_lf hS rfl rfl rfl CellAt.out) ?_ | refine wl_value rfl (ex_l1 hS rfl rfl rfl CellAt.out) ?_ | refine wl_value rfl (ex_ldC hS rfl rfl CellAt.out) ?_ | refine wl_value rfl (ex_l0 hS rfl rfl rfl rfl) ?_ | refine wl_value rfl (ex_lf hS rfl rfl rfl rfl) ?_ | refine wl_value rfl (ex_l1 hS rfl rfl rfl rfl) ?_ | refine wl_value rfl (ex_ldC hS rfl rfl rfl) ?_ | refine wl_value rfl (ex_l00 hS rfl rfl CellAt.out) ?_ | refine wl_value rfl (ex_l00 hS rfl rfl rfl) ?_ | refine wl_value rfl (ex_l0f hS rfl rfl CellAt.out) ?_ | refine wl_value rfl (ex_l0f hS rfl rfl rfl) ?_ | refine wl_value rfl (ex_lr hS rfl rfl rfl rfl) ?_ | refine wl_value rfl (ex_lr0 hS rfl rfl rfl) ?_ | refine wl_value rfl (ex_lrz hS rfl rfl rfl) ?_ | refine wl_value rfl (ex_lrf hS rfl rfl rfl) ?_ | refine wl_value rfl (ex_ldrC hS rfl rfl) ?_ | refine wl_value rfl (ex_ldr0 hS rfl rfl rfl) ?_); (try simp only [Act.put, List.setIfInBounds_toArray, List.set_cons_zero, List.set_cons_succ]))) | ((first | refine wl_value rfl (ex_ix hS rfl rfl rfl ?_) ?_); (focus (first | rfl | omega | (simp; done))); (try simp only [Act.put, List.setIfInBounds_toArray, List.set_cons_zero, List.set_cons_succ])) | ((first | refine wl_value rfl (ex_eqA rfl rfl rfl) ?_ | refine wl_value rfl (ex_neA rfl rfl rfl) ?_); (try simp only [Act.put, List.setIfInBounds_toArray, List.set_cons_zero, List.set_cons_succ])) | (refine wl_alloc rfl rfl hS ?_; intro _ _ hS; (try simp only [Act.put, List.setIfInBounds_toArray, List.set_cons_zero, List.set_cons_succ])) | (refine wl_box rfl rfl rfl rfl hS ?_; intro _ _ hS; (try simp only [Act.put, List.setIfInBounds_toArray, List.set_cons_zero, List.set_cons_succ])) | (refine wl_st rfl rfl rfl rfl rfl hS (of_decide_eq_true rfl) ?_; intro _ hS; (try simp only [evT, evC, List.getD_cons_succ, List.getD_cons_zero, List.set_cons_zero, List.set_cons_succ] at hS); (try simp only [List.set_cons_zero, List.set_cons_succ] at hS); (try simp only [Act.put, List.setIfInBounds_toArray, List.set_cons_zero, List.set_cons_succ])) | (refine wl_strC rfl rfl rfl rfl hS rfl rfl ?_; intro _ hS; (try simp only [evT, evC, List.getD_cons_succ, List.getD_cons_zero, List.set_cons_zero, List.set_cons_succ] at hS); (try simp only [Act.put, List.setIfInBounds_toArray, List.set_cons_zero, List.set_cons_succ])))
  go_ret
  exact ⟨rfl, hS.to⟩
structure DlSt where
  i : Nat
  j : Nat
  ys : List En
def DlI (B : Base) (R : HL) (A : Option Addr) (xs : List En) (sp : List Value) (cap : Nat) (q : En → Bool) (x : DlSt) (w : World) : Prop :=
  x.i < x.j ∧ x.j ≤ xs.length ∧ x.ys.length = xs.length ∧ x.ys.take x.i = (xs.take x.j).filter q ∧ ((xs.take x.j).filter q).length = x.i ∧ x.ys.drop x.j = xs.drop x.j ∧ OwnSl enE A x.ys sp cap ∧ Sh B (rowA A (flat enE x.ys ++ sp) 37 ++ R) w
def DelP (B : Base) (R : HL) (A : Option Addr) (zs : List En) (cap : Nat) (e : Ending) (w' : World) : Prop :=
  ∃ sp, e = .returned (.slice A zs.length cap) ∧ OwnSl enE A zs sp cap ∧ Sh B (rowA A (flat enE zs ++ sp) 37 ++ R) w'
set_option maxRecDepth 100000 in
set_option maxHeartbeats 3200000 in
theorem DelF_any {g : Nat} {lb : Array Value} {pr : En → Bool} {ok : En → Prop} (hp : PredC B R g lb pr ok) {A : Option Addr} {xs : List En} {sp : List Value} {cap : Nat} (hO : OwnSl enE A xs sp cap) (hS : Sh B (rowA A (flat enE xs ++ sp) 37 ++ R) w) (hl : xs.length ≤ 16777216) (hok : ∀ e ∈ xs, ok e := by intros; trivial) :
    Calls Tryd.prog 47 #[.slice A xs.length cap, .func (.func g) #[] lb] w (DelP B R A (xs.filter fun x => !pr x) cap) := by
  have hix := fun (w : World) (hS : Sh B (rowA A (flat enE xs ++ sp) 37 ++ R) w) (r : RdAt enE B (rowA A (flat enE xs ++ sp) 37 ++ R) A xs) => IdxF_any hp ⟨_, rfl⟩ hS (cap := cap) (r := r) hl hok
  obtain ⟨Z, hZ⟩ : ∃ Z, (xs.filter fun x => !pr x) = Z := ⟨_, rfl⟩
  rw [hZ]
  have HZ := Lib.hid hZ
  unfold idxI at hix
  cases hf : xs.findIdx? pr with
  | none =>
    rw [hf] at hix
    have Hz := Lib.hid (show Z = xs by
      rw [← hZ, List.filter_eq_self]
      intro e he
      rw [List.findIdx?_eq_none_iff.1 hf e he]; rfl)
    clear hZ hf hp
    go_enter Tryd.func47, Tryd.ntmps47
    go_wp2_with (first | (go_at_call 66; refine ((hix _ hS inferInstance)).mono ?_; rintro e w' (⟨rfl, hS⟩)) | (refine wl_isld rfl ?_; ((first | refine wl_value rfl (ex_l0 hS rfl rfl rfl CellAt.out) ?_ | refine wl_value rfl (ex_lf hS rfl rfl rfl CellAt.out) ?_ | refine wl_value rfl (ex_l1 hS rfl rfl rfl CellAt.out) ?_ | refine wl_value rfl (ex_ldC hS rfl rfl CellAt.out) ?_ | refine wl_value rfl (ex_l0 hS rfl rfl rfl rfl) ?_ | refine wl_value rfl (ex_lf hS rfl rfl rfl rfl) ?_ | refine wl_value rfl (ex_l1 hS rfl rfl rfl rfl) ?_ | refine wl_value rfl (ex_ldC hS rfl rfl rfl) ?_ | refine wl_value rfl (ex_l00 hS rfl rfl CellAt.out) ?_ | refine wl_value rfl (ex_l00 hS rfl rfl rfl) ?_ | refine wl_value rfl (ex_l0f hS rfl rfl CellAt.out) ?_ | refine wl_value rfl (ex_l0f hS rfl rfl rfl) ?_ | refine wl_value rfl (ex_lr hS rfl rfl rfl rfl) ?_ | refine wl_value rfl (ex_lr0 hS rfl rfl rfl) ?_ | refine wl_value rfl (ex_lrz hS rfl rfl rfl) ?_ | refine wl_value rfl (ex_lrf hS rfl rfl rfl) ?_ | refine wl_value rfl (ex_ldrC hS rfl rfl) ?_ | refine wl_value rfl (ex_ldr0 hS rfl rfl rfl) ?_); (try simp only [Act.put, List.setIfInBounds_toArray, List.set_cons_zero, List.set_cons_succ]))) | ((first | refine wl_value rfl (ex_ix hS rfl rfl rfl ?_) ?_); (focus (first | rfl | omega | (simp; done))); (try simp only [Act.put, List.setIfInBounds_toArray, List.set_cons_zero, List.set_cons_succ])) | ((first | refine wl_value rfl (ex_eqA rfl rfl rfl) ?_ | refine wl_value rfl (ex_neA rfl rfl rfl) ?_); (try simp only [Act.put, List.setIfInBounds_toArray, List.set_cons_zero, List.set_cons_succ])) | (refine wl_alloc rfl rfl hS ?_; intro _ _ hS; (try simp only [Act.put, List.setIfInBounds_toArray, List.set_cons_zero, List.set_cons_succ])) | (refine wl_box rfl rfl rfl rfl hS ?_; intro _ _ hS; (try simp only [Act.put, List.setIfInBounds_toArray, List.set_cons_zero, List.set_cons_succ])) | (refine wl_st rfl rfl rfl rfl rfl hS (of_decide_eq_true rfl) ?_; intro _ hS; (try simp only [evT, evC, List.getD_cons_succ, List.getD_cons_zero, List.set_cons_zero, List.set_cons_succ] at hS); (try simp only [List.set_cons_zero, List.set_cons_succ] at hS); (try simp only [Act.put, List.setIfInBounds_toArray, List.set_cons_zero, List.set_cons_succ])) | (refine wl_strC rfl rfl rfl rfl hS rfl rfl ?_; intro _ hS; (try simp only [evT, evC, List.getD_cons_succ, List.getD_cons_zero, List.set_cons_zero, List.set_cons_succ] at hS); (try simp only [Act.put, List.setIfInBounds_toArray, List.set_cons_zero, List.set_cons_succ])))
    go_ret
    rw [Hz.out]
    exact ⟨_, rfl, hO, hS.to⟩
  | some i0 =>
    rw [hf] at hix
    have hfi := List.findIdx?_eq_some_iff_getElem.1 hf
    obtain ⟨hi0, hpi, hpj⟩ := hfi
    have hE := hp.enter
    have hc := hp.call
    have Hokx := Lib.hid hok
    clear hok
    have hok := (OwnD.of hO).ok
    have d0 : ((i0 : Int) == -1) = false := beq_no (by omega)
    have hft : (xs.take i0).filter (fun x => !pr x) = xs.take i0 := by
      rw [List.filter_eq_self]
      intro e he
      obtain ⟨j, hj⟩ := List.getElem?_of_mem he
      have hji : j < i0 := by have := (List.getElem?_eq_some_iff.1 hj).1; rw [List.length_take] at this; omega
      rw [List.getElem?_take, if_pos hji] at hj
      obtain ⟨h1, h2⟩ := List.getElem?_eq_some_iff.1 hj
      have := hpj j hji
      rw [h2] at this
      simpa using this
    have g0 : Nth xs i0 xs[i0] := ⟨List.getElem?_eq_getElem hi0⟩
    have hft1 : (xs.take (i0 + 1)).filter (fun x => !pr x) = xs.take i0 := by
      rw [g0.take, List.filter_append, hft]
      simp [hpi]
    have H0 := Lib.hid (show xs.take i0 = (xs.take (i0 + 1)).filter (fun x => !pr x) from hft1.symm)
    have H1 := Lib.hid (show ((xs.take (i0 + 1)).filter (fun x => !pr x)).length = i0 by rw [hft1, List.length_take]; omega)
    have Hi0 := Lib.hid hi0
    have hib : i0 ≤ 16777216 := by omega
    clear hZ hf hp hpi hpj hft hft1 g0 hi0
    go_enter Tryd.func47, Tryd.ntmps47
    go_wp2_with (first | (go_at_call 66; refine ((hix _ hS inferInstance)).mono ?_; rintro e w' (⟨rfl, hS⟩)) | (refine wl_isld rfl ?_; ((first | refine wl_value rfl (ex_l0 hS rfl rfl rfl CellAt.out) ?_ | refine wl_value rfl (ex_lf hS rfl rfl rfl CellAt.out) ?_ | refine wl_value rfl (ex_l1 hS rfl rfl rfl CellAt.out) ?_ | refine wl_value rfl (ex_ldC hS rfl rfl CellAt.out) ?_ | refine wl_value rfl (ex_l0 hS rfl rfl rfl rfl) ?_ | refine wl_value rfl (ex_lf hS rfl rfl rfl rfl) ?_ | refine wl_value rfl (ex_l1 hS rfl rfl rfl rfl) ?_ | refine wl_value rfl (ex_ldC hS rfl rfl rfl) ?_ | refine wl_value rfl (ex_l00 hS rfl rfl CellAt.out) ?_ | refine wl_value rfl (ex_l00 hS rfl rfl rfl) ?_ | refine wl_value rfl (ex_l0f hS rfl rfl CellAt.out) ?_ | refine wl_value rfl (ex_l0f hS rfl rfl rfl) ?_ | refine wl_value rfl (ex_lr hS rfl rfl rfl rfl) ?_ | refine wl_value rfl (ex_lr0 hS rfl rfl rfl) ?_ | refine wl_value rfl (ex_lrz hS rfl rfl rfl) ?_ | refine wl_value rfl (ex_lrf hS rfl rfl rfl) ?_ | refine wl_value rfl (ex_ldrC hS rfl rfl) ?_ | refine wl_value rfl (ex_ldr0 hS rfl rfl rfl) ?_); (try simp only [Act.put, List.setIfInBounds_toArray, List.set_cons_zero, List.set_cons_succ]))) | ((first | refine wl_value rfl (ex_ix hS rfl rfl rfl ?_) ?_); (focus (first | rfl | omega | (simp; done))); (try simp only [Act.put, List.setIfInBounds_toArray, List.set_cons_zero, List.set_cons_succ])) | ((first | refine wl_value rfl (ex_eqA rfl rfl rfl) ?_ | refine wl_value rfl (ex_neA rfl rfl rfl) ?_); (try simp only [Act.put, List.setIfInBounds_toArray, List.set_cons_zero, List.set_cons_succ])) | (refine wl_alloc rfl rfl hS ?_; intro _ _ hS; (try simp only [Act.put, List.setIfInBounds_toArray, List.set_cons_zero, List.set_cons_succ])) | (refine wl_box rfl rfl rfl rfl hS ?_; intro _ _ hS; (try simp only [Act.put, List.setIfInBounds_toArray, List.set_cons_zero, List.set_cons_succ])) | (refine wl_st rfl rfl rfl rfl rfl hS (of_decide_eq_true rfl) ?_; intro _ hS; (try simp only [evT, evC, List.getD_cons_succ, List.getD_cons_zero, List.set_cons_zero, List.set_cons_succ] at hS); (try simp only [List.set_cons_zero, List.set_cons_succ] at hS); (try simp only [Act.put, List.setIfInBounds_toArray, List.set_cons_zero, List.set_cons_succ])) | (refine wl_strC rfl rfl rfl rfl hS rfl rfl ?_; intro _ hS; (try simp only [evT, evC, List.getD_cons_succ, List.getD_cons_zero, List.set_cons_zero, List.set_cons_succ] at hS); (try simp only [Act.put, List.setIfInBounds_toArray, List.set_cons_zero, List.set_cons_succ])))
    have h0 : DlI B R A xs sp cap (fun x => !pr x) ⟨i0, i0 + 1, xs⟩ _ := ⟨Nat.lt_succ_self _, Hi0.out, rfl, H0.out, H1.out, rfl, hO, hS⟩
    clear hS hO hix
    refine wp_loopS [5, 6] [7, 16, 17, 18, 19, 20, 21, 22, 23, 24, 25, 26, 27, 28, 29, 30, 31, 32, 33, 34, 35] (fun x : DlSt => [.int .i64 x.i, .int .i64 x.j]) (DlI B R A xs sp cap (fun x => !pr x)) (fun x => xs.length - x.j) (⟨i0, i0 + 1, xs⟩) rfl (h0) ?_
    clear h0
    rintro ⟨i, j, ys⟩ J w ⟨hij, hj, hlen, htk, hfl, hdr, hO, hS⟩
    dsimp only at hij hj hlen htk hfl hdr hO hS
    have Htk := Lib.hid htk
    have Hfl := Lib.hid hfl
    have Hdr := Lib.hid hdr
    have Hlen := Lib.hid hlen
    clear htk hfl hdr hlen
    (simp only [Frm, setsT, junkT, List.setIfInBounds_toArray, List.set_cons_zero, List.set_cons_succ])
    by_cases hlt : j < xs.length
    · obtain ⟨x, gx⟩ := Nth.of hlt
      have hin : i < xs.length := by omega
      have gy : Nth ys j x := ⟨by
        have h1 := congrArg (fun l => l[0]?) Hdr.out
        simp only [List.getElem?_drop, Nat.add_zero] at h1
        rw [h1]; exact gx.get⟩
      obtain ⟨y0, g0⟩ := Nth.of (xs := ys) (j := i) (by rw [Hlen.out]; exact hin)
      have hcx := fun (vb : Nat) (w : World) (hS : Sh B (cellB vb x.cells 37 ++ (rowA A (flat enE ys ++ sp) 37 ++ R)) w) => hc x _ w (Hokx.out x gx.mem) ⟨cellB vb x.cells 37 ++ rowA A (flat enE ys ++ sp) 37, (List.append_assoc ..).symm⟩ hS
      have hfs : (xs.take (j + 1)).filter (fun x => !pr x) = (xs.take j).filter (fun x => !pr x) ++ [x].filter (fun x => !pr x) := by rw [gx.take, List.filter_append]
      cases hx : pr x with
      | true =>
        rw [hx] at hcx
        have hfs2 : (xs.take (j + 1)).filter (fun x => !pr x) = (xs.take j).filter (fun x => !pr x) := by rw [hfs]; simp [hx]
        have H3 := Lib.hid (show ys.take i = (xs.take (j + 1)).filter (fun x => !pr x) by rw [hfs2]; exact Htk.out)
        have H4 := Lib.hid (show ((xs.take (j + 1)).filter (fun x => !pr x)).length = i by rw [hfs2]; exact Hfl.out)
        have H5 := Lib.hid (show ys.drop (j + 1) = xs.drop (j + 1) by rw [← List.drop_drop, ← List.drop_drop, Hdr.out])
        clear hx hfs hfs2 hc
        go_wp2_with (first | (refine wl_value rfl ((ex_ixN rfl rfl rfl hlt hok)) ?_; (try simp only [Act.put, List.setIfInBounds_toArray, List.set_cons_zero, List.set_cons_succ])) | (refine wl_alloc rfl rfl hS ?_; intro vb _ hS; (try simp only [Act.put, List.setIfInBounds_toArray, List.set_cons_zero, List.set_cons_succ])) | (refine wl_callV hE rfl rfl rfl rfl ?_; refine (hcx _ _ hS).mono ?_; rintro e' w' ⟨rfl, hS⟩; refine ⟨_, rfl, ?_⟩; (try simp only [Act.put, List.setIfInBounds_toArray, List.set_cons_zero, List.set_cons_succ])) | (refine wl_isld rfl ?_; ((first | refine wl_value rfl (ex_l0 hS rfl rfl rfl CellAt.out) ?_ | refine wl_value rfl (ex_lf hS rfl rfl rfl CellAt.out) ?_ | refine wl_value rfl (ex_l1 hS rfl rfl rfl CellAt.out) ?_ | refine wl_value rfl (ex_ldC hS rfl rfl CellAt.out) ?_ | refine wl_value rfl (ex_l0 hS rfl rfl rfl rfl) ?_ | refine wl_value rfl (ex_lf hS rfl rfl rfl rfl) ?_ | refine wl_value rfl (ex_l1 hS rfl rfl rfl rfl) ?_ | refine wl_value rfl (ex_ldC hS rfl rfl rfl) ?_ | refine wl_value rfl (ex_l00 hS rfl rfl CellAt.out) ?_ | refine wl_value rfl (ex_l00 hS rfl rfl rfl) ?_ | refine wl_value rfl (ex_l0f hS rfl rfl CellAt.out) ?_ | refine wl_value rfl (ex_l0f hS rfl rfl rfl) ?_ | refine wl_value rfl (ex_lr hS rfl rfl rfl rfl) ?_ | refine wl_value rfl (ex_lr0 hS rfl rfl rfl) ?_ | refine wl_value rfl (ex_lrz hS rfl rfl rfl) ?_ | refine wl_value rfl (ex_lrf hS rfl rfl rfl) ?_ | refine wl_value rfl (ex_ldrC hS rfl rfl) ?_ | refine wl_value rfl (ex_ldr0 hS rfl rfl rfl) ?_); (try simp only [Act.put, List.setIfInBounds_toArray, List.set_cons_zero, List.set_cons_succ]))) | ((first | refine wl_value rfl (ex_ix hS rfl rfl rfl ?_) ?_); (focus (first | rfl | omega | (simp; done))); (try simp only [Act.put, List.setIfInBounds_toArray, List.set_cons_zero, List.set_cons_succ])) | ((first | refine wl_value rfl (ex_eqA rfl rfl rfl) ?_ | refine wl_value rfl (ex_neA rfl rfl rfl) ?_); (try simp only [Act.put, List.setIfInBounds_toArray, List.set_cons_zero, List.set_cons_succ])) | (refine wl_alloc rfl rfl hS ?_; intro _ _ hS; (try simp only [Act.put, List.setIfInBounds_toArray, List.set_cons_zero, List.set_cons_succ])) | (refine wl_box rfl rfl rfl rfl hS ?_; intro _ _ hS; (try simp only [Act.put, List.setIfInBounds_toArray, List.set_cons_zero, List.set_cons_succ])) | (refine wl_st rfl rfl rfl rfl rfl hS (of_decide_eq_true rfl) ?_; intro _ hS; (try simp only [evT, evC, List.getD_cons_succ, List.getD_cons_zero, List.set_cons_zero, List.set_cons_succ] at hS); (try simp only [List.set_cons_zero, List.set_cons_succ] at hS); (try simp only [Act.put, List.setIfInBounds_toArray, List.set_cons_zero, List.set_cons_succ])) | (refine wl_strC rfl rfl rfl rfl hS rfl rfl ?_; intro _ hS; (try simp only [evT, evC, List.getD_cons_succ, List.getD_cons_zero, List.set_cons_zero, List.set_cons_succ] at hS); (try simp only [Act.put, List.setIfInBounds_toArray, List.set_cons_zero, List.set_cons_succ])))
        exact ⟨(⟨i, j + 1, ys⟩ : DlSt), ⟨Nat.lt_succ_of_lt hij, hlt, Hlen.out, H3.out, H4.out, H5.out, hO, hS.to⟩, (by (try dsimp only); omega), rfl, (by (simp only [blankT, junkT, List.cons_append, List.nil_append, List.setIfInBounds_toArray, List.set_cons_zero, List.set_cons_succ])), rfl⟩
      | false =>
        rw [hx] at hcx
        have hfs2 : (xs.take (j + 1)).filter (fun x => !pr x) = (xs.take j).filter (fun x => !pr x) ++ [x] := by rw [hfs]; simp [hx]
        have hty : (ys.set i x).take (i + 1) = ys.take i ++ [x] := by
          have g1 : Nth (ys.set i x) i x := ⟨by rw [List.getElem?_set_self (by rw [Hlen.out]; exact hin)]⟩
          rw [g1.take, List.take_set_of_le (Nat.le_refl _)]
        have H3 := Lib.hid (show (ys.set i x).take (i + 1) = (xs.take (j + 1)).filter (fun x => !pr x) by rw [hfs2, hty, Htk.out])
        have H4 := Lib.hid (show ((xs.take (j + 1)).filter (fun x => !pr x)).length = i + 1 by rw [hfs2, List.length_append, Hfl.out]; rfl)
        have H5 := Lib.hid (show (ys.set i x).drop (j + 1) = xs.drop (j + 1) by rw [List.drop_set_of_lt (by omega), ← List.drop_drop, ← List.drop_drop, Hdr.out])
        have H6 := Lib.hid (show (ys.set i x).length = xs.length by rw [List.length_set, Hlen.out])
        clear hx hfs hfs2 hc hty
        go_wp2_with (first | (refine wl_value rfl ((ex_ixN rfl rfl rfl hlt hok)) ?_; (try simp only [Act.put, List.setIfInBounds_toArray, List.set_cons_zero, List.set_cons_succ])) | (refine wl_value rfl ((ex_ixN rfl rfl rfl hin hok)) ?_; (try simp only [Act.put, List.setIfInBounds_toArray, List.set_cons_zero, List.set_cons_succ])) | (refine wl_alloc rfl rfl hS ?_; intro vb _ hS; (try simp only [Act.put, List.setIfInBounds_toArray, List.set_cons_zero, List.set_cons_succ])) | (refine wl_callV hE rfl rfl rfl rfl ?_; refine (hcx _ _ hS).mono ?_; rintro e' w' ⟨rfl, hS⟩; refine ⟨_, rfl, ?_⟩; (try simp only [Act.put, List.setIfInBounds_toArray, List.set_cons_zero, List.set_cons_succ])) | (refine wl_stEw rfl rfl rfl rfl hS hO rfl rfl ?_; clear hO; intro _ hS hO g3; (try simp only [evT, evC, List.getD_cons_succ, List.getD_cons_zero, List.set_cons_zero, List.set_cons_succ] at hS); (try simp only [Act.put, List.setIfInBounds_toArray, List.set_cons_zero, List.set_cons_succ])) | (refine wl_isld rfl ?_; ((first | refine wl_value rfl (ex_l0 hS rfl rfl rfl CellAt.out) ?_ | refine wl_value rfl (ex_lf hS rfl rfl rfl CellAt.out) ?_ | refine wl_value rfl (ex_l1 hS rfl rfl rfl CellAt.out) ?_ | refine wl_value rfl (ex_ldC hS rfl rfl CellAt.out) ?_ | refine wl_value rfl (ex_l0 hS rfl rfl rfl rfl) ?_ | refine wl_value rfl (ex_lf hS rfl rfl rfl rfl) ?_ | refine wl_value rfl (ex_l1 hS rfl rfl rfl rfl) ?_ | refine wl_value rfl (ex_ldC hS rfl rfl rfl) ?_ | refine wl_value rfl (ex_l00 hS rfl rfl CellAt.out) ?_ | refine wl_value rfl (ex_l00 hS rfl rfl rfl) ?_ | refine wl_value rfl (ex_l0f hS rfl rfl CellAt.out) ?_ | refine wl_value rfl (ex_l0f hS rfl rfl rfl) ?_ | refine wl_value rfl (ex_lr hS rfl rfl rfl rfl) ?_ | refine wl_value rfl (ex_lr0 hS rfl rfl rfl) ?_ | refine wl_value rfl (ex_lrz hS rfl rfl rfl) ?_ | refine wl_value rfl (ex_lrf hS rfl rfl rfl) ?_ | refine wl_value rfl (ex_ldrC hS rfl rfl) ?_ | refine wl_value rfl (ex_ldr0 hS rfl rfl rfl) ?_); (try simp only [Act.put, List.setIfInBounds_toArray, List.set_cons_zero, List.set_cons_succ]))) | ((first | refine wl_value rfl (ex_ix hS rfl rfl rfl ?_) ?_); (focus (first | rfl | omega | (simp; done))); (try simp only [Act.put, List.setIfInBounds_toArray, List.set_cons_zero, List.set_cons_succ])) | ((first | refine wl_value rfl (ex_eqA rfl rfl rfl) ?_ | refine wl_value rfl (ex_neA rfl rfl rfl) ?_); (try simp only [Act.put, List.setIfInBounds_toArray, List.set_cons_zero, List.set_cons_succ])) | (refine wl_alloc rfl rfl hS ?_; intro _ _ hS; (try simp only [Act.put, List.setIfInBounds_toArray, List.set_cons_zero, List.set_cons_succ])) | (refine wl_box rfl rfl rfl rfl hS ?_; intro _ _ hS; (try simp only [Act.put, List.setIfInBounds_toArray, List.set_cons_zero, List.set_cons_succ])) | (refine wl_st rfl rfl rfl rfl rfl hS (of_decide_eq_true rfl) ?_; intro _ hS; (try simp only [evT, evC, List.getD_cons_succ, List.getD_cons_zero, List.set_cons_zero, List.set_cons_succ] at hS); (try simp only [List.set_cons_zero, List.set_cons_succ] at hS); (try simp only [Act.put, List.setIfInBounds_toArray, List.set_cons_zero, List.set_cons_succ])) | (refine wl_strC rfl rfl rfl rfl hS rfl rfl ?_; intro _ hS; (try simp only [evT, evC, List.getD_cons_succ, List.getD_cons_zero, List.set_cons_zero, List.set_cons_succ] at hS); (try simp only [Act.put, List.setIfInBounds_toArray, List.set_cons_zero, List.set_cons_succ])))
        exact ⟨(⟨i + 1, j + 1, ys.set i x⟩ : DlSt), ⟨Nat.succ_lt_succ hij, hlt, H6.out, H3.out, H4.out, H5.out, hO, hS.to⟩, (by (try dsimp only); omega), rfl, (by (simp only [blankT, junkT, List.cons_append, List.nil_append, List.setIfInBounds_toArray, List.set_cons_zero, List.set_cons_succ])), rfl⟩
    · have hjx : j = xs.length := by omega
      have hile : i ≤ ys.length := by rw [Hlen.out]; omega
      have hic : i ≤ cap := by have := hO.len_le; omega
      have Hz := Lib.hid (show Z = ys.take i by
        rw [← HZ.out, Htk.out, hjx, List.take_length])
      have hix2 : i ≤ xs.length := by omega
      have hn1 : xs.length - i = ys.length - i := by rw [Hlen.out]
      have Hil := Lib.hid (show (ys.take i).length = i by rw [List.length_take]; omega)
      go_wp2_with (first | (refine wl_value rfl ((ex_cutI (l := i) rfl rfl rfl hix2)) ?_; (try simp only [Act.put, List.setIfInBounds_toArray, List.set_cons_zero, List.set_cons_succ])) | (refine wl_value rfl ((ex_cutH (h := i) rfl rfl rfl hic)) ?_; (try simp only [Act.put, List.setIfInBounds_toArray, List.set_cons_zero, List.set_cons_succ])) | (refine wl_clearL (i := i) zE rfl rfl rfl rfl rfl hS hO hn1 hile ?_; intro _ hS hO2; (try simp only [Act.put, List.setIfInBounds_toArray, List.set_cons_zero, List.set_cons_succ])) | (refine wl_isld rfl ?_; ((first | refine wl_value rfl (ex_l0 hS rfl rfl rfl CellAt.out) ?_ | refine wl_value rfl (ex_lf hS rfl rfl rfl CellAt.out) ?_ | refine wl_value rfl (ex_l1 hS rfl rfl rfl CellAt.out) ?_ | refine wl_value rfl (ex_ldC hS rfl rfl CellAt.out) ?_ | refine wl_value rfl (ex_l0 hS rfl rfl rfl rfl) ?_ | refine wl_value rfl (ex_lf hS rfl rfl rfl rfl) ?_ | refine wl_value rfl (ex_l1 hS rfl rfl rfl rfl) ?_ | refine wl_value rfl (ex_ldC hS rfl rfl rfl) ?_ | refine wl_value rfl (ex_l00 hS rfl rfl CellAt.out) ?_ | refine wl_value rfl (ex_l00 hS rfl rfl rfl) ?_ | refine wl_value rfl (ex_l0f hS rfl rfl CellAt.out) ?_ | refine wl_value rfl (ex_l0f hS rfl rfl rfl) ?_ | refine wl_value rfl (ex_lr hS rfl rfl rfl rfl) ?_ | refine wl_value rfl (ex_lr0 hS rfl rfl rfl) ?_ | refine wl_value rfl (ex_lrz hS rfl rfl rfl) ?_ | refine wl_value rfl (ex_lrf hS rfl rfl rfl) ?_ | refine wl_value rfl (ex_ldrC hS rfl rfl) ?_ | refine wl_value rfl (ex_ldr0 hS rfl rfl rfl) ?_); (try simp only [Act.put, List.setIfInBounds_toArray, List.set_cons_zero, List.set_cons_succ]))) | ((first | refine wl_value rfl (ex_ix hS rfl rfl rfl ?_) ?_); (focus (first | rfl | omega | (simp; done))); (try simp only [Act.put, List.setIfInBounds_toArray, List.set_cons_zero, List.set_cons_succ])) | ((first | refine wl_value rfl (ex_eqA rfl rfl rfl) ?_ | refine wl_value rfl (ex_neA rfl rfl rfl) ?_); (try simp only [Act.put, List.setIfInBounds_toArray, List.set_cons_zero, List.set_cons_succ])) | (refine wl_alloc rfl rfl hS ?_; intro _ _ hS; (try simp only [Act.put, List.setIfInBounds_toArray, List.set_cons_zero, List.set_cons_succ])) | (refine wl_box rfl rfl rfl rfl hS ?_; intro _ _ hS; (try simp only [Act.put, List.setIfInBounds_toArray, List.set_cons_zero, List.set_cons_succ])) | (refine wl_st rfl rfl rfl rfl rfl hS (of_decide_eq_true rfl) ?_; intro _ hS; (try simp only [evT, evC, List.getD_cons_succ, List.getD_cons_zero, List.set_cons_zero, List.set_cons_succ] at hS); (try simp only [List.set_cons_zero, List.set_cons_succ] at hS); (try simp only [Act.put, List.setIfInBounds_toArray, List.set_cons_zero, List.set_cons_succ])) | (refine wl_strC rfl rfl rfl rfl hS rfl rfl ?_; intro _ hS; (try simp only [evT, evC, List.getD_cons_succ, List.getD_cons_zero, List.set_cons_zero, List.set_cons_succ] at hS); (try simp only [Act.put, List.setIfInBounds_toArray, List.set_cons_zero, List.set_cons_succ])))
      go_ret
      obtain ⟨h1, h2⟩ := hO2.front
      rw [h2] at hS
      rw [Hz.out]
      exact ⟨_, by rw [Hil.out]; rfl, h1, hS.to⟩
end
end Go.Tk

set_option linter.unusedSectionVars false
set_option linter.unusedSimpArgs false
set_option linter.unusedVariables false
namespace Go.Tk
open Go.RowKit Go.Proofs
theorem sideI_zE (p : ByteArray) : sideI zE p = true := by unfold sideI; simp
theorem sideI_no {e : En} {p : ByteArray} (hz : ¬ e = zE) (h : ¬ e.path = p) : sideI e p = false := by unfold sideI; simp [hz, h]
theorem sideI_at {e : En} {p : ByteArray} (hz : ¬ e = zE) (h : e.path = p) : sideI e p = mayB e := by unfold sideI; simp [hz, h]
theorem eqZ_run (e : En) : ∀ w, (Op.equalIn 10000 37 (.agg #[.string e.path, .int .i64 e.kind, .string e.data]) (.agg #[.string ⟨#[]⟩, .int .i64 0, .string ⟨#[]⟩])).run Tryd.prog w = .ok (decide (e = zE)) w := by
  intro w
  by_cases h : e = zE
  · rw [decide_eq_true h, h]; exact (eqE_yes zE).out w
  · rw [decide_eq_false h]; exact (eqE_no h).out w
theorem eqZ_guard : Tryd.prog.eqGuardType Tryd.prog.depth 37 = false := (eqE_yes zE).guard
section
variable {B : Base} {R H H1 : HL} {w w' : World}
set_option maxRecDepth 100000 in
set_option maxHeartbeats 1600000 in
theorem Side_any [HasML B] (hS : Sh B R w) (e : En) (p : ByteArray) (hp : e.path.size ≤ 16777216) : Calls Tryd.prog 45 #[.string p, .agg e.cells.toArray] w fun x w' => x = .returned (.bool (sideI e p)) ∧ Sh B R w' := by
  have hmy := fun (w : World) (R : HL) (hS : Sh B R w) => May_any hS e hp
  have q2 := eqZ_run e
  have q3 := eqZ_guard
  by_cases hz : e = zE
  · have Hx := Lib.hid (show sideI e p = true by rw [hz]; exact sideI_zE p)
    rw [decide_eq_true hz] at q2
    clear hz
    go_enter Tryd.func45, Tryd.ntmps45
    go_upto_region 1 with (first | (refine wl_box rfl rfl rfl rfl hS ?_; intro eb _ hS; (try simp only [Act.put, List.setIfInBounds_toArray, List.set_cons_zero, List.set_cons_succ])) | (refine wl_isld rfl ?_; ((first | refine wl_value rfl (ex_l0 hS rfl rfl rfl CellAt.out) ?_ | refine wl_value rfl (ex_lf hS rfl rfl rfl CellAt.out) ?_ | refine wl_value rfl (ex_l1 hS rfl rfl rfl CellAt.out) ?_ | refine wl_value rfl (ex_ldC hS rfl rfl CellAt.out) ?_ | refine wl_value rfl (ex_l0 hS rfl rfl rfl rfl) ?_ | refine wl_value rfl (ex_lf hS rfl rfl rfl rfl) ?_ | refine wl_value rfl (ex_l1 hS rfl rfl rfl rfl) ?_ | refine wl_value rfl (ex_ldC hS rfl rfl rfl) ?_ | refine wl_value rfl (ex_l00 hS rfl rfl CellAt.out) ?_ | refine wl_value rfl (ex_l00 hS rfl rfl rfl) ?_ | refine wl_value rfl (ex_l0f hS rfl rfl CellAt.out) ?_ | refine wl_value rfl (ex_l0f hS rfl rfl rfl) ?_ | refine wl_value rfl (ex_lr hS rfl rfl rfl rfl) ?_ | refine wl_value rfl (ex_lr0 hS rfl rfl rfl) ?_ | refine wl_value rfl (ex_lrz hS rfl rfl rfl) ?_ | refine wl_value rfl (ex_lrf hS rfl rfl rfl) ?_ | refine wl_value rfl (ex_ldrC hS rfl rfl) ?_ | refine wl_value rfl (ex_ldr0 hS rfl rfl rfl) ?_); (try simp only [Act.put, List.setIfInBounds_toArray, List.set_cons_zero, List.set_cons_succ]))) | ((first | refine wl_value rfl (ex_ix hS rfl rfl rfl ?_) ?_); (focus (first | rfl | omega | (simp; done))); (try simp only [Act.put, List.setIfInBounds_toArray, List.set_cons_zero, List.set_cons_succ])) | ((first | refine wl_value rfl (ex_eqA rfl rfl rfl) ?_ | refine wl_value rfl (ex_neA rfl rfl rfl) ?_); (try simp only [Act.put, List.setIfInBounds_toArray, List.set_cons_zero, List.set_cons_succ])) | (refine wl_alloc rfl rfl hS ?_; intro _ _ hS; (try simp only [Act.put, List.setIfInBounds_toArray, List.set_cons_zero, List.set_cons_succ])) | (refine wl_box rfl rfl rfl rfl hS ?_; intro _ _ hS; (try simp only [Act.put, List.setIfInBounds_toArray, List.set_cons_zero, List.set_cons_succ])) | (refine wl_st rfl rfl rfl rfl rfl hS (of_decide_eq_true rfl) ?_; intro _ hS; (try simp only [evT, evC, List.getD_cons_succ, List.getD_cons_zero, List.set_cons_zero, List.set_cons_succ] at hS); (try simp only [List.set_cons_zero, List.set_cons_succ] at hS); (try simp only [Act.put, List.setIfInBounds_toArray, List.set_cons_zero, List.set_cons_succ])) | (refine wl_strC rfl rfl rfl rfl hS rfl rfl ?_; intro _ hS; (try simp only [evT, evC, List.getD_cons_succ, List.getD_cons_zero, List.set_cons_zero, List.set_cons_succ] at hS); (try simp only [Act.put, List.setIfInBounds_toArray, List.set_cons_zero, List.set_cons_succ])))
    have c0 := Sh.ldC (b := eb) (off := 0) (v := .string e.path) hS rfl
    have c1 := Sh.ldC (b := eb) (off := 1) (v := .int .i64 e.kind) hS rfl
    have c2 := Sh.ldC (b := eb) (off := 2) (v := .string e.data) hS rfl
    go_wp2
    go_ret
    rw [Hx.out]
    exact ⟨rfl, hS.to⟩
  rw [decide_eq_false hz] at q2
  by_cases hq : e.path = p
  · have d1 : (e.path.toList == p.toList) = true := by rw [strEq]; simp [hq]
    have Hx := Lib.hid (sideI_at hz hq)
    clear hz hq
    go_enter Tryd.func45, Tryd.ntmps45
    go_upto_region 1 with (first | (refine wl_box rfl rfl rfl rfl hS ?_; intro eb _ hS; (try simp only [Act.put, List.setIfInBounds_toArray, List.set_cons_zero, List.set_cons_succ])) | (refine wl_isld rfl ?_; ((first | refine wl_value rfl (ex_l0 hS rfl rfl rfl CellAt.out) ?_ | refine wl_value rfl (ex_lf hS rfl rfl rfl CellAt.out) ?_ | refine wl_value rfl (ex_l1 hS rfl rfl rfl CellAt.out) ?_ | refine wl_value rfl (ex_ldC hS rfl rfl CellAt.out) ?_ | refine wl_value rfl (ex_l0 hS rfl rfl rfl rfl) ?_ | refine wl_value rfl (ex_lf hS rfl rfl rfl rfl) ?_ | refine wl_value rfl (ex_l1 hS rfl rfl rfl rfl) ?_ | refine wl_value rfl (ex_ldC hS rfl rfl rfl) ?_ | refine wl_value rfl (ex_l00 hS rfl rfl CellAt.out) ?_ | refine wl_value rfl (ex_l00 hS rfl rfl rfl) ?_ | refine wl_value rfl (ex_l0f hS rfl rfl CellAt.out) ?_ | refine wl_value rfl (ex_l0f hS rfl rfl rfl) ?_ | refine wl_value rfl (ex_lr hS rfl rfl rfl rfl) ?_ | refine wl_value rfl (ex_lr0 hS rfl rfl rfl) ?_ | refine wl_value rfl (ex_lrz hS rfl rfl rfl) ?_ | refine wl_value rfl (ex_lrf hS rfl rfl rfl) ?_ | refine wl_value rfl (ex_ldrC hS rfl rfl) ?_ | refine wl_value rfl (ex_ldr0 hS rfl rfl rfl) ?_); (try simp only [Act.put, List.setIfInBounds_toArray, List.set_cons_zero, List.set_cons_succ]))) | ((first | refine wl_value rfl (ex_ix hS rfl rfl rfl ?_) ?_); (focus (first | rfl | omega | (simp; done))); (try simp only [Act.put, List.setIfInBounds_toArray, List.set_cons_zero, List.set_cons_succ])) | ((first | refine wl_value rfl (ex_eqA rfl rfl rfl) ?_ | refine wl_value rfl (ex_neA rfl rfl rfl) ?_); (try simp only [Act.put, List.setIfInBounds_toArray, List.set_cons_zero, List.set_cons_succ])) | (refine wl_alloc rfl rfl hS ?_; intro _ _ hS; (try simp only [Act.put, List.setIfInBounds_toArray, List.set_cons_zero, List.set_cons_succ])) | (refine wl_box rfl rfl rfl rfl hS ?_; intro _ _ hS; (try simp only [Act.put, List.setIfInBounds_toArray, List.set_cons_zero, List.set_cons_succ])) | (refine wl_st rfl rfl rfl rfl rfl hS (of_decide_eq_true rfl) ?_; intro _ hS; (try simp only [evT, evC, List.getD_cons_succ, List.getD_cons_zero, List.set_cons_zero, List.set_cons_succ] at hS); (try simp only [List.set_cons_zero, List.set_cons_succ] at hS); (try simp only [Act.put, List.setIfInBounds_toArray, List.set_cons_zero, List.set_cons_succ])) | (refine wl_strC rfl rfl rfl rfl hS rfl rfl ?_; intro _ hS; (try simp only [evT, evC, List.getD_cons_succ, List.getD_cons_zero, List.set_cons_zero, List.set_cons_succ] at hS); (try simp only [Act.put, List.setIfInBounds_toArray, List.set_cons_zero, List.set_cons_succ])))
    have c0 := Sh.ldC (b := eb) (off := 0) (v := .string e.path) hS rfl
    have c1 := Sh.ldC (b := eb) (off := 1) (v := .int .i64 e.kind) hS rfl
    have c2 := Sh.ldC (b := eb) (off := 2) (v := .string e.data) hS rfl
    go_wp2_with (first | (go_at_call 31; refine ((hmy _ _ hS)).mono ?_; rintro e w' (⟨rfl, hS⟩)))
    go_ret
    rw [Hx.out]
    exact ⟨rfl, hS.to⟩
  · have d1 : (e.path.toList == p.toList) = false := by rw [strEq]; simp [hq]
    have Hx := Lib.hid (sideI_no hz hq)
    clear hz hq
    go_enter Tryd.func45, Tryd.ntmps45
    go_upto_region 1 with (first | (refine wl_box rfl rfl rfl rfl hS ?_; intro eb _ hS; (try simp only [Act.put, List.setIfInBounds_toArray, List.set_cons_zero, List.set_cons_succ])) | (refine wl_isld rfl ?_; ((first | refine wl_value rfl (ex_l0 hS rfl rfl rfl CellAt.out) ?_ | refine wl_value rfl (ex_lf hS rfl rfl rfl CellAt.out) ?_ | refine wl_value rfl (ex_l1 hS rfl rfl rfl CellAt.out) ?_ | refine wl_value rfl (ex_ldC hS rfl rfl CellAt.out) ?_ | refine wl_value rfl (ex_l0 hS rfl rfl rfl rfl) ?_ | refine wl_value rfl (ex_lf hS rfl rfl rfl rfl) ?_ | refine wl_value rfl (ex_l1 hS rfl rfl rfl rfl) ?_ | refine wl_value rfl (ex_ldC hS rfl rfl rfl) ?_ | refine wl_value rfl (ex_l00 hS rfl rfl CellAt.out) ?_ | refine wl_value rfl (ex_l00 hS rfl rfl rfl) ?_ | refine wl_value rfl (ex_l0f hS rfl rfl CellAt.out) ?_ | refine wl_value rfl (ex_l0f hS rfl rfl rfl) ?_ | refine wl_value rfl (ex_lr hS rfl rfl rfl rfl) ?_ | refine wl_value rfl (ex_lr0 hS rfl rfl rfl) ?_ | refine wl_value rfl (ex_lrz hS rfl rfl rfl) ?_ | refine wl_value rfl (ex_lrf hS rfl rfl rfl) ?_ | refine wl_value rfl (ex_ldrC hS rfl rfl) ?_ | refine wl_value rfl (ex_ldr0 hS rfl rfl rfl) ?_); (try simp only [Act.put, List.setIfInBounds_toArray, List.set_cons_zero, List.set_cons_succ]))) | ((first | refine wl_value rfl (ex_ix hS rfl rfl rfl ?_) ?_); (focus (first | rfl | omega | (simp; done))); (try simp only [Act.put, List.setIfInBounds_toArray, List.set_cons_zero, List.set_cons_succ])) | ((first | refine wl_value rfl (ex_eqA rfl rfl rfl) ?_ | refine wl_value rfl (ex_neA rfl rfl rfl) ?_); (try simp only [Act.put, List.setIfInBounds_toArray, List.set_cons_zero, List.set_cons_succ])) | (refine wl_alloc rfl rfl hS ?_; intro _ _ hS; (try simp only [Act.put, List.setIfInBounds_toArray, List.set_cons_zero, List.set_cons_succ])) | (refine wl_box rfl rfl rfl rfl hS ?_; intro _ _ hS; (try simp only [Act.put, List.setIfInBounds_toArray, List.set_cons_zero, List.set_cons_succ])) | (refine wl_st rfl rfl rfl rfl rfl hS (of_decide_eq_true rfl) ?_; intro _ hS; (try simp only [evT, evC, List.getD_cons_succ, List.getD_cons_zero, List.set_cons_zero, List.set_cons_succ] at hS); (try simp only [List.set_cons_zero, List.set_cons_succ] at hS); (try simp only [Act.put, List.setIfInBounds_toArray, List.set_cons_zero, List.set_cons_succ])) | (refine wl_strC rfl rfl rfl rfl hS rfl rfl ?_; intro _ hS; (try simp only [evT, evC, List.getD_cons_succ, List.getD_cons_zero, List.set_cons_zero, List.set_cons_succ] at hS); (try simp only [Act.put, List.setIfInBounds_toArray, List.set_cons_zero, List.set_cons_succ])))
    have c0 := Sh.ldC (b := eb) (off := 0) (v := .string e.path) hS rfl
    have c1 := Sh.ldC (b := eb) (off := 1) (v := .int .i64 e.kind) hS rfl
    have c2 := Sh.ldC (b := eb) (off := 2) (v := .string e.data) hS rfl
    go_wp2
    go_ret
    rw [Hx.out]
    exact ⟨rfl, hS.to⟩
set_option maxRecDepth 100000 in
set_option maxHeartbeats 1600000 in
theorem SideR_any [HasML B] (hS : Sh B R w) (e : En) (p : ByteArray) (hp : e.path.size ≤ 16777216) : Calls Tryd.prog 49 #[.agg e.cells.toArray, .string p] w fun x w' => x = .returned (.bool (sideI e p)) ∧ Sh B R w' := by
  have hmy := fun (w : World) (R : HL) (hS : Sh B R w) => MayR_any hS e hp
  have q2 := eqZ_run e
  have q3 := eqZ_guard
  by_cases hz : e = zE
  · have Hx := Lib.hid (show sideI e p = true by rw [hz]; exact sideI_zE p)
    rw [decide_eq_true hz] at q2
    clear hz
    go_enter Tryd.func49, Tryd.ntmps49
    go_upto_region 1 with (first | (refine wl_box rfl rfl rfl rfl hS ?_; intro eb _ hS; (try simp only [Act.put, List.setIfInBounds_toArray, List.set_cons_zero, List.set_cons_succ])) | (refine wl_isld rfl ?_; ((first | refine wl_value rfl (ex_l0 hS rfl rfl rfl CellAt.out) ?_ | refine wl_value rfl (ex_lf hS rfl rfl rfl CellAt.out) ?_ | refine wl_value rfl (ex_l1 hS rfl rfl rfl CellAt.out) ?_ | refine wl_value rfl (ex_ldC hS rfl rfl CellAt.out) ?_ | refine wl_value rfl (ex_l0 hS rfl rfl rfl rfl) ?_ | refine wl_value rfl (ex_lf hS rfl rfl rfl rfl) ?_ | refine wl_value rfl (ex_l1 hS rfl rfl rfl rfl) ?_ | refine wl_value rfl (ex_ldC hS rfl rfl rfl) ?_ | refine wl_value rfl (ex_l00 hS rfl rfl CellAt.out) ?_ | refine wl_value rfl (ex_l00 hS rfl rfl rfl) ?_ | refine wl_value rfl (ex_l0f hS rfl rfl CellAt.out) ?_ | refine wl_value rfl (ex_l0f hS rfl rfl rfl) ?_ | refine wl_value rfl (ex_lr hS rfl rfl rfl rfl) ?_ | refine wl_value rfl (ex_lr0 hS rfl rfl rfl) ?_ | refine wl_value rfl (ex_lrz hS rfl rfl rfl) ?_ | refine wl_value rfl (ex_lrf hS rfl rfl rfl) ?_ | refine wl_value rfl (ex_ldrC hS rfl rfl) ?_ | refine wl_value rfl (ex_ldr0 hS rfl rfl rfl) ?_); (try simp only [Act.put, List.setIfInBounds_toArray, List.set_cons_zero, List.set_cons_succ]))) | ((first | refine wl_value rfl (ex_ix hS rfl rfl rfl ?_) ?_); (focus (first | rfl | omega | (simp; done))); (try simp only [Act.put, List.setIfInBounds_toArray, List.set_cons_zero, List.set_cons_succ])) | ((first | refine wl_value rfl (ex_eqA rfl rfl rfl) ?_ | refine wl_value rfl (ex_neA rfl rfl rfl) ?_); (try simp only [Act.put, List.setIfInBounds_toArray, List.set_cons_zero, List.set_cons_succ])) | (refine wl_alloc rfl rfl hS ?_; intro _ _ hS; (try simp only [Act.put, List.setIfInBounds_toArray, List.set_cons_zero, List.set_cons_succ])) | (refine wl_box rfl rfl rfl rfl hS ?_; intro _ _ hS; (try simp only [Act.put, List.setIfInBounds_toArray, List.set_cons_zero, List.set_cons_succ])) | (refine wl_st rfl rfl rfl rfl rfl hS (of_decide_eq_true rfl) ?_; intro _ hS; (try simp only [evT, evC, List.getD_cons_succ, List.getD_cons_zero, List.set_cons_zero, List.set_cons_succ] at hS); (try simp only [List.set_cons_zero, List.set_cons_succ] at hS); (try simp only [Act.put, List.setIfInBounds_toArray, List.set_cons_zero, List.set_cons_succ])) | (refine wl_strC rfl rfl rfl rfl hS rfl rfl ?_; intro _ hS; (try simp only [evT, evC, List.getD_cons_succ, List.getD_cons_zero, List.set_cons_zero, List.set_cons_succ] at hS); (try simp only [Act.put, List.setIfInBounds_toArray, List.set_cons_zero, List.set_cons_succ])))
    have c0 := Sh.ldC (b := eb) (off := 0) (v := .string e.path) hS rfl
    have c1 := Sh.ldC (b := eb) (off := 1) (v := .int .i64 e.kind) hS rfl
    have c2 := Sh.ldC (b := eb) (off := 2) (v := .string e.data) hS rfl
    go_wp2
    go_ret
    rw [Hx.out]
    exact ⟨rfl, hS.to⟩
  rw [decide_eq_false hz] at q2
  by_cases hq : e.path = p
  · have d1 : (e.path.toList == p.toList) = true := by rw [strEq]; simp [hq]
    have Hx := Lib.hid (sideI_at hz hq)
    clear hz hq
    go_enter Tryd.func49, Tryd.ntmps49
    go_upto_region 1 with (first | (refine wl_box rfl rfl rfl rfl hS ?_; intro eb _ hS; (try simp only [Act.put, List.setIfInBounds_toArray, List.set_cons_zero, List.set_cons_succ])) | (refine wl_isld rfl ?_; ((first | refine wl_value rfl (ex_l0 hS rfl rfl rfl CellAt.out) ?_ | refine wl_value rfl (ex_lf hS rfl rfl rfl CellAt.out) ?_ | refine wl_value rfl (ex_l1 hS rfl rfl rfl CellAt.out) ?_ | refine wl_value rfl (ex_ldC hS rfl rfl CellAt.out) ?_ | refine wl_value rfl (ex_l0 hS rfl rfl rfl rfl) ?_ | refine wl_value rfl (ex_lf hS rfl rfl rfl rfl) ?_ | refine wl_value rfl (ex_l1 hS rfl rfl rfl rfl) ?_ | refine wl_value rfl (ex_ldC hS rfl rfl rfl) ?_ | refine wl_value rfl (ex_l00 hS rfl rfl CellAt.out) ?_ | refine wl_value rfl (ex_l00 hS rfl rfl rfl) ?_ | refine wl_value rfl (ex_l0f hS rfl rfl CellAt.out) ?_ | refine wl_value rfl (ex_l0f hS rfl rfl rfl) ?_ | refine wl_value rfl (ex_lr hS rfl rfl rfl rfl) ?_ | refine wl_value rfl (ex_lr0 hS rfl rfl rfl) ?_ | refine wl_value rfl (ex_lrz hS rfl rfl rfl) ?_ | refine wl_value rfl (ex_lrf hS rfl rfl rfl) ?_ | refine wl_value rfl (ex_ldrC hS rfl rfl) ?_ | refine wl_value rfl (ex_ldr0 hS rfl rfl rfl) ?_); (try simp only [Act.put, List.setIfInBounds_toArray, List.set_cons_zero, List.set_cons_succ]))) | ((first | refine wl_value rfl (ex_ix hS rfl rfl rfl ?_) ?_); (focus (first | rfl | omega | (simp; done))); (try simp only [Act.put, List.setIfInBounds_toArray, List.set_cons_zero, List.set_cons_succ])) | ((first | refine wl_value rfl (ex_eqA rfl rfl rfl) ?_ | refine wl_value rfl (ex_neA rfl rfl rfl) ?_); (try simp only [Act.put, List.setIfInBounds_toArray, List.set_cons_zero, List.set_cons_succ])) | (refine wl_alloc rfl rfl hS ?_; intro _ _ hS; (try simp only [Act.put, List.setIfInBounds_toArray, List.set_cons_zero, List.set_cons_succ])) | (refine wl_box rfl rfl rfl rfl hS ?_; intro _ _ hS; (try simp only [Act.put, List.setIfInBounds_toArray, List.set_cons_zero, List.set_cons_succ])) | (refine wl_st rfl rfl rfl rfl rfl hS (of_decide_eq_true rfl) ?_; intro _ hS; (try simp only [evT, evC, List.getD_cons_succ, List.getD_cons_zero, List.set_cons_zero, List.set_cons_succ] at hS); (try simp only [List.set_cons_zero, List.set_cons_succ] at hS); (try simp only [Act.put, List.setIfInBounds_toArray, List.set_cons_zero, List.set_cons_succ])) | (refine wl_strC rfl rfl rfl rfl hS rfl rfl ?_; intro _ hS; (try simp only [evT, evC, List.getD_cons_succ, List.getD_cons_zero, List.set_cons_zero, List.set_cons_succ] at hS); (try simp only [Act.put, List.setIfInBounds_toArray, List.set_cons_zero, List.set_cons_succ])))
    have c0 := Sh.ldC (b := eb) (off := 0) (v := .string e.path) hS rfl
    have c1 := Sh.ldC (b := eb) (off := 1) (v := .int .i64 e.kind) hS rfl
    have c2 := Sh.ldC (b := eb) (off := 2) (v := .string e.data) hS rfl
    go_wp2_with (first | (go_at_call 34; refine ((hmy _ _ hS)).mono ?_; rintro e w' (⟨rfl, hS⟩)))
    go_ret
    rw [Hx.out]
    exact ⟨rfl, hS.to⟩
  · have d1 : (e.path.toList == p.toList) = false := by rw [strEq]; simp [hq]
    have Hx := Lib.hid (sideI_no hz hq)
    clear hz hq
    go_enter Tryd.func49, Tryd.ntmps49
    go_upto_region 1 with (first | (refine wl_box rfl rfl rfl rfl hS ?_; intro eb _ hS; (try simp only [Act.put, List.setIfInBounds_toArray, List.set_cons_zero, List.set_cons_succ])) | (refine wl_isld rfl ?_; ((first | refine wl_value rfl (ex_l0 hS rfl rfl rfl CellAt.out) ?_ | refine wl_value rfl (ex_lf hS rfl rfl rfl CellAt.out) ?_ | refine wl_value rfl (ex_l1 hS rfl rfl rfl CellAt.out) ?_ | refine wl_value rfl (ex_ldC hS rfl rfl CellAt.out) ?_ | refine wl_value rfl (ex_l0 hS rfl rfl rfl rfl) ?_ | refine wl_value rfl (ex_lf hS rfl rfl rfl rfl) ?_ | refine wl_value rfl (ex_l1 hS rfl rfl rfl rfl) ?_ | refine wl_value rfl (ex_ldC hS rfl rfl rfl) ?_ | refine wl_value rfl (ex_l00 hS rfl rfl CellAt.out) ?_ | refine wl_value rfl (ex_l00 hS rfl rfl rfl) ?_ | refine wl_value rfl (ex_l0f hS rfl rfl CellAt.out) ?_ | refine wl_value rfl (ex_l0f hS rfl rfl rfl) ?_ | refine wl_value rfl (ex_lr hS rfl rfl rfl rfl) ?_ | refine wl_value rfl (ex_lr0 hS rfl rfl rfl) ?_ | refine wl_value rfl (ex_lrz hS rfl rfl rfl) ?_ | refine wl_value rfl (ex_lrf hS rfl rfl rfl) ?_ | refine wl_value rfl (ex_ldrC hS rfl rfl) ?_ | refine wl_value rfl (ex_ldr0 hS rfl rfl rfl) ?_); (try simp only [Act.put, List.setIfInBounds_toArray, List.set_cons_zero, List.set_cons_succ]))) | ((first | refine wl_value rfl (ex_ix hS rfl rfl rfl ?_) ?_); (focus (first | rfl | omega | (simp; done))); (try simp only [Act.put, List.setIfInBounds_toArray, List.set_cons_zero, List.set_cons_succ])) | ((first | refine wl_value rfl (ex_eqA rfl rfl rfl) ?_ | refine wl_value rfl (ex_neA rfl rfl rfl) ?_); (try simp only [Act.put, List.setIfInBounds_toArray, List.set_cons_zero, List.set_cons_succ])) | (refine wl_alloc rfl rfl hS ?_; intro _ _ hS; (try simp only [Act.put, List.setIfInBounds_toArray, List.set_cons_zero, List.set_cons_succ])) | (refine wl_box rfl rfl rfl rfl hS ?_; intro _ _ hS; (try simp only [Act.put, List.setIfInBounds_toArray, List.set_cons_zero, List.set_cons_succ])) | (refine wl_st rfl rfl rfl rfl rfl hS (of_decide_eq_true rfl) ?_; intro _ hS; (try simp only [evT, evC, List.getD_cons_succ, List.getD_cons_zero, List.set_cons_zero, List.set_cons_succ] at hS); (try simp only [List.set_cons_zero, List.set_cons_succ] at hS); (try simp only [Act.put, List.setIfInBounds_toArray, List.set_cons_zero, List.set_cons_succ])) | (refine wl_strC rfl rfl rfl rfl hS rfl rfl ?_; intro _ hS; (try simp only [evT, evC, List.getD_cons_succ, List.getD_cons_zero, List.set_cons_zero, List.set_cons_succ] at hS); (try simp only [Act.put, List.setIfInBounds_toArray, List.set_cons_zero, List.set_cons_succ])))
    have c0 := Sh.ldC (b := eb) (off := 0) (v := .string e.path) hS rfl
    have c1 := Sh.ldC (b := eb) (off := 1) (v := .int .i64 e.kind) hS rfl
    have c2 := Sh.ldC (b := eb) (off := 2) (v := .string e.data) hS rfl
    go_wp2
    go_ret
    rw [Hx.out]
    exact ⟨rfl, hS.to⟩
set_option maxRecDepth 100000 in
theorem ap1_any {tb mb cl : Nat} {es : Array MapEntry} {m : List (ByteArray × Int)} {l : List Ch} (hm : MapIs strkv intv es cl m) (hmm : ∀ p, mget m p = if inL l p = true then some 1 else none) :
    PredC B (cellB tb [.map (some mb)] 63 ++ (mapB mb es cl ++ R)) 48 #[.pointer (some ⟨tb, 0, none⟩)] (fun e => inL l e.path) (fun _ => True) := by
  refine ⟨EntersC.out (P := Tryd.prog) (f := 48), ?_⟩
  rintro x H w - ⟨d, rfl⟩ hS
  show Calls Tryd.prog 48 #[.agg x.cells.toArray, .pointer (some ⟨tb, 0, none⟩)] w _
  have hk := hmm x.path
  cases hi : inL l x.path with
  | true =>
    rw [hi, if_pos rfl] at hk
    have Hk := Lib.hid (show (mget m x.path).elim (.int .i64 0) intv = .int .i64 1 by rw [hk]; rfl)
    clear hk hi
    go_enter Tryd.func48, Tryd.ntmps48
    go_wp2_with (first | (refine wl_box rfl rfl rfl rfl hS ?_; intro xb _ hS; (try simp only [Act.put, List.setIfInBounds_toArray, List.set_cons_zero, List.set_cons_succ])) | (refine wl_lookup hm rfl rfl rfl rfl hS Hk.out ?_; (try simp only [Act.put, List.setIfInBounds_toArray, List.set_cons_zero, List.set_cons_succ])) | (refine wl_isld rfl ?_; ((first | refine wl_value rfl (ex_l0 hS rfl rfl rfl CellAt.out) ?_ | refine wl_value rfl (ex_lf hS rfl rfl rfl CellAt.out) ?_ | refine wl_value rfl (ex_l1 hS rfl rfl rfl CellAt.out) ?_ | refine wl_value rfl (ex_ldC hS rfl rfl CellAt.out) ?_ | refine wl_value rfl (ex_l0 hS rfl rfl rfl rfl) ?_ | refine wl_value rfl (ex_lf hS rfl rfl rfl rfl) ?_ | refine wl_value rfl (ex_l1 hS rfl rfl rfl rfl) ?_ | refine wl_value rfl (ex_ldC hS rfl rfl rfl) ?_ | refine wl_value rfl (ex_l00 hS rfl rfl CellAt.out) ?_ | refine wl_value rfl (ex_l00 hS rfl rfl rfl) ?_ | refine wl_value rfl (ex_l0f hS rfl rfl CellAt.out) ?_ | refine wl_value rfl (ex_l0f hS rfl rfl rfl) ?_ | refine wl_value rfl (ex_lr hS rfl rfl rfl rfl) ?_ | refine wl_value rfl (ex_lr0 hS rfl rfl rfl) ?_ | refine wl_value rfl (ex_lrz hS rfl rfl rfl) ?_ | refine wl_value rfl (ex_lrf hS rfl rfl rfl) ?_ | refine wl_value rfl (ex_ldrC hS rfl rfl) ?_ | refine wl_value rfl (ex_ldr0 hS rfl rfl rfl) ?_); (try simp only [Act.put, List.setIfInBounds_toArray, List.set_cons_zero, List.set_cons_succ]))) | ((first | refine wl_value rfl (ex_ix hS rfl rfl rfl ?_) ?_); (focus (first | rfl | omega | (simp; done))); (try simp only [Act.put, List.setIfInBounds_toArray, List.set_cons_zero, List.set_cons_succ])) | ((first | refine wl_value rfl (ex_eqA rfl rfl rfl) ?_ | refine wl_value rfl (ex_neA rfl rfl rfl) ?_); (try simp only [Act.put, List.setIfInBounds_toArray, List.set_cons_zero, List.set_cons_succ])) | (refine wl_alloc rfl rfl hS ?_; intro _ _ hS; (try simp only [Act.put, List.setIfInBounds_toArray, List.set_cons_zero, List.set_cons_succ])) | (refine wl_box rfl rfl rfl rfl hS ?_; intro _ _ hS; (try simp only [Act.put, List.setIfInBounds_toArray, List.set_cons_zero, List.set_cons_succ])) | (refine wl_st rfl rfl rfl rfl rfl hS (of_decide_eq_true rfl) ?_; intro _ hS; (try simp only [evT, evC, List.getD_cons_succ, List.getD_cons_zero, List.set_cons_zero, List.set_cons_succ] at hS); (try simp only [List.set_cons_zero, List.set_cons_succ] at hS); (try simp only [Act.put, List.setIfInBounds_toArray, List.set_cons_zero, List.set_cons_succ])) | (refine wl_strC rfl rfl rfl rfl hS rfl rfl ?_; intro _ hS; (try simp only [evT, evC, List.getD_cons_succ, List.getD_cons_zero, List.set_cons_zero, List.set_cons_succ] at hS); (try simp only [Act.put, List.setIfInBounds_toArray, List.set_cons_zero, List.set_cons_succ])))
    go_ret
    exact ⟨rfl, hS.to⟩
  | false =>
    rw [hi, if_neg (by decide)] at hk
    have Hk := Lib.hid (show (mget m x.path).elim (.int .i64 0) intv = .int .i64 0 by rw [hk]; rfl)
    clear hk hi
    go_enter Tryd.func48, Tryd.ntmps48
    go_wp2_with (first | (refine wl_box rfl rfl rfl rfl hS ?_; intro xb _ hS; (try simp only [Act.put, List.setIfInBounds_toArray, List.set_cons_zero, List.set_cons_succ])) | (refine wl_lookup hm rfl rfl rfl rfl hS Hk.out ?_; (try simp only [Act.put, List.setIfInBounds_toArray, List.set_cons_zero, List.set_cons_succ])) | (refine wl_isld rfl ?_; ((first | refine wl_value rfl (ex_l0 hS rfl rfl rfl CellAt.out) ?_ | refine wl_value rfl (ex_lf hS rfl rfl rfl CellAt.out) ?_ | refine wl_value rfl (ex_l1 hS rfl rfl rfl CellAt.out) ?_ | refine wl_value rfl (ex_ldC hS rfl rfl CellAt.out) ?_ | refine wl_value rfl (ex_l0 hS rfl rfl rfl rfl) ?_ | refine wl_value rfl (ex_lf hS rfl rfl rfl rfl) ?_ | refine wl_value rfl (ex_l1 hS rfl rfl rfl rfl) ?_ | refine wl_value rfl (ex_ldC hS rfl rfl rfl) ?_ | refine wl_value rfl (ex_l00 hS rfl rfl CellAt.out) ?_ | refine wl_value rfl (ex_l00 hS rfl rfl rfl) ?_ | refine wl_value rfl (ex_l0f hS rfl rfl CellAt.out) ?_ | refine wl_value rfl (ex_l0f hS rfl rfl rfl) ?_ | refine wl_value rfl (ex_lr hS rfl rfl rfl rfl) ?_ | refine wl_value rfl (ex_lr0 hS rfl rfl rfl) ?_ | refine wl_value rfl (ex_lrz hS rfl rfl rfl) ?_ | refine wl_value rfl (ex_lrf hS rfl rfl rfl) ?_ | refine wl_value rfl (ex_ldrC hS rfl rfl) ?_ | refine wl_value rfl (ex_ldr0 hS rfl rfl rfl) ?_); (try simp only [Act.put, List.setIfInBounds_toArray, List.set_cons_zero, List.set_cons_succ]))) | ((first | refine wl_value rfl (ex_ix hS rfl rfl rfl ?_) ?_); (focus (first | rfl | omega | (simp; done))); (try simp only [Act.put, List.setIfInBounds_toArray, List.set_cons_zero, List.set_cons_succ])) | ((first | refine wl_value rfl (ex_eqA rfl rfl rfl) ?_ | refine wl_value rfl (ex_neA rfl rfl rfl) ?_); (try simp only [Act.put, List.setIfInBounds_toArray, List.set_cons_zero, List.set_cons_succ])) | (refine wl_alloc rfl rfl hS ?_; intro _ _ hS; (try simp only [Act.put, List.setIfInBounds_toArray, List.set_cons_zero, List.set_cons_succ])) | (refine wl_box rfl rfl rfl rfl hS ?_; intro _ _ hS; (try simp only [Act.put, List.setIfInBounds_toArray, List.set_cons_zero, List.set_cons_succ])) | (refine wl_st rfl rfl rfl rfl rfl hS (of_decide_eq_true rfl) ?_; intro _ hS; (try simp only [evT, evC, List.getD_cons_succ, List.getD_cons_zero, List.set_cons_zero, List.set_cons_succ] at hS); (try simp only [List.set_cons_zero, List.set_cons_succ] at hS); (try simp only [Act.put, List.setIfInBounds_toArray, List.set_cons_zero, List.set_cons_succ])) | (refine wl_strC rfl rfl rfl rfl hS rfl rfl ?_; intro _ hS; (try simp only [evT, evC, List.getD_cons_succ, List.getD_cons_zero, List.set_cons_zero, List.set_cons_succ] at hS); (try simp only [Act.put, List.setIfInBounds_toArray, List.set_cons_zero, List.set_cons_succ])))
    go_ret
    exact ⟨rfl, hS.to⟩
end
end Go.Tk


set_option linter.unusedSectionVars false
set_option linter.unusedSimpArgs false
set_option linter.unusedVariables false
namespace Go.Tk
open Go.RowKit Go.Proofs
theorem standE_cons (a : En) (r : List En) (p : ByteArray) : standE (a :: r) p = if a.path = p then a else standE r p := by
  unfold standE
  rw [List.find?_cons]
  by_cases h : a.path = p <;> simp [h]
theorem standE_none {t : List En} {p : ByteArray} (h : ∀ e ∈ t, ¬ e.path = p) : standE t p = zE := by
  unfold standE
  rw [List.find?_eq_none.2 (fun e he => by simpa using h e he)]
theorem standE_get {t : List En} {p : ByteArray} (h : ¬ standE t p = zE) : standE t p ∈ t ∧ (standE t p).path = p := by
  unfold standE at *
  cases hf : t.find? (fun e => decide (e.path = p)) with
  | none => rw [hf] at h; exact absurd rfl h
  | some e =>
    have := List.find?_some hf
    exact ⟨List.mem_of_find?_eq_some hf, by simpa using this⟩
theorem standE_mem {t : List En} (hd : Dist t) {e : En} (he : e ∈ t) : standE t e.path = e := by
  unfold standE
  cases hf : t.find? (fun x => decide (x.path = e.path)) with
  | none => exact absurd (by simp) (List.find?_eq_none.1 hf e he)
  | some x =>
    have := List.find?_some hf
    exact hd.inj (List.mem_of_find?_eq_some hf) he (by simpa using this)
structure DiffOk (a b : List En) (D : List Ch) : Prop where
  at_ : ∀ c ∈ D, c.old = standE a c.path ∧ c.new = standE b c.path ∧ ¬ c.old = c.new
  all : ∀ p, ¬ standE a p = standE b p → inL D p = true
  ord : D.Pairwise fun x y => lessI x.path y.path < 0
def AboveP (p : ByteArray) (t : List En) : Prop := ∀ e ∈ t, lessI p e.path < 0
theorem AboveP.none {p : ByteArray} {t : List En} (h : AboveP p t) : standE t p = zE := standE_none fun e he hp => by have := h e he; rw [hp, lessI_self] at this; omega
theorem DiffOk.above {a b : List En} {D : List Ch} (h : DiffOk a b D) {p : ByteArray} (ha : AboveP p a) (hb : AboveP p b) : ∀ c ∈ D, lessI p c.path < 0 := by
  intro c hc
  obtain ⟨h1, h2, h3⟩ := h.at_ c hc
  by_cases ho : standE a c.path = zE
  · by_cases hn : standE b c.path = zE
    · exact absurd (by rw [h1, h2, ho, hn]) h3
    · obtain ⟨h4, h5⟩ := standE_get hn
      rw [← h5]; exact hb _ h4
  · obtain ⟨h4, h5⟩ := standE_get ho
    rw [← h5]; exact ha _ h4
theorem DiffOk.cons {a b a' b' : List En} {D : List Ch} {p : ByteArray} {o n : En} (h : DiffOk a' b' D) (ha : AboveP p a') (hb : AboveP p b') (hne : ¬ o = n)
    (sa : ∀ q, standE a q = if p = q then o else standE a' q) (sb : ∀ q, standE b q = if p = q then n else standE b' q) : DiffOk a b (⟨p, o, n⟩ :: D) := by
  have hab := h.above ha hb
  refine ⟨fun c hc => ?_, fun q hq => ?_, List.pairwise_cons.2 ⟨fun c hc => hab c hc, h.ord⟩⟩
  · rcases List.mem_cons.1 hc with rfl | hc
    · rw [sa, sb, if_pos rfl, if_pos rfl]
      exact ⟨rfl, rfl, hne⟩
    · have : ¬ p = c.path := fun e => by have := hab c hc; rw [← e, lessI_self] at this; omega
      rw [sa, sb, if_neg this, if_neg this]
      exact h.at_ c hc
  · rw [inL_iff]
    by_cases hp : p = q
    · exact ⟨_, List.mem_cons_self .., hp⟩
    · rw [sa, sb, if_neg hp, if_neg hp] at hq
      obtain ⟨c, hc, h1⟩ := inL_iff.1 (h.all q hq)
      exact ⟨c, List.mem_cons_of_mem _ hc, h1⟩
theorem DiffOk.skip {a b a' b' : List En} {D : List Ch} {p : ByteArray} {o : En} (h : DiffOk a' b' D) (ha : AboveP p a') (hb : AboveP p b')
    (sa : ∀ q, standE a q = if p = q then o else standE a' q) (sb : ∀ q, standE b q = if p = q then o else standE b' q) : DiffOk a b D := by
  have hab := h.above ha hb
  refine ⟨fun c hc => ?_, fun q hq => ?_, h.ord⟩
  · have : ¬ p = c.path := fun e => by have := hab c hc; rw [← e, lessI_self] at this; omega
    rw [sa, sb, if_neg this, if_neg this]
    exact h.at_ c hc
  · by_cases hp : p = q
    · rw [sa, sb, if_pos hp, if_pos hp] at hq; exact absurd rfl hq
    · rw [sa, sb, if_neg hp, if_neg hp] at hq
      exact h.all q hq
theorem SortedE.above {e : En} {r : List En} (h : SortedE (e :: r)) : AboveP e.path r := fun x hx => (List.pairwise_cons.1 h).1 x hx
theorem SortedE.tail {e : En} {r : List En} (h : SortedE (e :: r)) : SortedE r := (List.pairwise_cons.1 h).2
theorem stand_skip {p : ByteArray} {t : List En} (h : AboveP p t) (q : ByteArray) : standE t q = if p = q then zE else standE t q := by
  by_cases hq : p = q
  · subst hq; rw [if_pos rfl, h.none]
  · rw [if_neg hq]
theorem diffL_ok (a b : List En) (ha : ∀ e ∈ a, mayB e = true) (hb : ∀ e ∈ b, mayB e = true) (sa : SortedE a) (sb : SortedE b) : DiffOk a b (diffL a b) := by
  induction a, b using diffL.induct with
  | case1 => rw [diffL_nil]; exact ⟨(fun _ h => nomatch h), (fun p h => absurd rfl h), .nil⟩
  | case2 a r ih =>
    rw [diffL_l]
    exact (ih (fun e he => ha e (List.mem_cons_of_mem _ he)) hb sa.tail sb).cons sa.above (fun _ h => nomatch h) (mayB_zE (ha a (by simp))) (standE_cons a r) (fun q => by by_cases h : a.path = q <;> simp [h, standE])
  | case3 b s ih =>
    rw [diffL_r]
    exact (ih ha (fun e he => hb e (List.mem_cons_of_mem _ he)) sa sb.tail).cons (fun _ h => nomatch h) sb.above (fun h => mayB_zE (hb b (by simp)) h.symm) (fun q => by by_cases h : b.path = q <;> simp [h, standE]) (standE_cons b s)
  | case4 a r b s h ih =>
    rw [diffL_c, if_pos h]
    have hab : AboveP a.path (b :: s) := fun x hx => by
      rcases List.mem_cons.1 hx with rfl | hx
      · exact h
      · exact lessI_trans (mayB_ok (ha a (by simp))).1 (mayB_ok (hb b (by simp))).1 (mayB_ok (hb x (List.mem_cons_of_mem _ hx))).1 h (sb.above x hx)
    exact (ih (fun e he => ha e (List.mem_cons_of_mem _ he)) hb sa.tail sb).cons sa.above hab (mayB_zE (ha a (by simp))) (standE_cons a r) (stand_skip hab)
  | case5 a r b s h1 h2 ih =>
    rw [diffL_c, if_neg h1, if_pos h2]
    have oa := (mayB_ok (ha a (by simp))).1
    have ob := (mayB_ok (hb b (by simp))).1
    have hlt : lessI b.path a.path < 0 := by have := lessI_swap oa ob; omega
    have hba : AboveP b.path (a :: r) := fun x hx => by
      rcases List.mem_cons.1 hx with rfl | hx
      · exact hlt
      · exact lessI_trans ob oa (mayB_ok (ha x (List.mem_cons_of_mem _ hx))).1 hlt (sa.above x hx)
    exact (ih ha (fun e he => hb e (List.mem_cons_of_mem _ he)) sa sb.tail).cons hba sb.above (fun h => mayB_zE (hb b (by simp)) h.symm) (stand_skip hba) (standE_cons b s)
  | case6 r b s h1 h2 ih =>
    rw [diffL_c, if_neg h1, if_neg h2, if_pos rfl]
    exact (ih (fun e he => ha e (List.mem_cons_of_mem _ he)) (fun e he => hb e (List.mem_cons_of_mem _ he)) sa.tail sb.tail).skip sa.above sb.above (standE_cons b r) (standE_cons b s)
  | case7 a r b s h1 h2 h3 ih =>
    rw [diffL_c, if_neg h1, if_neg h2, if_neg h3]
    have oa := (mayB_ok (ha a (by simp))).1
    have ob := (mayB_ok (hb b (by simp))).1
    have hp : a.path = b.path := lessI_eq oa ob (by omega)
    have hsa := sa.above
    rw [hp] at hsa
    exact (ih (fun e he => ha e (List.mem_cons_of_mem _ he)) (fun e he => hb e (List.mem_cons_of_mem _ he)) sa.tail sb.tail).cons hsa sb.above h3 (fun q => by rw [← hp]; exact standE_cons a r q) (standE_cons b s)
theorem chsG_of : ∀ (l : List Ch) (p : Option ByteArray), (∀ c ∈ l, chOk c = true) → l.Pairwise (fun x y => lessI x.path y.path < 0) → (∀ q, p = some q → ∀ c ∈ l, lessI q c.path < 0) → chsG p l = true
  | [], p, _, _, _ => by cases p <;> rfl
  | c :: r, p, h1, h2, h3 => by
    rw [List.pairwise_cons] at h2
    rw [chsG_cons, h1 c (by simp), chsG_of r (some c.path) (fun x hx => h1 x (List.mem_cons_of_mem _ hx)) h2.2 (fun q hq x hx => by cases hq; exact h2.1 x hx)]
    cases p with
    | none => rfl
    | some q => unfold befE; simp [h3 q rfl c (by simp)]
theorem Dist.nodup {t : List En} (h : Dist t) : t.Nodup := h.imp fun {x y} h e => h (by rw [e])
theorem side_stand {t : List En} (ht : ∀ e ∈ t, mayB e = true) (p : ByteArray) : sideI (standE t p) p = true := by
  unfold sideI
  by_cases h : standE t p = zE
  · simp [h]
  · obtain ⟨h1, h2⟩ := standE_get h
    simp [h2, ht _ h1]
theorem diff_leads {a b : List En} (hA : RightT a) (hB : RightT b) (ha : (checkA a).2 = 0) (hb : (checkA b).2 = 0) : applyR a (diffL a b) = (b, 0) := by
  have hd := diffL_ok a b hA.may hB.may hA.sorted hB.sorted
  have hch : chsG none (diffL a b) = true := chsG_of _ _ (fun c hc => by
    obtain ⟨h1, h2, h3⟩ := hd.at_ c hc
    unfold chOk
    have h4 : (decide (c.old = zE) && decide (c.new = zE)) = false := by
      rw [Bool.and_eq_false_iff, decide_eq_false_iff_not, decide_eq_false_iff_not]
      by_cases ho : c.old = zE
      · exact .inr fun hn => h3 (by rw [ho, hn])
      · exact .inl ho
    rw [h4, h1, h2, side_stand hA.may, side_stand hB.may]
    rfl) hd.ord (fun _ h => nomatch h)
  have hst : standsB a (diffL a b) = true := by
    unfold standsB
    rw [List.all_eq_true]
    intro c hc
    rw [decide_eq_true_eq]
    exact (hd.at_ c hc).1.symm
  have da := hA.sorted.dist
  have db := hB.sorted.dist
  obtain ⟨hap, hdp⟩ := applied_ok hA.may da hch
  have hp : (applied a (diffL a b)).Perm b := by
    refine perm_of_nodup hdp.nodup db.nodup fun e => ?_
    unfold applied newsL
    rw [List.mem_append, List.mem_filter, List.mem_filter, List.mem_map]
    constructor
    · rintro (⟨h1, h2⟩ | ⟨⟨c, hc, rfl⟩, h2⟩)
      · have h3 : standE a e.path = standE b e.path := Classical.byContradiction fun h => by
          rw [hd.all _ h] at h2; cases h2
        rw [standE_mem da h1] at h3
        have : ¬ standE b e.path = zE := fun h => mayB_zE (hA.may e h1) (h3.trans h)
        rw [h3]; exact (standE_get this).1
      · rw [(hd.at_ c hc).2.1] at h2 ⊢
        exact (standE_get (by simpa using h2)).1
    · intro he
      have hz := mayB_zE (hB.may e he)
      have hse := standE_mem db he
      by_cases hi : inL (diffL a b) e.path = true
      · right
        obtain ⟨c, hc, h1⟩ := inL_iff.1 hi
        refine ⟨⟨c, hc, ?_⟩, by simpa using hz⟩
        rw [(hd.at_ c hc).2.1, h1, hse]
      · left
        have h3 : standE a e.path = standE b e.path := Classical.byContradiction fun h => hi (hd.all _ h)
        have : ¬ standE a e.path = zE := by rw [h3, hse]; exact hz
        have h4 := standE_get this
        rw [h3, hse] at h4
        exact ⟨h4.1, by simpa using hi⟩
  have hs : srt (applied a (diffL a b)) = b := right_sorted hB ((srt_perm _).trans hp) (srt_sorted _ fun e he => (mayB_ok (hap e he)).1)
  unfold applyR
  rw [if_pos ha, if_pos hch, if_pos hst, hs, if_pos hb]
theorem diff_same {a b : List En} (hA : RightT a) (hB : RightT b) : diffL a b = [] ↔ a = b := by
  have hd := diffL_ok a b hA.may hB.may hA.sorted hB.sorted
  have da := hA.sorted.dist
  have db := hB.sorted.dist
  constructor
  · intro h
    rw [h] at hd
    have hs : ∀ p, standE a p = standE b p := fun p => Classical.byContradiction fun h => by have := hd.all p h; cases this
    refine right_sorted hB (perm_of_nodup da.nodup db.nodup fun e => ⟨fun he => ?_, fun he => ?_⟩) (hA.sorted.le fun e he => (mayB_ok (hA.may e he)).1)
    · have h1 := standE_mem da he
      have : ¬ standE b e.path = zE := by rw [← hs, h1]; exact mayB_zE (hA.may e he)
      have h2 := (standE_get this).1
      rwa [← hs, h1] at h2
    · have h1 := standE_mem db he
      have : ¬ standE a e.path = zE := by rw [hs, h1]; exact mayB_zE (hB.may e he)
      have h2 := (standE_get this).1
      rwa [hs, h1] at h2
  · rintro rfl
    cases hD : diffL a a with
    | nil => rfl
    | cons c D =>
      obtain ⟨h1, h2, h3⟩ := hd.at_ c (by rw [hD]; simp)
      exact absurd (h1.trans h2.symm) h3
end Go.Tk
