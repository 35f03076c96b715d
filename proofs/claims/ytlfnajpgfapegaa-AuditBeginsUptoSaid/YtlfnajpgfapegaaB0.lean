/- The audit's book, plainly: what each event does to it; and what a log's beginning tells. -/
import Derived.Test.YtlfnajpgfapegaaA5
set_option linter.unusedSectionVars false
set_option linter.unusedSimpArgs false
set_option linter.unusedVariables false
namespace Go.Tk
open Go.RowKit Go.Proofs

structure Cfg where
  workers : Int
  slots : Int
  queue : Int
  memo : Int
  room : Int
  idle : Int
  retries : Int
structure Rq where
  born : Int
  waits : Bool
  with_ : Int
  over : Bool
  sent : Int
deriving DecidableEq
structure Wk where
  state : Int
  owes : List Int
  idle : Int
deriving DecidableEq
def Rq.zero : Rq := ⟨0, false, 0, false, 0⟩
structure Bk where
  c : Cfg
  ids : List (Int × Rq)
  wks : List (Int × Wk)
  born : Int
  started : Int
  tick : Int
  must : List Ev
  late : Bool
  last : Int
def Bk.new (c : Cfg) : Bk := ⟨c, [], [], 0, 0, 0, [], false, 0⟩
def Bk.id (p : Bk) (n : Int) : Bk := if mget p.ids n = none then { p with ids := mput p.ids n Rq.zero } else p
def Bk.rq (p : Bk) (n : Int) : Rq := (mget p.ids n).getD Rq.zero
abbrev Bk.setR (p : Bk) (n : Int) (r : Rq) : Bk := { p with ids := mput p.ids n r }
def Bk.lives (p : Bk) (n : Int) : Option Wk := (mget p.wks n).filter fun w => decide (w.state ≠ 6)
abbrev Bk.setW (p : Bk) (n : Int) (w : Wk) : Bk := { p with wks := mput p.wks n w }
def Bk.waiting (p : Bk) : Nat := (p.ids.filter fun x => x.2.waits).length
def Bk.living (p : Bk) : Nat := (p.wks.filter fun x => decide (x.2.state ≠ 6)).length
abbrev Bk.adds (p : Bk) (e : Ev) : Bk := { p with must := p.must ++ [e] }
def finalE (id out : Int) : Ev := ⟨8, id, 0, out⟩
def deadE (n : Int) : Ev := ⟨11, 0, n, 0⟩
def Rq.close (r : Rq) : Rq := ⟨r.born, false, 0, true, r.sent⟩

def goneL (n : Int) (tells : Bool) : List Int → Bk → Bk
  | [], p => p
  | id :: t, p =>
    let p1 := p.id id
    if (p1.rq id).with_ ≠ n ∨ tells = false then goneL n tells t p1 else
    let p2 := p1.setR id { p1.rq id with with_ := 0 }
    goneL n tells t (if p.c.retries < (p1.rq id).sent then p2.adds (finalE id 4) else p2.adds ⟨16, id, 0, 0⟩)
def Bk.gone (p : Bk) (n : Int) (tells : Bool) : Bk :=
  match mget p.wks n with
  | none => p
  | some w => (goneL n tells w.owes p).setW n { w with state := 6, owes := [] }

/-! What a kind breaks, and what becomes of it. -/
def Bk.submit (p : Bk) (e : Ev) : Int × Bk :=
  let p1 := p.id e.id
  if 0 < (p1.rq e.id).born ∨ (p1.rq e.id).over = true ∨ p1.c.queue ≤ p1.waiting then (2, p1) else
  (0, ({ p1 with born := p1.born + 1 } : Bk).setR e.id { p1.rq e.id with born := p1.born + 1, waits := true })
def Bk.refuse (p : Bk) (e : Ev) : Int × Bk :=
  let p1 := p.id e.id
  if (p1.rq e.id).born = 0 ∧ (p1.rq e.id).over = false then (if (p1.waiting : Int) < p1.c.queue then (2, p1) else (0, p1.adds (finalE e.id 5))) else (0, p1)
def Bk.cancel (p : Bk) (e : Ev) : Int × Bk :=
  let p1 := p.id e.id
  if (p1.rq e.id).waits = false ∧ (p1.rq e.id).with_ = 0 then (4, p1) else (0, p1.adds (finalE e.id 2))
def Bk.outcome (p : Bk) (e : Ev) : Int × Bk :=
  let p1 := p.id e.id
  if e.n ≠ 6 ∨ 0 < (p1.rq e.id).born ∨ (p1.rq e.id).over = true then (4, p1) else (0, p1.setR e.id { p1.rq e.id with over := true })
def Bk.start (p : Bk) (e : Ev) : Int × Bk :=
  if e.worker ≠ p.started + 1 then (5, p) else
  if p.c.workers ≤ p.living then (6, p) else
  (0, ({ p with started := p.started + 1 } : Bk).setW e.worker ⟨1, [], 0⟩)
def Bk.hello (p : Bk) (e : Ev) : Int × Bk :=
  match p.lives e.worker with
  | none => (5, p)
  | some w => if w.state ≠ 1 then (5, p) else (0, p.setW e.worker { w with state := 2, idle := 0 })
def Bk.reap (p : Bk) (e : Ev) : Int × Bk :=
  match p.lives e.worker with
  | none => (5, p)
  | some w => if w.state ≠ 2 then (5, p) else (0, p.gone e.worker false)
def Bk.ended (p : Bk) (e : Ev) : Int × Bk :=
  match p.lives e.worker with
  | none => (5, p)
  | some w => (0, p.gone e.worker true)
def Bk.turn (p : Bk) (e : Ev) : Int × Bk :=
  match p.lives e.worker with
  | none => (5, p)
  | some w => (0, p)
def Bk.drain (p : Bk) (e : Ev) : Int × Bk :=
  match p.lives e.worker with
  | none => (5, p)
  | some w => if w.state = 4 then (5, p) else if w.state ≠ 3 then (0, p.adds (deadE e.worker)) else (0, p.setW e.worker { w with state := 4 })
def Bk.send (p : Bk) (e : Ev) : Int × Bk :=
  let p1 := p.id e.id
  match p1.lives e.worker with
  | none => (3, p1)
  | some w =>
    if (p1.rq e.id).waits = false ∨ (w.state ≠ 2 ∧ w.state ≠ 3) then (3, p1) else
    if p1.c.slots ≤ w.owes.length then (6, p1) else
    (0, (p1.setR e.id { p1.rq e.id with waits := false, with_ := e.worker, sent := (p1.rq e.id).sent + 1 }).setW e.worker ⟨3, w.owes ++ [e.id], w.idle⟩)
def Bk.done (p : Bk) (e : Ev) : Int × Bk :=
  let p1 := p.id e.id
  match p1.lives e.worker with
  | none => (8, p1)
  | some w =>
    if e.id ∉ w.owes then (8, p1) else
    let owes := w.owes.erase e.id
    let p2 := p1.setW e.worker { w with owes := owes }
    let p3 := if (p1.rq e.id).with_ = e.worker then (p2.setR e.id { p1.rq e.id with with_ := 0 }).adds (finalE e.id 1) else p2.adds ⟨15, e.id, 0, 0⟩
    if owes ≠ [] then (0, p3) else
    if w.state = 4 then (0, p3.adds (deadE e.worker)) else (0, p3.setW e.worker ⟨2, owes, 0⟩)
def tickW (w : Wk) : Wk := if w.state = 2 then { w with idle := w.idle + 1 } else w
def Bk.ticked (p : Bk) : List Int := (p.wks.filter fun x => decide (x.2.state = 2) && decide (p.c.idle ≤ x.2.idle + 1)).map (·.1)
def Bk.tickE (p : Bk) (e : Ev) : Int × Bk :=
  (0, { p with tick := e.n, late := true, last := 0, wks := p.wks.map (fun x => (x.1, tickW x.2)), must := p.must ++ ((p.ticked).mergeSort (fun a b => decide (a ≤ b))).map deadE })
def Bk.look (p : Bk) (e : Ev) : Int × Bk :=
  if e.kind = 1 then p.submit e else if e.kind = 2 then p.refuse e else if e.kind = 3 then p.cancel e else if e.kind = 8 then p.outcome e else
  if e.kind = 16 ∨ e.kind = 15 then (4, p) else if e.kind = 4 then p.start e else if e.kind = 5 then p.hello e else if e.kind = 12 then p.reap e else
  if e.kind = 9 ∨ e.kind = 10 then p.ended e else if e.kind = 14 then p.turn e else if e.kind = 17 then p.drain e else if e.kind = 11 then (5, p) else
  if e.kind = 6 then p.send e else if e.kind = 7 then p.done e else p.tickE e

def Bk.follows (p : Bk) (e : Ev) : Bk :=
  if e.kind = 8 then (p.id e.id).setR e.id ((p.id e.id).rq e.id).close else
  if e.kind = 16 then (p.id e.id).setR e.id { (p.id e.id).rq e.id with waits := true } else
  if e.kind = 11 then p.gone e.worker false else p
def Bk.may (p : Bk) (e : Ev) : Bool × Bk :=
  if p.late = false ∨ e.kind ≠ 8 ∨ e.n ≠ 3 then (false, p) else
  ((((p.id e.id).rq e.id).waits || decide (0 < ((p.id e.id).rq e.id).with_)) && decide (p.last < ((p.id e.id).rq e.id).born), p.id e.id)
def brokenI : List Ev → Int
  | [] => 4
  | e :: _ => if e.kind = 11 then 7 else 4
def Bk.event (p : Bk) (e : Ev) : Int × Bk :=
  if rightI e = false ∨ (e.kind = 13 ∧ e.n ≠ p.tick + 1) then (1, p) else
  if (p.may e).1 = true then (0, ({ (p.may e).2 with last := ((p.may e).2.rq e.id).born } : Bk).setR e.id ((p.may e).2.rq e.id).close) else
  let p1 : Bk := { (p.may e).2 with late := false }
  match p1.must with
  | [] => p1.look e
  | m :: t => if e ≠ m then (brokenI p1.must, p1) else (0, ({ p1 with must := t } : Bk).follows e)
def lookG : Nat → List Ev → Bk → Int × Int
  | i, [], p => if p.must = [] then (0, 0) else (brokenI p.must, (i : Int))
  | i, e :: t, p => if (p.event e).1 ≠ 0 then ((p.event e).1, (i : Int)) else lookG (i + 1) t (p.event e).2
def lookI (c : Cfg) (l : List Ev) : Int × Int := lookG 0 l (Bk.new c)

/-! The plain law. -/
theorem broken_cases (l : List Ev) : brokenI l = 7 ∨ brokenI l = 4 := by
  cases l with
  | nil => exact .inr rfl
  | cons e t =>
    by_cases h : e.kind = 11
    · left; simp [brokenI, h]
    · right; simp [brokenI, h]
theorem lookG_at : ∀ (l : List Ev) (i : Nat) (p : Bk), (lookG i l p = (0, 0)) ∨ ((lookG i l p).1 ≠ 0 ∧ (i : Int) ≤ (lookG i l p).2 ∧ (lookG i l p).2 ≤ (i : Int) + l.length)
  | [], i, p => by
    unfold lookG
    split
    · exact .inl rfl
    · right
      refine ⟨?_, Int.le_refl _, by simp⟩
      rcases broken_cases p.must with h | h <;> simp [h]
  | e :: t, i, p => by
    unfold lookG
    split
    · right
      rename_i h
      exact ⟨h, Int.le_refl _, by simp; omega⟩
    · rcases lookG_at t (i + 1) (p.event e).2 with h | ⟨h1, h2, h3⟩
      · exact .inl h
      · right
        refine ⟨h1, by omega, ?_⟩
        simp only [List.length_cons]
        omega
theorem lookG_begins : ∀ (l : List Ev) (i cut : Nat) (p : Bk), cut ≤ l.length →
    ((lookG i l p).1 ≠ 0 ∧ (lookG i l p).2 < (i : Int) + cut ∧ lookG i (l.take cut) p = lookG i l p) ∨
    (¬ ((lookG i l p).1 ≠ 0 ∧ (lookG i l p).2 < (i : Int) + cut) ∧ (lookG i (l.take cut) p = (0, 0) ∨ ((lookG i (l.take cut) p).2 = (i : Int) + cut ∧ ((lookG i (l.take cut) p).1 = 4 ∨ (lookG i (l.take cut) p).1 = 7))))
  | l, i, 0, p, _ => by
    right
    refine ⟨?_, ?_⟩
    · rintro ⟨h1, h2⟩
      rcases lookG_at l i p with h | ⟨_, h, _⟩
      · rw [h] at h1; exact h1 rfl
      · simp at h2; omega
    · rw [List.take_zero]
      unfold lookG
      split
      · exact .inl rfl
      · right
        refine ⟨by simp, ?_⟩
        rcases broken_cases p.must with h | h
        · exact .inr h
        · exact .inl h
  | [], i, cut + 1, p, h => by simp at h
  | e :: t, i, cut + 1, p, h => by
    rw [List.take_succ_cons]
    unfold lookG
    by_cases he : (p.event e).1 ≠ 0
    · rw [if_pos he]
      left
      rw [if_pos he]
      exact ⟨he, by simp; omega, rfl⟩
    · rw [if_neg he, if_neg he]
      rcases lookG_begins t (i + 1) cut (p.event e).2 (by simpa using h) with ⟨h1, h2, h3⟩ | ⟨h1, h2⟩
      · left
        exact ⟨h1, by push_cast at h2 ⊢; omega, h3⟩
      · right
        refine ⟨fun h => h1 ⟨h.1, by have := h.2; push_cast at this ⊢; omega⟩, ?_⟩
        rcases h2 with h2 | ⟨h2, h3⟩
        · exact .inl h2
        · exact .inr ⟨by push_cast at h2 ⊢; omega, h3⟩
end Go.Tk
