/- The queue's state: how it lies in memory. -/
import Derived.Test.YteahpjecpdcpaaaTkTy
import Derived.BigQuiet
import Derived.Lib.Hide
set_option linter.unusedSectionVars false
set_option linter.unusedSimpArgs false
set_option linter.unusedVariables false
namespace Go.Tk
open Go.RowKit Go.Proofs

structure Dig where
  l : List Int
  h : l.length = 32
deriving DecidableEq
structure Wait where
  id : Int
  key : Dig
  born : Int
  tries : Int
  until_ : Int
deriving DecidableEq

def Dig.zero : Dig := ⟨List.replicate 32 0, rfl⟩
def Wait.zero : Wait := ⟨0, Dig.zero, 0, 0, 0⟩
def Dig.cells (d : Dig) : List Value := d.l.map (fun n => .int .u8 n)
theorem Dig.len (d : Dig) : d.cells.length = 32 := by simp [Dig.cells, d.h]
theorem Dig.one (d : Dig) : ∀ v ∈ d.cells, v.oneCell' = true := by
  intro v hv
  obtain ⟨n, _, rfl⟩ := List.mem_map.1 hv
  rfl
def Wait.cells (w : Wait) : List Value := .int .u64 w.id :: (w.key.cells ++ [.int .i64 w.born, .int .i64 w.tries, .int .i64 w.until_])
theorem Wait.len (w : Wait) : w.cells.length = 36 := by simp [Wait.cells, w.key.len]
theorem Wait.one (w : Wait) : ∀ v ∈ w.cells, v.oneCell' = true := by
  intro v hv
  simp only [Wait.cells, List.mem_cons, List.mem_append, List.not_mem_nil, or_false] at hv
  rcases hv with rfl | hv | rfl | rfl | rfl
  · rfl
  · exact w.key.one v hv
  all_goals rfl
theorem Wait.at0 (w : Wait) (t : List Value) : (w.cells ++ t)[0]? = some (.int .u64 w.id) := rfl
theorem Wait.at33 (w : Wait) (t : List Value) : (w.cells ++ t)[33]? = some (.int .i64 w.born) := by
  simp only [Wait.cells, List.cons_append, List.getElem?_cons_succ, List.append_assoc]
  rw [List.getElem?_append_right (by simp [w.key.len]), w.key.len]; rfl
theorem Wait.at34 (w : Wait) (t : List Value) : (w.cells ++ t)[34]? = some (.int .i64 w.tries) := by
  simp only [Wait.cells, List.cons_append, List.getElem?_cons_succ, List.append_assoc]
  rw [List.getElem?_append_right (by simp [w.key.len]), w.key.len]; rfl
theorem Wait.at35 (w : Wait) (t : List Value) : (w.cells ++ t)[35]? = some (.int .i64 w.until_) := by
  simp only [Wait.cells, List.cons_append, List.getElem?_cons_succ, List.append_assoc]
  rw [List.getElem?_append_right (by simp [w.key.len]), w.key.len]; rfl
theorem Wait.at36 (w : Wait) (v : Value) (t : List Value) : (w.cells ++ v :: t)[36]? = some v := by
  rw [List.getElem?_append_right (by simp [w.len]), w.len]; rfl
theorem Wait.key_ (w : Wait) : (w.cells.drop 1).take 32 = w.key.cells := by
  simp only [Wait.cells, List.drop_succ_cons, List.drop_zero]
  rw [List.take_append_of_le_length (by simp [w.key.len]), List.take_of_length_le (by simp [w.key.len])]

def waitE : Enc Wait := {
  val w := .agg w.cells.toArray
  cells := Wait.cells
  valc _ := rfl
  k := 36
  pos := by decide
  len := Wait.len
  one := Wait.one }

/-- A request that is not over, and its block. -/
structure ItemB where
  blk : Nat
  w : Wait
  out : Bool
def ItemB.cells (x : ItemB) : List Value := x.w.cells ++ [.bool x.out]
theorem ItemB.len (x : ItemB) : x.cells.length = 37 := by simp [ItemB.cells, x.w.len]
def ItemB.ptr (x : ItemB) : Value := .pointer (some ⟨x.blk, 0, none⟩)

structure QS where
  most : Int
  born : Int
  items : List (Int × ItemB)
  known : List (Int × Int)

def itemsH (l : List (Int × ItemB)) : HL := l.flatMap fun p => cellB p.2.blk p.2.cells 77
theorem itemsH_nil : itemsH [] = [] := rfl
theorem itemsH_cons (p : Int × ItemB) (l : List (Int × ItemB)) : itemsH (p :: l) = cellB p.2.blk p.2.cells 77 ++ itemsH l := rfl
theorem itemsH_append (a b : List (Int × ItemB)) : itemsH (a ++ b) = itemsH a ++ itemsH b := by simp [itemsH]

abbrev ikv : Int → Value := fun n => .int .u64 n
abbrev iiv : Int → Value := fun n => .int .i64 n

/-- A queue at block b, in a world; R is what else is told. -/
structure QAt (B : Base) (q : QS) (b mi mk : Nat) (R : HL) (w : World) : Prop where
  out : ∃ es1 c1 es2 c2, Sh B (cellB b [.int .i64 q.most, .int .i64 q.born, .map (some mi), .map (some mk)] 67 ++ (mapB mk es2 c2 ++ (mapB mi es1 c1 ++ (itemsH q.items ++ R)))) w ∧
    MapIs ikv ItemB.ptr es1 c1 q.items ∧ MapIs ikv iiv es2 c2 q.known

theorem mget_split {κ ν : Type} [DecidableEq κ] {m : List (κ × ν)} {k : κ} {v : ν} (h : mget m k = some v) : ∃ l1 l2, m = l1 ++ (k, v) :: l2 ∧ mget l1 k = none := by
  induction m with
  | nil => simp at h
  | cons p m ih =>
    rw [mget_cons] at h
    by_cases hk : k = p.1
    · simp only [hk, if_true, Option.some.injEq] at h
      subst h; subst hk
      exact ⟨[], m, rfl, rfl⟩
    · simp only [hk, if_false] at h
      obtain ⟨l1, l2, rfl, h1⟩ := ih h
      exact ⟨p :: l1, l2, rfl, by rw [mget_cons]; simp [hk, h1]⟩
theorem mput_split {κ ν : Type} [DecidableEq κ] {l1 l2 : List (κ × ν)} {k : κ} {v u : ν} (h : mget l1 k = none) : mput (l1 ++ (k, v) :: l2) k u = l1 ++ (k, u) :: l2 := by
  induction l1 with
  | nil => simp [mput]
  | cons p l1 ih =>
    rw [mget_cons] at h
    by_cases hk : k = p.1
    · simp [hk] at h
    · simp only [hk, if_false] at h
      simp [mput, hk, ih h]
theorem mdel_split {κ ν : Type} [DecidableEq κ] {l1 l2 : List (κ × ν)} {k : κ} {v : ν} (hn : ((l1 ++ (k, v) :: l2).map (·.1)).Nodup) : mdel (l1 ++ (k, v) :: l2) k = l1 ++ l2 := by
  simp only [List.map_append, List.map_cons, List.nodup_append, List.nodup_cons] at hn
  obtain ⟨_, ⟨h2, _⟩, h3⟩ := hn
  simp only [mdel, List.filter_append, List.filter_cons, ne_eq, not_true_eq_false, decide_false, Bool.false_eq_true, if_false]
  rw [List.filter_eq_self.2, List.filter_eq_self.2]
  · intro q hq
    have : ¬ k = q.1 := fun e => h2 (e ▸ List.mem_map.2 ⟨q, hq, rfl⟩)
    simp [this]
  · intro q hq
    have : ¬ k = q.1 := fun e => h3 q.1 (List.mem_map.2 ⟨q, hq, rfl⟩) k (List.mem_cons_self ..) e.symm
    simp [this]
end Go.Tk
