/- Paths, plainly: names between slashes. -/
import Derived.Test.YtclmemhginekbaaDoorTkW
import Derived.Test.YtclmemhginekbaaDoorTkTy
import Derived.Lib.SplitLaws
import Derived.Lib.Join
import Derived.BigQuiet
import Derived.Lib.Hide
set_option linter.unusedSectionVars false
set_option linter.unusedSimpArgs false
set_option linter.unusedVariables false
namespace Go.Tk
open Go.RowKit Go.Proofs

abbrev slash : ByteArray := ⟨#[47]⟩
abbrev mkB (l : List UInt8) : ByteArray := ⟨l.toArray⟩
theorem mkB_data (s : ByteArray) : mkB s.data.toList = s := by cases s; rfl
theorem data_mkB (l : List UInt8) : (mkB l).data.toList = l := rfl
theorem mkB_inj {a b : List UInt8} (h : mkB a = mkB b) : a = b := by have := congrArg (fun s : ByteArray => s.data.toList) h; simpa using this
theorem ba_ext {s t : ByteArray} (h : s.data.toList = t.data.toList) : s = t := by rw [← mkB_data s, ← mkB_data t, h]
theorem ba_size (s : ByteArray) : s.size = s.data.toList.length := by cases s; rfl
/-- What stands between slashes. -/
def splitL : List UInt8 → List (List UInt8)
  | [] => [[]]
  | c :: t => if c = 47 then [] :: splitL t else
    match splitL t with
    | [] => [[c]]
    | h :: r => (c :: h) :: r
theorem splitL_ne : ∀ l, splitL l ≠ []
  | [] => by simp [splitL]
  | c :: t => by
    unfold splitL
    split
    · simp
    · split <;> simp
theorem splitL_miss : ∀ {l : List UInt8}, (47 : UInt8) ∉ l → splitL l = [l]
  | [], _ => rfl
  | c :: t, h => by
    simp only [List.mem_cons, not_or] at h
    unfold splitL
    rw [if_neg (fun e => h.1 e.symm), splitL_miss h.2]
theorem splitL_hit : ∀ {a b : List UInt8}, (47 : UInt8) ∉ a → splitL (a ++ 47 :: b) = a :: splitL b
  | [], b, _ => by rw [List.nil_append]; conv => lhs; unfold splitL; rw [if_pos rfl]
  | c :: t, b, h => by
    simp only [List.mem_cons, not_or] at h
    rw [List.cons_append]
    conv => lhs; unfold splitL
    rw [if_neg (fun e => h.1 e.symm), splitL_hit h.2]
theorem splitK_splitL : ∀ (n : Nat) (s : List UInt8), s.length ≤ n → Lib.splitK [47] 0 (Lib.count s [47]) s = splitL s
  | n, s, hn => by
    rcases Lib.indexB_cases (mkB s) slash with h | ⟨i, h, hi⟩
    · have h0 : Lib.index s [47] = -1 := h
      have hc : Lib.count s [47] = 0 := Lib.count_miss h0
      rw [hc]
      have hm : (47 : UInt8) ∉ s := by
        intro hm
        rw [Lib.index_one] at h0
        obtain ⟨k, hk⟩ := List.getElem?_of_mem hm
        exact Lib.indexByte_none h0 k hk
      rw [splitL_miss hm]
      rfl
    · have h0 : Lib.index s [47] = i := h
      have hc : Lib.count s [47] = 1 + Lib.count (s.drop (i + 1)) [47] := by
        have := Lib.countB_hit (mkB s) slash i (by decide) h
        have e : ((mkB s).extract (i + slash.size) (mkB s).size).data.toList = s.drop (i + 1) := by rw [Lib.extract_to_end]; rfl
        unfold Lib.countB at this
        rw [e] at this
        exact this
      rw [hc, Nat.add_comm]
      have hs := h0
      rw [Lib.index_one] at hs
      obtain ⟨h1, h2⟩ := Lib.indexByte_some hs
      have hlt : i < s.length := (List.getElem?_eq_some_iff.1 h1).1
      have hsp : s = s.take i ++ 47 :: s.drop (i + 1) := by
        have e : s[i] = 47 := (List.getElem?_eq_some_iff.1 h1).2
        rw [← e, List.getElem_cons_drop, List.take_append_drop]
      have hm : (47 : UInt8) ∉ s.take i := by
        intro hm
        obtain ⟨k, hk⟩ := List.getElem?_of_mem hm
        have hki : k < i := by have := (List.getElem?_eq_some_iff.1 hk).1; rw [List.length_take] at this; omega
        rw [List.getElem?_take_of_lt hki] at hk
        exact h2 k hki hk
      unfold Lib.splitK
      have hne : (Lib.index s [47] == -1) = false := by rw [h0]; exact beq_no (by omega)
      rw [hne, h0]
      simp only [Bool.false_eq_true, if_false, Int.toNat_natCast, Nat.add_zero, List.length_cons, List.length_nil]
      have hn' : (s.drop (i + 1)).length < n := by rw [List.length_drop]; omega
      match n, hn' with
      | n + 1, hn' =>
        rw [splitK_splitL n (s.drop (i + (0 + 1))) (Nat.le_of_lt_succ hn')]
        conv => rhs; rw [hsp]
        rw [splitL_hit hm, Nat.zero_add]
def piecesB (s : ByteArray) : List ByteArray := (splitL s.data.toList).map mkB
theorem splitB_pieces (s : ByteArray) : Lib.splitB slash 0 (Lib.countB s slash) s = piecesB s := by
  have h := Lib.splitB_data slash 0 (Lib.countB s slash) s
  have h2 : Lib.splitK slash.data.toList 0 (Lib.countB s slash) s.data.toList = splitL s.data.toList := splitK_splitL _ _ (Nat.le_refl _)
  rw [h2] at h
  unfold piecesB
  rw [← h, List.map_map]
  conv => lhs; rw [← List.map_id (Lib.splitB slash 0 (Lib.countB s slash) s)]
  exact List.map_congr_left fun x _ => (mkB_data x).symm
theorem pieces_length (s : ByteArray) : (piecesB s).length = Lib.countB s slash + 1 := by
  rw [← splitB_pieces]
  exact Lib.splitB_all slash (by decide) 0 _ s rfl

def okC (c : UInt8) : Bool := (97 ≤ c && c ≤ 122) || (65 ≤ c && c ≤ 90) || (48 ≤ c && c ≤ 57) || c == 46 || c == 95 || c == 45
def nameB (s : ByteArray) : Bool := decide (1 ≤ s.size) && decide (s.size ≤ 64) && !(s == (⟨#[46]⟩ : ByteArray)) && !(s == (⟨#[46, 46]⟩ : ByteArray)) && s.data.toList.all okC
def namesB (s : ByteArray) : Option (List ByteArray) :=
  if s.size = 0 then some [] else if 32 < (piecesB s).length then none else if (piecesB s).all nameB then some (piecesB s) else none
def namesL (s : ByteArray) : List ByteArray := (namesB s).getD []
def errN (s : ByteArray) : Int := if (namesB s).isSome then 0 else 45
def joinB (l : List ByteArray) : ByteArray := mkB (Lib.join (l.map (·.data.toList)) [47])
def splitP (s : ByteArray) : ByteArray × ByteArray × Int :=
  match namesB s with
  | none => (⟨#[]⟩, ⟨#[]⟩, 45)
  | some l => if h : l = [] then (⟨#[]⟩, ⟨#[]⟩, 46) else (joinB l.dropLast, l.getLast h, 0)
/-- The order of texts; of rows of names. -/
def ltS (a b : ByteArray) : Bool := Op.bytesLess a.toList b.toList
def cmpS (a b : ByteArray) : Int := if ltS a b then -1 else if a.toList == b.toList then 0 else 1
def cmpL : List ByteArray → List ByteArray → Int
  | [], [] => 0
  | [], _ :: _ => -1
  | _ :: _, [] => 1
  | a :: l, b :: m => if cmpS a b = 0 then cmpL l m else cmpS a b
def aboveB (a b : ByteArray) : Bool :=
  match namesB a, namesB b with
  | some x, some y => decide (x.length < y.length) && decide (x = y.take x.length)
  | _, _ => false
def errB (a b : ByteArray) : Int := if (namesB a).isSome && (namesB b).isSome then 0 else 45
def lessI (a b : ByteArray) : Int :=
  match namesB a, namesB b with
  | some x, some y => cmpL x y
  | _, _ => 0
end Go.Tk
