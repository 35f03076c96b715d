/- Paths: a name; the names of a path. -/
import Derived.Test.YtclmemhginekbaaDoorP0
import Derived.Test.YtclmemhginekbaaDoorS1
set_option linter.unusedSectionVars false
set_option linter.unusedSimpArgs false
set_option linter.unusedVariables false
namespace Go.Tk
open Go.RowKit Go.Proofs

/-- The library's own variable of a machine word's length. -/
class HasML (B : Base) : Prop where out : ∃ m, B.cell 0 0 = some (.int .i64 m)
/-- Where draws are not counted. -/
class NoDraw (B : Base) : Prop where out : B.drawn = 0
def Base.free (W : World) : Base := { Base.of W with drawn := 0 }
instance (W : World) : NoDraw (Base.free W) := ⟨rfl⟩
theorem Sh.free (W : World) : Sh (Base.free W) [] W := ⟨rfl, rfl, rfl, Nat.zero_le _, fun _ _ h => h, by simp, by simp, by simp⟩
theorem RdB.free {α : Type} {E : Enc α} {W : World} {a : Option Addr} {xs : List α} (h : RdB E (Base.of W) a xs) : RdB E (Base.free W) a xs := ⟨h.ok, h.max, h.get⟩
section
variable {B : Base} {R H H1 : HL} {w w' : World}
theorem Sh.ofBelow [hn : NoDraw B] (hS : Sh B H w) (hb : Below w.heap.size w w') : Sh B H w' := {
  os := hb.os.trans hS.os
  tape := hb.tape.trans hS.tape
  output := hb.output.trans hS.output
  drawn := by rw [hn.out]; exact Nat.zero_le _
  base b o h := by
    have h1 := hS.base b o h
    rw [hb.block b (Array.getElem?_eq_some_iff.1 h1).1]; exact h1
  own p hp := by rw [hb.block p.1 (hS.lt hp)]; exact hS.own p hp
  apart := hS.apart
  nodup := hS.nodup }
theorem Sh.ml [h : HasML B] (hS : Sh B H w) : ∃ m, w.cell? ⟨0, 0, none⟩ = some (.int .i64 m) := by
  obtain ⟨m, hm⟩ := h.out
  exact ⟨m, hS.bcell hm⟩
theorem RdAt.cells {α : Type} {E : Enc α} {A : Option Addr} {xs : List α} (r : RdAt E B H A xs) (hS : Sh B H w) (hk : E.k = 1) : ∀ (j : Nat) x, xs[j]? = some x → ∀ v, (E.cells x)[0]? = some v → w.cell? ⟨blkA A, offA A + j, none⟩ = some v := fun j x hx v hv => r.f1 hS hk hx hv
def codeN (s : ByteArray) : Int := if nameB s then 0 else 42
theorem okC_int (c : UInt8) : okC c = decide ((97 ≤ (c.toNat : Int) ∧ (c.toNat : Int) ≤ 122) ∨ (65 ≤ (c.toNat : Int) ∧ (c.toNat : Int) ≤ 90) ∨ (48 ≤ (c.toNat : Int) ∧ (c.toNat : Int) ≤ 57) ∨ (c.toNat : Int) = 46 ∨ (c.toNat : Int) = 95 ∨ (c.toNat : Int) = 45) := by
  rw [Bool.eq_iff_iff]
  simp [okC, UInt8.le_iff_toNat_le, ← UInt8.toNat_inj]
  omega
theorem nameB_no {s : ByteArray} {i : Nat} (h : i < s.size) (hc : okC s[i] = false) : nameB s = false := by
  have hm : s[i] ∈ s.data.toList := by
    have e : s[i] = s.data[i]'(by simpa using h) := rfl
    rw [e]; exact Array.getElem_mem_toList _
  have : s.data.toList.all okC = false := by
    rw [Bool.eq_false_iff]
    intro ha
    rw [List.all_eq_true] at ha
    rw [ha _ hm] at hc
    cases hc
  unfold nameB
  rw [this, Bool.and_false]
def NameI (s : ByteArray) (R : HL) (B : Base) (i : Nat) (w : World) : Prop := i ≤ s.size ∧ (∀ j (h : j < s.size), j < i → okC s[j] = true) ∧ Sh B R w
set_option maxRecDepth 100000 in
set_option maxHeartbeats 1600000 in
theorem Name_bad (hS : Sh B R w) (s : ByteArray) (hs : s.size ≤ 16777216) (hb : nameB s = false) (hc : s.size < 1 ∨ 64 < s.size ∨ s.toList = [46] ∨ s.toList = [46, 46]) :
    Calls Tryd.prog 80 #[.string s] w fun e w' => e = .returned (.int .i64 (codeN s)) ∧ Sh B R w' := by
  have Hb := Lib.hid (show codeN s = 42 by unfold codeN; rw [hb]; rfl)
  clear hb
  by_cases h1 : s.size < 1
  · have d1 : decide ((s.size : Int) < 1) = true := decide_eq_true (by omega)
    clear h1 hc
    go_enter Tryd.func80, Tryd.ntmps80
    go_wp2
    go_ret
    exact ⟨by rw [Hb.out]; rfl, hS⟩
  have d1 : decide ((s.size : Int) < 1) = false := decide_eq_false (by omega)
  by_cases h2 : 64 < s.size
  · have d2 : decide (64 < (s.size : Int)) = true := decide_eq_true (by omega)
    clear h1 h2 hc
    go_enter Tryd.func80, Tryd.ntmps80
    go_wp2
    go_ret
    exact ⟨by rw [Hb.out]; rfl, hS⟩
  have d2 : decide (64 < (s.size : Int)) = false := decide_eq_false (by omega)
  by_cases h3 : s.toList = [46]
  · have d3 : (s.toList == [46]) = true := by simp [h3]
    clear h1 h2 h3 hc
    go_enter Tryd.func80, Tryd.ntmps80
    go_wp2
    go_ret
    exact ⟨by rw [Hb.out]; rfl, hS⟩
  have d3 : (s.toList == [46]) = false := beq_no h3
  have h4 : s.toList = [46, 46] := by
    rcases hc with h | h | h | h
    · exact absurd h h1
    · exact absurd h h2
    · exact absurd h h3
    · exact h
  have d4 : (s.toList == [46, 46]) = true := by simp [h4]
  clear h1 h2 h3 h4 hc
  go_enter Tryd.func80, Tryd.ntmps80
  go_wp2
  go_ret
  exact ⟨by rw [Hb.out]; rfl, hS⟩
set_option maxRecDepth 100000 in
set_option maxHeartbeats 1600000 in
theorem Name_ok (hS : Sh B R w) (s : ByteArray) (hs : s.size ≤ 16777216) (h1 : 1 ≤ s.size) (h2 : s.size ≤ 64) (h3 : ¬ s.toList = [46]) (h4 : ¬ s.toList = [46, 46]) (hn : s.data.toList.all okC = nameB s) :
    Calls Tryd.prog 80 #[.string s] w fun e w' => e = .returned (.int .i64 (codeN s)) ∧ Sh B R w' := by
  have d1 : decide ((s.size : Int) < 1) = false := decide_eq_false (by omega)
  have d2 : decide (64 < (s.size : Int)) = false := decide_eq_false (by omega)
  have d3 : (s.toList == [46]) = false := beq_no h3
  have d4 : (s.toList == [46, 46]) = false := beq_no h4
  have Hn := Lib.hid hn
  clear h1 h2 h3 h4 hn
  go_enter Tryd.func80, Tryd.ntmps80
  go_wp2
  refine wp_loopS [24] [2, 3, 4, 5, 25, 26, 27, 28, 29, 30, 31, 32, 33, 34, 35, 36, 37, 38, 39, 40, 41, 42, 43, 44, 45, 46, 47, 48, 49, 50, 51, 52, 53, 54, 55, 56, 57, 58, 59, 60, 61, 62, 63, 64, 65, 66] (fun i : Nat => [.int .i64 i]) (NameI s R B) (fun i => s.size - i) ((0 : Nat)) rfl (⟨Nat.zero_le _, fun _ _ h => absurd h (Nat.not_lt_zero _), hS⟩) ?_
  clear hS
  rintro i J w ⟨hi, hok, hS⟩
  have Hok := Lib.hid hok
  clear hok
  (simp only [Frm, setsT, junkT, List.setIfInBounds_toArray, List.set_cons_zero, List.set_cons_succ])
  by_cases hlt : i < s.size
  · have Hc := Lib.hid (okC_int s[i])
    go_wp2
    all_goals first
      | (have hcf : okC s[i] = false := by
           rw [Hc.out]
           apply decide_eq_false
           clear hS Hok Hn Hc
           simp only [Bool.and_eq_true, Bool.or_eq_true, decide_eq_true_eq, bne_iff_ne, ne_eq, Bool.not_eq_true', Bool.not_eq_false', Bool.or_eq_false_iff, Bool.and_eq_false_iff, decide_eq_false_iff_not, beq_iff_eq, beq_eq_false_iff_ne, bne_eq_false_iff_eq] at *
           omega
         go_ret
         refine ⟨?_, hS⟩
         rw [show codeN s = 42 from by unfold codeN; rw [nameB_no hlt hcf]; rfl]
         rfl)
      | (have hct : okC s[i] = true := by
           rw [Hc.out]
           apply decide_eq_true
           clear hS Hok Hn Hc
           simp only [Bool.and_eq_true, Bool.or_eq_true, decide_eq_true_eq, bne_iff_ne, ne_eq, Bool.not_eq_true', Bool.not_eq_false', Bool.or_eq_false_iff, Bool.and_eq_false_iff, decide_eq_false_iff_not, beq_iff_eq, beq_eq_false_iff_ne, bne_eq_false_iff_eq] at *
           omega
         exact ⟨i + 1, ⟨hlt, fun j hj hji => by rcases Nat.lt_succ_iff_lt_or_eq.1 hji with h | h; exact Hok.out j hj h; subst h; exact hct, hS⟩, (by (try dsimp only); omega), rfl, (by (simp only [blankT, junkT, List.cons_append, List.nil_append, List.setIfInBounds_toArray, List.set_cons_zero, List.set_cons_succ])), rfl⟩)
  · have Hall := Lib.hid (show codeN s = 0 by
      unfold codeN
      rw [← Hn.out, if_pos]
      rw [List.all_eq_true]
      intro c hc
      obtain ⟨j, hj, rfl⟩ := List.getElem_of_mem hc
      have hj' : j < s.size := by rw [ba_size]; exact hj
      exact Hok.out j hj' (by omega))
    go_wp2
    go_ret
    exact ⟨by rw [Hall.out]; rfl, hS⟩
theorem str_eq (s : ByteArray) (l : List UInt8) : (s == (⟨l.toArray⟩ : ByteArray)) = (s.toList == l) := by
  rw [Bool.eq_iff_iff, ba_beq, beq_iff_eq, ByteArray.toList_eq s]
  exact ⟨fun h => by rw [h], fun h => ba_ext h⟩
theorem Name_any (hS : Sh B R w) (s : ByteArray) (hs : s.size ≤ 16777216) : Calls Tryd.prog 80 #[.string s] w fun e w' => e = .returned (.int .i64 (codeN s)) ∧ Sh B R w' := by
  by_cases hc : s.size < 1 ∨ 64 < s.size ∨ s.toList = [46] ∨ s.toList = [46, 46]
  · refine Name_bad hS s hs ?_ hc
    unfold nameB
    rw [str_eq s [46], str_eq s [46, 46]]
    rcases hc with h | h | h | h
    · simp [h]; omega
    · simp; omega
    · simp [h]
    · simp [h]
  · have h1 : 1 ≤ s.size := by omega
    have h2 : s.size ≤ 64 := by omega
    have h3 : ¬ s.toList = [46] := fun h => hc (.inr (.inr (.inl h)))
    have h4 : ¬ s.toList = [46, 46] := fun h => hc (.inr (.inr (.inr h)))
    refine Name_ok hS s hs h1 h2 h3 h4 ?_
    unfold nameB
    rw [str_eq s [46], str_eq s [46, 46]]
    simp [h1, h2, h3, h4]
end
end Go.Tk
