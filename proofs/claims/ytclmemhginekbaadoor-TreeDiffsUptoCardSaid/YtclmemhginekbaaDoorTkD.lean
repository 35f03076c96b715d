/- Maps of plain keys, as lists of pairs. -/
import Derived.Test.YtclmemhginekbaaDoorTkC
import Derived.Carry
import Derived.MapKept
set_option linter.unusedSectionVars false
set_option linter.unusedSimpArgs false
set_option linter.unusedVariables false
namespace Go.Tk
open Go.RowKit

section
variable {κ ν : Type} [DecidableEq κ]
def mget (m : List (κ × ν)) (k : κ) : Option ν := (m.find? (fun p => decide (k = p.1))).map (·.2)
def mput (m : List (κ × ν)) (k : κ) (v : ν) : List (κ × ν) :=
  match m with
  | [] => [(k, v)]
  | p :: m => if k = p.1 then (p.1, v) :: m else p :: mput m k v
def mdel (m : List (κ × ν)) (k : κ) : List (κ × ν) := m.filter (fun p => decide (k ≠ p.1))

@[simp] theorem mget_nil (k : κ) : mget ([] : List (κ × ν)) k = none := rfl
theorem mget_cons (p : κ × ν) (m : List (κ × ν)) (k : κ) : mget (p :: m) k = if k = p.1 then some p.2 else mget m k := by
  unfold mget
  by_cases h : k = p.1 <;> simp [h]
theorem mget_mput (m : List (κ × ν)) (k k' : κ) (v : ν) : mget (mput m k v) k' = if k' = k then some v else mget m k' := by
  induction m with
  | nil => simp [mput, mget_cons]
  | cons p m ih =>
    unfold mput
    by_cases h : k = p.1
    · subst h
      simp only [if_true, mget_cons]
      by_cases h2 : k' = p.1 <;> simp [h2]
    · simp only [h, if_false, mget_cons, ih]
      by_cases h2 : k' = p.1
      · subst h2; simp [Ne.symm h]
      · simp [h2]
theorem mget_mdel (m : List (κ × ν)) (k k' : κ) : mget (mdel m k) k' = if k' = k then none else mget m k' := by
  induction m with
  | nil => simp [mdel]
  | cons p m ih =>
    unfold mdel at *
    by_cases h : k = p.1
    · subst h
      simp only [List.filter_cons, ne_eq, not_true_eq_false, decide_false, Bool.false_eq_true, if_false, mget_cons, ih]
      by_cases h2 : k' = p.1 <;> simp [h2]
    · simp only [List.filter_cons, ne_eq, h, not_false_eq_true, decide_true, if_true, mget_cons, ih]
      by_cases h2 : k' = p.1
      · subst h2; simp [show ¬ p.1 = k from fun e => h e.symm]
      · simp [h2]
theorem mput_keys (m : List (κ × ν)) (k : κ) (v : ν) : (mput m k v).map (·.1) = if k ∈ m.map (·.1) then m.map (·.1) else m.map (·.1) ++ [k] := by
  induction m with
  | nil => simp [mput]
  | cons p m ih =>
    unfold mput
    by_cases h : k = p.1
    · simp [h]
    · simp only [h, if_false, List.map_cons, ih, List.mem_cons, false_or]
      split <;> simp
theorem mget_none {m : List (κ × ν)} {k : κ} : mget m k = none ↔ k ∉ m.map (·.1) := by
  induction m with
  | nil => simp
  | cons p m ih =>
    rw [mget_cons]
    by_cases h : k = p.1 <;> simp [h, ih]
theorem mget_some_mem {m : List (κ × ν)} {k : κ} {v : ν} (h : mget m k = some v) : (k, v) ∈ m := by
  induction m with
  | nil => simp at h
  | cons p m ih =>
    rw [mget_cons] at h
    by_cases hk : k = p.1
    · simp only [hk, if_true, Option.some.injEq] at h
      subst h; subst hk
      exact List.mem_cons_self ..
    · simp only [hk, if_false] at h
      exact List.mem_cons_of_mem _ (ih h)
theorem mget_of_mem {m : List (κ × ν)} (hn : (m.map (·.1)).Nodup) {k : κ} {v : ν} (h : (k, v) ∈ m) : mget m k = some v := by
  induction m with
  | nil => cases h
  | cons p m ih =>
    simp only [List.map_cons, List.nodup_cons] at hn
    rw [mget_cons]
    rcases List.mem_cons.1 h with rfl | h
    · simp
    · have : ¬ k = p.1 := fun e => hn.1 (List.mem_map.2 ⟨(k, v), h, e⟩)
      simp [this, ih hn.2 h]
theorem mput_nodup {m : List (κ × ν)} (hn : (m.map (·.1)).Nodup) (k : κ) (v : ν) : ((mput m k v).map (·.1)).Nodup := by
  rw [mput_keys]
  split
  · exact hn
  · rename_i h
    rw [List.nodup_append]
    exact ⟨hn, by simp, fun a ha b hb e => by simp at hb; subst hb; subst e; exact h ha⟩
theorem mput_new {m : List (κ × ν)} {k : κ} (h : mget m k = none) (v : ν) : mput m k v = m ++ [(k, v)] := by
  induction m with
  | nil => rfl
  | cons p m ih =>
    rw [mget_cons] at h
    by_cases hk : k = p.1
    · simp [hk] at h
    · simp only [hk, if_false] at h
      simp [mput, hk, ih h]
end

theorem ba_beq (a b : ByteArray) : (a == b) = true ↔ a = b := MapKept.bytes_beq a b

/-- How keys of a type are held against each other. -/
class KeyTy (P : Program) (K : TypeId) {κ : Type} [DecidableEq κ] (kv : κ → Value) : Prop where
  out : ∃ d, P.underlying K = some d ∧ ∀ a b : κ, Instr.sameNow d (kv a) (kv b) = some (decide (a = b))
  check : ∀ (e : Bool) (k : κ) (w : World), (Instr.checkKey e 10000 K (kv k)).run P w = .ok () w
  bits : ∀ k : κ, Instr.sameBits 10000 (kv k) (kv k) = true

theorem KeyTy.int {P : Program} {K : TypeId} {q : IntKind} (h : P.underlying K = some (.int q)) : KeyTy P K (fun n : Int => .int q n) := {
  out := ⟨_, h, fun a b => by simp only [Instr.sameNow, if_true, Option.some.injEq]; rw [Bool.eq_iff_iff]; simp⟩
  check e k w := by
    have h1 : ∀ n, (Instr.checkKey e (n + 1) K (.int q k)).run P w = .ok () w := fun n => by simp [Instr.checkKey, Sem.run_bind, run_underlying h]
    exact h1 9999
  bits k := by simp [Instr.sameBits] }
theorem KeyTy.str {P : Program} {K : TypeId} (h : P.underlying K = some .string) : KeyTy P K (fun s : ByteArray => .string s) := {
  out := ⟨_, h, fun a b => by
    simp only [Instr.sameNow, Option.some.injEq]
    rw [Bool.eq_iff_iff]
    simp [ba_beq]⟩
  check e k w := by
    have h1 : ∀ n, (Instr.checkKey e (n + 1) K (.string k)).run P w = .ok () w := fun n => by simp [Instr.checkKey, Sem.run_bind, run_underlying h]
    exact h1 9999
  bits k := by simp [Instr.sameBits, ba_beq] }

class MapTy (P : Program) (t : TypeId) (K V : outParam TypeId) : Prop where under : P.underlying t = some (.map K V)

/-- A map's block, as a list of pairs. -/
structure MapIs0 {κ ν : Type} (kv : κ → Value) (vv : ν → Value) (es : Array MapEntry) (clock : Nat) (m : List (κ × ν)) : Prop where
  ents : es.toList.map (fun e => (e.key, e.val)) = m.map (fun p => (kv p.1, vv p.2))
  nodup : (m.map (·.1)).Nodup
  born : (es.toList.map (·.born)).Pairwise (· < ·)
  clock : ∀ e, e ∈ es.toList → e.born < clock

section
variable {κ ν : Type} [DecidableEq κ] {kv : κ → Value} {vv : ν → Value} {P : Program} {K : TypeId}

omit [DecidableEq κ] in
theorem MapIs0.empty : MapIs0 kv vv #[] 0 [] := ⟨rfl, by simp, by simp, by simp⟩

theorem findNow_list (d : TypeDesc) (hd : ∀ a b : κ, Instr.sameNow d (kv a) (kv b) = some (decide (a = b))) (k : κ) :
    ∀ (es : List MapEntry) (m : List (κ × ν)) (i : Nat), es.map (fun e => (e.key, e.val)) = m.map (fun p => (kv p.1, vv p.2)) →
      Instr.findNow d (kv k) es i = some ((m.findIdx? (fun p => decide (k = p.1))).bind fun j => (m[j]?).map fun p => (i + j, vv p.2))
  | [], m, i, h => by
    have : m = [] := by cases m <;> simp_all
    subst this; simp [Instr.findNow]
  | e :: es, [], i, h => by simp at h
  | e :: es, p :: m, i, h => by
    simp only [List.map_cons, List.cons.injEq, Prod.mk.injEq] at h
    obtain ⟨⟨hk, hv⟩, ht⟩ := h
    unfold Instr.findNow
    rw [hk, hd]
    by_cases hkp : k = p.1
    · simp [hkp, hv, List.findIdx?_cons]
    · simp only [hkp, decide_false]
      rw [findNow_list d hd k es m (i + 1) ht, List.findIdx?_cons]
      simp only [hkp, decide_false, Bool.false_eq_true, if_false]
      cases m.findIdx? (fun p => decide (k = p.1)) <;> simp [Nat.add_assoc, Nat.add_comm 1]

theorem mget_findIdx (m : List (κ × ν)) (k : κ) : mget m k = (m.findIdx? (fun p => decide (k = p.1))).bind fun j => (m[j]?).map (·.2) := by
  induction m with
  | nil => rfl
  | cons p m ih =>
    rw [mget_cons, List.findIdx?_cons]
    by_cases h : k = p.1
    · simp [h]
    · simp only [h, if_false, decide_false, Bool.false_eq_true, ih]
      cases m.findIdx? (fun p => decide (k = p.1)) <;> simp

theorem run_findKey [hK : KeyTy P K kv] {es : Array MapEntry} {clock : Nat} {m : List (κ × ν)} (h : MapIs0 kv vv es clock m) (k : κ) (w : World) :
    (Instr.findKey K (kv k) es.toList).run P w = .ok ((m.findIdx? (fun p => decide (k = p.1))).bind fun j => (m[j]?).map fun p => (j, vv p.2)) w := by
  obtain ⟨d, hu, hd⟩ := hK.out
  have := findNow_list (vv := vv) d hd k es.toList m 0 h.ents
  simp only [Nat.zero_add] at this
  simp [Instr.findKey, Sem.run_bind, run_underlying hu, this]

theorem run_lookup {t V b : Nat} [hK : KeyTy P K kv] [hM : MapTy P t K V] {es : Array MapEntry} {clock : Nat} {m : List (κ × ν)} {w : World} {z : Value} (h : MapIs0 kv vv es clock m) (hb : w.heap[b]? = some (.map es clock))
    (hz : (P.info? V).bind (·.zero) = some z) (k : κ) (ok : Bool) :
    (Instr.lookup t (.map (some b)) (kv k) ok).run P w = .ok (if ok then .tuple #[(mget m k).elim z vv, .bool (mget m k).isSome] else (mget m k).elim z vv) w := by
  have hg : (getObj b).run P w = .ok (.map es clock) w := by simp [getObj, Sem.run, hb]
  simp only [Instr.lookup, Sem.run_bind, run_underlying hM.under, Result.andThen_ok, hg, Sem.run_pure, hK.check, run_findKey h]
  rw [mget_findIdx]
  cases hf : m.findIdx? (fun p => decide (k = p.1)) with
  | none => simp [run_zeroValue hz]
  | some j =>
    have hj : j < m.length := by
      have := List.findIdx?_eq_some_iff_findIdx_eq.1 hf
      exact this.1
    simp [List.getElem?_eq_getElem hj]

theorem run_lookup_nil {t V : Nat} [hK : KeyTy P K kv] [hM : MapTy P t K V] {w : World} {z : Value} (hz : (P.info? V).bind (·.zero) = some z) (k : κ) (ok : Bool) :
    (Instr.lookup t (.map none) (kv k) ok).run P w = .ok (if ok then .tuple #[z, .bool false] else z) w := by
  have : (Instr.findKey K (kv k) []).run P w = .ok none w := by
    obtain ⟨d, hu, hd⟩ := hK.out
    simp [Instr.findKey, run_underlying hu, Instr.findNow]
  simp [Instr.lookup, Sem.run_bind, run_underlying hM.under, hK.check, this, run_zeroValue hz]

theorem setObj_run {w : World} {b : Nat} {es : Array MapEntry} {clock : Nat} (hb : w.heap[b]? = some (.map es clock)) (o : Obj) : (setObj b o).run P w = .ok () (setB w b o) := by
  simp [setObj, Sem.run, hb, setB]

theorem ents_push {es : Array MapEntry} {clock : Nat} {m : List (κ × ν)} (h : MapIs0 kv vv es clock m) {k : κ} (hk : mget m k = none) (v : ν) :
    MapIs0 kv vv (es.push { key := kv k, val := vv v, born := clock }) (clock + 1) (mput m k v) := {
  ents := by rw [mput_new hk]; simp [h.ents]
  nodup := mput_nodup h.nodup k v
  born := by
    simp only [Array.toList_push, List.map_append, List.map_cons, List.map_nil, List.pairwise_append]
    refine ⟨h.born, by simp, fun a ha b hb => ?_⟩
    obtain ⟨e, he, rfl⟩ := List.mem_map.1 ha
    simp only [List.mem_singleton] at hb
    subst hb
    exact h.clock e he
  clock e he := by
    simp only [Array.toList_push, List.mem_append, List.mem_singleton] at he
    rcases he with he | rfl
    · have := h.clock e he; omega
    · simp }

theorem mput_at {m : List (κ × ν)} {k : κ} {j : Nat} (hj : m.findIdx? (fun p => decide (k = p.1)) = some j) (v : ν) : mput m k v = m.modify j (fun p => (p.1, v)) := by
  induction m generalizing j with
  | nil => simp at hj
  | cons p m ih =>
    rw [List.findIdx?_cons] at hj
    unfold mput
    by_cases h : k = p.1
    · simp only [h, decide_true, if_true, Option.some.injEq] at hj
      subst hj
      simp [h]
    · simp only [h, decide_false, Bool.false_eq_true, if_false, Option.map_eq_some_iff] at hj
      obtain ⟨i, hi, rfl⟩ := hj
      simp [h, ih hi]

theorem ents_modify {es : Array MapEntry} {clock : Nat} {m : List (κ × ν)} (h : MapIs0 kv vv es clock m) {k : κ} {j : Nat} (hj : m.findIdx? (fun p => decide (k = p.1)) = some j) (v : ν) :
    MapIs0 kv vv (es.modify j fun e => { e with key := kv k, val := vv v }) clock (mput m k v) := by
  have hlen : es.toList.length = m.length := by simpa using congrArg List.length h.ents
  obtain ⟨hjl, hjk, _⟩ := List.findIdx?_eq_some_iff_getElem.1 hj
  simp only [decide_eq_true_eq] at hjk
  have hb : (es.modify j fun e => { e with key := kv k, val := vv v }).toList.map (·.born) = es.toList.map (·.born) := by
    rw [Array.toList_modify]
    apply List.ext_getElem?
    intro i
    simp only [List.getElem?_map, List.getElem?_modify]
    by_cases hi : j = i
    · subst hi
      cases es.toList[j]? <;> simp
    · simp [hi]
  refine ⟨?_, mput_nodup h.nodup k v, by rw [hb]; exact h.born, ?_⟩
  · rw [mput_at hj, Array.toList_modify]
    apply List.ext_getElem?
    intro i
    have he := congrArg (fun l => l[i]?) h.ents
    simp only [List.getElem?_map] at he
    simp only [List.getElem?_map, List.getElem?_modify]
    by_cases hi : j = i
    · subst hi
      have h1 : es.toList[j]? = some es.toList[j] := List.getElem?_eq_getElem (by omega)
      have h2 : m[j]? = some m[j] := List.getElem?_eq_getElem hjl
      simp [h1, h2, hjk]
    · simpa [hi] using he
  · intro e he
    have : e.born ∈ (es.modify j fun e => { e with key := kv k, val := vv v }).toList.map (·.born) := List.mem_map.2 ⟨e, he, rfl⟩
    rw [hb] at this
    obtain ⟨e', he', hbe⟩ := List.mem_map.1 this
    rw [← hbe]
    exact h.clock e' he'

theorem run_mapUpdate {t V b : Nat} [hK : KeyTy P K kv] [hM : MapTy P t K V] {B : Base} {R : HL} {es : Array MapEntry} {clock : Nat} {m : List (κ × ν)} {w : World} (h : MapIs0 kv vv es clock m)
    (hS : Sh B (mapB b es clock ++ R) w) (k : κ) (v : ν) :
    ∃ es' clock' w', (Instr.mapUpdate t (.map (some b)) (kv k) (vv v)).run P w = .ok () w' ∧ Sh B (mapB b es' clock' ++ R) w' ∧ MapIs0 kv vv es' clock' (mput m k v) := by
  have hb : w.heap[b]? = some (.map es clock) := hS.own (b, .map es clock) (by simp [mapB])
  have hg : (getObj b).run P w = .ok (.map es clock) w := by simp [getObj, Sem.run, hb]
  cases hf : m.findIdx? (fun p => decide (k = p.1)) with
  | none =>
    have hk : mget m k = none := by rw [mget_findIdx, hf]; rfl
    refine ⟨_, _, _, ?_, Sh.setB (H := R) (b := b) hS _, ents_push h hk v⟩
    simp only [Instr.mapUpdate, Sem.run_bind, run_underlying hM.under, Result.andThen_ok, hg, hK.check, run_findKey h, hf, Option.bind_none]
    rw [setObj_run hb]
  | some j =>
    obtain ⟨hjl, hjk, _⟩ := List.findIdx?_eq_some_iff_getElem.1 hf
    simp only [decide_eq_true_eq] at hjk
    have hlen : es.toList.length = m.length := by simpa using congrArg List.length h.ents
    have hlt : j < es.size := by have : es.toList.length = es.size := by simp
                                 omega
    have hkey : es[j].key = kv k := by
      have he := congrArg (fun l => l[j]?) h.ents
      simp only [List.getElem?_map, List.getElem?_eq_getElem hjl, Array.getElem?_toList, Array.getElem?_eq_getElem hlt, Option.map_some, Option.some.injEq, Prod.mk.injEq] at he
      rw [he.1, hjk]
    refine ⟨_, _, _, ?_, Sh.setB (H := R) (b := b) hS _, ents_modify h hf v⟩
    simp only [Instr.mapUpdate, Sem.run_bind, run_underlying hM.under, Result.andThen_ok, hg, hK.check, run_findKey h, hf, Option.bind_some, List.getElem?_eq_getElem hjl, Option.map_some]
    have hst : (Instr.keyThatStays (((es[j]?).map (·.key)).getD (kv k)) (kv k)).run P w = .ok (kv k) w := by
      rw [Array.getElem?_eq_getElem hlt]
      simp [Instr.keyThatStays, hkey, hK.bits]
    simp only [hst, Result.andThen_ok]
    rw [setObj_run hb]
end
end Go.Tk
