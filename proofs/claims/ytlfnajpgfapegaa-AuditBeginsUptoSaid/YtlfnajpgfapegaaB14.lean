/- Bounds of the book, plainly: by how many events it has taken. -/
import Derived.Test.YtlfnajpgfapegaaB8
set_option linter.unusedSectionVars false
set_option linter.unusedSimpArgs false
set_option linter.unusedVariables false
namespace Go.Tk
open Go.RowKit Go.Proofs

structure Fit (N M U : Nat) (p : Bk) : Prop where
  ids : p.ids.length ≤ M
  must : p.must.length ≤ U
  wks : p.wks.length ≤ N
  owes : ∀ x ∈ p.wks, x.2.owes.length ≤ N
  idle : ∀ x ∈ p.wks, 0 ≤ x.2.idle ∧ x.2.idle ≤ N
  sent : ∀ x ∈ p.ids, 0 ≤ x.2.sent ∧ x.2.sent ≤ N
  born : 0 ≤ p.born ∧ p.born ≤ N
  started : 0 ≤ p.started ∧ p.started ≤ N
  tick : 0 ≤ p.tick ∧ p.tick ≤ N
  deads : ∀ x ∈ p.must, x.kind = 11 → (mget p.wks x.worker).isSome = true
theorem mput_len {κ ν : Type} [DecidableEq κ] (m : List (κ × ν)) (k : κ) (v : ν) : (mput m k v).length ≤ m.length + 1 := by
  have h := congrArg List.length (mput_keys m k v)
  rw [List.length_map] at h
  rw [h]
  split <;> simp
theorem mput_len_some {κ ν : Type} [DecidableEq κ] {m : List (κ × ν)} {k : κ} {u : ν} (hu : mget m k = some u) (v : ν) : (mput m k v).length = m.length := by
  have h := congrArg List.length (mput_keys m k v)
  rw [List.length_map] at h
  rw [h, if_pos (by rcases Classical.em (k ∈ m.map (·.1)) with h1 | h1; exact h1; rw [mget_none.2 h1] at hu; cases hu), List.length_map]
theorem Fit.new (c : Cfg) : Fit 0 0 0 (Bk.new c) := ⟨by simp [Bk.new], by simp [Bk.new], by simp [Bk.new], by simp [Bk.new], by simp [Bk.new], by simp [Bk.new], by simp [Bk.new], by simp [Bk.new], by simp [Bk.new], by simp [Bk.new]⟩
section
variable {N M U : Nat} {p : Bk}
theorem Fit.mono {N' M' U' : Nat} (h : Fit N M U p) (h1 : N ≤ N') (h2 : M ≤ M') (h3 : U ≤ U') : Fit N' M' U' p :=
  ⟨Nat.le_trans h.ids h2, Nat.le_trans h.must h3, Nat.le_trans h.wks h1, fun x hx => Nat.le_trans (h.owes x hx) h1, fun x hx => ⟨(h.idle x hx).1, by have := (h.idle x hx).2; omega⟩,
    fun x hx => ⟨(h.sent x hx).1, by have := (h.sent x hx).2; omega⟩, ⟨h.born.1, by have := h.born.2; omega⟩, ⟨h.started.1, by have := h.started.2; omega⟩, ⟨h.tick.1, by have := h.tick.2; omega⟩, h.deads⟩
theorem Fit.setR (h : Fit N M U p) (n : Int) {r : Rq} (hr : 0 ≤ r.sent ∧ r.sent ≤ N) : Fit N (M + 1) U (p.setR n r) :=
  ⟨Nat.le_trans (mput_len _ _ _) (by have := h.ids; omega), h.must, h.wks, h.owes, h.idle, fun x hx => (mput_mem hx).elim (fun e => by rw [e]; exact hr) (h.sent x), h.born, h.started, h.tick, h.deads⟩
theorem Fit.id (h : Fit N M U p) (n : Int) : Fit N (M + 1) U (p.id n) := by
  unfold Bk.id
  split
  · exact h.setR n ⟨by simp [Rq.zero], by simp [Rq.zero]⟩
  · exact h.mono (Nat.le_refl _) (by omega) (Nat.le_refl _)
theorem Fit.rq (h : Fit N M U p) (n : Int) : 0 ≤ (p.rq n).sent ∧ (p.rq n).sent ≤ N := by
  unfold Bk.rq
  cases hg : mget p.ids n with
  | none => simp [Rq.zero]
  | some r => exact h.sent _ (mget_some_mem hg)
theorem Fit.adds (h : Fit N M U p) (e : Ev) (he : e.kind = 11 → (mget p.wks e.worker).isSome = true) : Fit N M (U + 1) (p.adds e) := ⟨h.ids, by have := h.must; simp only [List.length_append, List.length_singleton]; omega, h.wks, h.owes, h.idle, h.sent, h.born, h.started, h.tick, fun x hx => (List.mem_append.1 hx).elim (h.deads x) (fun hx => by rw [List.mem_singleton] at hx; subst hx; exact he)⟩
theorem isSome_mput {κ ν : Type} [DecidableEq κ] {m : List (κ × ν)} {k k2 : κ} {v : ν} (h : (mget m k2).isSome = true) : (mget (mput m k v) k2).isSome = true := by
  rw [mget_mput]; split
  · rfl
  · exact h
theorem Fit.setW (h : Fit N M U p) {n : Int} {u : Wk} (hu : mget p.wks n = some u) {v : Wk} (ho : v.owes.length ≤ N) (hi : 0 ≤ v.idle ∧ v.idle ≤ N) : Fit N M U (p.setW n v) :=
  ⟨h.ids, h.must, by show (mput p.wks n v).length ≤ N; rw [mput_len_some hu]; exact h.wks, fun x hx => (mput_mem hx).elim (fun e => by rw [e]; exact ho) (h.owes x), fun x hx => (mput_mem hx).elim (fun e => by rw [e]; exact hi) (h.idle x), h.sent, h.born, h.started, h.tick, fun x hx hk => isSome_mput (h.deads x hx hk)⟩
theorem Fit.wk (h : Fit N M U p) {n : Int} {v : Wk} (hv : mget p.wks n = some v) : v.owes.length ≤ N ∧ 0 ≤ v.idle ∧ v.idle ≤ N := ⟨h.owes _ (mget_some_mem hv), h.idle _ (mget_some_mem hv)⟩
theorem lives_mget {n : Int} {v : Wk} (h : p.lives n = some v) : mget p.wks n = some v := by
  unfold Bk.lives at h
  exact (Option.filter_eq_some_iff.1 h).1
theorem Fit.goneS (h : Fit N M U p) (n : Int) (tells : Bool) (id : Int) : Fit N (M + 2) (U + 1) (goneS n tells id p) := by
  unfold Tk.goneS
  have h1 := h.id id
  dsimp only
  split
  · exact h1.mono (Nat.le_refl _) (by omega) (by omega)
  · have h2 := h1.setR id (r := { (p.id id).rq id with with_ := 0 }) (h1.rq id)
    split
    · exact h2.adds _ (fun h => absurd (show (8 : Int) = 11 from h) (by decide))
    · exact h2.adds _ (fun h => absurd (show (16 : Int) = 11 from h) (by decide))
theorem Fit.goneL (n : Int) (tells : Bool) : ∀ (owes : List Int) {M U : Nat} {p : Bk}, Fit N M U p → Fit N (M + 2 * owes.length) (U + owes.length) (goneL n tells owes p)
  | [], _, _, _, h => h
  | id :: t, M, U, p, h => by
    rw [goneL_cons]
    exact (Fit.goneL n tells t (h.goneS n tells id)).mono (Nat.le_refl _) (by simp only [List.length_cons]; omega) (by simp only [List.length_cons]; omega)
theorem goneL_wks (n : Int) (tells : Bool) : ∀ (owes : List Int) (p : Bk), (goneL n tells owes p).wks = p.wks
  | [], p => rfl
  | id :: t, p => by
    rw [goneL_cons, goneL_wks n tells t]
    unfold goneS
    dsimp only
    split
    · exact id_wks p id
    · split <;> exact id_wks p id
theorem goneL_quiet (n : Int) : ∀ (owes : List Int) (p : Bk), (goneL n false owes p).must = p.must
  | [], p => rfl
  | id :: t, p => by
    rw [goneL_cons, goneL_quiet n t]
    unfold goneS
    dsimp only
    rw [if_pos (.inr rfl)]
    exact id_must p id
theorem Fit.gone (h : Fit N M U p) (n : Int) (tells : Bool) : Fit N (M + 2 * N) (U + N) (p.gone n tells) := by
  unfold Bk.gone
  cases hg : mget p.wks n with
  | none => exact h.mono (Nat.le_refl _) (by omega) (by omega)
  | some v =>
    have hv := h.wk hg
    refine Fit.mono ((h.goneL n tells v.owes).setW (u := v) (by rw [goneL_wks]; exact hg) (by simp) hv.2) (Nat.le_refl _) (by omega) (by omega)
theorem Fit.gone0 (h : Fit N M U p) (n : Int) : Fit N (M + 2 * N) U (p.gone n false) := by
  have h1 := h.gone n false
  refine ⟨h1.ids, ?_, h1.wks, h1.owes, h1.idle, h1.sent, h1.born, h1.started, h1.tick, h1.deads⟩
  unfold Bk.gone
  cases hg : mget p.wks n with
  | none => exact h.must
  | some v => show (Tk.goneL n false v.owes p).must.length ≤ U; rw [goneL_quiet]; exact h.must

theorem iteP {α : Type} {c : Prop} [Decidable c] {P : α → Prop} {a b : α} (h1 : c → P a) (h2 : ¬ c → P b) : P (if c then a else b) := by
  split
  · exact h1 ‹_›
  · exact h2 ‹_›
/-- Behind an event that had nothing to follow. -/
theorem Fit.look (h : Fit N M 0 p) (e : Ev) (hk : 1 ≤ e.kind ∧ e.kind ≤ 17) (ht : e.kind = 13 → 0 ≤ e.n ∧ e.n ≤ N + 1) : Fit (N + 1) (M + (2 * N + 4)) (N + 4) (p.look e).2 := by
  have hi := h.id e.id
  have hr := hi.rq e.id
  have m0 : ∀ {q : Bk} {M' U' : Nat}, Fit N M' U' q → M' ≤ M + (2 * N + 4) → U' ≤ N + 4 → Fit (N + 1) (M + (2 * N + 4)) (N + 4) q := fun h a b => h.mono (by omega) a b
  have hI := m0 hi (by omega) (by omega)
  have h0 := m0 h (by omega) (by omega)
  unfold Bk.look
  refine iteP (P := fun x : Int × Bk => Fit (N + 1) (M + (2 * N + 4)) (N + 4) x.2) (fun _ => ?_) (fun c1 => ?_)
  · unfold Bk.submit
    dsimp only
    split
    · exact hI
    · have h1 : Fit (N + 1) (M + 1) 0 ({ p.id e.id with born := (p.id e.id).born + 1 } : Bk) := by
        have h2 := hi.mono (N' := N + 1) (by omega) (Nat.le_refl _) (Nat.le_refl _)
        exact ⟨h2.ids, h2.must, h2.wks, h2.owes, h2.idle, h2.sent, by have := hi.born; constructor <;> (dsimp only; omega), h2.started, h2.tick, h2.deads⟩
      exact (h1.setR e.id (r := { (p.id e.id).rq e.id with born := (p.id e.id).born + 1, waits := true }) ⟨hr.1, by have := hr.2; show ((p.id e.id).rq e.id).sent ≤ _; omega⟩).mono (Nat.le_refl _) (by omega) (by omega)
  refine iteP (P := fun x : Int × Bk => Fit (N + 1) (M + (2 * N + 4)) (N + 4) x.2) (fun _ => ?_) (fun c2 => ?_)
  · unfold Bk.refuse
    dsimp only
    split
    · split
      · exact hI
      · exact m0 (hi.adds _ (fun h => absurd (show (8 : Int) = 11 from h) (by decide))) (by omega) (by omega)
    · exact hI
  refine iteP (P := fun x : Int × Bk => Fit (N + 1) (M + (2 * N + 4)) (N + 4) x.2) (fun _ => ?_) (fun c3 => ?_)
  · unfold Bk.cancel
    dsimp only
    split
    · exact hI
    · exact m0 (hi.adds _ (fun h => absurd (show (8 : Int) = 11 from h) (by decide))) (by omega) (by omega)
  refine iteP (P := fun x : Int × Bk => Fit (N + 1) (M + (2 * N + 4)) (N + 4) x.2) (fun _ => ?_) (fun c4 => ?_)
  · unfold Bk.outcome
    dsimp only
    split
    · exact hI
    · exact m0 (hi.setR e.id (r := { (p.id e.id).rq e.id with over := true }) hr) (by omega) (by omega)
  refine iteP (P := fun x : Int × Bk => Fit (N + 1) (M + (2 * N + 4)) (N + 4) x.2) (fun _ => ?_) (fun c5 => ?_)
  · exact h0
  refine iteP (P := fun x : Int × Bk => Fit (N + 1) (M + (2 * N + 4)) (N + 4) x.2) (fun _ => ?_) (fun c6 => ?_)
  · unfold Bk.start
    split
    · exact h0
    split
    · exact h0
    · have h1 := h.mono (N' := N + 1) (M' := M + (2 * N + 4)) (U' := N + 4) (by omega) (by omega) (by omega)
      refine ⟨h1.ids, h1.must, ?_, fun x hx => (mput_mem hx).elim (fun e => by rw [e]; simp) (h1.owes x), fun x hx => (mput_mem hx).elim (fun e => by rw [e]; constructor <;> (simp; try omega)) (h1.idle x), h1.sent, h1.born, ?_, h1.tick, fun x hx hk => isSome_mput (h1.deads x hx hk)⟩
      · exact Nat.le_trans (mput_len p.wks e.worker _) (Nat.succ_le_succ h.wks)
      · have := h.started; constructor <;> (dsimp only; omega)
  refine iteP (P := fun x : Int × Bk => Fit (N + 1) (M + (2 * N + 4)) (N + 4) x.2) (fun _ => ?_) (fun c7 => ?_)
  · unfold Bk.hello
    split
    · exact h0
    · rename_i w hw
      have hm := lives_mget hw
      split
      · exact h0
      · exact m0 (h.setW hm (v := { w with state := 2, idle := 0 }) (h.wk hm).1 ⟨Int.le_refl _, by simp⟩) (by omega) (by omega)
  refine iteP (P := fun x : Int × Bk => Fit (N + 1) (M + (2 * N + 4)) (N + 4) x.2) (fun _ => ?_) (fun c8 => ?_)
  · unfold Bk.reap
    split
    · exact h0
    · split
      · exact h0
      · exact m0 (h.gone _ _) (by omega) (by omega)
  refine iteP (P := fun x : Int × Bk => Fit (N + 1) (M + (2 * N + 4)) (N + 4) x.2) (fun _ => ?_) (fun c9 => ?_)
  · unfold Bk.ended
    split
    · exact h0
    · exact m0 (h.gone _ _) (by omega) (by omega)
  refine iteP (P := fun x : Int × Bk => Fit (N + 1) (M + (2 * N + 4)) (N + 4) x.2) (fun _ => ?_) (fun c10 => ?_)
  · unfold Bk.turn
    split
    · exact h0
    · exact h0
  refine iteP (P := fun x : Int × Bk => Fit (N + 1) (M + (2 * N + 4)) (N + 4) x.2) (fun _ => ?_) (fun c11 => ?_)
  · unfold Bk.drain
    split
    · exact h0
    · rename_i w hw
      have hm := lives_mget hw
      split
      · exact h0
      split
      · exact m0 (h.adds _ (fun _ => by show (mget p.wks e.worker).isSome = true; rw [hm]; rfl)) (by omega) (by omega)
      · exact m0 (h.setW hm (v := { w with state := 4 }) (h.wk hm).1 (h.wk hm).2) (by omega) (by omega)
  refine iteP (P := fun x : Int × Bk => Fit (N + 1) (M + (2 * N + 4)) (N + 4) x.2) (fun _ => ?_) (fun c12 => ?_)
  · exact h0
  refine iteP (P := fun x : Int × Bk => Fit (N + 1) (M + (2 * N + 4)) (N + 4) x.2) (fun _ => ?_) (fun c13 => ?_)
  · unfold Bk.send
    dsimp only
    split
    · exact hI
    · rename_i w hw
      have hm := lives_mget hw
      have hwk := hi.wk hm
      split
      · exact hI
      split
      · exact hI
      · have h1 := hi.mono (N' := N + 1) (by omega) (Nat.le_refl _) (Nat.le_refl _)
        refine ((h1.setR e.id (r := { (p.id e.id).rq e.id with waits := false, with_ := e.worker, sent := ((p.id e.id).rq e.id).sent + 1 }) ⟨Int.le_trans hr.1 (Int.le_add_of_nonneg_right (by decide)), by have := hr.2; show ((p.id e.id).rq e.id).sent + 1 ≤ ((N + 1 : Nat) : Int); omega⟩).setW (n := e.worker) (u := w) (v := ⟨3, w.owes ++ [e.id], w.idle⟩) hm (by show (w.owes ++ [e.id]).length ≤ N + 1; rw [List.length_append]; exact Nat.succ_le_succ hwk.1) ⟨hwk.2.1, by have := hwk.2.2; show w.idle ≤ ((N + 1 : Nat) : Int); omega⟩).mono (Nat.le_refl _) (by omega) (by omega)
  refine iteP (P := fun x : Int × Bk => Fit (N + 1) (M + (2 * N + 4)) (N + 4) x.2) (fun _ => ?_) (fun c14 => ?_)
  · unfold Bk.done
    dsimp only
    split
    · exact hI
    · rename_i w hw
      have hm := lives_mget hw
      have hwk := hi.wk hm
      split
      · exact hI
      have hle : (w.owes.erase e.id).length ≤ N := Nat.le_trans List.length_erase_le hwk.1
      have h2 := hi.setW hm (v := { w with owes := w.owes.erase e.id }) hle hwk.2
      have h3 : Fit N (M + 2) 1 (if ((p.id e.id).rq e.id).with_ = e.worker then (((p.id e.id).setW e.worker { w with owes := w.owes.erase e.id }).setR e.id { (p.id e.id).rq e.id with with_ := 0 }).adds (finalE e.id 1) else ((p.id e.id).setW e.worker { w with owes := w.owes.erase e.id }).adds ⟨15, e.id, 0, 0⟩) := by
        split
        · exact (h2.setR e.id (r := { (p.id e.id).rq e.id with with_ := 0 }) hr).adds _ (fun h => absurd (show (8 : Int) = 11 from h) (by decide))
        · exact (h2.adds _ (fun h => absurd (show (15 : Int) = 11 from h) (by decide))).mono (Nat.le_refl _) (by omega) (Nat.le_refl _)
      have hw3 : (if ((p.id e.id).rq e.id).with_ = e.worker then (((p.id e.id).setW e.worker { w with owes := w.owes.erase e.id }).setR e.id { (p.id e.id).rq e.id with with_ := 0 }).adds (finalE e.id 1) else ((p.id e.id).setW e.worker { w with owes := w.owes.erase e.id }).adds ⟨15, e.id, 0, 0⟩).wks = mput (p.id e.id).wks e.worker { w with owes := w.owes.erase e.id } := by split <;> rfl
      split
      · exact m0 h3 (by omega) (by omega)
      split
      · exact m0 (h3.adds _ (fun _ => by rw [hw3]; show (mget (mput (p.id e.id).wks e.worker _) e.worker).isSome = true; rw [mget_mput, if_pos rfl]; rfl)) (by omega) (by omega)
      · exact m0 (h3.setW (u := { w with owes := w.owes.erase e.id }) (by rw [hw3, mget_mput, if_pos rfl]) hle ⟨Int.le_refl _, by simp⟩) (by omega) (by omega)
  · unfold Bk.tickE
    by_cases h13 : e.kind = 13
    · have := ht h13
      refine ⟨Nat.le_trans h.ids (by omega), ?_, by simp only [List.length_map]; have := h.wks; omega, ?_, ?_, ?_, ?_, ?_, ?_, ?_⟩
      · have h1 := h.must
        have h2 : p.ticked.length ≤ N := by
          unfold Bk.ticked
          rw [List.length_map]
          exact Nat.le_trans (List.length_filter_le _ _) h.wks
        simp only [List.length_append, List.length_map, List.length_mergeSort]
        omega
      · intro x hx
        obtain ⟨y, hy, rfl⟩ := List.mem_map.1 hx
        have := h.owes y hy
        unfold tickW
        split <;> (dsimp only; omega)
      · intro x hx
        obtain ⟨y, hy, rfl⟩ := List.mem_map.1 hx
        have := h.idle y hy
        unfold tickW
        split <;> (dsimp only; omega)
      · intro x hx; have := h.sent x hx; omega
      · have := h.born; dsimp only; omega
      · have := h.started; dsimp only; omega
      · dsimp only; omega
      · intro x hx hk
        have hmap : ∀ n, mget (p.wks.map (fun x => (x.1, tickW x.2))) n = (mget p.wks n).map tickW := fun n => mget_map tickW p.wks n
        show (mget (p.wks.map (fun x => (x.1, tickW x.2))) x.worker).isSome = true
        rw [hmap, Option.isSome_map]
        rcases List.mem_append.1 hx with hx | hx
        · exact h.deads x hx hk
        · obtain ⟨n, hn, rfl⟩ := List.mem_map.1 hx
          rw [List.mem_mergeSort] at hn
          obtain ⟨y, hy, rfl⟩ := List.mem_map.1 hn
          have hy2 := (List.mem_filter.1 hy).1
          show (mget p.wks y.1).isSome = true
          cases hg : mget p.wks y.1 with
          | some v => rfl
          | none => exact absurd (List.mem_map.2 ⟨y, hy2, rfl⟩) (mget_none.1 hg)
    · omega
end
end Go.Tk
