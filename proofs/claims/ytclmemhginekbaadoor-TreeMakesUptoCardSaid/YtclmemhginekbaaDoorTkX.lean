/- clear of the rest of an own slice; calls of function values; an own slice's front. -/
import Derived.Test.YtclmemhginekbaaDoorTkV
set_option linter.unusedSectionVars false
set_option linter.unusedSimpArgs false
set_option linter.unusedVariables false
namespace Go.Tk
open Go.RowKit
section
variable {P : Program} {ops : Array Oper} {Q : Exit → Act → World → Prop} {rest : List Oper} {o : Oper} {a : Act} {B : Base} {H R : HL} {w : World} {α : Type} {E : Enc α}
theorem zeroCells_flat (z : α) (n : Nat) : (Builtin.zeroCells (E.cells z).toArray n).toList = flat E (List.replicate n z) := by
  have hlen : (E.cells z).length = E.k := E.len z
  apply List.ext_getElem?
  intro i
  by_cases hi : i < n * E.k
  · have hj : i / E.k < n := Nat.div_lt_of_lt_mul (by rw [Nat.mul_comm]; exact hi)
    have hf : i % E.k < E.k := Nat.mod_lt _ E.pos
    have hx : (List.replicate n z)[i / E.k]? = some z := by simp [hj]
    have h2 := flat_get (E := E) hx [] (f := i % E.k) (v := (E.cells z)[i % E.k]'(by omega)) (List.getElem?_eq_getElem (by omega))
    rw [List.append_nil, show i / E.k * E.k + i % E.k = i from by rw [Nat.mul_comm]; exact Nat.div_add_mod i E.k] at h2
    rw [h2]
    unfold Builtin.zeroCells
    simp [hlen, hi, getElem!_pos, hf]
  · rw [List.getElem?_eq_none (by unfold Builtin.zeroCells; simp [hlen]; omega), List.getElem?_eq_none (by rw [flat_length, List.length_replicate]; omega)]
/-- clear(s[i:]), s an own slice. -/
theorem wl_clearL {t e n cap cap0 i k : Nat} {x : Operand} {A : Option Addr} {xs : List α} {sp zc : List Value} (z : α) (hw : Region.wanted o (yielded ops a.tmps) = true) (ho : o.op = .call { callee := .builtin .clear, args := #[x], argTypes := #[t] })
    [hsl : SlTy P t e E.k] [hz : Zero P e zc] (hzc : zc = E.cells z) (hx : a.eval x = .slice (if cap0 = i then A else A.map (·.add (i * k))) n cap) (hk : E.k = k) (hS : Sh B H w) (hO : OwnSl E A xs sp cap0) {C : HL → HL} [hp : CtxRow H A (flat E xs ++ sp) e C]
    (hn : n = xs.length - i) (hi : i ≤ xs.length)
    (h : ∀ w', Sh B (C (rowA A (flat E (xs.take i ++ List.replicate (xs.length - i) z) ++ sp) e)) w' → OwnSl E A (xs.take i ++ List.replicate (xs.length - i) z) sp cap0 → wpList P ops Q rest (a.put o.dst (.tuple #[])) w') : wpList P ops Q (o :: rest) a w := by
  subst hk; subst hn; subst hzc
  by_cases h0 : xs.length - i = 0
  · have hx0 : xs.take i ++ List.replicate (xs.length - i) z = xs := by rw [h0, List.take_of_length_le (by omega)]; simp
    rw [hx0] at h
    refine wl_to hw ?_ (h w (hp.eq ▸ hS) hO)
    rw [h0] at hx
    have hrun : ∀ B', (Builtin.clear_ #[t] o.type #[.slice B' 0 cap]).run P w = .ok (.tuple #[]) w := by
      intro B'
      cases B' <;> simp [Builtin.clear_, run_underlying hsl.under]
    simp [execOp, ho, resolve, invoke, builtin, hx, hrun]
  · cases hA : A with
    | none => have := (hO.nil hA).1; subst this; simp at h0
    | some ad =>
      subst hA
      have hform := hO.form ad rfl
      have hle : xs.length ≤ cap0 := hO.len_le
      rw [if_neg (by omega)] at hx
      have hx' : a.eval x = .slice (some ⟨ad.block, i * E.k, none⟩) (xs.length - i) cap := by
        rw [hx, hform]
        simp only [Option.map_some]
        congr 2
        by_cases hi0 : i * E.k = 0
        · simp [Addr.add, hi0]
        · simp [Addr.add, hi0]
      obtain ⟨R, hS0, back⟩ := Sh.out (hp.eq ▸ hS) hp.ctx
      obtain ⟨zv, hz1, hz2⟩ := hz.out
      have hmul : (xs.length - i) * E.k + i * E.k = xs.length * E.k := by rw [← Nat.add_mul]; congr 1; omega
      rw [hform] at hS0
      obtain ⟨w', hr, hS'⟩ := run_storeCells_sh (P := P) (b := ad.block) (off := i * E.k) (T := e) (flat E (List.replicate (xs.length - i) z)) 0 (flat E xs ++ sp) w hS0 (by rw [List.length_append, flat_length, flat_length, List.length_replicate]; omega) (flat_one _)
      have hcells : splice (flat E xs ++ sp) (i * E.k + 0) (flat E (List.replicate (xs.length - i) z)) = flat E (xs.take i ++ List.replicate (xs.length - i) z) ++ sp := by
        have e1 : flat E xs = flat E (xs.take i) ++ flat E (xs.drop i) := by rw [← flat_append, List.take_append_drop]
        have e2 : (flat E (xs.take i)).length = i * E.k := by rw [flat_length, List.length_take, Nat.min_eq_left hi]
        have e3 : (flat E (xs.drop i)).length = (xs.length - i) * E.k := by rw [flat_length, List.length_drop]
        have e4 : (flat E (List.replicate (xs.length - i) z)).length = (xs.length - i) * E.k := by rw [flat_length, List.length_replicate]
        rw [splice_eq _ _ _ (by have e5 : (flat E xs).length = xs.length * E.k := flat_length xs; rw [List.length_append, e4, e5]; omega), e1, flat_append, Nat.add_zero]
        rw [List.append_assoc (flat E (xs.take i)), List.take_append_of_le_length (by omega), List.take_of_length_le (by omega), e4]
        rw [← List.append_assoc (flat E (xs.take i)) (flat E (xs.drop i)) sp, List.drop_append, List.drop_of_length_le (by rw [List.length_append]; omega)]
        rw [List.length_append, e2, e3, show i * E.k + (xs.length - i) * E.k - (i * E.k + (xs.length - i) * E.k) = 0 by omega]
        simp
      rw [hcells] at hS'
      have hlen : (xs.take i ++ List.replicate (xs.length - i) z).length = xs.length := by rw [List.length_append, List.length_take, List.length_replicate]; omega
      refine wl_to hw ?_ (h w' (back (rowA (some ad) _ e) w' (by rw [hform]; exact hS')) ⟨fun e => (by cases e), hO.form, by rw [hlen]; exact hO.capEq, hO.max⟩)
      obtain ⟨m, hm⟩ : ∃ m, xs.length - i = m + 1 := ⟨xs.length - i - 1, by omega⟩
      have hzc : (Builtin.zeroCells zv.cells (m + 1)).toList = flat E (List.replicate (m + 1) z) := by rw [hz2]; exact zeroCells_flat z _
      rw [hm] at hr hx'
      have hrun : (Builtin.clear_ #[t] o.type #[.slice (some ⟨ad.block, i * E.k, none⟩) (m + 1) cap]).run P w = .ok (.tuple #[]) w' := by
        simp [Builtin.clear_, run_underlying hsl.under, run_zeroValue hz1, hzc, hr]
      simp [execOp, ho, resolve, invoke, builtin, hx', hrun]
theorem OwnSl.front {A : Option Addr} {ys zs : List α} {sp : List Value} {cap : Nat} (h : OwnSl E A (ys ++ zs) sp cap) : OwnSl E A ys (flat E zs ++ sp) cap ∧ flat E (ys ++ zs) ++ sp = flat E ys ++ (flat E zs ++ sp) := by
  refine ⟨⟨fun e => ?_, h.form, ?_, h.max⟩, by rw [flat_append, List.append_assoc]⟩
  · obtain ⟨h1, h2, h3⟩ := h.nil e
    obtain ⟨h4, h5⟩ := List.append_eq_nil_iff.1 h1
    subst h4; subst h5; subst h2
    exact ⟨rfl, rfl, h3⟩
  · have := h.capEq
    rw [List.length_append, Nat.add_mul] at this
    rw [List.length_append, flat_length]
    omega
/-- A call of a function value. -/
theorem wl_callV {f : FuncId} {x : Operand} {args : Array Operand} {ats : Array TypeId} {ar : List Value} {lb : Array Value} (he : ∀ ar w, (callFunc f ar).run P w = .ok (.enter f ar) w) (hw : Region.wanted o (yielded ops a.tmps) = true) (ho : o.op = .call { callee := .value x, args := args, argTypes := ats })
    (hx : a.eval x = .func (.func f) #[] lb) (ha : args.toList.map a.eval = ar) (h : Calls P f (ar.toArray ++ lb) w fun e w' => ∃ v, e = .returned v ∧ wpList P ops Q rest (a.put o.dst v) w') : wpList P ops Q (o :: rest) a w := by
  refine wpList_step fun K hK => ?_
  rw [if_pos hw]
  have ha' : args.map a.eval = ar.toArray := by rw [← ha]; apply Array.ext'; simp
  have hrun : (execOp a.eval o).run P w = .ok (.enter f (ar.toArray ++ lb)) w := by
    have := he (ar.toArray ++ lb) w
    simp [execOp, ho, resolve, hx, Deferred.ofValue, invoke, ha', this]
  unfold Oper.wp
  rw [hrun]
  refine h.mono fun e w' he => ?_
  obtain ⟨v, rfl, hv⟩ := he
  exact hK _ _ hv
end
theorem ex_ixN {P : Program} {o : Oper} {a : Act} {w : World} {t e k n cap j : Nat} {x i : Operand} {kk : IntKind} {ii : Int} {A : Option Addr} (ho : o.op = .indexAddr t x i) [SlTy P t e k] (hx : a.eval x = .slice A n cap) (hi : a.eval i = .int kk ii) [hj : IsN ii j] (hlt : j < n) (hok : SlOk A n) :
    (execOp a.eval o).run P w = .ok (.value (.pointer (some ⟨blkA A, offA A + j * k, none⟩))) w := by
  have e := hj.out
  subst e
  have := ex_idx (P := P) (t := t) (w := w) (ho := ho) hx hi (Int.natCast_nonneg j) (by omega) hok
  rwa [Int.toNat_natCast] at this
def cutI (A : Option Addr) (cap l k : Nat) : Option Addr := if cap = l then A else A.map (·.add (l * k))
theorem ex_cutI {P : Program} {o : Oper} {a : Act} {w : World} {t e k n cap l : Nat} {x lo : Operand} {kk : IntKind} {A : Option Addr} [hsl : SlTy P t e k] (ho : o.op = .slice t x (some lo) none none) (hx : a.eval x = .slice A n cap) (hh : a.eval lo = .int kk (l : Int)) (hle : l ≤ n) :
    (execOp a.eval o).run P w = .ok (.value (.slice (cutI A cap l k) (n - l) (cap - l))) w := ex_cutL ho hx hh hle
theorem cutRdI {α : Type} {E : Enc α} {B : Base} {H : HL} {A : Option Addr} {cap l k : Nat} {xs : List α} (r : RdAt E B H A xs) (hk : E.k = k) (hc : xs.length ≤ cap) : RdAt E B H (cutI A cap l k) (xs.drop l) := by
  subst hk
  unfold cutI
  by_cases h : cap = l
  · rw [List.drop_eq_nil_of_le (by omega)]
    exact RdAt.nil
  · rw [if_neg h]
    exact r.drop l
end Go.Tk
