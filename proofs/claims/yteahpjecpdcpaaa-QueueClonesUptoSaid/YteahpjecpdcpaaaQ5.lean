/- The queue's All, Out, Len. -/
import Derived.Test.YteahpjecpdcpaaaQ4
set_option linter.unusedSectionVars false
set_option linter.unusedSimpArgs false
set_option linter.unusedVariables false
namespace Go.Tk
open Go.RowKit Go.Proofs

theorem QAt.drop {B : Base} {q : QS} {b mi mk : Nat} {c R : HL} {w : World} (h : QAt B q b mi mk (c ++ R) w) : QAt B q b mi mk R w := by
  obtain ⟨es1, c1, es2, c2, hS, hm1, hm2⟩ := h.out
  exact ⟨_, _, _, _, hS.to, hm1, hm2⟩

theorem QAt.of {B : Base} {q : QS} (b mi mk : Nat) {H R1 R2 R3 R4 : HL} {w : World} {es1 es2 : Array MapEntry} {c1 c2 : Nat} (hS : Sh B H w) (hm1 : MapIs ikv ItemB.ptr es1 c1 q.items) (hm2 : MapIs ikv iiv es2 c2 q.known)
    [h1 : HasC H (cellB b [.int .i64 q.most, .int .i64 q.born, .map (some mi), .map (some mk)] 67) R1] [h2 : HasC R1 (mapB mk es2 c2) R2] [h3 : HasC R2 (mapB mi es1 c1) R3] [h4 : HasC R3 (itemsH q.items) R4] : QAt B q b mi mk R4 w :=
  ⟨_, _, _, _, (hS.pick h1.out).under fun _ _ h => (h.pick h2.out).under fun _ _ h => (h.pick h3.out).under fun _ _ h => h.pick h4.out, hm1, hm2⟩

section
variable {B : Base} {R : HL} {w : World} {q : QS} {b mi mk : Nat}
set_option maxRecDepth 100000 in
set_option maxHeartbeats 800000 in
theorem All_any (hQ : QAt B q b mi mk R w) (hO : q.Ord) : Calls Try.prog 16 #[.pointer (some ⟨b, 0, none⟩)] w (RowsP B R q b mi mk false) := by
  go_enter Try.func16, Try.ntmps16
  go_wp2_with (first | (go_at_call 31; refine ((rows_any hQ hO _)).mono ?_; rintro e w' (⟨A, sp, cap, rfl, hA, hQ⟩)))
  go_ret
  exact ⟨_, _, _, rfl, hA, hQ⟩
set_option maxRecDepth 100000 in
set_option maxHeartbeats 800000 in
theorem Out_any (hQ : QAt B q b mi mk R w) (hO : q.Ord) : Calls Try.prog 18 #[.pointer (some ⟨b, 0, none⟩)] w (RowsP B R q b mi mk true) := by
  go_enter Try.func18, Try.ntmps18
  go_wp2_with (first | (go_at_call 31; refine ((rows_any hQ hO _)).mono ?_; rintro e w' (⟨A, sp, cap, rfl, hA, hQ⟩)))
  go_ret
  exact ⟨_, _, _, rfl, hA, hQ⟩
def LenP (B : Base) (R : HL) (q : QS) (b mi mk : Nat) (e : Ending) (w' : World) : Prop := e = .returned (.int .i64 (q.rows false).length) ∧ QAt B q b mi mk R w'
set_option maxRecDepth 100000 in
set_option maxHeartbeats 800000 in
theorem Len_any (hQ : QAt B q b mi mk R w) (hO : q.Ord) : Calls Try.prog 11 #[.pointer (some ⟨b, 0, none⟩)] w (LenP B R q b mi mk) := by
  go_enter Try.func11, Try.ntmps11
  go_wp2_with (first | (go_at_call 31; refine ((rows_any hQ hO _)).mono ?_; rintro e w' (⟨A, sp, cap, rfl, hA, hQ⟩)))
  go_ret
  exact ⟨rfl, hQ.drop⟩
end
end Go.Tk
