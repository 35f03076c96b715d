/- The types of this translation: printed by a program of this work (gen_ty.py). -/
import Derived.Test.YteahpjecpdcpaaaProg
import Derived.Test.YteahpjecpdcpaaaTkH
import Derived.KernelRfl
import Derived.Shelf.Lay
set_option linter.unusedVariables false
namespace Go.Tk
open Go.Proofs
instance : IsScalar Try.prog 1 := ⟨_, Try.underlying1, rfl⟩
instance : Size1 Try.prog 1 := ⟨by kernel_rfl⟩
instance : ZeroV Try.prog 1 (.nilFunc) := ⟨by kernel_rfl⟩
instance : Zero Try.prog 1 [.nilFunc] := ⟨_, ZeroV.out (P := Try.prog) (T := 1), rfl⟩
instance : IsScalar Try.prog 2 := ⟨_, Try.underlying2, rfl⟩
instance : Size1 Try.prog 2 := ⟨by kernel_rfl⟩
instance : KeyTy Try.prog 2 (fun n : Int => Value.int .i64 n) := KeyTy.int Try.underlying2
instance : ZeroV Try.prog 2 (.int .i64 0) := ⟨by kernel_rfl⟩
instance : Zero Try.prog 2 [.int .i64 0] := ⟨_, ZeroV.out (P := Try.prog) (T := 2), rfl⟩
instance : IsScalar Try.prog 3 := ⟨_, Try.underlying3, rfl⟩
instance : Size1 Try.prog 3 := ⟨by kernel_rfl⟩
instance : KeyTy Try.prog 3 (fun n : Int => Value.int .i64 n) := KeyTy.int Try.underlying3
instance : ZeroV Try.prog 3 (.int .i64 0) := ⟨by kernel_rfl⟩
instance : Zero Try.prog 3 [.int .i64 0] := ⟨_, ZeroV.out (P := Try.prog) (T := 3), rfl⟩
instance : ElTy Try.prog 3 1 8 := ElTy.of (z := (.int .i64 0)) (by kernel_rfl) rfl
instance : IsScalar Try.prog 4 := ⟨_, Try.underlying4, rfl⟩
instance : Size1 Try.prog 4 := ⟨by kernel_rfl⟩
instance : ZeroV Try.prog 4 (.bool false) := ⟨by kernel_rfl⟩
instance : Zero Try.prog 4 [.bool false] := ⟨_, ZeroV.out (P := Try.prog) (T := 4), rfl⟩
instance : IsScalar Try.prog 5 := ⟨_, Try.underlying5, rfl⟩
instance : Size1 Try.prog 5 := ⟨by kernel_rfl⟩
instance : KeyTy Try.prog 5 (fun n : Int => Value.int .u8 n) := KeyTy.int Try.underlying5
instance : ZeroV Try.prog 5 (.int .u8 0) := ⟨by kernel_rfl⟩
instance : Zero Try.prog 5 [.int .u8 0] := ⟨_, ZeroV.out (P := Try.prog) (T := 5), rfl⟩
instance : ElTy Try.prog 5 1 1 := ElTy.of (z := (.int .u8 0)) (by kernel_rfl) rfl
instance : IsScalar Try.prog 6 := ⟨_, Try.underlying6, rfl⟩
instance : Size1 Try.prog 6 := ⟨by kernel_rfl⟩
instance : KeyTy Try.prog 6 (fun n : Int => Value.int .u8 n) := KeyTy.int Try.underlying6
instance : ZeroV Try.prog 6 (.int .u8 0) := ⟨by kernel_rfl⟩
instance : Zero Try.prog 6 [.int .u8 0] := ⟨_, ZeroV.out (P := Try.prog) (T := 6), rfl⟩
instance : IsRow Try.prog 7 4 := ⟨⟨_, Try.underlying7, rfl⟩, by kernel_rfl⟩
instance : StructTy Try.prog 7 [.int .i64 0, .int .i64 0, .bool false, .int .u8 0] [(0, 1), (1, 1), (2, 1), (3, 1)] := ⟨fun parts => by kernel_rfl⟩
instance : ZeroV Try.prog 7 (.agg #[.int .i64 0, .int .i64 0, .bool false, .int .u8 0]) := ⟨by kernel_rfl⟩
instance : Zero Try.prog 7 [.int .i64 0, .int .i64 0, .bool false, .int .u8 0] := ⟨_, ZeroV.out (P := Try.prog) (T := 7), rfl⟩
instance : Fld Try.prog 7 0 0 2 := ⟨_, _, Try.underlying7, rfl, rfl, rfl⟩
instance : Fld Try.prog 7 1 1 3 := ⟨_, _, Try.underlying7, rfl, rfl, rfl⟩
instance : Fld Try.prog 7 2 2 4 := ⟨_, _, Try.underlying7, rfl, rfl, rfl⟩
instance : Fld Try.prog 7 3 3 6 := ⟨_, _, Try.underlying7, rfl, rfl, rfl⟩
instance : IsRow Try.prog 8 4 := ⟨⟨_, Try.underlying8, rfl⟩, by kernel_rfl⟩
instance : StructTy Try.prog 8 [.int .i64 0, .int .i64 0, .bool false, .int .u8 0] [(0, 1), (1, 1), (2, 1), (3, 1)] := ⟨fun parts => by kernel_rfl⟩
instance : ZeroV Try.prog 8 (.agg #[.int .i64 0, .int .i64 0, .bool false, .int .u8 0]) := ⟨by kernel_rfl⟩
instance : Zero Try.prog 8 [.int .i64 0, .int .i64 0, .bool false, .int .u8 0] := ⟨_, ZeroV.out (P := Try.prog) (T := 8), rfl⟩
instance : Fld Try.prog 8 0 0 2 := ⟨_, _, Try.underlying8, rfl, rfl, rfl⟩
instance : Fld Try.prog 8 1 1 3 := ⟨_, _, Try.underlying8, rfl, rfl, rfl⟩
instance : Fld Try.prog 8 2 2 4 := ⟨_, _, Try.underlying8, rfl, rfl, rfl⟩
instance : Fld Try.prog 8 3 3 6 := ⟨_, _, Try.underlying8, rfl, rfl, rfl⟩
instance : IsScalar Try.prog 9 := ⟨_, Try.underlying9, rfl⟩
instance : Size1 Try.prog 9 := ⟨by kernel_rfl⟩
instance : KeyTy Try.prog 9 (fun s : ByteArray => Value.string s) := KeyTy.str Try.underlying9
instance : ZeroV Try.prog 9 (.string ⟨#[]⟩) := ⟨by kernel_rfl⟩
instance : Zero Try.prog 9 [.string ⟨#[]⟩] := ⟨_, ZeroV.out (P := Try.prog) (T := 9), rfl⟩
instance : IsScalar Try.prog 10 := ⟨_, Try.underlying10, rfl⟩
instance : Size1 Try.prog 10 := ⟨by kernel_rfl⟩
instance : KeyTy Try.prog 10 (fun s : ByteArray => Value.string s) := KeyTy.str Try.underlying10
instance : ZeroV Try.prog 10 (.string ⟨#[]⟩) := ⟨by kernel_rfl⟩
instance : Zero Try.prog 10 [.string ⟨#[]⟩] := ⟨_, ZeroV.out (P := Try.prog) (T := 10), rfl⟩
instance : IsScalar Try.prog 11 := ⟨_, Try.underlying11, rfl⟩
instance : Size1 Try.prog 11 := ⟨by kernel_rfl⟩
instance : KeyTy Try.prog 11 (fun s : ByteArray => Value.string s) := KeyTy.str Try.underlying11
instance : ZeroV Try.prog 11 (.string ⟨#[]⟩) := ⟨by kernel_rfl⟩
instance : Zero Try.prog 11 [.string ⟨#[]⟩] := ⟨_, ZeroV.out (P := Try.prog) (T := 11), rfl⟩
instance : IsScalar Try.prog 12 := ⟨_, Try.underlying12, rfl⟩
instance : Size1 Try.prog 12 := ⟨by kernel_rfl⟩
instance : KeyTy Try.prog 12 (fun n : Int => Value.int .u64 n) := KeyTy.int Try.underlying12
instance : ZeroV Try.prog 12 (.int .u64 0) := ⟨by kernel_rfl⟩
instance : Zero Try.prog 12 [.int .u64 0] := ⟨_, ZeroV.out (P := Try.prog) (T := 12), rfl⟩
instance : IsRow Try.prog 13 2 := ⟨⟨_, Try.underlying13, rfl⟩, by kernel_rfl⟩
instance : StructTy Try.prog 13 [.string ⟨#[]⟩, .int .u64 0] [(0, 1), (1, 1)] := ⟨fun parts => by kernel_rfl⟩
instance : ZeroV Try.prog 13 (.agg #[.string ⟨#[]⟩, .int .u64 0]) := ⟨by kernel_rfl⟩
instance : Zero Try.prog 13 [.string ⟨#[]⟩, .int .u64 0] := ⟨_, ZeroV.out (P := Try.prog) (T := 13), rfl⟩
instance : Fld Try.prog 13 0 0 9 := ⟨_, _, Try.underlying13, rfl, rfl, rfl⟩
instance : Fld Try.prog 13 1 1 12 := ⟨_, _, Try.underlying13, rfl, rfl, rfl⟩
instance : IsRow Try.prog 14 2 := ⟨⟨_, Try.underlying14, rfl⟩, by kernel_rfl⟩
instance : StructTy Try.prog 14 [.string ⟨#[]⟩, .int .u64 0] [(0, 1), (1, 1)] := ⟨fun parts => by kernel_rfl⟩
instance : ZeroV Try.prog 14 (.agg #[.string ⟨#[]⟩, .int .u64 0]) := ⟨by kernel_rfl⟩
instance : Zero Try.prog 14 [.string ⟨#[]⟩, .int .u64 0] := ⟨_, ZeroV.out (P := Try.prog) (T := 14), rfl⟩
instance : Fld Try.prog 14 0 0 9 := ⟨_, _, Try.underlying14, rfl, rfl, rfl⟩
instance : Fld Try.prog 14 1 1 12 := ⟨_, _, Try.underlying14, rfl, rfl, rfl⟩
instance : IsScalar Try.prog 15 := ⟨_, Try.underlying15, rfl⟩
instance : Size1 Try.prog 15 := ⟨by kernel_rfl⟩
instance : ZeroV Try.prog 15 (.pointer none) := ⟨by kernel_rfl⟩
instance : Zero Try.prog 15 [.pointer none] := ⟨_, ZeroV.out (P := Try.prog) (T := 15), rfl⟩
instance : IsScalar Try.prog 16 := ⟨_, Try.underlying16, rfl⟩
instance : Size1 Try.prog 16 := ⟨by kernel_rfl⟩
instance : ZeroV Try.prog 16 (.pointer none) := ⟨by kernel_rfl⟩
instance : Zero Try.prog 16 [.pointer none] := ⟨_, ZeroV.out (P := Try.prog) (T := 16), rfl⟩
instance : IsScalar Try.prog 17 := ⟨_, Try.underlying17, rfl⟩
instance : Size1 Try.prog 17 := ⟨by kernel_rfl⟩
instance : ZeroV Try.prog 17 (.pointer none) := ⟨by kernel_rfl⟩
instance : Zero Try.prog 17 [.pointer none] := ⟨_, ZeroV.out (P := Try.prog) (T := 17), rfl⟩
instance : IsRow Try.prog 18 1 := ⟨⟨_, Try.underlying18, rfl⟩, by kernel_rfl⟩
instance : StructTy Try.prog 18 [.pointer none] [(0, 1)] := ⟨fun parts => by kernel_rfl⟩
instance : ZeroV Try.prog 18 (.agg #[.pointer none]) := ⟨by kernel_rfl⟩
instance : Zero Try.prog 18 [.pointer none] := ⟨_, ZeroV.out (P := Try.prog) (T := 18), rfl⟩
instance : Fld Try.prog 18 0 0 17 := ⟨_, _, Try.underlying18, rfl, rfl, rfl⟩
instance : IsRow Try.prog 19 1 := ⟨⟨_, Try.underlying19, rfl⟩, by kernel_rfl⟩
instance : StructTy Try.prog 19 [.pointer none] [(0, 1)] := ⟨fun parts => by kernel_rfl⟩
instance : ZeroV Try.prog 19 (.agg #[.pointer none]) := ⟨by kernel_rfl⟩
instance : Zero Try.prog 19 [.pointer none] := ⟨_, ZeroV.out (P := Try.prog) (T := 19), rfl⟩
instance : Fld Try.prog 19 0 0 17 := ⟨_, _, Try.underlying19, rfl, rfl, rfl⟩
instance : IsScalar Try.prog 20 := ⟨_, Try.underlying20, rfl⟩
instance : Size1 Try.prog 20 := ⟨by kernel_rfl⟩
instance : ZeroV Try.prog 20 (.nilIface) := ⟨by kernel_rfl⟩
instance : Zero Try.prog 20 [.nilIface] := ⟨_, ZeroV.out (P := Try.prog) (T := 20), rfl⟩
instance : IsScalar Try.prog 21 := ⟨_, Try.underlying21, rfl⟩
instance : Size1 Try.prog 21 := ⟨by kernel_rfl⟩
instance : KeyTy Try.prog 21 (fun n : Int => Value.int .i32 n) := KeyTy.int Try.underlying21
instance : ZeroV Try.prog 21 (.int .i32 0) := ⟨by kernel_rfl⟩
instance : Zero Try.prog 21 [.int .i32 0] := ⟨_, ZeroV.out (P := Try.prog) (T := 21), rfl⟩
instance : IsScalar Try.prog 22 := ⟨_, Try.underlying22, rfl⟩
instance : Size1 Try.prog 22 := ⟨by kernel_rfl⟩
instance : SlTy Try.prog 22 31 5 := ⟨Try.underlying22, by kernel_rfl⟩
instance : ZeroV Try.prog 22 (.slice none 0 0) := ⟨by kernel_rfl⟩
instance : Zero Try.prog 22 [.slice none 0 0] := ⟨_, ZeroV.out (P := Try.prog) (T := 22), rfl⟩
instance : IsScalar Try.prog 23 := ⟨_, Try.underlying23, rfl⟩
instance : Size1 Try.prog 23 := ⟨by kernel_rfl⟩
instance : ZeroV Try.prog 23 (.pointer none) := ⟨by kernel_rfl⟩
instance : Zero Try.prog 23 [.pointer none] := ⟨_, ZeroV.out (P := Try.prog) (T := 23), rfl⟩
instance : ElTy Try.prog 23 1 8 := ElTy.of (z := (.pointer none)) (by kernel_rfl) rfl
instance : IsScalar Try.prog 24 := ⟨_, Try.underlying24, rfl⟩
instance : Size1 Try.prog 24 := ⟨by kernel_rfl⟩
instance : KeyTy Try.prog 24 (fun n : Int => Value.int .i64 n) := KeyTy.int Try.underlying24
instance : ZeroV Try.prog 24 (.int .i64 0) := ⟨by kernel_rfl⟩
instance : Zero Try.prog 24 [.int .i64 0] := ⟨_, ZeroV.out (P := Try.prog) (T := 24), rfl⟩
instance : IsScalar Try.prog 26 := ⟨_, Try.underlying26, rfl⟩
instance : Size1 Try.prog 26 := ⟨by kernel_rfl⟩
instance : ZeroV Try.prog 26 (.nilFunc) := ⟨by kernel_rfl⟩
instance : Zero Try.prog 26 [.nilFunc] := ⟨_, ZeroV.out (P := Try.prog) (T := 26), rfl⟩
instance : IsScalar Try.prog 27 := ⟨_, Try.underlying27, rfl⟩
instance : Size1 Try.prog 27 := ⟨by kernel_rfl⟩
instance : ZeroV Try.prog 27 (.nilFunc) := ⟨by kernel_rfl⟩
instance : Zero Try.prog 27 [.nilFunc] := ⟨_, ZeroV.out (P := Try.prog) (T := 27), rfl⟩
instance : IsScalar Try.prog 28 := ⟨_, Try.underlying28, rfl⟩
instance : Size1 Try.prog 28 := ⟨by kernel_rfl⟩
instance : KeyTy Try.prog 28 (fun n : Int => Value.int .u64 n) := KeyTy.int Try.underlying28
instance : ZeroV Try.prog 28 (.int .u64 0) := ⟨by kernel_rfl⟩
instance : Zero Try.prog 28 [.int .u64 0] := ⟨_, ZeroV.out (P := Try.prog) (T := 28), rfl⟩
instance : ElTy Try.prog 28 1 8 := ElTy.of (z := (.int .u64 0)) (by kernel_rfl) rfl
instance : IsScalar Try.prog 29 := ⟨_, Try.underlying29, rfl⟩
instance : Size1 Try.prog 29 := ⟨by kernel_rfl⟩
instance : SlTy Try.prog 29 5 1 := ⟨Try.underlying29, by kernel_rfl⟩
instance : ZeroV Try.prog 29 (.slice none 0 0) := ⟨by kernel_rfl⟩
instance : Zero Try.prog 29 [.slice none 0 0] := ⟨_, ZeroV.out (P := Try.prog) (T := 29), rfl⟩
instance : IsRow Try.prog 30 5 := ⟨⟨_, Try.underlying30, rfl⟩, by kernel_rfl⟩
instance : StructTy Try.prog 30 [.int .i64 0, .int .u64 0, .int .u8 0, .int .i64 0, .slice none 0 0] [(0, 1), (1, 1), (2, 1), (3, 1), (4, 1)] := ⟨fun parts => by kernel_rfl⟩
instance : ZeroV Try.prog 30 (.agg #[.int .i64 0, .int .u64 0, .int .u8 0, .int .i64 0, .slice none 0 0]) := ⟨by kernel_rfl⟩
instance : Zero Try.prog 30 [.int .i64 0, .int .u64 0, .int .u8 0, .int .i64 0, .slice none 0 0] := ⟨_, ZeroV.out (P := Try.prog) (T := 30), rfl⟩
instance : Fld Try.prog 30 0 0 3 := ⟨_, _, Try.underlying30, rfl, rfl, rfl⟩
instance : Fld Try.prog 30 1 1 28 := ⟨_, _, Try.underlying30, rfl, rfl, rfl⟩
instance : Fld Try.prog 30 2 2 5 := ⟨_, _, Try.underlying30, rfl, rfl, rfl⟩
instance : Fld Try.prog 30 3 3 3 := ⟨_, _, Try.underlying30, rfl, rfl, rfl⟩
instance : Fld Try.prog 30 4 4 29 := ⟨_, _, Try.underlying30, rfl, rfl, rfl⟩
instance : IsRow Try.prog 31 5 := ⟨⟨_, Try.underlying31, rfl⟩, by kernel_rfl⟩
instance : StructTy Try.prog 31 [.int .i64 0, .int .u64 0, .int .u8 0, .int .i64 0, .slice none 0 0] [(0, 1), (1, 1), (2, 1), (3, 1), (4, 1)] := ⟨fun parts => by kernel_rfl⟩
instance : ZeroV Try.prog 31 (.agg #[.int .i64 0, .int .u64 0, .int .u8 0, .int .i64 0, .slice none 0 0]) := ⟨by kernel_rfl⟩
instance : Zero Try.prog 31 [.int .i64 0, .int .u64 0, .int .u8 0, .int .i64 0, .slice none 0 0] := ⟨_, ZeroV.out (P := Try.prog) (T := 31), rfl⟩
instance : ElTy Try.prog 31 5 56 := ElTy.of (z := (.agg #[.int .i64 0, .int .u64 0, .int .u8 0, .int .i64 0, .slice none 0 0])) (by kernel_rfl) rfl
instance : Fld Try.prog 31 0 0 3 := ⟨_, _, Try.underlying31, rfl, rfl, rfl⟩
instance : Fld Try.prog 31 1 1 28 := ⟨_, _, Try.underlying31, rfl, rfl, rfl⟩
instance : Fld Try.prog 31 2 2 5 := ⟨_, _, Try.underlying31, rfl, rfl, rfl⟩
instance : Fld Try.prog 31 3 3 3 := ⟨_, _, Try.underlying31, rfl, rfl, rfl⟩
instance : Fld Try.prog 31 4 4 29 := ⟨_, _, Try.underlying31, rfl, rfl, rfl⟩
instance : IsScalar Try.prog 32 := ⟨_, Try.underlying32, rfl⟩
instance : Size1 Try.prog 32 := ⟨by kernel_rfl⟩
instance : ZeroV Try.prog 32 (.nilFunc) := ⟨by kernel_rfl⟩
instance : Zero Try.prog 32 [.nilFunc] := ⟨_, ZeroV.out (P := Try.prog) (T := 32), rfl⟩
instance : IsScalar Try.prog 33 := ⟨_, Try.underlying33, rfl⟩
instance : Size1 Try.prog 33 := ⟨by kernel_rfl⟩
instance : ZeroV Try.prog 33 (.nilFunc) := ⟨by kernel_rfl⟩
instance : Zero Try.prog 33 [.nilFunc] := ⟨_, ZeroV.out (P := Try.prog) (T := 33), rfl⟩
instance : IsRow Try.prog 34 32 := ⟨⟨_, Try.underlying34, rfl⟩, by kernel_rfl⟩
instance : ArrTy Try.prog 34 [.int .u8 0, .int .u8 0, .int .u8 0, .int .u8 0, .int .u8 0, .int .u8 0, .int .u8 0, .int .u8 0, .int .u8 0, .int .u8 0, .int .u8 0, .int .u8 0, .int .u8 0, .int .u8 0, .int .u8 0, .int .u8 0, .int .u8 0, .int .u8 0, .int .u8 0, .int .u8 0, .int .u8 0, .int .u8 0, .int .u8 0, .int .u8 0, .int .u8 0, .int .u8 0, .int .u8 0, .int .u8 0, .int .u8 0, .int .u8 0, .int .u8 0, .int .u8 0] 1 := ⟨fun parts => by kernel_rfl⟩
instance : ZeroV Try.prog 34 (.agg #[.int .u8 0, .int .u8 0, .int .u8 0, .int .u8 0, .int .u8 0, .int .u8 0, .int .u8 0, .int .u8 0, .int .u8 0, .int .u8 0, .int .u8 0, .int .u8 0, .int .u8 0, .int .u8 0, .int .u8 0, .int .u8 0, .int .u8 0, .int .u8 0, .int .u8 0, .int .u8 0, .int .u8 0, .int .u8 0, .int .u8 0, .int .u8 0, .int .u8 0, .int .u8 0, .int .u8 0, .int .u8 0, .int .u8 0, .int .u8 0, .int .u8 0, .int .u8 0]) := ⟨by kernel_rfl⟩
instance : Zero Try.prog 34 [.int .u8 0, .int .u8 0, .int .u8 0, .int .u8 0, .int .u8 0, .int .u8 0, .int .u8 0, .int .u8 0, .int .u8 0, .int .u8 0, .int .u8 0, .int .u8 0, .int .u8 0, .int .u8 0, .int .u8 0, .int .u8 0, .int .u8 0, .int .u8 0, .int .u8 0, .int .u8 0, .int .u8 0, .int .u8 0, .int .u8 0, .int .u8 0, .int .u8 0, .int .u8 0, .int .u8 0, .int .u8 0, .int .u8 0, .int .u8 0, .int .u8 0, .int .u8 0] := ⟨_, ZeroV.out (P := Try.prog) (T := 34), rfl⟩
instance : IsRow Try.prog 35 32 := ⟨⟨_, Try.underlying35, rfl⟩, by kernel_rfl⟩
instance : ArrTy Try.prog 35 [.int .u8 0, .int .u8 0, .int .u8 0, .int .u8 0, .int .u8 0, .int .u8 0, .int .u8 0, .int .u8 0, .int .u8 0, .int .u8 0, .int .u8 0, .int .u8 0, .int .u8 0, .int .u8 0, .int .u8 0, .int .u8 0, .int .u8 0, .int .u8 0, .int .u8 0, .int .u8 0, .int .u8 0, .int .u8 0, .int .u8 0, .int .u8 0, .int .u8 0, .int .u8 0, .int .u8 0, .int .u8 0, .int .u8 0, .int .u8 0, .int .u8 0, .int .u8 0] 1 := ⟨fun parts => by kernel_rfl⟩
instance : ZeroV Try.prog 35 (.agg #[.int .u8 0, .int .u8 0, .int .u8 0, .int .u8 0, .int .u8 0, .int .u8 0, .int .u8 0, .int .u8 0, .int .u8 0, .int .u8 0, .int .u8 0, .int .u8 0, .int .u8 0, .int .u8 0, .int .u8 0, .int .u8 0, .int .u8 0, .int .u8 0, .int .u8 0, .int .u8 0, .int .u8 0, .int .u8 0, .int .u8 0, .int .u8 0, .int .u8 0, .int .u8 0, .int .u8 0, .int .u8 0, .int .u8 0, .int .u8 0, .int .u8 0, .int .u8 0]) := ⟨by kernel_rfl⟩
instance : Zero Try.prog 35 [.int .u8 0, .int .u8 0, .int .u8 0, .int .u8 0, .int .u8 0, .int .u8 0, .int .u8 0, .int .u8 0, .int .u8 0, .int .u8 0, .int .u8 0, .int .u8 0, .int .u8 0, .int .u8 0, .int .u8 0, .int .u8 0, .int .u8 0, .int .u8 0, .int .u8 0, .int .u8 0, .int .u8 0, .int .u8 0, .int .u8 0, .int .u8 0, .int .u8 0, .int .u8 0, .int .u8 0, .int .u8 0, .int .u8 0, .int .u8 0, .int .u8 0, .int .u8 0] := ⟨_, ZeroV.out (P := Try.prog) (T := 35), rfl⟩
instance : ElTy Try.prog 35 32 32 := ElTy.of (z := (.agg #[.int .u8 0, .int .u8 0, .int .u8 0, .int .u8 0, .int .u8 0, .int .u8 0, .int .u8 0, .int .u8 0, .int .u8 0, .int .u8 0, .int .u8 0, .int .u8 0, .int .u8 0, .int .u8 0, .int .u8 0, .int .u8 0, .int .u8 0, .int .u8 0, .int .u8 0, .int .u8 0, .int .u8 0, .int .u8 0, .int .u8 0, .int .u8 0, .int .u8 0, .int .u8 0, .int .u8 0, .int .u8 0, .int .u8 0, .int .u8 0, .int .u8 0, .int .u8 0])) (by kernel_rfl) rfl
instance : IsScalar Try.prog 36 := ⟨_, Try.underlying36, rfl⟩
instance : Size1 Try.prog 36 := ⟨by kernel_rfl⟩
instance : ZeroV Try.prog 36 (.nilFunc) := ⟨by kernel_rfl⟩
instance : Zero Try.prog 36 [.nilFunc] := ⟨_, ZeroV.out (P := Try.prog) (T := 36), rfl⟩
instance : IsRow Try.prog 37 36 := ⟨⟨_, Try.underlying37, rfl⟩, by kernel_rfl⟩
instance : StructTy Try.prog 37 [.int .u64 0, .int .u8 0, .int .u8 0, .int .u8 0, .int .u8 0, .int .u8 0, .int .u8 0, .int .u8 0, .int .u8 0, .int .u8 0, .int .u8 0, .int .u8 0, .int .u8 0, .int .u8 0, .int .u8 0, .int .u8 0, .int .u8 0, .int .u8 0, .int .u8 0, .int .u8 0, .int .u8 0, .int .u8 0, .int .u8 0, .int .u8 0, .int .u8 0, .int .u8 0, .int .u8 0, .int .u8 0, .int .u8 0, .int .u8 0, .int .u8 0, .int .u8 0, .int .u8 0, .int .i64 0, .int .i64 0, .int .i64 0] [(0, 1), (1, 32), (33, 1), (34, 1), (35, 1)] := ⟨fun parts => by kernel_rfl⟩
instance : ZeroV Try.prog 37 (.agg #[.int .u64 0, .int .u8 0, .int .u8 0, .int .u8 0, .int .u8 0, .int .u8 0, .int .u8 0, .int .u8 0, .int .u8 0, .int .u8 0, .int .u8 0, .int .u8 0, .int .u8 0, .int .u8 0, .int .u8 0, .int .u8 0, .int .u8 0, .int .u8 0, .int .u8 0, .int .u8 0, .int .u8 0, .int .u8 0, .int .u8 0, .int .u8 0, .int .u8 0, .int .u8 0, .int .u8 0, .int .u8 0, .int .u8 0, .int .u8 0, .int .u8 0, .int .u8 0, .int .u8 0, .int .i64 0, .int .i64 0, .int .i64 0]) := ⟨by kernel_rfl⟩
instance : Zero Try.prog 37 [.int .u64 0, .int .u8 0, .int .u8 0, .int .u8 0, .int .u8 0, .int .u8 0, .int .u8 0, .int .u8 0, .int .u8 0, .int .u8 0, .int .u8 0, .int .u8 0, .int .u8 0, .int .u8 0, .int .u8 0, .int .u8 0, .int .u8 0, .int .u8 0, .int .u8 0, .int .u8 0, .int .u8 0, .int .u8 0, .int .u8 0, .int .u8 0, .int .u8 0, .int .u8 0, .int .u8 0, .int .u8 0, .int .u8 0, .int .u8 0, .int .u8 0, .int .u8 0, .int .u8 0, .int .i64 0, .int .i64 0, .int .i64 0] := ⟨_, ZeroV.out (P := Try.prog) (T := 37), rfl⟩
instance : Fld Try.prog 37 0 0 28 := ⟨_, _, Try.underlying37, rfl, rfl, rfl⟩
instance : Fld Try.prog 37 1 1 35 := ⟨_, _, Try.underlying37, rfl, rfl, rfl⟩
instance : Fld Try.prog 37 2 33 3 := ⟨_, _, Try.underlying37, rfl, rfl, rfl⟩
instance : Fld Try.prog 37 3 34 3 := ⟨_, _, Try.underlying37, rfl, rfl, rfl⟩
instance : Fld Try.prog 37 4 35 3 := ⟨_, _, Try.underlying37, rfl, rfl, rfl⟩
instance : IsRow Try.prog 38 36 := ⟨⟨_, Try.underlying38, rfl⟩, by kernel_rfl⟩
instance : StructTy Try.prog 38 [.int .u64 0, .int .u8 0, .int .u8 0, .int .u8 0, .int .u8 0, .int .u8 0, .int .u8 0, .int .u8 0, .int .u8 0, .int .u8 0, .int .u8 0, .int .u8 0, .int .u8 0, .int .u8 0, .int .u8 0, .int .u8 0, .int .u8 0, .int .u8 0, .int .u8 0, .int .u8 0, .int .u8 0, .int .u8 0, .int .u8 0, .int .u8 0, .int .u8 0, .int .u8 0, .int .u8 0, .int .u8 0, .int .u8 0, .int .u8 0, .int .u8 0, .int .u8 0, .int .u8 0, .int .i64 0, .int .i64 0, .int .i64 0] [(0, 1), (1, 32), (33, 1), (34, 1), (35, 1)] := ⟨fun parts => by kernel_rfl⟩
instance : ZeroV Try.prog 38 (.agg #[.int .u64 0, .int .u8 0, .int .u8 0, .int .u8 0, .int .u8 0, .int .u8 0, .int .u8 0, .int .u8 0, .int .u8 0, .int .u8 0, .int .u8 0, .int .u8 0, .int .u8 0, .int .u8 0, .int .u8 0, .int .u8 0, .int .u8 0, .int .u8 0, .int .u8 0, .int .u8 0, .int .u8 0, .int .u8 0, .int .u8 0, .int .u8 0, .int .u8 0, .int .u8 0, .int .u8 0, .int .u8 0, .int .u8 0, .int .u8 0, .int .u8 0, .int .u8 0, .int .u8 0, .int .i64 0, .int .i64 0, .int .i64 0]) := ⟨by kernel_rfl⟩
instance : Zero Try.prog 38 [.int .u64 0, .int .u8 0, .int .u8 0, .int .u8 0, .int .u8 0, .int .u8 0, .int .u8 0, .int .u8 0, .int .u8 0, .int .u8 0, .int .u8 0, .int .u8 0, .int .u8 0, .int .u8 0, .int .u8 0, .int .u8 0, .int .u8 0, .int .u8 0, .int .u8 0, .int .u8 0, .int .u8 0, .int .u8 0, .int .u8 0, .int .u8 0, .int .u8 0, .int .u8 0, .int .u8 0, .int .u8 0, .int .u8 0, .int .u8 0, .int .u8 0, .int .u8 0, .int .u8 0, .int .i64 0, .int .i64 0, .int .i64 0] := ⟨_, ZeroV.out (P := Try.prog) (T := 38), rfl⟩
instance : ElTy Try.prog 38 36 64 := ElTy.of (z := (.agg #[.int .u64 0, .int .u8 0, .int .u8 0, .int .u8 0, .int .u8 0, .int .u8 0, .int .u8 0, .int .u8 0, .int .u8 0, .int .u8 0, .int .u8 0, .int .u8 0, .int .u8 0, .int .u8 0, .int .u8 0, .int .u8 0, .int .u8 0, .int .u8 0, .int .u8 0, .int .u8 0, .int .u8 0, .int .u8 0, .int .u8 0, .int .u8 0, .int .u8 0, .int .u8 0, .int .u8 0, .int .u8 0, .int .u8 0, .int .u8 0, .int .u8 0, .int .u8 0, .int .u8 0, .int .i64 0, .int .i64 0, .int .i64 0])) (by kernel_rfl) rfl
instance : Fld Try.prog 38 0 0 28 := ⟨_, _, Try.underlying38, rfl, rfl, rfl⟩
instance : Fld Try.prog 38 1 1 35 := ⟨_, _, Try.underlying38, rfl, rfl, rfl⟩
instance : Fld Try.prog 38 2 33 3 := ⟨_, _, Try.underlying38, rfl, rfl, rfl⟩
instance : Fld Try.prog 38 3 34 3 := ⟨_, _, Try.underlying38, rfl, rfl, rfl⟩
instance : Fld Try.prog 38 4 35 3 := ⟨_, _, Try.underlying38, rfl, rfl, rfl⟩
instance : IsScalar Try.prog 40 := ⟨_, Try.underlying40, rfl⟩
instance : Size1 Try.prog 40 := ⟨by kernel_rfl⟩
instance : ZeroV Try.prog 40 (.nilFunc) := ⟨by kernel_rfl⟩
instance : Zero Try.prog 40 [.nilFunc] := ⟨_, ZeroV.out (P := Try.prog) (T := 40), rfl⟩
instance : IsScalar Try.prog 41 := ⟨_, Try.underlying41, rfl⟩
instance : Size1 Try.prog 41 := ⟨by kernel_rfl⟩
instance : ZeroV Try.prog 41 (.nilFunc) := ⟨by kernel_rfl⟩
instance : Zero Try.prog 41 [.nilFunc] := ⟨_, ZeroV.out (P := Try.prog) (T := 41), rfl⟩
instance : IsScalar Try.prog 42 := ⟨_, Try.underlying42, rfl⟩
instance : Size1 Try.prog 42 := ⟨by kernel_rfl⟩
instance : SlTy Try.prog 42 38 36 := ⟨Try.underlying42, by kernel_rfl⟩
instance : ZeroV Try.prog 42 (.slice none 0 0) := ⟨by kernel_rfl⟩
instance : Zero Try.prog 42 [.slice none 0 0] := ⟨_, ZeroV.out (P := Try.prog) (T := 42), rfl⟩
instance : IsScalar Try.prog 43 := ⟨_, Try.underlying43, rfl⟩
instance : Size1 Try.prog 43 := ⟨by kernel_rfl⟩
instance : ZeroV Try.prog 43 (.nilFunc) := ⟨by kernel_rfl⟩
instance : Zero Try.prog 43 [.nilFunc] := ⟨_, ZeroV.out (P := Try.prog) (T := 43), rfl⟩
instance : IsScalar Try.prog 44 := ⟨_, Try.underlying44, rfl⟩
instance : Size1 Try.prog 44 := ⟨by kernel_rfl⟩
instance : ZeroV Try.prog 44 (.nilFunc) := ⟨by kernel_rfl⟩
instance : Zero Try.prog 44 [.nilFunc] := ⟨_, ZeroV.out (P := Try.prog) (T := 44), rfl⟩
instance : IsScalar Try.prog 45 := ⟨_, Try.underlying45, rfl⟩
instance : Size1 Try.prog 45 := ⟨by kernel_rfl⟩
instance : SlTy Try.prog 45 28 1 := ⟨Try.underlying45, by kernel_rfl⟩
instance : ZeroV Try.prog 45 (.slice none 0 0) := ⟨by kernel_rfl⟩
instance : Zero Try.prog 45 [.slice none 0 0] := ⟨_, ZeroV.out (P := Try.prog) (T := 45), rfl⟩
instance : IsScalar Try.prog 47 := ⟨_, Try.underlying47, rfl⟩
instance : Size1 Try.prog 47 := ⟨by kernel_rfl⟩
instance : ZeroV Try.prog 47 (.nilFunc) := ⟨by kernel_rfl⟩
instance : Zero Try.prog 47 [.nilFunc] := ⟨_, ZeroV.out (P := Try.prog) (T := 47), rfl⟩
instance : IsScalar Try.prog 48 := ⟨_, Try.underlying48, rfl⟩
instance : Size1 Try.prog 48 := ⟨by kernel_rfl⟩
instance : SlTy Try.prog 48 91 37 := ⟨Try.underlying48, by kernel_rfl⟩
instance : ZeroV Try.prog 48 (.slice none 0 0) := ⟨by kernel_rfl⟩
instance : Zero Try.prog 48 [.slice none 0 0] := ⟨_, ZeroV.out (P := Try.prog) (T := 48), rfl⟩
instance : IsRow Try.prog 49 2 := ⟨⟨_, Try.underlying49, rfl⟩, by kernel_rfl⟩
instance : StructTy Try.prog 49 [.int .i64 0, .slice none 0 0] [(0, 1), (1, 1)] := ⟨fun parts => by kernel_rfl⟩
instance : ZeroV Try.prog 49 (.agg #[.int .i64 0, .slice none 0 0]) := ⟨by kernel_rfl⟩
instance : Zero Try.prog 49 [.int .i64 0, .slice none 0 0] := ⟨_, ZeroV.out (P := Try.prog) (T := 49), rfl⟩
instance : Fld Try.prog 49 0 0 3 := ⟨_, _, Try.underlying49, rfl, rfl, rfl⟩
instance : Fld Try.prog 49 1 1 48 := ⟨_, _, Try.underlying49, rfl, rfl, rfl⟩
instance : IsRow Try.prog 50 2 := ⟨⟨_, Try.underlying50, rfl⟩, by kernel_rfl⟩
instance : StructTy Try.prog 50 [.int .i64 0, .slice none 0 0] [(0, 1), (1, 1)] := ⟨fun parts => by kernel_rfl⟩
instance : ZeroV Try.prog 50 (.agg #[.int .i64 0, .slice none 0 0]) := ⟨by kernel_rfl⟩
instance : Zero Try.prog 50 [.int .i64 0, .slice none 0 0] := ⟨_, ZeroV.out (P := Try.prog) (T := 50), rfl⟩
instance : Fld Try.prog 50 0 0 3 := ⟨_, _, Try.underlying50, rfl, rfl, rfl⟩
instance : Fld Try.prog 50 1 1 48 := ⟨_, _, Try.underlying50, rfl, rfl, rfl⟩
instance : IsScalar Try.prog 52 := ⟨_, Try.underlying52, rfl⟩
instance : Size1 Try.prog 52 := ⟨by kernel_rfl⟩
instance : ZeroV Try.prog 52 (.nilFunc) := ⟨by kernel_rfl⟩
instance : Zero Try.prog 52 [.nilFunc] := ⟨_, ZeroV.out (P := Try.prog) (T := 52), rfl⟩
instance : IsScalar Try.prog 53 := ⟨_, Try.underlying53, rfl⟩
instance : Size1 Try.prog 53 := ⟨by kernel_rfl⟩
instance : ZeroV Try.prog 53 (.nilFunc) := ⟨by kernel_rfl⟩
instance : Zero Try.prog 53 [.nilFunc] := ⟨_, ZeroV.out (P := Try.prog) (T := 53), rfl⟩
instance : IsScalar Try.prog 54 := ⟨_, Try.underlying54, rfl⟩
instance : Size1 Try.prog 54 := ⟨by kernel_rfl⟩
instance : ZeroV Try.prog 54 (.pointer none) := ⟨by kernel_rfl⟩
instance : Zero Try.prog 54 [.pointer none] := ⟨_, ZeroV.out (P := Try.prog) (T := 54), rfl⟩
instance : IsScalar Try.prog 55 := ⟨_, Try.underlying55, rfl⟩
instance : Size1 Try.prog 55 := ⟨by kernel_rfl⟩
instance : ZeroV Try.prog 55 (.nilFunc) := ⟨by kernel_rfl⟩
instance : Zero Try.prog 55 [.nilFunc] := ⟨_, ZeroV.out (P := Try.prog) (T := 55), rfl⟩
instance : IsScalar Try.prog 56 := ⟨_, Try.underlying56, rfl⟩
instance : Size1 Try.prog 56 := ⟨by kernel_rfl⟩
instance : ZeroV Try.prog 56 (.nilFunc) := ⟨by kernel_rfl⟩
instance : Zero Try.prog 56 [.nilFunc] := ⟨_, ZeroV.out (P := Try.prog) (T := 56), rfl⟩
instance : IsScalar Try.prog 57 := ⟨_, Try.underlying57, rfl⟩
instance : Size1 Try.prog 57 := ⟨by kernel_rfl⟩
instance : ZeroV Try.prog 57 (.nilFunc) := ⟨by kernel_rfl⟩
instance : Zero Try.prog 57 [.nilFunc] := ⟨_, ZeroV.out (P := Try.prog) (T := 57), rfl⟩
instance : IsScalar Try.prog 58 := ⟨_, Try.underlying58, rfl⟩
instance : Size1 Try.prog 58 := ⟨by kernel_rfl⟩
instance : ZeroV Try.prog 58 (.nilFunc) := ⟨by kernel_rfl⟩
instance : Zero Try.prog 58 [.nilFunc] := ⟨_, ZeroV.out (P := Try.prog) (T := 58), rfl⟩
instance : IsRow Try.prog 59 4 := ⟨⟨_, Try.underlying59, rfl⟩, by kernel_rfl⟩
instance : StructTy Try.prog 59 [.int .i64 0, .slice none 0 0, .slice none 0 0, .slice none 0 0] [(0, 1), (1, 1), (2, 1), (3, 1)] := ⟨fun parts => by kernel_rfl⟩
instance : ZeroV Try.prog 59 (.agg #[.int .i64 0, .slice none 0 0, .slice none 0 0, .slice none 0 0]) := ⟨by kernel_rfl⟩
instance : Zero Try.prog 59 [.int .i64 0, .slice none 0 0, .slice none 0 0, .slice none 0 0] := ⟨_, ZeroV.out (P := Try.prog) (T := 59), rfl⟩
instance : Fld Try.prog 59 0 0 3 := ⟨_, _, Try.underlying59, rfl, rfl, rfl⟩
instance : Fld Try.prog 59 1 1 22 := ⟨_, _, Try.underlying59, rfl, rfl, rfl⟩
instance : Fld Try.prog 59 2 2 22 := ⟨_, _, Try.underlying59, rfl, rfl, rfl⟩
instance : Fld Try.prog 59 3 3 22 := ⟨_, _, Try.underlying59, rfl, rfl, rfl⟩
instance : IsRow Try.prog 60 4 := ⟨⟨_, Try.underlying60, rfl⟩, by kernel_rfl⟩
instance : StructTy Try.prog 60 [.int .i64 0, .slice none 0 0, .slice none 0 0, .slice none 0 0] [(0, 1), (1, 1), (2, 1), (3, 1)] := ⟨fun parts => by kernel_rfl⟩
instance : ZeroV Try.prog 60 (.agg #[.int .i64 0, .slice none 0 0, .slice none 0 0, .slice none 0 0]) := ⟨by kernel_rfl⟩
instance : Zero Try.prog 60 [.int .i64 0, .slice none 0 0, .slice none 0 0, .slice none 0 0] := ⟨_, ZeroV.out (P := Try.prog) (T := 60), rfl⟩
instance : Fld Try.prog 60 0 0 3 := ⟨_, _, Try.underlying60, rfl, rfl, rfl⟩
instance : Fld Try.prog 60 1 1 22 := ⟨_, _, Try.underlying60, rfl, rfl, rfl⟩
instance : Fld Try.prog 60 2 2 22 := ⟨_, _, Try.underlying60, rfl, rfl, rfl⟩
instance : Fld Try.prog 60 3 3 22 := ⟨_, _, Try.underlying60, rfl, rfl, rfl⟩
instance : IsScalar Try.prog 61 := ⟨_, Try.underlying61, rfl⟩
instance : Size1 Try.prog 61 := ⟨by kernel_rfl⟩
instance : ZeroV Try.prog 61 (.nilFunc) := ⟨by kernel_rfl⟩
instance : Zero Try.prog 61 [.nilFunc] := ⟨_, ZeroV.out (P := Try.prog) (T := 61), rfl⟩
instance : IsScalar Try.prog 62 := ⟨_, Try.underlying62, rfl⟩
instance : Size1 Try.prog 62 := ⟨by kernel_rfl⟩
instance : ZeroV Try.prog 62 (.nilFunc) := ⟨by kernel_rfl⟩
instance : Zero Try.prog 62 [.nilFunc] := ⟨_, ZeroV.out (P := Try.prog) (T := 62), rfl⟩
instance : IsScalar Try.prog 63 := ⟨_, Try.underlying63, rfl⟩
instance : Size1 Try.prog 63 := ⟨by kernel_rfl⟩
instance : ZeroV Try.prog 63 (.nilFunc) := ⟨by kernel_rfl⟩
instance : Zero Try.prog 63 [.nilFunc] := ⟨_, ZeroV.out (P := Try.prog) (T := 63), rfl⟩
instance : IsScalar Try.prog 64 := ⟨_, Try.underlying64, rfl⟩
instance : Size1 Try.prog 64 := ⟨by kernel_rfl⟩
instance : MapTy Try.prog 64 28 75 := ⟨Try.underlying64⟩
instance : ZeroV Try.prog 64 (.map none) := ⟨by kernel_rfl⟩
instance : Zero Try.prog 64 [.map none] := ⟨_, ZeroV.out (P := Try.prog) (T := 64), rfl⟩
instance : IsScalar Try.prog 65 := ⟨_, Try.underlying65, rfl⟩
instance : Size1 Try.prog 65 := ⟨by kernel_rfl⟩
instance : MapTy Try.prog 65 28 3 := ⟨Try.underlying65⟩
instance : ZeroV Try.prog 65 (.map none) := ⟨by kernel_rfl⟩
instance : Zero Try.prog 65 [.map none] := ⟨_, ZeroV.out (P := Try.prog) (T := 65), rfl⟩
instance : IsRow Try.prog 66 4 := ⟨⟨_, Try.underlying66, rfl⟩, by kernel_rfl⟩
instance : StructTy Try.prog 66 [.int .i64 0, .int .i64 0, .map none, .map none] [(0, 1), (1, 1), (2, 1), (3, 1)] := ⟨fun parts => by kernel_rfl⟩
instance : ZeroV Try.prog 66 (.agg #[.int .i64 0, .int .i64 0, .map none, .map none]) := ⟨by kernel_rfl⟩
instance : Zero Try.prog 66 [.int .i64 0, .int .i64 0, .map none, .map none] := ⟨_, ZeroV.out (P := Try.prog) (T := 66), rfl⟩
instance : Fld Try.prog 66 0 0 3 := ⟨_, _, Try.underlying66, rfl, rfl, rfl⟩
instance : Fld Try.prog 66 1 1 3 := ⟨_, _, Try.underlying66, rfl, rfl, rfl⟩
instance : Fld Try.prog 66 2 2 64 := ⟨_, _, Try.underlying66, rfl, rfl, rfl⟩
instance : Fld Try.prog 66 3 3 65 := ⟨_, _, Try.underlying66, rfl, rfl, rfl⟩
instance : IsRow Try.prog 67 4 := ⟨⟨_, Try.underlying67, rfl⟩, by kernel_rfl⟩
instance : StructTy Try.prog 67 [.int .i64 0, .int .i64 0, .map none, .map none] [(0, 1), (1, 1), (2, 1), (3, 1)] := ⟨fun parts => by kernel_rfl⟩
instance : ZeroV Try.prog 67 (.agg #[.int .i64 0, .int .i64 0, .map none, .map none]) := ⟨by kernel_rfl⟩
instance : Zero Try.prog 67 [.int .i64 0, .int .i64 0, .map none, .map none] := ⟨_, ZeroV.out (P := Try.prog) (T := 67), rfl⟩
instance : Fld Try.prog 67 0 0 3 := ⟨_, _, Try.underlying67, rfl, rfl, rfl⟩
instance : Fld Try.prog 67 1 1 3 := ⟨_, _, Try.underlying67, rfl, rfl, rfl⟩
instance : Fld Try.prog 67 2 2 64 := ⟨_, _, Try.underlying67, rfl, rfl, rfl⟩
instance : Fld Try.prog 67 3 3 65 := ⟨_, _, Try.underlying67, rfl, rfl, rfl⟩
instance : IsScalar Try.prog 68 := ⟨_, Try.underlying68, rfl⟩
instance : Size1 Try.prog 68 := ⟨by kernel_rfl⟩
instance : SlTy Try.prog 68 23 1 := ⟨Try.underlying68, by kernel_rfl⟩
instance : ZeroV Try.prog 68 (.slice none 0 0) := ⟨by kernel_rfl⟩
instance : Zero Try.prog 68 [.slice none 0 0] := ⟨_, ZeroV.out (P := Try.prog) (T := 68), rfl⟩
instance : IsScalar Try.prog 70 := ⟨_, Try.underlying70, rfl⟩
instance : Size1 Try.prog 70 := ⟨by kernel_rfl⟩
instance : ZeroV Try.prog 70 (.nilFunc) := ⟨by kernel_rfl⟩
instance : Zero Try.prog 70 [.nilFunc] := ⟨_, ZeroV.out (P := Try.prog) (T := 70), rfl⟩
instance : IsScalar Try.prog 71 := ⟨_, Try.underlying71, rfl⟩
instance : Size1 Try.prog 71 := ⟨by kernel_rfl⟩
instance : SlTy Try.prog 71 35 32 := ⟨Try.underlying71, by kernel_rfl⟩
instance : ZeroV Try.prog 71 (.slice none 0 0) := ⟨by kernel_rfl⟩
instance : Zero Try.prog 71 [.slice none 0 0] := ⟨_, ZeroV.out (P := Try.prog) (T := 71), rfl⟩
instance : IsScalar Try.prog 72 := ⟨_, Try.underlying72, rfl⟩
instance : Size1 Try.prog 72 := ⟨by kernel_rfl⟩
instance : ZeroV Try.prog 72 (.nilFunc) := ⟨by kernel_rfl⟩
instance : Zero Try.prog 72 [.nilFunc] := ⟨_, ZeroV.out (P := Try.prog) (T := 72), rfl⟩
instance : IsScalar Try.prog 73 := ⟨_, Try.underlying73, rfl⟩
instance : Size1 Try.prog 73 := ⟨by kernel_rfl⟩
instance : ZeroV Try.prog 73 (.nilFunc) := ⟨by kernel_rfl⟩
instance : Zero Try.prog 73 [.nilFunc] := ⟨_, ZeroV.out (P := Try.prog) (T := 73), rfl⟩
instance : IsScalar Try.prog 74 := ⟨_, Try.underlying74, rfl⟩
instance : Size1 Try.prog 74 := ⟨by kernel_rfl⟩
instance : ZeroV Try.prog 74 (.nilFunc) := ⟨by kernel_rfl⟩
instance : Zero Try.prog 74 [.nilFunc] := ⟨_, ZeroV.out (P := Try.prog) (T := 74), rfl⟩
instance : IsScalar Try.prog 75 := ⟨_, Try.underlying75, rfl⟩
instance : Size1 Try.prog 75 := ⟨by kernel_rfl⟩
instance : ZeroV Try.prog 75 (.pointer none) := ⟨by kernel_rfl⟩
instance : Zero Try.prog 75 [.pointer none] := ⟨_, ZeroV.out (P := Try.prog) (T := 75), rfl⟩
instance : ElTy Try.prog 75 1 8 := ElTy.of (z := (.pointer none)) (by kernel_rfl) rfl
instance : IsRow Try.prog 76 37 := ⟨⟨_, Try.underlying76, rfl⟩, by kernel_rfl⟩
instance : StructTy Try.prog 76 [.int .u64 0, .int .u8 0, .int .u8 0, .int .u8 0, .int .u8 0, .int .u8 0, .int .u8 0, .int .u8 0, .int .u8 0, .int .u8 0, .int .u8 0, .int .u8 0, .int .u8 0, .int .u8 0, .int .u8 0, .int .u8 0, .int .u8 0, .int .u8 0, .int .u8 0, .int .u8 0, .int .u8 0, .int .u8 0, .int .u8 0, .int .u8 0, .int .u8 0, .int .u8 0, .int .u8 0, .int .u8 0, .int .u8 0, .int .u8 0, .int .u8 0, .int .u8 0, .int .u8 0, .int .i64 0, .int .i64 0, .int .i64 0, .bool false] [(0, 36), (36, 1)] := ⟨fun parts => by kernel_rfl⟩
instance : ZeroV Try.prog 76 (.agg #[.int .u64 0, .int .u8 0, .int .u8 0, .int .u8 0, .int .u8 0, .int .u8 0, .int .u8 0, .int .u8 0, .int .u8 0, .int .u8 0, .int .u8 0, .int .u8 0, .int .u8 0, .int .u8 0, .int .u8 0, .int .u8 0, .int .u8 0, .int .u8 0, .int .u8 0, .int .u8 0, .int .u8 0, .int .u8 0, .int .u8 0, .int .u8 0, .int .u8 0, .int .u8 0, .int .u8 0, .int .u8 0, .int .u8 0, .int .u8 0, .int .u8 0, .int .u8 0, .int .u8 0, .int .i64 0, .int .i64 0, .int .i64 0, .bool false]) := ⟨by kernel_rfl⟩
instance : Zero Try.prog 76 [.int .u64 0, .int .u8 0, .int .u8 0, .int .u8 0, .int .u8 0, .int .u8 0, .int .u8 0, .int .u8 0, .int .u8 0, .int .u8 0, .int .u8 0, .int .u8 0, .int .u8 0, .int .u8 0, .int .u8 0, .int .u8 0, .int .u8 0, .int .u8 0, .int .u8 0, .int .u8 0, .int .u8 0, .int .u8 0, .int .u8 0, .int .u8 0, .int .u8 0, .int .u8 0, .int .u8 0, .int .u8 0, .int .u8 0, .int .u8 0, .int .u8 0, .int .u8 0, .int .u8 0, .int .i64 0, .int .i64 0, .int .i64 0, .bool false] := ⟨_, ZeroV.out (P := Try.prog) (T := 76), rfl⟩
instance : Fld Try.prog 76 0 0 38 := ⟨_, _, Try.underlying76, rfl, rfl, rfl⟩
instance : Fld Try.prog 76 1 36 4 := ⟨_, _, Try.underlying76, rfl, rfl, rfl⟩
instance : IsRow Try.prog 77 37 := ⟨⟨_, Try.underlying77, rfl⟩, by kernel_rfl⟩
instance : StructTy Try.prog 77 [.int .u64 0, .int .u8 0, .int .u8 0, .int .u8 0, .int .u8 0, .int .u8 0, .int .u8 0, .int .u8 0, .int .u8 0, .int .u8 0, .int .u8 0, .int .u8 0, .int .u8 0, .int .u8 0, .int .u8 0, .int .u8 0, .int .u8 0, .int .u8 0, .int .u8 0, .int .u8 0, .int .u8 0, .int .u8 0, .int .u8 0, .int .u8 0, .int .u8 0, .int .u8 0, .int .u8 0, .int .u8 0, .int .u8 0, .int .u8 0, .int .u8 0, .int .u8 0, .int .u8 0, .int .i64 0, .int .i64 0, .int .i64 0, .bool false] [(0, 36), (36, 1)] := ⟨fun parts => by kernel_rfl⟩
instance : ZeroV Try.prog 77 (.agg #[.int .u64 0, .int .u8 0, .int .u8 0, .int .u8 0, .int .u8 0, .int .u8 0, .int .u8 0, .int .u8 0, .int .u8 0, .int .u8 0, .int .u8 0, .int .u8 0, .int .u8 0, .int .u8 0, .int .u8 0, .int .u8 0, .int .u8 0, .int .u8 0, .int .u8 0, .int .u8 0, .int .u8 0, .int .u8 0, .int .u8 0, .int .u8 0, .int .u8 0, .int .u8 0, .int .u8 0, .int .u8 0, .int .u8 0, .int .u8 0, .int .u8 0, .int .u8 0, .int .u8 0, .int .i64 0, .int .i64 0, .int .i64 0, .bool false]) := ⟨by kernel_rfl⟩
instance : Zero Try.prog 77 [.int .u64 0, .int .u8 0, .int .u8 0, .int .u8 0, .int .u8 0, .int .u8 0, .int .u8 0, .int .u8 0, .int .u8 0, .int .u8 0, .int .u8 0, .int .u8 0, .int .u8 0, .int .u8 0, .int .u8 0, .int .u8 0, .int .u8 0, .int .u8 0, .int .u8 0, .int .u8 0, .int .u8 0, .int .u8 0, .int .u8 0, .int .u8 0, .int .u8 0, .int .u8 0, .int .u8 0, .int .u8 0, .int .u8 0, .int .u8 0, .int .u8 0, .int .u8 0, .int .u8 0, .int .i64 0, .int .i64 0, .int .i64 0, .bool false] := ⟨_, ZeroV.out (P := Try.prog) (T := 77), rfl⟩
instance : Fld Try.prog 77 0 0 38 := ⟨_, _, Try.underlying77, rfl, rfl, rfl⟩
instance : Fld Try.prog 77 1 36 4 := ⟨_, _, Try.underlying77, rfl, rfl, rfl⟩
instance : IsScalar Try.prog 78 := ⟨_, Try.underlying78, rfl⟩
instance : Size1 Try.prog 78 := ⟨by kernel_rfl⟩
instance : ZeroV Try.prog 78 (.nilFunc) := ⟨by kernel_rfl⟩
instance : Zero Try.prog 78 [.nilFunc] := ⟨_, ZeroV.out (P := Try.prog) (T := 78), rfl⟩
instance : IsScalar Try.prog 79 := ⟨_, Try.underlying79, rfl⟩
instance : Size1 Try.prog 79 := ⟨by kernel_rfl⟩
instance : ZeroV Try.prog 79 (.nilFunc) := ⟨by kernel_rfl⟩
instance : Zero Try.prog 79 [.nilFunc] := ⟨_, ZeroV.out (P := Try.prog) (T := 79), rfl⟩
instance : IsScalar Try.prog 81 := ⟨_, Try.underlying81, rfl⟩
instance : Size1 Try.prog 81 := ⟨by kernel_rfl⟩
instance : ZeroV Try.prog 81 (.nilFunc) := ⟨by kernel_rfl⟩
instance : Zero Try.prog 81 [.nilFunc] := ⟨_, ZeroV.out (P := Try.prog) (T := 81), rfl⟩
instance : IsScalar Try.prog 82 := ⟨_, Try.underlying82, rfl⟩
instance : Size1 Try.prog 82 := ⟨by kernel_rfl⟩
instance : ZeroV Try.prog 82 (.nilFunc) := ⟨by kernel_rfl⟩
instance : Zero Try.prog 82 [.nilFunc] := ⟨_, ZeroV.out (P := Try.prog) (T := 82), rfl⟩
instance : IsScalar Try.prog 83 := ⟨_, Try.underlying83, rfl⟩
instance : Size1 Try.prog 83 := ⟨by kernel_rfl⟩
instance : ZeroV Try.prog 83 (.nilFunc) := ⟨by kernel_rfl⟩
instance : Zero Try.prog 83 [.nilFunc] := ⟨_, ZeroV.out (P := Try.prog) (T := 83), rfl⟩
instance : IsScalar Try.prog 85 := ⟨_, Try.underlying85, rfl⟩
instance : Size1 Try.prog 85 := ⟨by kernel_rfl⟩
instance : ZeroV Try.prog 85 (.nilFunc) := ⟨by kernel_rfl⟩
instance : Zero Try.prog 85 [.nilFunc] := ⟨_, ZeroV.out (P := Try.prog) (T := 85), rfl⟩
instance : IsScalar Try.prog 86 := ⟨_, Try.underlying86, rfl⟩
instance : Size1 Try.prog 86 := ⟨by kernel_rfl⟩
instance : ZeroV Try.prog 86 (.nilFunc) := ⟨by kernel_rfl⟩
instance : Zero Try.prog 86 [.nilFunc] := ⟨_, ZeroV.out (P := Try.prog) (T := 86), rfl⟩
instance : IsScalar Try.prog 87 := ⟨_, Try.underlying87, rfl⟩
instance : Size1 Try.prog 87 := ⟨by kernel_rfl⟩
instance : ZeroV Try.prog 87 (.nilFunc) := ⟨by kernel_rfl⟩
instance : Zero Try.prog 87 [.nilFunc] := ⟨_, ZeroV.out (P := Try.prog) (T := 87), rfl⟩
instance : IsScalar Try.prog 88 := ⟨_, Try.underlying88, rfl⟩
instance : Size1 Try.prog 88 := ⟨by kernel_rfl⟩
instance : ZeroV Try.prog 88 (.nilFunc) := ⟨by kernel_rfl⟩
instance : Zero Try.prog 88 [.nilFunc] := ⟨_, ZeroV.out (P := Try.prog) (T := 88), rfl⟩
instance : IsScalar Try.prog 89 := ⟨_, Try.underlying89, rfl⟩
instance : Size1 Try.prog 89 := ⟨by kernel_rfl⟩
instance : ZeroV Try.prog 89 (.nilFunc) := ⟨by kernel_rfl⟩
instance : Zero Try.prog 89 [.nilFunc] := ⟨_, ZeroV.out (P := Try.prog) (T := 89), rfl⟩
instance : IsRow Try.prog 90 37 := ⟨⟨_, Try.underlying90, rfl⟩, by kernel_rfl⟩
instance : StructTy Try.prog 90 [.int .u64 0, .int .u8 0, .int .u8 0, .int .u8 0, .int .u8 0, .int .u8 0, .int .u8 0, .int .u8 0, .int .u8 0, .int .u8 0, .int .u8 0, .int .u8 0, .int .u8 0, .int .u8 0, .int .u8 0, .int .u8 0, .int .u8 0, .int .u8 0, .int .u8 0, .int .u8 0, .int .u8 0, .int .u8 0, .int .u8 0, .int .u8 0, .int .u8 0, .int .u8 0, .int .u8 0, .int .u8 0, .int .u8 0, .int .u8 0, .int .u8 0, .int .u8 0, .int .u8 0, .int .i64 0, .int .i64 0, .int .i64 0, .int .i64 0] [(0, 36), (36, 1)] := ⟨fun parts => by kernel_rfl⟩
instance : ZeroV Try.prog 90 (.agg #[.int .u64 0, .int .u8 0, .int .u8 0, .int .u8 0, .int .u8 0, .int .u8 0, .int .u8 0, .int .u8 0, .int .u8 0, .int .u8 0, .int .u8 0, .int .u8 0, .int .u8 0, .int .u8 0, .int .u8 0, .int .u8 0, .int .u8 0, .int .u8 0, .int .u8 0, .int .u8 0, .int .u8 0, .int .u8 0, .int .u8 0, .int .u8 0, .int .u8 0, .int .u8 0, .int .u8 0, .int .u8 0, .int .u8 0, .int .u8 0, .int .u8 0, .int .u8 0, .int .u8 0, .int .i64 0, .int .i64 0, .int .i64 0, .int .i64 0]) := ⟨by kernel_rfl⟩
instance : Zero Try.prog 90 [.int .u64 0, .int .u8 0, .int .u8 0, .int .u8 0, .int .u8 0, .int .u8 0, .int .u8 0, .int .u8 0, .int .u8 0, .int .u8 0, .int .u8 0, .int .u8 0, .int .u8 0, .int .u8 0, .int .u8 0, .int .u8 0, .int .u8 0, .int .u8 0, .int .u8 0, .int .u8 0, .int .u8 0, .int .u8 0, .int .u8 0, .int .u8 0, .int .u8 0, .int .u8 0, .int .u8 0, .int .u8 0, .int .u8 0, .int .u8 0, .int .u8 0, .int .u8 0, .int .u8 0, .int .i64 0, .int .i64 0, .int .i64 0, .int .i64 0] := ⟨_, ZeroV.out (P := Try.prog) (T := 90), rfl⟩
instance : Fld Try.prog 90 0 0 38 := ⟨_, _, Try.underlying90, rfl, rfl, rfl⟩
instance : Fld Try.prog 90 1 36 3 := ⟨_, _, Try.underlying90, rfl, rfl, rfl⟩
instance : IsRow Try.prog 91 37 := ⟨⟨_, Try.underlying91, rfl⟩, by kernel_rfl⟩
instance : StructTy Try.prog 91 [.int .u64 0, .int .u8 0, .int .u8 0, .int .u8 0, .int .u8 0, .int .u8 0, .int .u8 0, .int .u8 0, .int .u8 0, .int .u8 0, .int .u8 0, .int .u8 0, .int .u8 0, .int .u8 0, .int .u8 0, .int .u8 0, .int .u8 0, .int .u8 0, .int .u8 0, .int .u8 0, .int .u8 0, .int .u8 0, .int .u8 0, .int .u8 0, .int .u8 0, .int .u8 0, .int .u8 0, .int .u8 0, .int .u8 0, .int .u8 0, .int .u8 0, .int .u8 0, .int .u8 0, .int .i64 0, .int .i64 0, .int .i64 0, .int .i64 0] [(0, 36), (36, 1)] := ⟨fun parts => by kernel_rfl⟩
instance : ZeroV Try.prog 91 (.agg #[.int .u64 0, .int .u8 0, .int .u8 0, .int .u8 0, .int .u8 0, .int .u8 0, .int .u8 0, .int .u8 0, .int .u8 0, .int .u8 0, .int .u8 0, .int .u8 0, .int .u8 0, .int .u8 0, .int .u8 0, .int .u8 0, .int .u8 0, .int .u8 0, .int .u8 0, .int .u8 0, .int .u8 0, .int .u8 0, .int .u8 0, .int .u8 0, .int .u8 0, .int .u8 0, .int .u8 0, .int .u8 0, .int .u8 0, .int .u8 0, .int .u8 0, .int .u8 0, .int .u8 0, .int .i64 0, .int .i64 0, .int .i64 0, .int .i64 0]) := ⟨by kernel_rfl⟩
instance : Zero Try.prog 91 [.int .u64 0, .int .u8 0, .int .u8 0, .int .u8 0, .int .u8 0, .int .u8 0, .int .u8 0, .int .u8 0, .int .u8 0, .int .u8 0, .int .u8 0, .int .u8 0, .int .u8 0, .int .u8 0, .int .u8 0, .int .u8 0, .int .u8 0, .int .u8 0, .int .u8 0, .int .u8 0, .int .u8 0, .int .u8 0, .int .u8 0, .int .u8 0, .int .u8 0, .int .u8 0, .int .u8 0, .int .u8 0, .int .u8 0, .int .u8 0, .int .u8 0, .int .u8 0, .int .u8 0, .int .i64 0, .int .i64 0, .int .i64 0, .int .i64 0] := ⟨_, ZeroV.out (P := Try.prog) (T := 91), rfl⟩
instance : ElTy Try.prog 91 37 72 := ElTy.of (z := (.agg #[.int .u64 0, .int .u8 0, .int .u8 0, .int .u8 0, .int .u8 0, .int .u8 0, .int .u8 0, .int .u8 0, .int .u8 0, .int .u8 0, .int .u8 0, .int .u8 0, .int .u8 0, .int .u8 0, .int .u8 0, .int .u8 0, .int .u8 0, .int .u8 0, .int .u8 0, .int .u8 0, .int .u8 0, .int .u8 0, .int .u8 0, .int .u8 0, .int .u8 0, .int .u8 0, .int .u8 0, .int .u8 0, .int .u8 0, .int .u8 0, .int .u8 0, .int .u8 0, .int .u8 0, .int .i64 0, .int .i64 0, .int .i64 0, .int .i64 0])) (by kernel_rfl) rfl
instance : Fld Try.prog 91 0 0 38 := ⟨_, _, Try.underlying91, rfl, rfl, rfl⟩
instance : Fld Try.prog 91 1 36 3 := ⟨_, _, Try.underlying91, rfl, rfl, rfl⟩
instance : IsScalar Try.prog 92 := ⟨_, Try.underlying92, rfl⟩
instance : Size1 Try.prog 92 := ⟨by kernel_rfl⟩
instance : ZeroV Try.prog 92 (.nilFunc) := ⟨by kernel_rfl⟩
instance : Zero Try.prog 92 [.nilFunc] := ⟨_, ZeroV.out (P := Try.prog) (T := 92), rfl⟩
instance : IsScalar Try.prog 93 := ⟨_, Try.underlying93, rfl⟩
instance : Size1 Try.prog 93 := ⟨by kernel_rfl⟩
instance : ZeroV Try.prog 93 (.nilFunc) := ⟨by kernel_rfl⟩
instance : Zero Try.prog 93 [.nilFunc] := ⟨_, ZeroV.out (P := Try.prog) (T := 93), rfl⟩
instance : IsScalar Try.prog 95 := ⟨_, Try.underlying95, rfl⟩
instance : Size1 Try.prog 95 := ⟨by kernel_rfl⟩
instance : ZeroV Try.prog 95 (.nilFunc) := ⟨by kernel_rfl⟩
instance : Zero Try.prog 95 [.nilFunc] := ⟨_, ZeroV.out (P := Try.prog) (T := 95), rfl⟩
instance : IsScalar Try.prog 96 := ⟨_, Try.underlying96, rfl⟩
instance : Size1 Try.prog 96 := ⟨by kernel_rfl⟩
instance : ZeroV Try.prog 96 (.nilFunc) := ⟨by kernel_rfl⟩
instance : Zero Try.prog 96 [.nilFunc] := ⟨_, ZeroV.out (P := Try.prog) (T := 96), rfl⟩
instance : IsScalar Try.prog 97 := ⟨_, Try.underlying97, rfl⟩
instance : Size1 Try.prog 97 := ⟨by kernel_rfl⟩
instance : ZeroV Try.prog 97 (.nilFunc) := ⟨by kernel_rfl⟩
instance : Zero Try.prog 97 [.nilFunc] := ⟨_, ZeroV.out (P := Try.prog) (T := 97), rfl⟩
instance : IsScalar Try.prog 98 := ⟨_, Try.underlying98, rfl⟩
instance : Size1 Try.prog 98 := ⟨by kernel_rfl⟩
instance : ZeroV Try.prog 98 (.nilFunc) := ⟨by kernel_rfl⟩
instance : Zero Try.prog 98 [.nilFunc] := ⟨_, ZeroV.out (P := Try.prog) (T := 98), rfl⟩
instance : IsScalar Try.prog 99 := ⟨_, Try.underlying99, rfl⟩
instance : Size1 Try.prog 99 := ⟨by kernel_rfl⟩
instance : KeyTy Try.prog 99 (fun n : Int => Value.int .u64 n) := KeyTy.int Try.underlying99
instance : ZeroV Try.prog 99 (.int .u64 0) := ⟨by kernel_rfl⟩
instance : Zero Try.prog 99 [.int .u64 0] := ⟨_, ZeroV.out (P := Try.prog) (T := 99), rfl⟩
instance : IsScalar Try.prog 100 := ⟨_, Try.underlying100, rfl⟩
instance : Size1 Try.prog 100 := ⟨by kernel_rfl⟩
instance : ZeroV Try.prog 100 (.nilFunc) := ⟨by kernel_rfl⟩
instance : Zero Try.prog 100 [.nilFunc] := ⟨_, ZeroV.out (P := Try.prog) (T := 100), rfl⟩
instance : IsScalar Try.prog 101 := ⟨_, Try.underlying101, rfl⟩
instance : Size1 Try.prog 101 := ⟨by kernel_rfl⟩
instance : ZeroV Try.prog 101 (.nilFunc) := ⟨by kernel_rfl⟩
instance : Zero Try.prog 101 [.nilFunc] := ⟨_, ZeroV.out (P := Try.prog) (T := 101), rfl⟩
instance : IsScalar Try.prog 102 := ⟨_, Try.underlying102, rfl⟩
instance : Size1 Try.prog 102 := ⟨by kernel_rfl⟩
instance : ZeroV Try.prog 102 (.nilFunc) := ⟨by kernel_rfl⟩
instance : Zero Try.prog 102 [.nilFunc] := ⟨_, ZeroV.out (P := Try.prog) (T := 102), rfl⟩
instance : IsScalar Try.prog 103 := ⟨_, Try.underlying103, rfl⟩
instance : Size1 Try.prog 103 := ⟨by kernel_rfl⟩
instance : KeyTy Try.prog 103 (fun n : Int => Value.int .i64 n) := KeyTy.int Try.underlying103
instance : ZeroV Try.prog 103 (.int .i64 0) := ⟨by kernel_rfl⟩
instance : Zero Try.prog 103 [.int .i64 0] := ⟨_, ZeroV.out (P := Try.prog) (T := 103), rfl⟩
instance : IsScalar Try.prog 105 := ⟨_, Try.underlying105, rfl⟩
instance : Size1 Try.prog 105 := ⟨by kernel_rfl⟩
instance : ZeroV Try.prog 105 (.nilFunc) := ⟨by kernel_rfl⟩
instance : Zero Try.prog 105 [.nilFunc] := ⟨_, ZeroV.out (P := Try.prog) (T := 105), rfl⟩
instance : IsScalar Try.prog 106 := ⟨_, Try.underlying106, rfl⟩
instance : Size1 Try.prog 106 := ⟨by kernel_rfl⟩
instance : ZeroV Try.prog 106 (.nilFunc) := ⟨by kernel_rfl⟩
instance : Zero Try.prog 106 [.nilFunc] := ⟨_, ZeroV.out (P := Try.prog) (T := 106), rfl⟩
instance : IsScalar Try.prog 107 := ⟨_, Try.underlying107, rfl⟩
instance : Size1 Try.prog 107 := ⟨by kernel_rfl⟩
instance : ZeroV Try.prog 107 (.nilFunc) := ⟨by kernel_rfl⟩
instance : Zero Try.prog 107 [.nilFunc] := ⟨_, ZeroV.out (P := Try.prog) (T := 107), rfl⟩
instance : IsScalar Try.prog 109 := ⟨_, Try.underlying109, rfl⟩
instance : Size1 Try.prog 109 := ⟨by kernel_rfl⟩
instance : ZeroV Try.prog 109 (.nilFunc) := ⟨by kernel_rfl⟩
instance : Zero Try.prog 109 [.nilFunc] := ⟨_, ZeroV.out (P := Try.prog) (T := 109), rfl⟩
instance : IsScalar Try.prog 110 := ⟨_, Try.underlying110, rfl⟩
instance : Size1 Try.prog 110 := ⟨by kernel_rfl⟩
instance : ZeroV Try.prog 110 (.nilFunc) := ⟨by kernel_rfl⟩
instance : Zero Try.prog 110 [.nilFunc] := ⟨_, ZeroV.out (P := Try.prog) (T := 110), rfl⟩
instance : IsScalar Try.prog 111 := ⟨_, Try.underlying111, rfl⟩
instance : Size1 Try.prog 111 := ⟨by kernel_rfl⟩
instance : KeyTy Try.prog 111 (fun n : Int => Value.int .u32 n) := KeyTy.int Try.underlying111
instance : ZeroV Try.prog 111 (.int .u32 0) := ⟨by kernel_rfl⟩
instance : Zero Try.prog 111 [.int .u32 0] := ⟨_, ZeroV.out (P := Try.prog) (T := 111), rfl⟩
instance : IsScalar Try.prog 112 := ⟨_, Try.underlying112, rfl⟩
instance : Size1 Try.prog 112 := ⟨by kernel_rfl⟩
instance : KeyTy Try.prog 112 (fun n : Int => Value.int .u64 n) := KeyTy.int Try.underlying112
instance : ZeroV Try.prog 112 (.int .u64 0) := ⟨by kernel_rfl⟩
instance : Zero Try.prog 112 [.int .u64 0] := ⟨_, ZeroV.out (P := Try.prog) (T := 112), rfl⟩
instance : IsScalar Try.prog 113 := ⟨_, Try.underlying113, rfl⟩
instance : Size1 Try.prog 113 := ⟨by kernel_rfl⟩
instance : ZeroV Try.prog 113 (.nilFunc) := ⟨by kernel_rfl⟩
instance : Zero Try.prog 113 [.nilFunc] := ⟨_, ZeroV.out (P := Try.prog) (T := 113), rfl⟩
instance : IsScalar Try.prog 114 := ⟨_, Try.underlying114, rfl⟩
instance : Size1 Try.prog 114 := ⟨by kernel_rfl⟩
instance : ZeroV Try.prog 114 (.nilFunc) := ⟨by kernel_rfl⟩
instance : Zero Try.prog 114 [.nilFunc] := ⟨_, ZeroV.out (P := Try.prog) (T := 114), rfl⟩
instance : IsScalar Try.prog 115 := ⟨_, Try.underlying115, rfl⟩
instance : Size1 Try.prog 115 := ⟨by kernel_rfl⟩
instance : ZeroV Try.prog 115 (.nilFunc) := ⟨by kernel_rfl⟩
instance : Zero Try.prog 115 [.nilFunc] := ⟨_, ZeroV.out (P := Try.prog) (T := 115), rfl⟩
instance : IsScalar Try.prog 116 := ⟨_, Try.underlying116, rfl⟩
instance : Size1 Try.prog 116 := ⟨by kernel_rfl⟩
instance : ZeroV Try.prog 116 (.pointer none) := ⟨by kernel_rfl⟩
instance : Zero Try.prog 116 [.pointer none] := ⟨_, ZeroV.out (P := Try.prog) (T := 116), rfl⟩
instance : IsScalar Try.prog 117 := ⟨_, Try.underlying117, rfl⟩
instance : Size1 Try.prog 117 := ⟨by kernel_rfl⟩
instance : ZeroV Try.prog 117 (.nilFunc) := ⟨by kernel_rfl⟩
instance : Zero Try.prog 117 [.nilFunc] := ⟨_, ZeroV.out (P := Try.prog) (T := 117), rfl⟩
instance : IsScalar Try.prog 118 := ⟨_, Try.underlying118, rfl⟩
instance : Size1 Try.prog 118 := ⟨by kernel_rfl⟩
instance : ZeroV Try.prog 118 (.pointer none) := ⟨by kernel_rfl⟩
instance : Zero Try.prog 118 [.pointer none] := ⟨_, ZeroV.out (P := Try.prog) (T := 118), rfl⟩
instance : IsScalar Try.prog 119 := ⟨_, Try.underlying119, rfl⟩
instance : Size1 Try.prog 119 := ⟨by kernel_rfl⟩
instance : ZeroV Try.prog 119 (.nilFunc) := ⟨by kernel_rfl⟩
instance : Zero Try.prog 119 [.nilFunc] := ⟨_, ZeroV.out (P := Try.prog) (T := 119), rfl⟩
instance : IsScalar Try.prog 120 := ⟨_, Try.underlying120, rfl⟩
instance : Size1 Try.prog 120 := ⟨by kernel_rfl⟩
instance : ZeroV Try.prog 120 (.nilFunc) := ⟨by kernel_rfl⟩
instance : Zero Try.prog 120 [.nilFunc] := ⟨_, ZeroV.out (P := Try.prog) (T := 120), rfl⟩
instance : IsRow Try.prog 121 4 := ⟨⟨_, Try.underlying121, rfl⟩, by kernel_rfl⟩
instance : StructTy Try.prog 121 [.pointer none, .pointer none, .pointer none, .string ⟨#[]⟩] [(0, 1), (1, 1), (2, 1), (3, 1)] := ⟨fun parts => by kernel_rfl⟩
instance : ZeroV Try.prog 121 (.agg #[.pointer none, .pointer none, .pointer none, .string ⟨#[]⟩]) := ⟨by kernel_rfl⟩
instance : Zero Try.prog 121 [.pointer none, .pointer none, .pointer none, .string ⟨#[]⟩] := ⟨_, ZeroV.out (P := Try.prog) (T := 121), rfl⟩
instance : Fld Try.prog 121 0 0 17 := ⟨_, _, Try.underlying121, rfl, rfl, rfl⟩
instance : Fld Try.prog 121 1 1 17 := ⟨_, _, Try.underlying121, rfl, rfl, rfl⟩
instance : Fld Try.prog 121 2 2 17 := ⟨_, _, Try.underlying121, rfl, rfl, rfl⟩
instance : Fld Try.prog 121 3 3 9 := ⟨_, _, Try.underlying121, rfl, rfl, rfl⟩
instance : IsRow Try.prog 122 4 := ⟨⟨_, Try.underlying122, rfl⟩, by kernel_rfl⟩
instance : StructTy Try.prog 122 [.pointer none, .pointer none, .pointer none, .string ⟨#[]⟩] [(0, 1), (1, 1), (2, 1), (3, 1)] := ⟨fun parts => by kernel_rfl⟩
instance : ZeroV Try.prog 122 (.agg #[.pointer none, .pointer none, .pointer none, .string ⟨#[]⟩]) := ⟨by kernel_rfl⟩
instance : Zero Try.prog 122 [.pointer none, .pointer none, .pointer none, .string ⟨#[]⟩] := ⟨_, ZeroV.out (P := Try.prog) (T := 122), rfl⟩
instance : Fld Try.prog 122 0 0 17 := ⟨_, _, Try.underlying122, rfl, rfl, rfl⟩
instance : Fld Try.prog 122 1 1 17 := ⟨_, _, Try.underlying122, rfl, rfl, rfl⟩
instance : Fld Try.prog 122 2 2 17 := ⟨_, _, Try.underlying122, rfl, rfl, rfl⟩
instance : Fld Try.prog 122 3 3 9 := ⟨_, _, Try.underlying122, rfl, rfl, rfl⟩
instance : IsRow Try.prog 123 0 := ⟨⟨_, Try.underlying123, rfl⟩, by kernel_rfl⟩
instance : ZeroV Try.prog 123 (.agg #[]) := ⟨by kernel_rfl⟩
instance : Zero Try.prog 123 [] := ⟨_, ZeroV.out (P := Try.prog) (T := 123), rfl⟩
instance : IsRow Try.prog 124 0 := ⟨⟨_, Try.underlying124, rfl⟩, by kernel_rfl⟩
instance : ZeroV Try.prog 124 (.agg #[]) := ⟨by kernel_rfl⟩
instance : Zero Try.prog 124 [] := ⟨_, ZeroV.out (P := Try.prog) (T := 124), rfl⟩
instance : Fld Try.prog 124 0 0 123 := ⟨_, _, Try.underlying124, rfl, rfl, rfl⟩
instance : IsRow Try.prog 125 0 := ⟨⟨_, Try.underlying125, rfl⟩, by kernel_rfl⟩
instance : ZeroV Try.prog 125 (.agg #[]) := ⟨by kernel_rfl⟩
instance : Zero Try.prog 125 [] := ⟨_, ZeroV.out (P := Try.prog) (T := 125), rfl⟩
instance : Fld Try.prog 125 0 0 123 := ⟨_, _, Try.underlying125, rfl, rfl, rfl⟩
instance : IsScalar Try.prog 126 := ⟨_, Try.underlying126, rfl⟩
instance : Size1 Try.prog 126 := ⟨by kernel_rfl⟩
instance : KeyTy Try.prog 126 (fun n : Int => Value.int .u8 n) := KeyTy.int Try.underlying126
instance : ZeroV Try.prog 126 (.int .u8 0) := ⟨by kernel_rfl⟩
instance : Zero Try.prog 126 [.int .u8 0] := ⟨_, ZeroV.out (P := Try.prog) (T := 126), rfl⟩
instance : IsScalar Try.prog 127 := ⟨_, Try.underlying127, rfl⟩
instance : Size1 Try.prog 127 := ⟨by kernel_rfl⟩
instance : KeyTy Try.prog 127 (fun n : Int => Value.int .u8 n) := KeyTy.int Try.underlying127
instance : ZeroV Try.prog 127 (.int .u8 0) := ⟨by kernel_rfl⟩
instance : Zero Try.prog 127 [.int .u8 0] := ⟨_, ZeroV.out (P := Try.prog) (T := 127), rfl⟩
instance : IsScalar Try.prog 128 := ⟨_, Try.underlying128, rfl⟩
instance : Size1 Try.prog 128 := ⟨by kernel_rfl⟩
instance : ZeroV Try.prog 128 (.nilFunc) := ⟨by kernel_rfl⟩
instance : Zero Try.prog 128 [.nilFunc] := ⟨_, ZeroV.out (P := Try.prog) (T := 128), rfl⟩
instance : IsScalar Try.prog 129 := ⟨_, Try.underlying129, rfl⟩
instance : Size1 Try.prog 129 := ⟨by kernel_rfl⟩
instance : ZeroV Try.prog 129 (.pointer none) := ⟨by kernel_rfl⟩
instance : Zero Try.prog 129 [.pointer none] := ⟨_, ZeroV.out (P := Try.prog) (T := 129), rfl⟩
instance : IsScalar Try.prog 130 := ⟨_, Try.underlying130, rfl⟩
instance : Size1 Try.prog 130 := ⟨by kernel_rfl⟩
instance : KeyTy Try.prog 130 (fun n : Int => Value.int .i32 n) := KeyTy.int Try.underlying130
instance : ZeroV Try.prog 130 (.int .i32 0) := ⟨by kernel_rfl⟩
instance : Zero Try.prog 130 [.int .i32 0] := ⟨_, ZeroV.out (P := Try.prog) (T := 130), rfl⟩
instance : IsScalar Try.prog 131 := ⟨_, Try.underlying131, rfl⟩
instance : Size1 Try.prog 131 := ⟨by kernel_rfl⟩
instance : KeyTy Try.prog 131 (fun n : Int => Value.int .i32 n) := KeyTy.int Try.underlying131
instance : ZeroV Try.prog 131 (.int .i32 0) := ⟨by kernel_rfl⟩
instance : Zero Try.prog 131 [.int .i32 0] := ⟨_, ZeroV.out (P := Try.prog) (T := 131), rfl⟩
instance : IsRow Try.prog 132 11 := ⟨⟨_, Try.underlying132, rfl⟩, by kernel_rfl⟩
instance : StructTy Try.prog 132 [.int .u64 0, .int .u64 0, .int .u32 0, .int .u8 0, .int .u8 0, .int .u8 0, .int .u8 0, .nilFunc, .pointer none, .int .i32 0, .int .i32 0] [(0, 1), (1, 1), (2, 1), (3, 1), (4, 1), (5, 1), (6, 1), (7, 1), (8, 1), (9, 1), (10, 1)] := ⟨fun parts => by kernel_rfl⟩
instance : ZeroV Try.prog 132 (.agg #[.int .u64 0, .int .u64 0, .int .u32 0, .int .u8 0, .int .u8 0, .int .u8 0, .int .u8 0, .nilFunc, .pointer none, .int .i32 0, .int .i32 0]) := ⟨by kernel_rfl⟩
instance : Zero Try.prog 132 [.int .u64 0, .int .u64 0, .int .u32 0, .int .u8 0, .int .u8 0, .int .u8 0, .int .u8 0, .nilFunc, .pointer none, .int .i32 0, .int .i32 0] := ⟨_, ZeroV.out (P := Try.prog) (T := 132), rfl⟩
instance : Fld Try.prog 132 0 0 12 := ⟨_, _, Try.underlying132, rfl, rfl, rfl⟩
instance : Fld Try.prog 132 1 1 12 := ⟨_, _, Try.underlying132, rfl, rfl, rfl⟩
instance : Fld Try.prog 132 2 2 111 := ⟨_, _, Try.underlying132, rfl, rfl, rfl⟩
instance : Fld Try.prog 132 3 3 126 := ⟨_, _, Try.underlying132, rfl, rfl, rfl⟩
instance : Fld Try.prog 132 4 4 5 := ⟨_, _, Try.underlying132, rfl, rfl, rfl⟩
instance : Fld Try.prog 132 5 5 5 := ⟨_, _, Try.underlying132, rfl, rfl, rfl⟩
instance : Fld Try.prog 132 6 6 127 := ⟨_, _, Try.underlying132, rfl, rfl, rfl⟩
instance : Fld Try.prog 132 7 7 128 := ⟨_, _, Try.underlying132, rfl, rfl, rfl⟩
instance : Fld Try.prog 132 8 8 129 := ⟨_, _, Try.underlying132, rfl, rfl, rfl⟩
instance : Fld Try.prog 132 9 9 130 := ⟨_, _, Try.underlying132, rfl, rfl, rfl⟩
instance : Fld Try.prog 132 10 10 131 := ⟨_, _, Try.underlying132, rfl, rfl, rfl⟩
instance : IsRow Try.prog 133 11 := ⟨⟨_, Try.underlying133, rfl⟩, by kernel_rfl⟩
instance : StructTy Try.prog 133 [.int .u64 0, .int .u64 0, .int .u32 0, .int .u8 0, .int .u8 0, .int .u8 0, .int .u8 0, .nilFunc, .pointer none, .int .i32 0, .int .i32 0] [(0, 1), (1, 1), (2, 1), (3, 1), (4, 1), (5, 1), (6, 1), (7, 1), (8, 1), (9, 1), (10, 1)] := ⟨fun parts => by kernel_rfl⟩
instance : ZeroV Try.prog 133 (.agg #[.int .u64 0, .int .u64 0, .int .u32 0, .int .u8 0, .int .u8 0, .int .u8 0, .int .u8 0, .nilFunc, .pointer none, .int .i32 0, .int .i32 0]) := ⟨by kernel_rfl⟩
instance : Zero Try.prog 133 [.int .u64 0, .int .u64 0, .int .u32 0, .int .u8 0, .int .u8 0, .int .u8 0, .int .u8 0, .nilFunc, .pointer none, .int .i32 0, .int .i32 0] := ⟨_, ZeroV.out (P := Try.prog) (T := 133), rfl⟩
instance : Fld Try.prog 133 0 0 12 := ⟨_, _, Try.underlying133, rfl, rfl, rfl⟩
instance : Fld Try.prog 133 1 1 12 := ⟨_, _, Try.underlying133, rfl, rfl, rfl⟩
instance : Fld Try.prog 133 2 2 111 := ⟨_, _, Try.underlying133, rfl, rfl, rfl⟩
instance : Fld Try.prog 133 3 3 126 := ⟨_, _, Try.underlying133, rfl, rfl, rfl⟩
instance : Fld Try.prog 133 4 4 5 := ⟨_, _, Try.underlying133, rfl, rfl, rfl⟩
instance : Fld Try.prog 133 5 5 5 := ⟨_, _, Try.underlying133, rfl, rfl, rfl⟩
instance : Fld Try.prog 133 6 6 127 := ⟨_, _, Try.underlying133, rfl, rfl, rfl⟩
instance : Fld Try.prog 133 7 7 128 := ⟨_, _, Try.underlying133, rfl, rfl, rfl⟩
instance : Fld Try.prog 133 8 8 129 := ⟨_, _, Try.underlying133, rfl, rfl, rfl⟩
instance : Fld Try.prog 133 9 9 130 := ⟨_, _, Try.underlying133, rfl, rfl, rfl⟩
instance : Fld Try.prog 133 10 10 131 := ⟨_, _, Try.underlying133, rfl, rfl, rfl⟩
instance : IsScalar Try.prog 134 := ⟨_, Try.underlying134, rfl⟩
instance : Size1 Try.prog 134 := ⟨by kernel_rfl⟩
instance : ZeroV Try.prog 134 (.pointer none) := ⟨by kernel_rfl⟩
instance : Zero Try.prog 134 [.pointer none] := ⟨_, ZeroV.out (P := Try.prog) (T := 134), rfl⟩
instance : EntersC Try.prog 2 := ⟨enters_of Try.func2 (by kernel_rfl) rfl⟩
instance : EntersC Try.prog 3 := ⟨enters_of Try.func3 (by kernel_rfl) rfl⟩
instance : EntersC Try.prog 4 := ⟨enters_of Try.func4 (by kernel_rfl) rfl⟩
instance : EntersC Try.prog 5 := ⟨enters_of Try.func5 (by kernel_rfl) rfl⟩
instance : EntersC Try.prog 6 := ⟨enters_of Try.func6 (by kernel_rfl) rfl⟩
instance : EntersC Try.prog 7 := ⟨enters_of Try.func7 (by kernel_rfl) rfl⟩
instance : EntersC Try.prog 8 := ⟨enters_of Try.func8 (by kernel_rfl) rfl⟩
instance : EntersC Try.prog 9 := ⟨enters_of Try.func9 (by kernel_rfl) rfl⟩
instance : EntersC Try.prog 10 := ⟨enters_of Try.func10 (by kernel_rfl) rfl⟩
instance : EntersC Try.prog 11 := ⟨enters_of Try.func11 (by kernel_rfl) rfl⟩
instance : EntersC Try.prog 12 := ⟨enters_of Try.func12 (by kernel_rfl) rfl⟩
instance : EntersC Try.prog 13 := ⟨enters_of Try.func13 (by kernel_rfl) rfl⟩
instance : EntersC Try.prog 14 := ⟨enters_of Try.func14 (by kernel_rfl) rfl⟩
instance : EntersC Try.prog 15 := ⟨enters_of Try.func15 (by kernel_rfl) rfl⟩
instance : EntersC Try.prog 16 := ⟨enters_of Try.func16 (by kernel_rfl) rfl⟩
instance : EntersC Try.prog 17 := ⟨enters_of Try.func17 (by kernel_rfl) rfl⟩
instance : EntersC Try.prog 18 := ⟨enters_of Try.func18 (by kernel_rfl) rfl⟩
instance : EntersC Try.prog 19 := ⟨enters_of Try.func19 (by kernel_rfl) rfl⟩
instance : EntersC Try.prog 20 := ⟨enters_of Try.func20 (by kernel_rfl) rfl⟩
instance : EntersC Try.prog 21 := ⟨enters_of Try.func21 (by kernel_rfl) rfl⟩
instance : EntersC Try.prog 22 := ⟨enters_of Try.func22 (by kernel_rfl) rfl⟩
instance : EntersC Try.prog 23 := ⟨enters_of Try.func23 (by kernel_rfl) rfl⟩
instance : EntersC Try.prog 24 := ⟨enters_of Try.func24 (by kernel_rfl) rfl⟩
instance : EntersC Try.prog 25 := ⟨enters_of Try.func25 (by kernel_rfl) rfl⟩
instance : EntersC Try.prog 26 := ⟨enters_of Try.func26 (by kernel_rfl) rfl⟩
instance : EntersC Try.prog 27 := ⟨enters_of Try.func27 (by kernel_rfl) rfl⟩
instance : EntersC Try.prog 28 := ⟨enters_of Try.func28 (by kernel_rfl) rfl⟩
instance : EntersC Try.prog 29 := ⟨enters_of Try.func29 (by kernel_rfl) rfl⟩
instance : EntersC Try.prog 30 := ⟨enters_of Try.func30 (by kernel_rfl) rfl⟩
instance : EntersC Try.prog 31 := ⟨enters_of Try.func31 (by kernel_rfl) rfl⟩
instance : EntersC Try.prog 32 := ⟨enters_of Try.func32 (by kernel_rfl) rfl⟩
instance : EntersC Try.prog 33 := ⟨enters_of Try.func33 (by kernel_rfl) rfl⟩
instance : EntersC Try.prog 34 := ⟨enters_of Try.func34 (by kernel_rfl) rfl⟩
instance : EntersC Try.prog 35 := ⟨enters_of Try.func35 (by kernel_rfl) rfl⟩
instance : EntersC Try.prog 36 := ⟨enters_of Try.func36 (by kernel_rfl) rfl⟩
instance : EntersC Try.prog 37 := ⟨enters_of Try.func37 (by kernel_rfl) rfl⟩
instance : EntersC Try.prog 38 := ⟨enters_of Try.func38 (by kernel_rfl) rfl⟩
instance : EntersC Try.prog 39 := ⟨enters_of Try.func39 (by kernel_rfl) rfl⟩
instance : EntersC Try.prog 40 := ⟨enters_of Try.func40 (by kernel_rfl) rfl⟩
instance : EntersC Try.prog 41 := ⟨enters_of Try.func41 (by kernel_rfl) rfl⟩
instance : EntersC Try.prog 42 := ⟨enters_of Try.func42 (by kernel_rfl) rfl⟩
instance : EntersC Try.prog 43 := ⟨enters_of Try.func43 (by kernel_rfl) rfl⟩
instance : EntersC Try.prog 44 := ⟨enters_of Try.func44 (by kernel_rfl) rfl⟩
instance : EntersC Try.prog 45 := ⟨enters_of Try.func45 (by kernel_rfl) rfl⟩
instance : EntersC Try.prog 46 := ⟨enters_of Try.func46 (by kernel_rfl) rfl⟩
instance : EntersC Try.prog 47 := ⟨enters_of Try.func47 (by kernel_rfl) rfl⟩
instance : EntersC Try.prog 48 := ⟨enters_of Try.func48 (by kernel_rfl) rfl⟩
instance : EntersC Try.prog 49 := ⟨enters_of Try.func49 (by kernel_rfl) rfl⟩
instance : EntersC Try.prog 50 := ⟨enters_of Try.func50 (by kernel_rfl) rfl⟩
instance : EntersC Try.prog 51 := ⟨enters_of Try.func51 (by kernel_rfl) rfl⟩
instance : EntersC Try.prog 52 := ⟨enters_of Try.func52 (by kernel_rfl) rfl⟩
instance : EntersC Try.prog 53 := ⟨enters_of Try.func53 (by kernel_rfl) rfl⟩
instance : EntersC Try.prog 54 := ⟨enters_of Try.func54 (by kernel_rfl) rfl⟩
instance : EntersC Try.prog 56 := ⟨enters_of Try.func56 (by kernel_rfl) rfl⟩
instance : EntersC Try.prog 57 := ⟨enters_of Try.func57 (by kernel_rfl) rfl⟩
instance : EntersC Try.prog 58 := ⟨enters_of Try.func58 (by kernel_rfl) rfl⟩
instance : EntersC Try.prog 59 := ⟨enters_of Try.func59 (by kernel_rfl) rfl⟩
instance : EntersC Try.prog 60 := ⟨enters_of Try.func60 (by kernel_rfl) rfl⟩
instance : EntersC Try.prog 61 := ⟨enters_of Try.func61 (by kernel_rfl) rfl⟩
instance : EntersC Try.prog 62 := ⟨enters_of Try.func62 (by kernel_rfl) rfl⟩
instance : EntersC Try.prog 63 := ⟨enters_of Try.func63 (by kernel_rfl) rfl⟩
instance : EntersC Try.prog 64 := ⟨enters_of Try.func64 (by kernel_rfl) rfl⟩
instance : EntersC Try.prog 65 := ⟨enters_of Try.func65 (by kernel_rfl) rfl⟩
instance : EntersC Try.prog 66 := ⟨enters_of Try.func66 (by kernel_rfl) rfl⟩
instance : EntersC Try.prog 67 := ⟨enters_of Try.func67 (by kernel_rfl) rfl⟩
instance : EntersC Try.prog 68 := ⟨enters_of Try.func68 (by kernel_rfl) rfl⟩
instance : EntersC Try.prog 69 := ⟨enters_of Try.func69 (by kernel_rfl) rfl⟩
instance : EntersC Try.prog 70 := ⟨enters_of Try.func70 (by kernel_rfl) rfl⟩
instance : EntersC Try.prog 71 := ⟨enters_of Try.func71 (by kernel_rfl) rfl⟩
end Go.Tk
