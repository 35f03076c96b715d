/- The types of this translation: printed by a program of this work (gen_ty.py). -/
import Derived.Test.YtlfnajpgfapegaaProg
import Derived.Test.YtlfnajpgfapegaaTkH
import Derived.KernelRfl
import Derived.Shelf.Lay
set_option linter.unusedVariables false
namespace Go.Tk
open Go.Proofs
instance : IsScalar Try.prog 1 := ⟨_, Try.underlying1, rfl⟩
instance : Size1 Try.prog 1 := ⟨by kernel_rfl⟩
instance : ZeroV Try.prog 1 (.nilFunc) := ⟨by kernel_rfl⟩
instance : Zero Try.prog 1 [.nilFunc] := ⟨_, ZeroV.out (P := Try.prog) (T := 1), rfl⟩
instance : IsScalar Try.prog 2 := ⟨_, Try.underlying2, rfl⟩
instance : Size1 Try.prog 2 := ⟨by kernel_rfl⟩
instance : KeyTy Try.prog 2 (fun n : Int => Value.int .i64 n) := KeyTy.int Try.underlying2
instance : ZeroV Try.prog 2 (.int .i64 0) := ⟨by kernel_rfl⟩
instance : Zero Try.prog 2 [.int .i64 0] := ⟨_, ZeroV.out (P := Try.prog) (T := 2), rfl⟩
instance : IsScalar Try.prog 3 := ⟨_, Try.underlying3, rfl⟩
instance : Size1 Try.prog 3 := ⟨by kernel_rfl⟩
instance : KeyTy Try.prog 3 (fun n : Int => Value.int .i64 n) := KeyTy.int Try.underlying3
instance : ZeroV Try.prog 3 (.int .i64 0) := ⟨by kernel_rfl⟩
instance : Zero Try.prog 3 [.int .i64 0] := ⟨_, ZeroV.out (P := Try.prog) (T := 3), rfl⟩
instance : ElTy Try.prog 3 1 8 := ElTy.of (z := (.int .i64 0)) (by kernel_rfl) rfl
instance : IsScalar Try.prog 4 := ⟨_, Try.underlying4, rfl⟩
instance : Size1 Try.prog 4 := ⟨by kernel_rfl⟩
instance : ZeroV Try.prog 4 (.bool false) := ⟨by kernel_rfl⟩
instance : Zero Try.prog 4 [.bool false] := ⟨_, ZeroV.out (P := Try.prog) (T := 4), rfl⟩
instance : IsScalar Try.prog 5 := ⟨_, Try.underlying5, rfl⟩
instance : Size1 Try.prog 5 := ⟨by kernel_rfl⟩
instance : KeyTy Try.prog 5 (fun n : Int => Value.int .u8 n) := KeyTy.int Try.underlying5
instance : ZeroV Try.prog 5 (.int .u8 0) := ⟨by kernel_rfl⟩
instance : Zero Try.prog 5 [.int .u8 0] := ⟨_, ZeroV.out (P := Try.prog) (T := 5), rfl⟩
instance : ElTy Try.prog 5 1 1 := ElTy.of (z := (.int .u8 0)) (by kernel_rfl) rfl
instance : IsScalar Try.prog 6 := ⟨_, Try.underlying6, rfl⟩
instance : Size1 Try.prog 6 := ⟨by kernel_rfl⟩
instance : KeyTy Try.prog 6 (fun n : Int => Value.int .u8 n) := KeyTy.int Try.underlying6
instance : ZeroV Try.prog 6 (.int .u8 0) := ⟨by kernel_rfl⟩
instance : Zero Try.prog 6 [.int .u8 0] := ⟨_, ZeroV.out (P := Try.prog) (T := 6), rfl⟩
instance : IsRow Try.prog 7 4 := ⟨⟨_, Try.underlying7, rfl⟩, by kernel_rfl⟩
instance : StructTy Try.prog 7 [.int .i64 0, .int .i64 0, .bool false, .int .u8 0] [(0, 1), (1, 1), (2, 1), (3, 1)] := ⟨fun parts => by kernel_rfl⟩
instance : ZeroV Try.prog 7 (.agg #[.int .i64 0, .int .i64 0, .bool false, .int .u8 0]) := ⟨by kernel_rfl⟩
instance : Zero Try.prog 7 [.int .i64 0, .int .i64 0, .bool false, .int .u8 0] := ⟨_, ZeroV.out (P := Try.prog) (T := 7), rfl⟩
instance : Fld Try.prog 7 0 0 2 := ⟨_, _, Try.underlying7, rfl, rfl, rfl⟩
instance : Fld Try.prog 7 1 1 3 := ⟨_, _, Try.underlying7, rfl, rfl, rfl⟩
instance : Fld Try.prog 7 2 2 4 := ⟨_, _, Try.underlying7, rfl, rfl, rfl⟩
instance : Fld Try.prog 7 3 3 6 := ⟨_, _, Try.underlying7, rfl, rfl, rfl⟩
instance : IsRow Try.prog 8 4 := ⟨⟨_, Try.underlying8, rfl⟩, by kernel_rfl⟩
instance : StructTy Try.prog 8 [.int .i64 0, .int .i64 0, .bool false, .int .u8 0] [(0, 1), (1, 1), (2, 1), (3, 1)] := ⟨fun parts => by kernel_rfl⟩
instance : ZeroV Try.prog 8 (.agg #[.int .i64 0, .int .i64 0, .bool false, .int .u8 0]) := ⟨by kernel_rfl⟩
instance : Zero Try.prog 8 [.int .i64 0, .int .i64 0, .bool false, .int .u8 0] := ⟨_, ZeroV.out (P := Try.prog) (T := 8), rfl⟩
instance : Fld Try.prog 8 0 0 2 := ⟨_, _, Try.underlying8, rfl, rfl, rfl⟩
instance : Fld Try.prog 8 1 1 3 := ⟨_, _, Try.underlying8, rfl, rfl, rfl⟩
instance : Fld Try.prog 8 2 2 4 := ⟨_, _, Try.underlying8, rfl, rfl, rfl⟩
instance : Fld Try.prog 8 3 3 6 := ⟨_, _, Try.underlying8, rfl, rfl, rfl⟩
instance : IsScalar Try.prog 9 := ⟨_, Try.underlying9, rfl⟩
instance : Size1 Try.prog 9 := ⟨by kernel_rfl⟩
instance : KeyTy Try.prog 9 (fun s : ByteArray => Value.string s) := KeyTy.str Try.underlying9
instance : ZeroV Try.prog 9 (.string ⟨#[]⟩) := ⟨by kernel_rfl⟩
instance : Zero Try.prog 9 [.string ⟨#[]⟩] := ⟨_, ZeroV.out (P := Try.prog) (T := 9), rfl⟩
instance : IsScalar Try.prog 10 := ⟨_, Try.underlying10, rfl⟩
instance : Size1 Try.prog 10 := ⟨by kernel_rfl⟩
instance : KeyTy Try.prog 10 (fun s : ByteArray => Value.string s) := KeyTy.str Try.underlying10
instance : ZeroV Try.prog 10 (.string ⟨#[]⟩) := ⟨by kernel_rfl⟩
instance : Zero Try.prog 10 [.string ⟨#[]⟩] := ⟨_, ZeroV.out (P := Try.prog) (T := 10), rfl⟩
instance : IsScalar Try.prog 11 := ⟨_, Try.underlying11, rfl⟩
instance : Size1 Try.prog 11 := ⟨by kernel_rfl⟩
instance : KeyTy Try.prog 11 (fun s : ByteArray => Value.string s) := KeyTy.str Try.underlying11
instance : ZeroV Try.prog 11 (.string ⟨#[]⟩) := ⟨by kernel_rfl⟩
instance : Zero Try.prog 11 [.string ⟨#[]⟩] := ⟨_, ZeroV.out (P := Try.prog) (T := 11), rfl⟩
instance : IsScalar Try.prog 12 := ⟨_, Try.underlying12, rfl⟩
instance : Size1 Try.prog 12 := ⟨by kernel_rfl⟩
instance : KeyTy Try.prog 12 (fun n : Int => Value.int .u64 n) := KeyTy.int Try.underlying12
instance : ZeroV Try.prog 12 (.int .u64 0) := ⟨by kernel_rfl⟩
instance : Zero Try.prog 12 [.int .u64 0] := ⟨_, ZeroV.out (P := Try.prog) (T := 12), rfl⟩
instance : IsRow Try.prog 13 2 := ⟨⟨_, Try.underlying13, rfl⟩, by kernel_rfl⟩
instance : StructTy Try.prog 13 [.string ⟨#[]⟩, .int .u64 0] [(0, 1), (1, 1)] := ⟨fun parts => by kernel_rfl⟩
instance : ZeroV Try.prog 13 (.agg #[.string ⟨#[]⟩, .int .u64 0]) := ⟨by kernel_rfl⟩
instance : Zero Try.prog 13 [.string ⟨#[]⟩, .int .u64 0] := ⟨_, ZeroV.out (P := Try.prog) (T := 13), rfl⟩
instance : Fld Try.prog 13 0 0 9 := ⟨_, _, Try.underlying13, rfl, rfl, rfl⟩
instance : Fld Try.prog 13 1 1 12 := ⟨_, _, Try.underlying13, rfl, rfl, rfl⟩
instance : IsRow Try.prog 14 2 := ⟨⟨_, Try.underlying14, rfl⟩, by kernel_rfl⟩
instance : StructTy Try.prog 14 [.string ⟨#[]⟩, .int .u64 0] [(0, 1), (1, 1)] := ⟨fun parts => by kernel_rfl⟩
instance : ZeroV Try.prog 14 (.agg #[.string ⟨#[]⟩, .int .u64 0]) := ⟨by kernel_rfl⟩
instance : Zero Try.prog 14 [.string ⟨#[]⟩, .int .u64 0] := ⟨_, ZeroV.out (P := Try.prog) (T := 14), rfl⟩
instance : Fld Try.prog 14 0 0 9 := ⟨_, _, Try.underlying14, rfl, rfl, rfl⟩
instance : Fld Try.prog 14 1 1 12 := ⟨_, _, Try.underlying14, rfl, rfl, rfl⟩
instance : IsScalar Try.prog 15 := ⟨_, Try.underlying15, rfl⟩
instance : Size1 Try.prog 15 := ⟨by kernel_rfl⟩
instance : ZeroV Try.prog 15 (.pointer none) := ⟨by kernel_rfl⟩
instance : Zero Try.prog 15 [.pointer none] := ⟨_, ZeroV.out (P := Try.prog) (T := 15), rfl⟩
instance : IsScalar Try.prog 16 := ⟨_, Try.underlying16, rfl⟩
instance : Size1 Try.prog 16 := ⟨by kernel_rfl⟩
instance : ZeroV Try.prog 16 (.pointer none) := ⟨by kernel_rfl⟩
instance : Zero Try.prog 16 [.pointer none] := ⟨_, ZeroV.out (P := Try.prog) (T := 16), rfl⟩
instance : IsScalar Try.prog 17 := ⟨_, Try.underlying17, rfl⟩
instance : Size1 Try.prog 17 := ⟨by kernel_rfl⟩
instance : ZeroV Try.prog 17 (.pointer none) := ⟨by kernel_rfl⟩
instance : Zero Try.prog 17 [.pointer none] := ⟨_, ZeroV.out (P := Try.prog) (T := 17), rfl⟩
instance : IsRow Try.prog 18 1 := ⟨⟨_, Try.underlying18, rfl⟩, by kernel_rfl⟩
instance : StructTy Try.prog 18 [.pointer none] [(0, 1)] := ⟨fun parts => by kernel_rfl⟩
instance : ZeroV Try.prog 18 (.agg #[.pointer none]) := ⟨by kernel_rfl⟩
instance : Zero Try.prog 18 [.pointer none] := ⟨_, ZeroV.out (P := Try.prog) (T := 18), rfl⟩
instance : Fld Try.prog 18 0 0 17 := ⟨_, _, Try.underlying18, rfl, rfl, rfl⟩
instance : IsRow Try.prog 19 1 := ⟨⟨_, Try.underlying19, rfl⟩, by kernel_rfl⟩
instance : StructTy Try.prog 19 [.pointer none] [(0, 1)] := ⟨fun parts => by kernel_rfl⟩
instance : ZeroV Try.prog 19 (.agg #[.pointer none]) := ⟨by kernel_rfl⟩
instance : Zero Try.prog 19 [.pointer none] := ⟨_, ZeroV.out (P := Try.prog) (T := 19), rfl⟩
instance : Fld Try.prog 19 0 0 17 := ⟨_, _, Try.underlying19, rfl, rfl, rfl⟩
instance : IsScalar Try.prog 20 := ⟨_, Try.underlying20, rfl⟩
instance : Size1 Try.prog 20 := ⟨by kernel_rfl⟩
instance : ZeroV Try.prog 20 (.nilIface) := ⟨by kernel_rfl⟩
instance : Zero Try.prog 20 [.nilIface] := ⟨_, ZeroV.out (P := Try.prog) (T := 20), rfl⟩
instance : IsScalar Try.prog 21 := ⟨_, Try.underlying21, rfl⟩
instance : Size1 Try.prog 21 := ⟨by kernel_rfl⟩
instance : KeyTy Try.prog 21 (fun n : Int => Value.int .i32 n) := KeyTy.int Try.underlying21
instance : ZeroV Try.prog 21 (.int .i32 0) := ⟨by kernel_rfl⟩
instance : Zero Try.prog 21 [.int .i32 0] := ⟨_, ZeroV.out (P := Try.prog) (T := 21), rfl⟩
instance : IsRow Try.prog 22 7 := ⟨⟨_, Try.underlying22, rfl⟩, by kernel_rfl⟩
instance : StructTy Try.prog 22 [.int .i64 0, .int .i64 0, .int .i64 0, .int .i64 0, .int .i64 0, .int .i64 0, .int .i64 0] [(0, 1), (1, 1), (2, 1), (3, 1), (4, 1), (5, 1), (6, 1)] := ⟨fun parts => by kernel_rfl⟩
instance : ZeroV Try.prog 22 (.agg #[.int .i64 0, .int .i64 0, .int .i64 0, .int .i64 0, .int .i64 0, .int .i64 0, .int .i64 0]) := ⟨by kernel_rfl⟩
instance : Zero Try.prog 22 [.int .i64 0, .int .i64 0, .int .i64 0, .int .i64 0, .int .i64 0, .int .i64 0, .int .i64 0] := ⟨_, ZeroV.out (P := Try.prog) (T := 22), rfl⟩
instance : Fld Try.prog 22 0 0 3 := ⟨_, _, Try.underlying22, rfl, rfl, rfl⟩
instance : Fld Try.prog 22 1 1 3 := ⟨_, _, Try.underlying22, rfl, rfl, rfl⟩
instance : Fld Try.prog 22 2 2 3 := ⟨_, _, Try.underlying22, rfl, rfl, rfl⟩
instance : Fld Try.prog 22 3 3 3 := ⟨_, _, Try.underlying22, rfl, rfl, rfl⟩
instance : Fld Try.prog 22 4 4 3 := ⟨_, _, Try.underlying22, rfl, rfl, rfl⟩
instance : Fld Try.prog 22 5 5 3 := ⟨_, _, Try.underlying22, rfl, rfl, rfl⟩
instance : Fld Try.prog 22 6 6 3 := ⟨_, _, Try.underlying22, rfl, rfl, rfl⟩
instance : IsRow Try.prog 23 7 := ⟨⟨_, Try.underlying23, rfl⟩, by kernel_rfl⟩
instance : StructTy Try.prog 23 [.int .i64 0, .int .i64 0, .int .i64 0, .int .i64 0, .int .i64 0, .int .i64 0, .int .i64 0] [(0, 1), (1, 1), (2, 1), (3, 1), (4, 1), (5, 1), (6, 1)] := ⟨fun parts => by kernel_rfl⟩
instance : ZeroV Try.prog 23 (.agg #[.int .i64 0, .int .i64 0, .int .i64 0, .int .i64 0, .int .i64 0, .int .i64 0, .int .i64 0]) := ⟨by kernel_rfl⟩
instance : Zero Try.prog 23 [.int .i64 0, .int .i64 0, .int .i64 0, .int .i64 0, .int .i64 0, .int .i64 0, .int .i64 0] := ⟨_, ZeroV.out (P := Try.prog) (T := 23), rfl⟩
instance : Fld Try.prog 23 0 0 3 := ⟨_, _, Try.underlying23, rfl, rfl, rfl⟩
instance : Fld Try.prog 23 1 1 3 := ⟨_, _, Try.underlying23, rfl, rfl, rfl⟩
instance : Fld Try.prog 23 2 2 3 := ⟨_, _, Try.underlying23, rfl, rfl, rfl⟩
instance : Fld Try.prog 23 3 3 3 := ⟨_, _, Try.underlying23, rfl, rfl, rfl⟩
instance : Fld Try.prog 23 4 4 3 := ⟨_, _, Try.underlying23, rfl, rfl, rfl⟩
instance : Fld Try.prog 23 5 5 3 := ⟨_, _, Try.underlying23, rfl, rfl, rfl⟩
instance : Fld Try.prog 23 6 6 3 := ⟨_, _, Try.underlying23, rfl, rfl, rfl⟩
instance : IsScalar Try.prog 24 := ⟨_, Try.underlying24, rfl⟩
instance : Size1 Try.prog 24 := ⟨by kernel_rfl⟩
instance : SlTy Try.prog 24 48 4 := ⟨Try.underlying24, by kernel_rfl⟩
instance : ZeroV Try.prog 24 (.slice none 0 0) := ⟨by kernel_rfl⟩
instance : Zero Try.prog 24 [.slice none 0 0] := ⟨_, ZeroV.out (P := Try.prog) (T := 24), rfl⟩
instance : IsRow Try.prog 25 2 := ⟨⟨_, Try.underlying25, rfl⟩, by kernel_rfl⟩
instance : StructTy Try.prog 25 [.int .i64 0, .int .i64 0] [(0, 1), (1, 1)] := ⟨fun parts => by kernel_rfl⟩
instance : ZeroV Try.prog 25 (.agg #[.int .i64 0, .int .i64 0]) := ⟨by kernel_rfl⟩
instance : Zero Try.prog 25 [.int .i64 0, .int .i64 0] := ⟨_, ZeroV.out (P := Try.prog) (T := 25), rfl⟩
instance : Fld Try.prog 25 0 0 3 := ⟨_, _, Try.underlying25, rfl, rfl, rfl⟩
instance : Fld Try.prog 25 1 1 3 := ⟨_, _, Try.underlying25, rfl, rfl, rfl⟩
instance : IsRow Try.prog 26 2 := ⟨⟨_, Try.underlying26, rfl⟩, by kernel_rfl⟩
instance : StructTy Try.prog 26 [.int .i64 0, .int .i64 0] [(0, 1), (1, 1)] := ⟨fun parts => by kernel_rfl⟩
instance : ZeroV Try.prog 26 (.agg #[.int .i64 0, .int .i64 0]) := ⟨by kernel_rfl⟩
instance : Zero Try.prog 26 [.int .i64 0, .int .i64 0] := ⟨_, ZeroV.out (P := Try.prog) (T := 26), rfl⟩
instance : Fld Try.prog 26 0 0 3 := ⟨_, _, Try.underlying26, rfl, rfl, rfl⟩
instance : Fld Try.prog 26 1 1 3 := ⟨_, _, Try.underlying26, rfl, rfl, rfl⟩
instance : IsScalar Try.prog 27 := ⟨_, Try.underlying27, rfl⟩
instance : Size1 Try.prog 27 := ⟨by kernel_rfl⟩
instance : ZeroV Try.prog 27 (.nilFunc) := ⟨by kernel_rfl⟩
instance : Zero Try.prog 27 [.nilFunc] := ⟨_, ZeroV.out (P := Try.prog) (T := 27), rfl⟩
instance : IsScalar Try.prog 28 := ⟨_, Try.underlying28, rfl⟩
instance : Size1 Try.prog 28 := ⟨by kernel_rfl⟩
instance : ZeroV Try.prog 28 (.nilFunc) := ⟨by kernel_rfl⟩
instance : Zero Try.prog 28 [.nilFunc] := ⟨_, ZeroV.out (P := Try.prog) (T := 28), rfl⟩
instance : IsScalar Try.prog 29 := ⟨_, Try.underlying29, rfl⟩
instance : Size1 Try.prog 29 := ⟨by kernel_rfl⟩
instance : ZeroV Try.prog 29 (.nilFunc) := ⟨by kernel_rfl⟩
instance : Zero Try.prog 29 [.nilFunc] := ⟨_, ZeroV.out (P := Try.prog) (T := 29), rfl⟩
instance : IsScalar Try.prog 30 := ⟨_, Try.underlying30, rfl⟩
instance : Size1 Try.prog 30 := ⟨by kernel_rfl⟩
instance : SlTy Try.prog 30 5 1 := ⟨Try.underlying30, by kernel_rfl⟩
instance : ZeroV Try.prog 30 (.slice none 0 0) := ⟨by kernel_rfl⟩
instance : Zero Try.prog 30 [.slice none 0 0] := ⟨_, ZeroV.out (P := Try.prog) (T := 30), rfl⟩
instance : IsScalar Try.prog 31 := ⟨_, Try.underlying31, rfl⟩
instance : Size1 Try.prog 31 := ⟨by kernel_rfl⟩
instance : KeyTy Try.prog 31 (fun n : Int => Value.int .i64 n) := KeyTy.int Try.underlying31
instance : ZeroV Try.prog 31 (.int .i64 0) := ⟨by kernel_rfl⟩
instance : Zero Try.prog 31 [.int .i64 0] := ⟨_, ZeroV.out (P := Try.prog) (T := 31), rfl⟩
instance : IsRow Try.prog 32 2 := ⟨⟨_, Try.underlying32, rfl⟩, by kernel_rfl⟩
instance : StructTy Try.prog 32 [.int .i64 0, .int .i64 0] [(0, 1), (1, 1)] := ⟨fun parts => by kernel_rfl⟩
instance : ZeroV Try.prog 32 (.agg #[.int .i64 0, .int .i64 0]) := ⟨by kernel_rfl⟩
instance : Zero Try.prog 32 [.int .i64 0, .int .i64 0] := ⟨_, ZeroV.out (P := Try.prog) (T := 32), rfl⟩
instance : Fld Try.prog 32 0 0 31 := ⟨_, _, Try.underlying32, rfl, rfl, rfl⟩
instance : Fld Try.prog 32 1 1 3 := ⟨_, _, Try.underlying32, rfl, rfl, rfl⟩
instance : IsRow Try.prog 33 2 := ⟨⟨_, Try.underlying33, rfl⟩, by kernel_rfl⟩
instance : StructTy Try.prog 33 [.int .i64 0, .int .i64 0] [(0, 1), (1, 1)] := ⟨fun parts => by kernel_rfl⟩
instance : ZeroV Try.prog 33 (.agg #[.int .i64 0, .int .i64 0]) := ⟨by kernel_rfl⟩
instance : Zero Try.prog 33 [.int .i64 0, .int .i64 0] := ⟨_, ZeroV.out (P := Try.prog) (T := 33), rfl⟩
instance : Fld Try.prog 33 0 0 31 := ⟨_, _, Try.underlying33, rfl, rfl, rfl⟩
instance : Fld Try.prog 33 1 1 3 := ⟨_, _, Try.underlying33, rfl, rfl, rfl⟩
instance : IsScalar Try.prog 35 := ⟨_, Try.underlying35, rfl⟩
instance : Size1 Try.prog 35 := ⟨by kernel_rfl⟩
instance : ZeroV Try.prog 35 (.nilFunc) := ⟨by kernel_rfl⟩
instance : Zero Try.prog 35 [.nilFunc] := ⟨_, ZeroV.out (P := Try.prog) (T := 35), rfl⟩
instance : IsScalar Try.prog 37 := ⟨_, Try.underlying37, rfl⟩
instance : Size1 Try.prog 37 := ⟨by kernel_rfl⟩
instance : ZeroV Try.prog 37 (.nilFunc) := ⟨by kernel_rfl⟩
instance : Zero Try.prog 37 [.nilFunc] := ⟨_, ZeroV.out (P := Try.prog) (T := 37), rfl⟩
instance : IsScalar Try.prog 38 := ⟨_, Try.underlying38, rfl⟩
instance : Size1 Try.prog 38 := ⟨by kernel_rfl⟩
instance : ZeroV Try.prog 38 (.nilFunc) := ⟨by kernel_rfl⟩
instance : Zero Try.prog 38 [.nilFunc] := ⟨_, ZeroV.out (P := Try.prog) (T := 38), rfl⟩
instance : IsScalar Try.prog 39 := ⟨_, Try.underlying39, rfl⟩
instance : Size1 Try.prog 39 := ⟨by kernel_rfl⟩
instance : ZeroV Try.prog 39 (.nilFunc) := ⟨by kernel_rfl⟩
instance : Zero Try.prog 39 [.nilFunc] := ⟨_, ZeroV.out (P := Try.prog) (T := 39), rfl⟩
instance : IsScalar Try.prog 41 := ⟨_, Try.underlying41, rfl⟩
instance : Size1 Try.prog 41 := ⟨by kernel_rfl⟩
instance : ZeroV Try.prog 41 (.nilFunc) := ⟨by kernel_rfl⟩
instance : Zero Try.prog 41 [.nilFunc] := ⟨_, ZeroV.out (P := Try.prog) (T := 41), rfl⟩
instance : IsScalar Try.prog 42 := ⟨_, Try.underlying42, rfl⟩
instance : Size1 Try.prog 42 := ⟨by kernel_rfl⟩
instance : SlTy Try.prog 42 50 4 := ⟨Try.underlying42, by kernel_rfl⟩
instance : ZeroV Try.prog 42 (.slice none 0 0) := ⟨by kernel_rfl⟩
instance : Zero Try.prog 42 [.slice none 0 0] := ⟨_, ZeroV.out (P := Try.prog) (T := 42), rfl⟩
instance : IsScalar Try.prog 43 := ⟨_, Try.underlying43, rfl⟩
instance : Size1 Try.prog 43 := ⟨by kernel_rfl⟩
instance : ZeroV Try.prog 43 (.nilFunc) := ⟨by kernel_rfl⟩
instance : Zero Try.prog 43 [.nilFunc] := ⟨_, ZeroV.out (P := Try.prog) (T := 43), rfl⟩
instance : IsScalar Try.prog 44 := ⟨_, Try.underlying44, rfl⟩
instance : Size1 Try.prog 44 := ⟨by kernel_rfl⟩
instance : SlTy Try.prog 44 46 1 := ⟨Try.underlying44, by kernel_rfl⟩
instance : ZeroV Try.prog 44 (.slice none 0 0) := ⟨by kernel_rfl⟩
instance : Zero Try.prog 44 [.slice none 0 0] := ⟨_, ZeroV.out (P := Try.prog) (T := 44), rfl⟩
instance : IsScalar Try.prog 45 := ⟨_, Try.underlying45, rfl⟩
instance : Size1 Try.prog 45 := ⟨by kernel_rfl⟩
instance : ZeroV Try.prog 45 (.nilFunc) := ⟨by kernel_rfl⟩
instance : Zero Try.prog 45 [.nilFunc] := ⟨_, ZeroV.out (P := Try.prog) (T := 45), rfl⟩
instance : IsScalar Try.prog 46 := ⟨_, Try.underlying46, rfl⟩
instance : Size1 Try.prog 46 := ⟨by kernel_rfl⟩
instance : KeyTy Try.prog 46 (fun n : Int => Value.int .u64 n) := KeyTy.int Try.underlying46
instance : ZeroV Try.prog 46 (.int .u64 0) := ⟨by kernel_rfl⟩
instance : Zero Try.prog 46 [.int .u64 0] := ⟨_, ZeroV.out (P := Try.prog) (T := 46), rfl⟩
instance : ElTy Try.prog 46 1 8 := ElTy.of (z := (.int .u64 0)) (by kernel_rfl) rfl
instance : IsRow Try.prog 47 4 := ⟨⟨_, Try.underlying47, rfl⟩, by kernel_rfl⟩
instance : StructTy Try.prog 47 [.int .i64 0, .int .u64 0, .int .i64 0, .int .i64 0] [(0, 1), (1, 1), (2, 1), (3, 1)] := ⟨fun parts => by kernel_rfl⟩
instance : ZeroV Try.prog 47 (.agg #[.int .i64 0, .int .u64 0, .int .i64 0, .int .i64 0]) := ⟨by kernel_rfl⟩
instance : Zero Try.prog 47 [.int .i64 0, .int .u64 0, .int .i64 0, .int .i64 0] := ⟨_, ZeroV.out (P := Try.prog) (T := 47), rfl⟩
instance : Fld Try.prog 47 0 0 3 := ⟨_, _, Try.underlying47, rfl, rfl, rfl⟩
instance : Fld Try.prog 47 1 1 46 := ⟨_, _, Try.underlying47, rfl, rfl, rfl⟩
instance : Fld Try.prog 47 2 2 3 := ⟨_, _, Try.underlying47, rfl, rfl, rfl⟩
instance : Fld Try.prog 47 3 3 3 := ⟨_, _, Try.underlying47, rfl, rfl, rfl⟩
instance : IsRow Try.prog 48 4 := ⟨⟨_, Try.underlying48, rfl⟩, by kernel_rfl⟩
instance : StructTy Try.prog 48 [.int .i64 0, .int .u64 0, .int .i64 0, .int .i64 0] [(0, 1), (1, 1), (2, 1), (3, 1)] := ⟨fun parts => by kernel_rfl⟩
instance : ZeroV Try.prog 48 (.agg #[.int .i64 0, .int .u64 0, .int .i64 0, .int .i64 0]) := ⟨by kernel_rfl⟩
instance : Zero Try.prog 48 [.int .i64 0, .int .u64 0, .int .i64 0, .int .i64 0] := ⟨_, ZeroV.out (P := Try.prog) (T := 48), rfl⟩
instance : ElTy Try.prog 48 4 32 := ElTy.of (z := (.agg #[.int .i64 0, .int .u64 0, .int .i64 0, .int .i64 0])) (by kernel_rfl) rfl
instance : Fld Try.prog 48 0 0 3 := ⟨_, _, Try.underlying48, rfl, rfl, rfl⟩
instance : Fld Try.prog 48 1 1 46 := ⟨_, _, Try.underlying48, rfl, rfl, rfl⟩
instance : Fld Try.prog 48 2 2 3 := ⟨_, _, Try.underlying48, rfl, rfl, rfl⟩
instance : Fld Try.prog 48 3 3 3 := ⟨_, _, Try.underlying48, rfl, rfl, rfl⟩
instance : IsRow Try.prog 49 4 := ⟨⟨_, Try.underlying49, rfl⟩, by kernel_rfl⟩
instance : StructTy Try.prog 49 [.int .u64 0, .int .i64 0, .string ⟨#[]⟩, .int .i64 0] [(0, 1), (1, 1), (2, 1), (3, 1)] := ⟨fun parts => by kernel_rfl⟩
instance : ZeroV Try.prog 49 (.agg #[.int .u64 0, .int .i64 0, .string ⟨#[]⟩, .int .i64 0]) := ⟨by kernel_rfl⟩
instance : Zero Try.prog 49 [.int .u64 0, .int .i64 0, .string ⟨#[]⟩, .int .i64 0] := ⟨_, ZeroV.out (P := Try.prog) (T := 49), rfl⟩
instance : Fld Try.prog 49 0 0 46 := ⟨_, _, Try.underlying49, rfl, rfl, rfl⟩
instance : Fld Try.prog 49 1 1 3 := ⟨_, _, Try.underlying49, rfl, rfl, rfl⟩
instance : Fld Try.prog 49 2 2 9 := ⟨_, _, Try.underlying49, rfl, rfl, rfl⟩
instance : Fld Try.prog 49 3 3 3 := ⟨_, _, Try.underlying49, rfl, rfl, rfl⟩
instance : IsRow Try.prog 50 4 := ⟨⟨_, Try.underlying50, rfl⟩, by kernel_rfl⟩
instance : StructTy Try.prog 50 [.int .u64 0, .int .i64 0, .string ⟨#[]⟩, .int .i64 0] [(0, 1), (1, 1), (2, 1), (3, 1)] := ⟨fun parts => by kernel_rfl⟩
instance : ZeroV Try.prog 50 (.agg #[.int .u64 0, .int .i64 0, .string ⟨#[]⟩, .int .i64 0]) := ⟨by kernel_rfl⟩
instance : Zero Try.prog 50 [.int .u64 0, .int .i64 0, .string ⟨#[]⟩, .int .i64 0] := ⟨_, ZeroV.out (P := Try.prog) (T := 50), rfl⟩
instance : ElTy Try.prog 50 4 40 := ElTy.of (z := (.agg #[.int .u64 0, .int .i64 0, .string ⟨#[]⟩, .int .i64 0])) (by kernel_rfl) rfl
instance : Fld Try.prog 50 0 0 46 := ⟨_, _, Try.underlying50, rfl, rfl, rfl⟩
instance : Fld Try.prog 50 1 1 3 := ⟨_, _, Try.underlying50, rfl, rfl, rfl⟩
instance : Fld Try.prog 50 2 2 9 := ⟨_, _, Try.underlying50, rfl, rfl, rfl⟩
instance : Fld Try.prog 50 3 3 3 := ⟨_, _, Try.underlying50, rfl, rfl, rfl⟩
instance : IsScalar Try.prog 51 := ⟨_, Try.underlying51, rfl⟩
instance : Size1 Try.prog 51 := ⟨by kernel_rfl⟩
instance : ZeroV Try.prog 51 (.nilFunc) := ⟨by kernel_rfl⟩
instance : Zero Try.prog 51 [.nilFunc] := ⟨_, ZeroV.out (P := Try.prog) (T := 51), rfl⟩
instance : IsScalar Try.prog 52 := ⟨_, Try.underlying52, rfl⟩
instance : Size1 Try.prog 52 := ⟨by kernel_rfl⟩
instance : ZeroV Try.prog 52 (.nilFunc) := ⟨by kernel_rfl⟩
instance : Zero Try.prog 52 [.nilFunc] := ⟨_, ZeroV.out (P := Try.prog) (T := 52), rfl⟩
instance : IsScalar Try.prog 53 := ⟨_, Try.underlying53, rfl⟩
instance : Size1 Try.prog 53 := ⟨by kernel_rfl⟩
instance : ZeroV Try.prog 53 (.nilFunc) := ⟨by kernel_rfl⟩
instance : Zero Try.prog 53 [.nilFunc] := ⟨_, ZeroV.out (P := Try.prog) (T := 53), rfl⟩
instance : IsScalar Try.prog 54 := ⟨_, Try.underlying54, rfl⟩
instance : Size1 Try.prog 54 := ⟨by kernel_rfl⟩
instance : ZeroV Try.prog 54 (.pointer none) := ⟨by kernel_rfl⟩
instance : Zero Try.prog 54 [.pointer none] := ⟨_, ZeroV.out (P := Try.prog) (T := 54), rfl⟩
instance : IsScalar Try.prog 55 := ⟨_, Try.underlying55, rfl⟩
instance : Size1 Try.prog 55 := ⟨by kernel_rfl⟩
instance : MapTy Try.prog 55 46 84 := ⟨Try.underlying55⟩
instance : ZeroV Try.prog 55 (.map none) := ⟨by kernel_rfl⟩
instance : Zero Try.prog 55 [.map none] := ⟨_, ZeroV.out (P := Try.prog) (T := 55), rfl⟩
instance : IsScalar Try.prog 56 := ⟨_, Try.underlying56, rfl⟩
instance : Size1 Try.prog 56 := ⟨by kernel_rfl⟩
instance : MapTy Try.prog 56 3 130 := ⟨Try.underlying56⟩
instance : ZeroV Try.prog 56 (.map none) := ⟨by kernel_rfl⟩
instance : Zero Try.prog 56 [.map none] := ⟨_, ZeroV.out (P := Try.prog) (T := 56), rfl⟩
instance : IsRow Try.prog 57 15 := ⟨⟨_, Try.underlying57, rfl⟩, by kernel_rfl⟩
instance : StructTy Try.prog 57 [.int .i64 0, .int .i64 0, .int .i64 0, .int .i64 0, .int .i64 0, .int .i64 0, .int .i64 0, .map none, .map none, .int .i64 0, .int .i64 0, .int .i64 0, .slice none 0 0, .bool false, .int .i64 0] [(0, 7), (7, 1), (8, 1), (9, 1), (10, 1), (11, 1), (12, 1), (13, 1), (14, 1)] := ⟨fun parts => by kernel_rfl⟩
instance : ZeroV Try.prog 57 (.agg #[.int .i64 0, .int .i64 0, .int .i64 0, .int .i64 0, .int .i64 0, .int .i64 0, .int .i64 0, .map none, .map none, .int .i64 0, .int .i64 0, .int .i64 0, .slice none 0 0, .bool false, .int .i64 0]) := ⟨by kernel_rfl⟩
instance : Zero Try.prog 57 [.int .i64 0, .int .i64 0, .int .i64 0, .int .i64 0, .int .i64 0, .int .i64 0, .int .i64 0, .map none, .map none, .int .i64 0, .int .i64 0, .int .i64 0, .slice none 0 0, .bool false, .int .i64 0] := ⟨_, ZeroV.out (P := Try.prog) (T := 57), rfl⟩
instance : Fld Try.prog 57 0 0 23 := ⟨_, _, Try.underlying57, rfl, rfl, rfl⟩
instance : Fld Try.prog 57 1 7 55 := ⟨_, _, Try.underlying57, rfl, rfl, rfl⟩
instance : Fld Try.prog 57 2 8 56 := ⟨_, _, Try.underlying57, rfl, rfl, rfl⟩
instance : Fld Try.prog 57 3 9 3 := ⟨_, _, Try.underlying57, rfl, rfl, rfl⟩
instance : Fld Try.prog 57 4 10 3 := ⟨_, _, Try.underlying57, rfl, rfl, rfl⟩
instance : Fld Try.prog 57 5 11 3 := ⟨_, _, Try.underlying57, rfl, rfl, rfl⟩
instance : Fld Try.prog 57 6 12 24 := ⟨_, _, Try.underlying57, rfl, rfl, rfl⟩
instance : Fld Try.prog 57 7 13 4 := ⟨_, _, Try.underlying57, rfl, rfl, rfl⟩
instance : Fld Try.prog 57 8 14 3 := ⟨_, _, Try.underlying57, rfl, rfl, rfl⟩
instance : IsRow Try.prog 58 15 := ⟨⟨_, Try.underlying58, rfl⟩, by kernel_rfl⟩
instance : StructTy Try.prog 58 [.int .i64 0, .int .i64 0, .int .i64 0, .int .i64 0, .int .i64 0, .int .i64 0, .int .i64 0, .map none, .map none, .int .i64 0, .int .i64 0, .int .i64 0, .slice none 0 0, .bool false, .int .i64 0] [(0, 7), (7, 1), (8, 1), (9, 1), (10, 1), (11, 1), (12, 1), (13, 1), (14, 1)] := ⟨fun parts => by kernel_rfl⟩
instance : ZeroV Try.prog 58 (.agg #[.int .i64 0, .int .i64 0, .int .i64 0, .int .i64 0, .int .i64 0, .int .i64 0, .int .i64 0, .map none, .map none, .int .i64 0, .int .i64 0, .int .i64 0, .slice none 0 0, .bool false, .int .i64 0]) := ⟨by kernel_rfl⟩
instance : Zero Try.prog 58 [.int .i64 0, .int .i64 0, .int .i64 0, .int .i64 0, .int .i64 0, .int .i64 0, .int .i64 0, .map none, .map none, .int .i64 0, .int .i64 0, .int .i64 0, .slice none 0 0, .bool false, .int .i64 0] := ⟨_, ZeroV.out (P := Try.prog) (T := 58), rfl⟩
instance : Fld Try.prog 58 0 0 23 := ⟨_, _, Try.underlying58, rfl, rfl, rfl⟩
instance : Fld Try.prog 58 1 7 55 := ⟨_, _, Try.underlying58, rfl, rfl, rfl⟩
instance : Fld Try.prog 58 2 8 56 := ⟨_, _, Try.underlying58, rfl, rfl, rfl⟩
instance : Fld Try.prog 58 3 9 3 := ⟨_, _, Try.underlying58, rfl, rfl, rfl⟩
instance : Fld Try.prog 58 4 10 3 := ⟨_, _, Try.underlying58, rfl, rfl, rfl⟩
instance : Fld Try.prog 58 5 11 3 := ⟨_, _, Try.underlying58, rfl, rfl, rfl⟩
instance : Fld Try.prog 58 6 12 24 := ⟨_, _, Try.underlying58, rfl, rfl, rfl⟩
instance : Fld Try.prog 58 7 13 4 := ⟨_, _, Try.underlying58, rfl, rfl, rfl⟩
instance : Fld Try.prog 58 8 14 3 := ⟨_, _, Try.underlying58, rfl, rfl, rfl⟩
instance : IsScalar Try.prog 59 := ⟨_, Try.underlying59, rfl⟩
instance : Size1 Try.prog 59 := ⟨by kernel_rfl⟩
instance : ZeroV Try.prog 59 (.nilFunc) := ⟨by kernel_rfl⟩
instance : Zero Try.prog 59 [.nilFunc] := ⟨_, ZeroV.out (P := Try.prog) (T := 59), rfl⟩
instance : IsScalar Try.prog 60 := ⟨_, Try.underlying60, rfl⟩
instance : Size1 Try.prog 60 := ⟨by kernel_rfl⟩
instance : ZeroV Try.prog 60 (.nilFunc) := ⟨by kernel_rfl⟩
instance : Zero Try.prog 60 [.nilFunc] := ⟨_, ZeroV.out (P := Try.prog) (T := 60), rfl⟩
instance : IsScalar Try.prog 61 := ⟨_, Try.underlying61, rfl⟩
instance : Size1 Try.prog 61 := ⟨by kernel_rfl⟩
instance : IsScalar Try.prog 62 := ⟨_, Try.underlying62, rfl⟩
instance : Size1 Try.prog 62 := ⟨by kernel_rfl⟩
instance : ZeroV Try.prog 62 (.nilFunc) := ⟨by kernel_rfl⟩
instance : Zero Try.prog 62 [.nilFunc] := ⟨_, ZeroV.out (P := Try.prog) (T := 62), rfl⟩
instance : IsScalar Try.prog 63 := ⟨_, Try.underlying63, rfl⟩
instance : Size1 Try.prog 63 := ⟨by kernel_rfl⟩
instance : ZeroV Try.prog 63 (.nilFunc) := ⟨by kernel_rfl⟩
instance : Zero Try.prog 63 [.nilFunc] := ⟨_, ZeroV.out (P := Try.prog) (T := 63), rfl⟩
instance : IsScalar Try.prog 64 := ⟨_, Try.underlying64, rfl⟩
instance : Size1 Try.prog 64 := ⟨by kernel_rfl⟩
instance : ZeroV Try.prog 64 (.nilFunc) := ⟨by kernel_rfl⟩
instance : Zero Try.prog 64 [.nilFunc] := ⟨_, ZeroV.out (P := Try.prog) (T := 64), rfl⟩
instance : IsScalar Try.prog 65 := ⟨_, Try.underlying65, rfl⟩
instance : Size1 Try.prog 65 := ⟨by kernel_rfl⟩
instance : ZeroV Try.prog 65 (.nilFunc) := ⟨by kernel_rfl⟩
instance : Zero Try.prog 65 [.nilFunc] := ⟨_, ZeroV.out (P := Try.prog) (T := 65), rfl⟩
instance : IsScalar Try.prog 66 := ⟨_, Try.underlying66, rfl⟩
instance : Size1 Try.prog 66 := ⟨by kernel_rfl⟩
instance : ZeroV Try.prog 66 (.nilFunc) := ⟨by kernel_rfl⟩
instance : Zero Try.prog 66 [.nilFunc] := ⟨_, ZeroV.out (P := Try.prog) (T := 66), rfl⟩
instance : IsRow Try.prog 67 4 := ⟨⟨_, Try.underlying67, rfl⟩, by kernel_rfl⟩
instance : StructTy Try.prog 67 [.slice none 0 0, .int .i64 0, .int .i64 0, .int .i64 0] [(0, 1), (1, 1), (2, 1), (3, 1)] := ⟨fun parts => by kernel_rfl⟩
instance : ZeroV Try.prog 67 (.agg #[.slice none 0 0, .int .i64 0, .int .i64 0, .int .i64 0]) := ⟨by kernel_rfl⟩
instance : Zero Try.prog 67 [.slice none 0 0, .int .i64 0, .int .i64 0, .int .i64 0] := ⟨_, ZeroV.out (P := Try.prog) (T := 67), rfl⟩
instance : Fld Try.prog 67 0 0 30 := ⟨_, _, Try.underlying67, rfl, rfl, rfl⟩
instance : Fld Try.prog 67 1 1 3 := ⟨_, _, Try.underlying67, rfl, rfl, rfl⟩
instance : Fld Try.prog 67 2 2 3 := ⟨_, _, Try.underlying67, rfl, rfl, rfl⟩
instance : Fld Try.prog 67 3 3 3 := ⟨_, _, Try.underlying67, rfl, rfl, rfl⟩
instance : IsRow Try.prog 68 4 := ⟨⟨_, Try.underlying68, rfl⟩, by kernel_rfl⟩
instance : StructTy Try.prog 68 [.slice none 0 0, .int .i64 0, .int .i64 0, .int .i64 0] [(0, 1), (1, 1), (2, 1), (3, 1)] := ⟨fun parts => by kernel_rfl⟩
instance : ZeroV Try.prog 68 (.agg #[.slice none 0 0, .int .i64 0, .int .i64 0, .int .i64 0]) := ⟨by kernel_rfl⟩
instance : Zero Try.prog 68 [.slice none 0 0, .int .i64 0, .int .i64 0, .int .i64 0] := ⟨_, ZeroV.out (P := Try.prog) (T := 68), rfl⟩
instance : Fld Try.prog 68 0 0 30 := ⟨_, _, Try.underlying68, rfl, rfl, rfl⟩
instance : Fld Try.prog 68 1 1 3 := ⟨_, _, Try.underlying68, rfl, rfl, rfl⟩
instance : Fld Try.prog 68 2 2 3 := ⟨_, _, Try.underlying68, rfl, rfl, rfl⟩
instance : Fld Try.prog 68 3 3 3 := ⟨_, _, Try.underlying68, rfl, rfl, rfl⟩
instance : IsScalar Try.prog 69 := ⟨_, Try.underlying69, rfl⟩
instance : Size1 Try.prog 69 := ⟨by kernel_rfl⟩
instance : ZeroV Try.prog 69 (.nilFunc) := ⟨by kernel_rfl⟩
instance : Zero Try.prog 69 [.nilFunc] := ⟨_, ZeroV.out (P := Try.prog) (T := 69), rfl⟩
instance : IsScalar Try.prog 70 := ⟨_, Try.underlying70, rfl⟩
instance : Size1 Try.prog 70 := ⟨by kernel_rfl⟩
instance : ZeroV Try.prog 70 (.nilFunc) := ⟨by kernel_rfl⟩
instance : Zero Try.prog 70 [.nilFunc] := ⟨_, ZeroV.out (P := Try.prog) (T := 70), rfl⟩
instance : IsScalar Try.prog 72 := ⟨_, Try.underlying72, rfl⟩
instance : Size1 Try.prog 72 := ⟨by kernel_rfl⟩
instance : ZeroV Try.prog 72 (.nilFunc) := ⟨by kernel_rfl⟩
instance : Zero Try.prog 72 [.nilFunc] := ⟨_, ZeroV.out (P := Try.prog) (T := 72), rfl⟩
instance : IsScalar Try.prog 73 := ⟨_, Try.underlying73, rfl⟩
instance : Size1 Try.prog 73 := ⟨by kernel_rfl⟩
instance : MapTy Try.prog 73 3 3 := ⟨Try.underlying73⟩
instance : ZeroV Try.prog 73 (.map none) := ⟨by kernel_rfl⟩
instance : Zero Try.prog 73 [.map none] := ⟨_, ZeroV.out (P := Try.prog) (T := 73), rfl⟩
instance : IsScalar Try.prog 74 := ⟨_, Try.underlying74, rfl⟩
instance : Size1 Try.prog 74 := ⟨by kernel_rfl⟩
instance : MapTy Try.prog 74 46 3 := ⟨Try.underlying74⟩
instance : ZeroV Try.prog 74 (.map none) := ⟨by kernel_rfl⟩
instance : Zero Try.prog 74 [.map none] := ⟨_, ZeroV.out (P := Try.prog) (T := 74), rfl⟩
instance : IsScalar Try.prog 75 := ⟨_, Try.underlying75, rfl⟩
instance : Size1 Try.prog 75 := ⟨by kernel_rfl⟩
instance : ZeroV Try.prog 75 (.nilFunc) := ⟨by kernel_rfl⟩
instance : Zero Try.prog 75 [.nilFunc] := ⟨_, ZeroV.out (P := Try.prog) (T := 75), rfl⟩
instance : IsScalar Try.prog 76 := ⟨_, Try.underlying76, rfl⟩
instance : Size1 Try.prog 76 := ⟨by kernel_rfl⟩
instance : ZeroV Try.prog 76 (.nilFunc) := ⟨by kernel_rfl⟩
instance : Zero Try.prog 76 [.nilFunc] := ⟨_, ZeroV.out (P := Try.prog) (T := 76), rfl⟩
instance : IsScalar Try.prog 77 := ⟨_, Try.underlying77, rfl⟩
instance : Size1 Try.prog 77 := ⟨by kernel_rfl⟩
instance : ZeroV Try.prog 77 (.nilFunc) := ⟨by kernel_rfl⟩
instance : Zero Try.prog 77 [.nilFunc] := ⟨_, ZeroV.out (P := Try.prog) (T := 77), rfl⟩
instance : IsScalar Try.prog 78 := ⟨_, Try.underlying78, rfl⟩
instance : Size1 Try.prog 78 := ⟨by kernel_rfl⟩
instance : ZeroV Try.prog 78 (.nilFunc) := ⟨by kernel_rfl⟩
instance : Zero Try.prog 78 [.nilFunc] := ⟨_, ZeroV.out (P := Try.prog) (T := 78), rfl⟩
instance : IsScalar Try.prog 79 := ⟨_, Try.underlying79, rfl⟩
instance : Size1 Try.prog 79 := ⟨by kernel_rfl⟩
instance : SlTy Try.prog 79 81 2 := ⟨Try.underlying79, by kernel_rfl⟩
instance : ZeroV Try.prog 79 (.slice none 0 0) := ⟨by kernel_rfl⟩
instance : Zero Try.prog 79 [.slice none 0 0] := ⟨_, ZeroV.out (P := Try.prog) (T := 79), rfl⟩
instance : IsRow Try.prog 80 2 := ⟨⟨_, Try.underlying80, rfl⟩, by kernel_rfl⟩
instance : StructTy Try.prog 80 [.int .i64 0, .int .i64 0] [(0, 1), (1, 1)] := ⟨fun parts => by kernel_rfl⟩
instance : ZeroV Try.prog 80 (.agg #[.int .i64 0, .int .i64 0]) := ⟨by kernel_rfl⟩
instance : Zero Try.prog 80 [.int .i64 0, .int .i64 0] := ⟨_, ZeroV.out (P := Try.prog) (T := 80), rfl⟩
instance : Fld Try.prog 80 0 0 3 := ⟨_, _, Try.underlying80, rfl, rfl, rfl⟩
instance : Fld Try.prog 80 1 1 3 := ⟨_, _, Try.underlying80, rfl, rfl, rfl⟩
instance : IsRow Try.prog 81 2 := ⟨⟨_, Try.underlying81, rfl⟩, by kernel_rfl⟩
instance : StructTy Try.prog 81 [.int .i64 0, .int .i64 0] [(0, 1), (1, 1)] := ⟨fun parts => by kernel_rfl⟩
instance : ZeroV Try.prog 81 (.agg #[.int .i64 0, .int .i64 0]) := ⟨by kernel_rfl⟩
instance : Zero Try.prog 81 [.int .i64 0, .int .i64 0] := ⟨_, ZeroV.out (P := Try.prog) (T := 81), rfl⟩
instance : ElTy Try.prog 81 2 16 := ElTy.of (z := (.agg #[.int .i64 0, .int .i64 0])) (by kernel_rfl) rfl
instance : Fld Try.prog 81 0 0 3 := ⟨_, _, Try.underlying81, rfl, rfl, rfl⟩
instance : Fld Try.prog 81 1 1 3 := ⟨_, _, Try.underlying81, rfl, rfl, rfl⟩
instance : IsRow Try.prog 82 5 := ⟨⟨_, Try.underlying82, rfl⟩, by kernel_rfl⟩
instance : StructTy Try.prog 82 [.int .i64 0, .bool false, .int .i64 0, .bool false, .int .i64 0] [(0, 1), (1, 1), (2, 1), (3, 1), (4, 1)] := ⟨fun parts => by kernel_rfl⟩
instance : ZeroV Try.prog 82 (.agg #[.int .i64 0, .bool false, .int .i64 0, .bool false, .int .i64 0]) := ⟨by kernel_rfl⟩
instance : Zero Try.prog 82 [.int .i64 0, .bool false, .int .i64 0, .bool false, .int .i64 0] := ⟨_, ZeroV.out (P := Try.prog) (T := 82), rfl⟩
instance : Fld Try.prog 82 0 0 3 := ⟨_, _, Try.underlying82, rfl, rfl, rfl⟩
instance : Fld Try.prog 82 1 1 4 := ⟨_, _, Try.underlying82, rfl, rfl, rfl⟩
instance : Fld Try.prog 82 2 2 3 := ⟨_, _, Try.underlying82, rfl, rfl, rfl⟩
instance : Fld Try.prog 82 3 3 4 := ⟨_, _, Try.underlying82, rfl, rfl, rfl⟩
instance : Fld Try.prog 82 4 4 3 := ⟨_, _, Try.underlying82, rfl, rfl, rfl⟩
instance : IsRow Try.prog 83 5 := ⟨⟨_, Try.underlying83, rfl⟩, by kernel_rfl⟩
instance : StructTy Try.prog 83 [.int .i64 0, .bool false, .int .i64 0, .bool false, .int .i64 0] [(0, 1), (1, 1), (2, 1), (3, 1), (4, 1)] := ⟨fun parts => by kernel_rfl⟩
instance : ZeroV Try.prog 83 (.agg #[.int .i64 0, .bool false, .int .i64 0, .bool false, .int .i64 0]) := ⟨by kernel_rfl⟩
instance : Zero Try.prog 83 [.int .i64 0, .bool false, .int .i64 0, .bool false, .int .i64 0] := ⟨_, ZeroV.out (P := Try.prog) (T := 83), rfl⟩
instance : Fld Try.prog 83 0 0 3 := ⟨_, _, Try.underlying83, rfl, rfl, rfl⟩
instance : Fld Try.prog 83 1 1 4 := ⟨_, _, Try.underlying83, rfl, rfl, rfl⟩
instance : Fld Try.prog 83 2 2 3 := ⟨_, _, Try.underlying83, rfl, rfl, rfl⟩
instance : Fld Try.prog 83 3 3 4 := ⟨_, _, Try.underlying83, rfl, rfl, rfl⟩
instance : Fld Try.prog 83 4 4 3 := ⟨_, _, Try.underlying83, rfl, rfl, rfl⟩
instance : IsScalar Try.prog 84 := ⟨_, Try.underlying84, rfl⟩
instance : Size1 Try.prog 84 := ⟨by kernel_rfl⟩
instance : ZeroV Try.prog 84 (.pointer none) := ⟨by kernel_rfl⟩
instance : Zero Try.prog 84 [.pointer none] := ⟨_, ZeroV.out (P := Try.prog) (T := 84), rfl⟩
instance : ElTy Try.prog 84 1 8 := ElTy.of (z := (.pointer none)) (by kernel_rfl) rfl
instance : IsScalar Try.prog 85 := ⟨_, Try.underlying85, rfl⟩
instance : Size1 Try.prog 85 := ⟨by kernel_rfl⟩
instance : ZeroV Try.prog 85 (.nilFunc) := ⟨by kernel_rfl⟩
instance : Zero Try.prog 85 [.nilFunc] := ⟨_, ZeroV.out (P := Try.prog) (T := 85), rfl⟩
instance : IsScalar Try.prog 86 := ⟨_, Try.underlying86, rfl⟩
instance : Size1 Try.prog 86 := ⟨by kernel_rfl⟩
instance : ZeroV Try.prog 86 (.nilFunc) := ⟨by kernel_rfl⟩
instance : Zero Try.prog 86 [.nilFunc] := ⟨_, ZeroV.out (P := Try.prog) (T := 86), rfl⟩
instance : IsScalar Try.prog 87 := ⟨_, Try.underlying87, rfl⟩
instance : Size1 Try.prog 87 := ⟨by kernel_rfl⟩
instance : ZeroV Try.prog 87 (.nilFunc) := ⟨by kernel_rfl⟩
instance : Zero Try.prog 87 [.nilFunc] := ⟨_, ZeroV.out (P := Try.prog) (T := 87), rfl⟩
instance : IsRow Try.prog 88 1 := ⟨⟨_, Try.underlying88, rfl⟩, by kernel_rfl⟩
instance : StructTy Try.prog 88 [.nilFunc] [(0, 1)] := ⟨fun parts => by kernel_rfl⟩
instance : ZeroV Try.prog 88 (.agg #[.nilFunc]) := ⟨by kernel_rfl⟩
instance : Zero Try.prog 88 [.nilFunc] := ⟨_, ZeroV.out (P := Try.prog) (T := 88), rfl⟩
instance : Fld Try.prog 88 0 0 87 := ⟨_, _, Try.underlying88, rfl, rfl, rfl⟩
instance : IsRow Try.prog 89 1 := ⟨⟨_, Try.underlying89, rfl⟩, by kernel_rfl⟩
instance : StructTy Try.prog 89 [.nilFunc] [(0, 1)] := ⟨fun parts => by kernel_rfl⟩
instance : ZeroV Try.prog 89 (.agg #[.nilFunc]) := ⟨by kernel_rfl⟩
instance : Zero Try.prog 89 [.nilFunc] := ⟨_, ZeroV.out (P := Try.prog) (T := 89), rfl⟩
instance : ElTy Try.prog 89 1 8 := ElTy.of (z := (.agg #[.nilFunc])) (by kernel_rfl) rfl
instance : Fld Try.prog 89 0 0 87 := ⟨_, _, Try.underlying89, rfl, rfl, rfl⟩
instance : IsScalar Try.prog 90 := ⟨_, Try.underlying90, rfl⟩
instance : Size1 Try.prog 90 := ⟨by kernel_rfl⟩
instance : ZeroV Try.prog 90 (.nilFunc) := ⟨by kernel_rfl⟩
instance : Zero Try.prog 90 [.nilFunc] := ⟨_, ZeroV.out (P := Try.prog) (T := 90), rfl⟩
instance : IsScalar Try.prog 91 := ⟨_, Try.underlying91, rfl⟩
instance : Size1 Try.prog 91 := ⟨by kernel_rfl⟩
instance : ZeroV Try.prog 91 (.nilFunc) := ⟨by kernel_rfl⟩
instance : Zero Try.prog 91 [.nilFunc] := ⟨_, ZeroV.out (P := Try.prog) (T := 91), rfl⟩
instance : IsRow Try.prog 92 3 := ⟨⟨_, Try.underlying92, rfl⟩, by kernel_rfl⟩
instance : StructTy Try.prog 92 [.slice none 0 0, .int .i64 0, .bool false] [(0, 1), (1, 1), (2, 1)] := ⟨fun parts => by kernel_rfl⟩
instance : ZeroV Try.prog 92 (.agg #[.slice none 0 0, .int .i64 0, .bool false]) := ⟨by kernel_rfl⟩
instance : Zero Try.prog 92 [.slice none 0 0, .int .i64 0, .bool false] := ⟨_, ZeroV.out (P := Try.prog) (T := 92), rfl⟩
instance : Fld Try.prog 92 0 0 30 := ⟨_, _, Try.underlying92, rfl, rfl, rfl⟩
instance : Fld Try.prog 92 1 1 3 := ⟨_, _, Try.underlying92, rfl, rfl, rfl⟩
instance : Fld Try.prog 92 2 2 4 := ⟨_, _, Try.underlying92, rfl, rfl, rfl⟩
instance : IsRow Try.prog 93 3 := ⟨⟨_, Try.underlying93, rfl⟩, by kernel_rfl⟩
instance : StructTy Try.prog 93 [.slice none 0 0, .int .i64 0, .bool false] [(0, 1), (1, 1), (2, 1)] := ⟨fun parts => by kernel_rfl⟩
instance : ZeroV Try.prog 93 (.agg #[.slice none 0 0, .int .i64 0, .bool false]) := ⟨by kernel_rfl⟩
instance : Zero Try.prog 93 [.slice none 0 0, .int .i64 0, .bool false] := ⟨_, ZeroV.out (P := Try.prog) (T := 93), rfl⟩
instance : Fld Try.prog 93 0 0 30 := ⟨_, _, Try.underlying93, rfl, rfl, rfl⟩
instance : Fld Try.prog 93 1 1 3 := ⟨_, _, Try.underlying93, rfl, rfl, rfl⟩
instance : Fld Try.prog 93 2 2 4 := ⟨_, _, Try.underlying93, rfl, rfl, rfl⟩
instance : IsRow Try.prog 94 5 := ⟨⟨_, Try.underlying94, rfl⟩, by kernel_rfl⟩
instance : StructTy Try.prog 94 [.slice none 0 0, .int .i64 0, .bool false, .int .i64 0, .int .i64 0] [(0, 3), (3, 2)] := ⟨fun parts => by kernel_rfl⟩
instance : ZeroV Try.prog 94 (.agg #[.slice none 0 0, .int .i64 0, .bool false, .int .i64 0, .int .i64 0]) := ⟨by kernel_rfl⟩
instance : Zero Try.prog 94 [.slice none 0 0, .int .i64 0, .bool false, .int .i64 0, .int .i64 0] := ⟨_, ZeroV.out (P := Try.prog) (T := 94), rfl⟩
instance : Fld Try.prog 94 0 0 93 := ⟨_, _, Try.underlying94, rfl, rfl, rfl⟩
instance : Fld Try.prog 94 1 3 33 := ⟨_, _, Try.underlying94, rfl, rfl, rfl⟩
instance : IsRow Try.prog 95 5 := ⟨⟨_, Try.underlying95, rfl⟩, by kernel_rfl⟩
instance : StructTy Try.prog 95 [.slice none 0 0, .int .i64 0, .bool false, .int .i64 0, .int .i64 0] [(0, 3), (3, 2)] := ⟨fun parts => by kernel_rfl⟩
instance : ZeroV Try.prog 95 (.agg #[.slice none 0 0, .int .i64 0, .bool false, .int .i64 0, .int .i64 0]) := ⟨by kernel_rfl⟩
instance : Zero Try.prog 95 [.slice none 0 0, .int .i64 0, .bool false, .int .i64 0, .int .i64 0] := ⟨_, ZeroV.out (P := Try.prog) (T := 95), rfl⟩
instance : Fld Try.prog 95 0 0 93 := ⟨_, _, Try.underlying95, rfl, rfl, rfl⟩
instance : Fld Try.prog 95 1 3 33 := ⟨_, _, Try.underlying95, rfl, rfl, rfl⟩
instance : IsScalar Try.prog 96 := ⟨_, Try.underlying96, rfl⟩
instance : Size1 Try.prog 96 := ⟨by kernel_rfl⟩
instance : ZeroV Try.prog 96 (.nilFunc) := ⟨by kernel_rfl⟩
instance : Zero Try.prog 96 [.nilFunc] := ⟨_, ZeroV.out (P := Try.prog) (T := 96), rfl⟩
instance : IsScalar Try.prog 98 := ⟨_, Try.underlying98, rfl⟩
instance : Size1 Try.prog 98 := ⟨by kernel_rfl⟩
instance : ZeroV Try.prog 98 (.nilFunc) := ⟨by kernel_rfl⟩
instance : Zero Try.prog 98 [.nilFunc] := ⟨_, ZeroV.out (P := Try.prog) (T := 98), rfl⟩
instance : IsScalar Try.prog 100 := ⟨_, Try.underlying100, rfl⟩
instance : Size1 Try.prog 100 := ⟨by kernel_rfl⟩
instance : ZeroV Try.prog 100 (.nilFunc) := ⟨by kernel_rfl⟩
instance : Zero Try.prog 100 [.nilFunc] := ⟨_, ZeroV.out (P := Try.prog) (T := 100), rfl⟩
instance : IsScalar Try.prog 101 := ⟨_, Try.underlying101, rfl⟩
instance : Size1 Try.prog 101 := ⟨by kernel_rfl⟩
instance : ZeroV Try.prog 101 (.pointer none) := ⟨by kernel_rfl⟩
instance : Zero Try.prog 101 [.pointer none] := ⟨_, ZeroV.out (P := Try.prog) (T := 101), rfl⟩
instance : IsScalar Try.prog 102 := ⟨_, Try.underlying102, rfl⟩
instance : Size1 Try.prog 102 := ⟨by kernel_rfl⟩
instance : ZeroV Try.prog 102 (.nilFunc) := ⟨by kernel_rfl⟩
instance : Zero Try.prog 102 [.nilFunc] := ⟨_, ZeroV.out (P := Try.prog) (T := 102), rfl⟩
instance : IsScalar Try.prog 104 := ⟨_, Try.underlying104, rfl⟩
instance : Size1 Try.prog 104 := ⟨by kernel_rfl⟩
instance : ZeroV Try.prog 104 (.nilFunc) := ⟨by kernel_rfl⟩
instance : Zero Try.prog 104 [.nilFunc] := ⟨_, ZeroV.out (P := Try.prog) (T := 104), rfl⟩
instance : IsScalar Try.prog 105 := ⟨_, Try.underlying105, rfl⟩
instance : Size1 Try.prog 105 := ⟨by kernel_rfl⟩
instance : ZeroV Try.prog 105 (.nilFunc) := ⟨by kernel_rfl⟩
instance : Zero Try.prog 105 [.nilFunc] := ⟨_, ZeroV.out (P := Try.prog) (T := 105), rfl⟩
instance : IsScalar Try.prog 106 := ⟨_, Try.underlying106, rfl⟩
instance : Size1 Try.prog 106 := ⟨by kernel_rfl⟩
instance : ZeroV Try.prog 106 (.nilFunc) := ⟨by kernel_rfl⟩
instance : Zero Try.prog 106 [.nilFunc] := ⟨_, ZeroV.out (P := Try.prog) (T := 106), rfl⟩
instance : IsScalar Try.prog 107 := ⟨_, Try.underlying107, rfl⟩
instance : Size1 Try.prog 107 := ⟨by kernel_rfl⟩
instance : KeyTy Try.prog 107 (fun n : Int => Value.int .u64 n) := KeyTy.int Try.underlying107
instance : ZeroV Try.prog 107 (.int .u64 0) := ⟨by kernel_rfl⟩
instance : Zero Try.prog 107 [.int .u64 0] := ⟨_, ZeroV.out (P := Try.prog) (T := 107), rfl⟩
instance : IsScalar Try.prog 108 := ⟨_, Try.underlying108, rfl⟩
instance : Size1 Try.prog 108 := ⟨by kernel_rfl⟩
instance : ZeroV Try.prog 108 (.nilFunc) := ⟨by kernel_rfl⟩
instance : Zero Try.prog 108 [.nilFunc] := ⟨_, ZeroV.out (P := Try.prog) (T := 108), rfl⟩
instance : IsScalar Try.prog 109 := ⟨_, Try.underlying109, rfl⟩
instance : Size1 Try.prog 109 := ⟨by kernel_rfl⟩
instance : ZeroV Try.prog 109 (.nilFunc) := ⟨by kernel_rfl⟩
instance : Zero Try.prog 109 [.nilFunc] := ⟨_, ZeroV.out (P := Try.prog) (T := 109), rfl⟩
instance : IsScalar Try.prog 110 := ⟨_, Try.underlying110, rfl⟩
instance : Size1 Try.prog 110 := ⟨by kernel_rfl⟩
instance : ZeroV Try.prog 110 (.nilFunc) := ⟨by kernel_rfl⟩
instance : Zero Try.prog 110 [.nilFunc] := ⟨_, ZeroV.out (P := Try.prog) (T := 110), rfl⟩
instance : IsScalar Try.prog 111 := ⟨_, Try.underlying111, rfl⟩
instance : Size1 Try.prog 111 := ⟨by kernel_rfl⟩
instance : MapTy Try.prog 111 3 89 := ⟨Try.underlying111⟩
instance : ZeroV Try.prog 111 (.map none) := ⟨by kernel_rfl⟩
instance : Zero Try.prog 111 [.map none] := ⟨_, ZeroV.out (P := Try.prog) (T := 111), rfl⟩
instance : IsScalar Try.prog 112 := ⟨_, Try.underlying112, rfl⟩
instance : Size1 Try.prog 112 := ⟨by kernel_rfl⟩
instance : ZeroV Try.prog 112 (.pointer none) := ⟨by kernel_rfl⟩
instance : Zero Try.prog 112 [.pointer none] := ⟨_, ZeroV.out (P := Try.prog) (T := 112), rfl⟩
instance : IsScalar Try.prog 113 := ⟨_, Try.underlying113, rfl⟩
instance : Size1 Try.prog 113 := ⟨by kernel_rfl⟩
instance : ZeroV Try.prog 113 (.nilFunc) := ⟨by kernel_rfl⟩
instance : Zero Try.prog 113 [.nilFunc] := ⟨_, ZeroV.out (P := Try.prog) (T := 113), rfl⟩
instance : IsScalar Try.prog 114 := ⟨_, Try.underlying114, rfl⟩
instance : Size1 Try.prog 114 := ⟨by kernel_rfl⟩
instance : KeyTy Try.prog 114 (fun n : Int => Value.int .i64 n) := KeyTy.int Try.underlying114
instance : ZeroV Try.prog 114 (.int .i64 0) := ⟨by kernel_rfl⟩
instance : Zero Try.prog 114 [.int .i64 0] := ⟨_, ZeroV.out (P := Try.prog) (T := 114), rfl⟩
instance : IsScalar Try.prog 116 := ⟨_, Try.underlying116, rfl⟩
instance : Size1 Try.prog 116 := ⟨by kernel_rfl⟩
instance : ZeroV Try.prog 116 (.nilFunc) := ⟨by kernel_rfl⟩
instance : Zero Try.prog 116 [.nilFunc] := ⟨_, ZeroV.out (P := Try.prog) (T := 116), rfl⟩
instance : IsScalar Try.prog 117 := ⟨_, Try.underlying117, rfl⟩
instance : Size1 Try.prog 117 := ⟨by kernel_rfl⟩
instance : ZeroV Try.prog 117 (.nilFunc) := ⟨by kernel_rfl⟩
instance : Zero Try.prog 117 [.nilFunc] := ⟨_, ZeroV.out (P := Try.prog) (T := 117), rfl⟩
instance : IsScalar Try.prog 118 := ⟨_, Try.underlying118, rfl⟩
instance : Size1 Try.prog 118 := ⟨by kernel_rfl⟩
instance : ZeroV Try.prog 118 (.nilFunc) := ⟨by kernel_rfl⟩
instance : Zero Try.prog 118 [.nilFunc] := ⟨_, ZeroV.out (P := Try.prog) (T := 118), rfl⟩
instance : IsScalar Try.prog 120 := ⟨_, Try.underlying120, rfl⟩
instance : Size1 Try.prog 120 := ⟨by kernel_rfl⟩
instance : ZeroV Try.prog 120 (.nilFunc) := ⟨by kernel_rfl⟩
instance : Zero Try.prog 120 [.nilFunc] := ⟨_, ZeroV.out (P := Try.prog) (T := 120), rfl⟩
instance : IsScalar Try.prog 121 := ⟨_, Try.underlying121, rfl⟩
instance : Size1 Try.prog 121 := ⟨by kernel_rfl⟩
instance : ZeroV Try.prog 121 (.nilFunc) := ⟨by kernel_rfl⟩
instance : Zero Try.prog 121 [.nilFunc] := ⟨_, ZeroV.out (P := Try.prog) (T := 121), rfl⟩
instance : IsScalar Try.prog 122 := ⟨_, Try.underlying122, rfl⟩
instance : Size1 Try.prog 122 := ⟨by kernel_rfl⟩
instance : KeyTy Try.prog 122 (fun n : Int => Value.int .u32 n) := KeyTy.int Try.underlying122
instance : ZeroV Try.prog 122 (.int .u32 0) := ⟨by kernel_rfl⟩
instance : Zero Try.prog 122 [.int .u32 0] := ⟨_, ZeroV.out (P := Try.prog) (T := 122), rfl⟩
instance : IsScalar Try.prog 123 := ⟨_, Try.underlying123, rfl⟩
instance : Size1 Try.prog 123 := ⟨by kernel_rfl⟩
instance : ZeroV Try.prog 123 (.nilFunc) := ⟨by kernel_rfl⟩
instance : Zero Try.prog 123 [.nilFunc] := ⟨_, ZeroV.out (P := Try.prog) (T := 123), rfl⟩
instance : IsScalar Try.prog 124 := ⟨_, Try.underlying124, rfl⟩
instance : Size1 Try.prog 124 := ⟨by kernel_rfl⟩
instance : ZeroV Try.prog 124 (.nilFunc) := ⟨by kernel_rfl⟩
instance : Zero Try.prog 124 [.nilFunc] := ⟨_, ZeroV.out (P := Try.prog) (T := 124), rfl⟩
instance : IsScalar Try.prog 125 := ⟨_, Try.underlying125, rfl⟩
instance : Size1 Try.prog 125 := ⟨by kernel_rfl⟩
instance : ZeroV Try.prog 125 (.nilFunc) := ⟨by kernel_rfl⟩
instance : Zero Try.prog 125 [.nilFunc] := ⟨_, ZeroV.out (P := Try.prog) (T := 125), rfl⟩
instance : IsScalar Try.prog 126 := ⟨_, Try.underlying126, rfl⟩
instance : Size1 Try.prog 126 := ⟨by kernel_rfl⟩
instance : ZeroV Try.prog 126 (.nilFunc) := ⟨by kernel_rfl⟩
instance : Zero Try.prog 126 [.nilFunc] := ⟨_, ZeroV.out (P := Try.prog) (T := 126), rfl⟩
instance : IsScalar Try.prog 127 := ⟨_, Try.underlying127, rfl⟩
instance : Size1 Try.prog 127 := ⟨by kernel_rfl⟩
instance : ZeroV Try.prog 127 (.nilFunc) := ⟨by kernel_rfl⟩
instance : Zero Try.prog 127 [.nilFunc] := ⟨_, ZeroV.out (P := Try.prog) (T := 127), rfl⟩
instance : IsScalar Try.prog 128 := ⟨_, Try.underlying128, rfl⟩
instance : Size1 Try.prog 128 := ⟨by kernel_rfl⟩
instance : ZeroV Try.prog 128 (.nilFunc) := ⟨by kernel_rfl⟩
instance : Zero Try.prog 128 [.nilFunc] := ⟨_, ZeroV.out (P := Try.prog) (T := 128), rfl⟩
instance : IsScalar Try.prog 129 := ⟨_, Try.underlying129, rfl⟩
instance : Size1 Try.prog 129 := ⟨by kernel_rfl⟩
instance : ZeroV Try.prog 129 (.nilFunc) := ⟨by kernel_rfl⟩
instance : Zero Try.prog 129 [.nilFunc] := ⟨_, ZeroV.out (P := Try.prog) (T := 129), rfl⟩
instance : IsScalar Try.prog 130 := ⟨_, Try.underlying130, rfl⟩
instance : Size1 Try.prog 130 := ⟨by kernel_rfl⟩
instance : ZeroV Try.prog 130 (.pointer none) := ⟨by kernel_rfl⟩
instance : Zero Try.prog 130 [.pointer none] := ⟨_, ZeroV.out (P := Try.prog) (T := 130), rfl⟩
instance : ElTy Try.prog 130 1 8 := ElTy.of (z := (.pointer none)) (by kernel_rfl) rfl
instance : IsRow Try.prog 131 3 := ⟨⟨_, Try.underlying131, rfl⟩, by kernel_rfl⟩
instance : StructTy Try.prog 131 [.int .i64 0, .slice none 0 0, .int .i64 0] [(0, 1), (1, 1), (2, 1)] := ⟨fun parts => by kernel_rfl⟩
instance : ZeroV Try.prog 131 (.agg #[.int .i64 0, .slice none 0 0, .int .i64 0]) := ⟨by kernel_rfl⟩
instance : Zero Try.prog 131 [.int .i64 0, .slice none 0 0, .int .i64 0] := ⟨_, ZeroV.out (P := Try.prog) (T := 131), rfl⟩
instance : Fld Try.prog 131 0 0 3 := ⟨_, _, Try.underlying131, rfl, rfl, rfl⟩
instance : Fld Try.prog 131 1 1 44 := ⟨_, _, Try.underlying131, rfl, rfl, rfl⟩
instance : Fld Try.prog 131 2 2 3 := ⟨_, _, Try.underlying131, rfl, rfl, rfl⟩
instance : IsRow Try.prog 132 3 := ⟨⟨_, Try.underlying132, rfl⟩, by kernel_rfl⟩
instance : StructTy Try.prog 132 [.int .i64 0, .slice none 0 0, .int .i64 0] [(0, 1), (1, 1), (2, 1)] := ⟨fun parts => by kernel_rfl⟩
instance : ZeroV Try.prog 132 (.agg #[.int .i64 0, .slice none 0 0, .int .i64 0]) := ⟨by kernel_rfl⟩
instance : Zero Try.prog 132 [.int .i64 0, .slice none 0 0, .int .i64 0] := ⟨_, ZeroV.out (P := Try.prog) (T := 132), rfl⟩
instance : Fld Try.prog 132 0 0 3 := ⟨_, _, Try.underlying132, rfl, rfl, rfl⟩
instance : Fld Try.prog 132 1 1 44 := ⟨_, _, Try.underlying132, rfl, rfl, rfl⟩
instance : Fld Try.prog 132 2 2 3 := ⟨_, _, Try.underlying132, rfl, rfl, rfl⟩
instance : IsScalar Try.prog 133 := ⟨_, Try.underlying133, rfl⟩
instance : Size1 Try.prog 133 := ⟨by kernel_rfl⟩
instance : ZeroV Try.prog 133 (.nilFunc) := ⟨by kernel_rfl⟩
instance : Zero Try.prog 133 [.nilFunc] := ⟨_, ZeroV.out (P := Try.prog) (T := 133), rfl⟩
instance : IsScalar Try.prog 134 := ⟨_, Try.underlying134, rfl⟩
instance : Size1 Try.prog 134 := ⟨by kernel_rfl⟩
instance : ZeroV Try.prog 134 (.nilFunc) := ⟨by kernel_rfl⟩
instance : Zero Try.prog 134 [.nilFunc] := ⟨_, ZeroV.out (P := Try.prog) (T := 134), rfl⟩
instance : IsScalar Try.prog 135 := ⟨_, Try.underlying135, rfl⟩
instance : Size1 Try.prog 135 := ⟨by kernel_rfl⟩
instance : ZeroV Try.prog 135 (.nilFunc) := ⟨by kernel_rfl⟩
instance : Zero Try.prog 135 [.nilFunc] := ⟨_, ZeroV.out (P := Try.prog) (T := 135), rfl⟩
instance : IsScalar Try.prog 136 := ⟨_, Try.underlying136, rfl⟩
instance : Size1 Try.prog 136 := ⟨by kernel_rfl⟩
instance : ZeroV Try.prog 136 (.nilFunc) := ⟨by kernel_rfl⟩
instance : Zero Try.prog 136 [.nilFunc] := ⟨_, ZeroV.out (P := Try.prog) (T := 136), rfl⟩
instance : IsScalar Try.prog 137 := ⟨_, Try.underlying137, rfl⟩
instance : Size1 Try.prog 137 := ⟨by kernel_rfl⟩
instance : ZeroV Try.prog 137 (.nilFunc) := ⟨by kernel_rfl⟩
instance : Zero Try.prog 137 [.nilFunc] := ⟨_, ZeroV.out (P := Try.prog) (T := 137), rfl⟩
instance : IsScalar Try.prog 138 := ⟨_, Try.underlying138, rfl⟩
instance : Size1 Try.prog 138 := ⟨by kernel_rfl⟩
instance : ZeroV Try.prog 138 (.nilFunc) := ⟨by kernel_rfl⟩
instance : Zero Try.prog 138 [.nilFunc] := ⟨_, ZeroV.out (P := Try.prog) (T := 138), rfl⟩
instance : IsScalar Try.prog 139 := ⟨_, Try.underlying139, rfl⟩
instance : Size1 Try.prog 139 := ⟨by kernel_rfl⟩
instance : SlTy Try.prog 139 3 1 := ⟨Try.underlying139, by kernel_rfl⟩
instance : ZeroV Try.prog 139 (.slice none 0 0) := ⟨by kernel_rfl⟩
instance : Zero Try.prog 139 [.slice none 0 0] := ⟨_, ZeroV.out (P := Try.prog) (T := 139), rfl⟩
instance : IsScalar Try.prog 140 := ⟨_, Try.underlying140, rfl⟩
instance : Size1 Try.prog 140 := ⟨by kernel_rfl⟩
instance : ZeroV Try.prog 140 (.nilFunc) := ⟨by kernel_rfl⟩
instance : Zero Try.prog 140 [.nilFunc] := ⟨_, ZeroV.out (P := Try.prog) (T := 140), rfl⟩
instance : IsScalar Try.prog 141 := ⟨_, Try.underlying141, rfl⟩
instance : Size1 Try.prog 141 := ⟨by kernel_rfl⟩
instance : KeyTy Try.prog 141 (fun n : Int => Value.int .u64 n) := KeyTy.int Try.underlying141
instance : ZeroV Try.prog 141 (.int .u64 0) := ⟨by kernel_rfl⟩
instance : Zero Try.prog 141 [.int .u64 0] := ⟨_, ZeroV.out (P := Try.prog) (T := 141), rfl⟩
instance : IsScalar Try.prog 142 := ⟨_, Try.underlying142, rfl⟩
instance : Size1 Try.prog 142 := ⟨by kernel_rfl⟩
instance : ZeroV Try.prog 142 (.nilFunc) := ⟨by kernel_rfl⟩
instance : Zero Try.prog 142 [.nilFunc] := ⟨_, ZeroV.out (P := Try.prog) (T := 142), rfl⟩
instance : IsScalar Try.prog 143 := ⟨_, Try.underlying143, rfl⟩
instance : Size1 Try.prog 143 := ⟨by kernel_rfl⟩
instance : ZeroV Try.prog 143 (.nilFunc) := ⟨by kernel_rfl⟩
instance : Zero Try.prog 143 [.nilFunc] := ⟨_, ZeroV.out (P := Try.prog) (T := 143), rfl⟩
instance : IsScalar Try.prog 144 := ⟨_, Try.underlying144, rfl⟩
instance : Size1 Try.prog 144 := ⟨by kernel_rfl⟩
instance : ZeroV Try.prog 144 (.pointer none) := ⟨by kernel_rfl⟩
instance : Zero Try.prog 144 [.pointer none] := ⟨_, ZeroV.out (P := Try.prog) (T := 144), rfl⟩
instance : IsScalar Try.prog 145 := ⟨_, Try.underlying145, rfl⟩
instance : Size1 Try.prog 145 := ⟨by kernel_rfl⟩
instance : ZeroV Try.prog 145 (.nilFunc) := ⟨by kernel_rfl⟩
instance : Zero Try.prog 145 [.nilFunc] := ⟨_, ZeroV.out (P := Try.prog) (T := 145), rfl⟩
instance : IsScalar Try.prog 146 := ⟨_, Try.underlying146, rfl⟩
instance : Size1 Try.prog 146 := ⟨by kernel_rfl⟩
instance : ZeroV Try.prog 146 (.nilFunc) := ⟨by kernel_rfl⟩
instance : Zero Try.prog 146 [.nilFunc] := ⟨_, ZeroV.out (P := Try.prog) (T := 146), rfl⟩
instance : IsScalar Try.prog 147 := ⟨_, Try.underlying147, rfl⟩
instance : Size1 Try.prog 147 := ⟨by kernel_rfl⟩
instance : ZeroV Try.prog 147 (.nilFunc) := ⟨by kernel_rfl⟩
instance : Zero Try.prog 147 [.nilFunc] := ⟨_, ZeroV.out (P := Try.prog) (T := 147), rfl⟩
instance : IsScalar Try.prog 148 := ⟨_, Try.underlying148, rfl⟩
instance : Size1 Try.prog 148 := ⟨by kernel_rfl⟩
instance : ZeroV Try.prog 148 (.nilFunc) := ⟨by kernel_rfl⟩
instance : Zero Try.prog 148 [.nilFunc] := ⟨_, ZeroV.out (P := Try.prog) (T := 148), rfl⟩
instance : IsScalar Try.prog 149 := ⟨_, Try.underlying149, rfl⟩
instance : Size1 Try.prog 149 := ⟨by kernel_rfl⟩
instance : ZeroV Try.prog 149 (.pointer none) := ⟨by kernel_rfl⟩
instance : Zero Try.prog 149 [.pointer none] := ⟨_, ZeroV.out (P := Try.prog) (T := 149), rfl⟩
instance : IsScalar Try.prog 150 := ⟨_, Try.underlying150, rfl⟩
instance : Size1 Try.prog 150 := ⟨by kernel_rfl⟩
instance : ZeroV Try.prog 150 (.nilFunc) := ⟨by kernel_rfl⟩
instance : Zero Try.prog 150 [.nilFunc] := ⟨_, ZeroV.out (P := Try.prog) (T := 150), rfl⟩
instance : IsScalar Try.prog 151 := ⟨_, Try.underlying151, rfl⟩
instance : Size1 Try.prog 151 := ⟨by kernel_rfl⟩
instance : ZeroV Try.prog 151 (.nilFunc) := ⟨by kernel_rfl⟩
instance : Zero Try.prog 151 [.nilFunc] := ⟨_, ZeroV.out (P := Try.prog) (T := 151), rfl⟩
instance : IsScalar Try.prog 152 := ⟨_, Try.underlying152, rfl⟩
instance : Size1 Try.prog 152 := ⟨by kernel_rfl⟩
instance : ZeroV Try.prog 152 (.nilFunc) := ⟨by kernel_rfl⟩
instance : Zero Try.prog 152 [.nilFunc] := ⟨_, ZeroV.out (P := Try.prog) (T := 152), rfl⟩
instance : IsScalar Try.prog 153 := ⟨_, Try.underlying153, rfl⟩
instance : Size1 Try.prog 153 := ⟨by kernel_rfl⟩
instance : ZeroV Try.prog 153 (.nilFunc) := ⟨by kernel_rfl⟩
instance : Zero Try.prog 153 [.nilFunc] := ⟨_, ZeroV.out (P := Try.prog) (T := 153), rfl⟩
instance : IsScalar Try.prog 154 := ⟨_, Try.underlying154, rfl⟩
instance : Size1 Try.prog 154 := ⟨by kernel_rfl⟩
instance : ZeroV Try.prog 154 (.nilFunc) := ⟨by kernel_rfl⟩
instance : Zero Try.prog 154 [.nilFunc] := ⟨_, ZeroV.out (P := Try.prog) (T := 154), rfl⟩
instance : IsScalar Try.prog 155 := ⟨_, Try.underlying155, rfl⟩
instance : Size1 Try.prog 155 := ⟨by kernel_rfl⟩
instance : ZeroV Try.prog 155 (.nilFunc) := ⟨by kernel_rfl⟩
instance : Zero Try.prog 155 [.nilFunc] := ⟨_, ZeroV.out (P := Try.prog) (T := 155), rfl⟩
instance : IsScalar Try.prog 156 := ⟨_, Try.underlying156, rfl⟩
instance : Size1 Try.prog 156 := ⟨by kernel_rfl⟩
instance : ZeroV Try.prog 156 (.nilFunc) := ⟨by kernel_rfl⟩
instance : Zero Try.prog 156 [.nilFunc] := ⟨_, ZeroV.out (P := Try.prog) (T := 156), rfl⟩
instance : IsScalar Try.prog 157 := ⟨_, Try.underlying157, rfl⟩
instance : Size1 Try.prog 157 := ⟨by kernel_rfl⟩
instance : ZeroV Try.prog 157 (.nilFunc) := ⟨by kernel_rfl⟩
instance : Zero Try.prog 157 [.nilFunc] := ⟨_, ZeroV.out (P := Try.prog) (T := 157), rfl⟩
instance : IsScalar Try.prog 158 := ⟨_, Try.underlying158, rfl⟩
instance : Size1 Try.prog 158 := ⟨by kernel_rfl⟩
instance : ZeroV Try.prog 158 (.nilFunc) := ⟨by kernel_rfl⟩
instance : Zero Try.prog 158 [.nilFunc] := ⟨_, ZeroV.out (P := Try.prog) (T := 158), rfl⟩
instance : IsScalar Try.prog 159 := ⟨_, Try.underlying159, rfl⟩
instance : Size1 Try.prog 159 := ⟨by kernel_rfl⟩
instance : ZeroV Try.prog 159 (.nilFunc) := ⟨by kernel_rfl⟩
instance : Zero Try.prog 159 [.nilFunc] := ⟨_, ZeroV.out (P := Try.prog) (T := 159), rfl⟩
instance : IsScalar Try.prog 160 := ⟨_, Try.underlying160, rfl⟩
instance : Size1 Try.prog 160 := ⟨by kernel_rfl⟩
instance : ZeroV Try.prog 160 (.nilFunc) := ⟨by kernel_rfl⟩
instance : Zero Try.prog 160 [.nilFunc] := ⟨_, ZeroV.out (P := Try.prog) (T := 160), rfl⟩
instance : IsScalar Try.prog 161 := ⟨_, Try.underlying161, rfl⟩
instance : Size1 Try.prog 161 := ⟨by kernel_rfl⟩
instance : ZeroV Try.prog 161 (.nilFunc) := ⟨by kernel_rfl⟩
instance : Zero Try.prog 161 [.nilFunc] := ⟨_, ZeroV.out (P := Try.prog) (T := 161), rfl⟩
instance : IsScalar Try.prog 162 := ⟨_, Try.underlying162, rfl⟩
instance : Size1 Try.prog 162 := ⟨by kernel_rfl⟩
instance : ZeroV Try.prog 162 (.nilFunc) := ⟨by kernel_rfl⟩
instance : Zero Try.prog 162 [.nilFunc] := ⟨_, ZeroV.out (P := Try.prog) (T := 162), rfl⟩
instance : IsRow Try.prog 163 4 := ⟨⟨_, Try.underlying163, rfl⟩, by kernel_rfl⟩
instance : StructTy Try.prog 163 [.pointer none, .pointer none, .pointer none, .string ⟨#[]⟩] [(0, 1), (1, 1), (2, 1), (3, 1)] := ⟨fun parts => by kernel_rfl⟩
instance : ZeroV Try.prog 163 (.agg #[.pointer none, .pointer none, .pointer none, .string ⟨#[]⟩]) := ⟨by kernel_rfl⟩
instance : Zero Try.prog 163 [.pointer none, .pointer none, .pointer none, .string ⟨#[]⟩] := ⟨_, ZeroV.out (P := Try.prog) (T := 163), rfl⟩
instance : Fld Try.prog 163 0 0 17 := ⟨_, _, Try.underlying163, rfl, rfl, rfl⟩
instance : Fld Try.prog 163 1 1 17 := ⟨_, _, Try.underlying163, rfl, rfl, rfl⟩
instance : Fld Try.prog 163 2 2 17 := ⟨_, _, Try.underlying163, rfl, rfl, rfl⟩
instance : Fld Try.prog 163 3 3 9 := ⟨_, _, Try.underlying163, rfl, rfl, rfl⟩
instance : IsRow Try.prog 164 4 := ⟨⟨_, Try.underlying164, rfl⟩, by kernel_rfl⟩
instance : StructTy Try.prog 164 [.pointer none, .pointer none, .pointer none, .string ⟨#[]⟩] [(0, 1), (1, 1), (2, 1), (3, 1)] := ⟨fun parts => by kernel_rfl⟩
instance : ZeroV Try.prog 164 (.agg #[.pointer none, .pointer none, .pointer none, .string ⟨#[]⟩]) := ⟨by kernel_rfl⟩
instance : Zero Try.prog 164 [.pointer none, .pointer none, .pointer none, .string ⟨#[]⟩] := ⟨_, ZeroV.out (P := Try.prog) (T := 164), rfl⟩
instance : Fld Try.prog 164 0 0 17 := ⟨_, _, Try.underlying164, rfl, rfl, rfl⟩
instance : Fld Try.prog 164 1 1 17 := ⟨_, _, Try.underlying164, rfl, rfl, rfl⟩
instance : Fld Try.prog 164 2 2 17 := ⟨_, _, Try.underlying164, rfl, rfl, rfl⟩
instance : Fld Try.prog 164 3 3 9 := ⟨_, _, Try.underlying164, rfl, rfl, rfl⟩
instance : IsRow Try.prog 165 0 := ⟨⟨_, Try.underlying165, rfl⟩, by kernel_rfl⟩
instance : ZeroV Try.prog 165 (.agg #[]) := ⟨by kernel_rfl⟩
instance : Zero Try.prog 165 [] := ⟨_, ZeroV.out (P := Try.prog) (T := 165), rfl⟩
instance : IsRow Try.prog 166 0 := ⟨⟨_, Try.underlying166, rfl⟩, by kernel_rfl⟩
instance : ZeroV Try.prog 166 (.agg #[]) := ⟨by kernel_rfl⟩
instance : Zero Try.prog 166 [] := ⟨_, ZeroV.out (P := Try.prog) (T := 166), rfl⟩
instance : Fld Try.prog 166 0 0 165 := ⟨_, _, Try.underlying166, rfl, rfl, rfl⟩
instance : IsRow Try.prog 167 0 := ⟨⟨_, Try.underlying167, rfl⟩, by kernel_rfl⟩
instance : ZeroV Try.prog 167 (.agg #[]) := ⟨by kernel_rfl⟩
instance : Zero Try.prog 167 [] := ⟨_, ZeroV.out (P := Try.prog) (T := 167), rfl⟩
instance : Fld Try.prog 167 0 0 165 := ⟨_, _, Try.underlying167, rfl, rfl, rfl⟩
instance : IsScalar Try.prog 168 := ⟨_, Try.underlying168, rfl⟩
instance : Size1 Try.prog 168 := ⟨by kernel_rfl⟩
instance : KeyTy Try.prog 168 (fun n : Int => Value.int .u8 n) := KeyTy.int Try.underlying168
instance : ZeroV Try.prog 168 (.int .u8 0) := ⟨by kernel_rfl⟩
instance : Zero Try.prog 168 [.int .u8 0] := ⟨_, ZeroV.out (P := Try.prog) (T := 168), rfl⟩
instance : IsScalar Try.prog 169 := ⟨_, Try.underlying169, rfl⟩
instance : Size1 Try.prog 169 := ⟨by kernel_rfl⟩
instance : KeyTy Try.prog 169 (fun n : Int => Value.int .u8 n) := KeyTy.int Try.underlying169
instance : ZeroV Try.prog 169 (.int .u8 0) := ⟨by kernel_rfl⟩
instance : Zero Try.prog 169 [.int .u8 0] := ⟨_, ZeroV.out (P := Try.prog) (T := 169), rfl⟩
instance : IsScalar Try.prog 170 := ⟨_, Try.underlying170, rfl⟩
instance : Size1 Try.prog 170 := ⟨by kernel_rfl⟩
instance : ZeroV Try.prog 170 (.nilFunc) := ⟨by kernel_rfl⟩
instance : Zero Try.prog 170 [.nilFunc] := ⟨_, ZeroV.out (P := Try.prog) (T := 170), rfl⟩
instance : IsScalar Try.prog 171 := ⟨_, Try.underlying171, rfl⟩
instance : Size1 Try.prog 171 := ⟨by kernel_rfl⟩
instance : ZeroV Try.prog 171 (.pointer none) := ⟨by kernel_rfl⟩
instance : Zero Try.prog 171 [.pointer none] := ⟨_, ZeroV.out (P := Try.prog) (T := 171), rfl⟩
instance : IsScalar Try.prog 172 := ⟨_, Try.underlying172, rfl⟩
instance : Size1 Try.prog 172 := ⟨by kernel_rfl⟩
instance : KeyTy Try.prog 172 (fun n : Int => Value.int .i32 n) := KeyTy.int Try.underlying172
instance : ZeroV Try.prog 172 (.int .i32 0) := ⟨by kernel_rfl⟩
instance : Zero Try.prog 172 [.int .i32 0] := ⟨_, ZeroV.out (P := Try.prog) (T := 172), rfl⟩
instance : IsScalar Try.prog 173 := ⟨_, Try.underlying173, rfl⟩
instance : Size1 Try.prog 173 := ⟨by kernel_rfl⟩
instance : KeyTy Try.prog 173 (fun n : Int => Value.int .i32 n) := KeyTy.int Try.underlying173
instance : ZeroV Try.prog 173 (.int .i32 0) := ⟨by kernel_rfl⟩
instance : Zero Try.prog 173 [.int .i32 0] := ⟨_, ZeroV.out (P := Try.prog) (T := 173), rfl⟩
instance : IsRow Try.prog 174 11 := ⟨⟨_, Try.underlying174, rfl⟩, by kernel_rfl⟩
instance : StructTy Try.prog 174 [.int .u64 0, .int .u64 0, .int .u32 0, .int .u8 0, .int .u8 0, .int .u8 0, .int .u8 0, .nilFunc, .pointer none, .int .i32 0, .int .i32 0] [(0, 1), (1, 1), (2, 1), (3, 1), (4, 1), (5, 1), (6, 1), (7, 1), (8, 1), (9, 1), (10, 1)] := ⟨fun parts => by kernel_rfl⟩
instance : ZeroV Try.prog 174 (.agg #[.int .u64 0, .int .u64 0, .int .u32 0, .int .u8 0, .int .u8 0, .int .u8 0, .int .u8 0, .nilFunc, .pointer none, .int .i32 0, .int .i32 0]) := ⟨by kernel_rfl⟩
instance : Zero Try.prog 174 [.int .u64 0, .int .u64 0, .int .u32 0, .int .u8 0, .int .u8 0, .int .u8 0, .int .u8 0, .nilFunc, .pointer none, .int .i32 0, .int .i32 0] := ⟨_, ZeroV.out (P := Try.prog) (T := 174), rfl⟩
instance : Fld Try.prog 174 0 0 12 := ⟨_, _, Try.underlying174, rfl, rfl, rfl⟩
instance : Fld Try.prog 174 1 1 12 := ⟨_, _, Try.underlying174, rfl, rfl, rfl⟩
instance : Fld Try.prog 174 2 2 122 := ⟨_, _, Try.underlying174, rfl, rfl, rfl⟩
instance : Fld Try.prog 174 3 3 168 := ⟨_, _, Try.underlying174, rfl, rfl, rfl⟩
instance : Fld Try.prog 174 4 4 5 := ⟨_, _, Try.underlying174, rfl, rfl, rfl⟩
instance : Fld Try.prog 174 5 5 5 := ⟨_, _, Try.underlying174, rfl, rfl, rfl⟩
instance : Fld Try.prog 174 6 6 169 := ⟨_, _, Try.underlying174, rfl, rfl, rfl⟩
instance : Fld Try.prog 174 7 7 170 := ⟨_, _, Try.underlying174, rfl, rfl, rfl⟩
instance : Fld Try.prog 174 8 8 171 := ⟨_, _, Try.underlying174, rfl, rfl, rfl⟩
instance : Fld Try.prog 174 9 9 172 := ⟨_, _, Try.underlying174, rfl, rfl, rfl⟩
instance : Fld Try.prog 174 10 10 173 := ⟨_, _, Try.underlying174, rfl, rfl, rfl⟩
instance : IsRow Try.prog 175 11 := ⟨⟨_, Try.underlying175, rfl⟩, by kernel_rfl⟩
instance : StructTy Try.prog 175 [.int .u64 0, .int .u64 0, .int .u32 0, .int .u8 0, .int .u8 0, .int .u8 0, .int .u8 0, .nilFunc, .pointer none, .int .i32 0, .int .i32 0] [(0, 1), (1, 1), (2, 1), (3, 1), (4, 1), (5, 1), (6, 1), (7, 1), (8, 1), (9, 1), (10, 1)] := ⟨fun parts => by kernel_rfl⟩
instance : ZeroV Try.prog 175 (.agg #[.int .u64 0, .int .u64 0, .int .u32 0, .int .u8 0, .int .u8 0, .int .u8 0, .int .u8 0, .nilFunc, .pointer none, .int .i32 0, .int .i32 0]) := ⟨by kernel_rfl⟩
instance : Zero Try.prog 175 [.int .u64 0, .int .u64 0, .int .u32 0, .int .u8 0, .int .u8 0, .int .u8 0, .int .u8 0, .nilFunc, .pointer none, .int .i32 0, .int .i32 0] := ⟨_, ZeroV.out (P := Try.prog) (T := 175), rfl⟩
instance : Fld Try.prog 175 0 0 12 := ⟨_, _, Try.underlying175, rfl, rfl, rfl⟩
instance : Fld Try.prog 175 1 1 12 := ⟨_, _, Try.underlying175, rfl, rfl, rfl⟩
instance : Fld Try.prog 175 2 2 122 := ⟨_, _, Try.underlying175, rfl, rfl, rfl⟩
instance : Fld Try.prog 175 3 3 168 := ⟨_, _, Try.underlying175, rfl, rfl, rfl⟩
instance : Fld Try.prog 175 4 4 5 := ⟨_, _, Try.underlying175, rfl, rfl, rfl⟩
instance : Fld Try.prog 175 5 5 5 := ⟨_, _, Try.underlying175, rfl, rfl, rfl⟩
instance : Fld Try.prog 175 6 6 169 := ⟨_, _, Try.underlying175, rfl, rfl, rfl⟩
instance : Fld Try.prog 175 7 7 170 := ⟨_, _, Try.underlying175, rfl, rfl, rfl⟩
instance : Fld Try.prog 175 8 8 171 := ⟨_, _, Try.underlying175, rfl, rfl, rfl⟩
instance : Fld Try.prog 175 9 9 172 := ⟨_, _, Try.underlying175, rfl, rfl, rfl⟩
instance : Fld Try.prog 175 10 10 173 := ⟨_, _, Try.underlying175, rfl, rfl, rfl⟩
instance : IsScalar Try.prog 176 := ⟨_, Try.underlying176, rfl⟩
instance : Size1 Try.prog 176 := ⟨by kernel_rfl⟩
instance : ZeroV Try.prog 176 (.pointer none) := ⟨by kernel_rfl⟩
instance : Zero Try.prog 176 [.pointer none] := ⟨_, ZeroV.out (P := Try.prog) (T := 176), rfl⟩
instance : EntersC Try.prog 2 := ⟨enters_of Try.func2 (by kernel_rfl) rfl⟩
instance : EntersC Try.prog 3 := ⟨enters_of Try.func3 (by kernel_rfl) rfl⟩
instance : EntersC Try.prog 4 := ⟨enters_of Try.func4 (by kernel_rfl) rfl⟩
instance : EntersC Try.prog 5 := ⟨enters_of Try.func5 (by kernel_rfl) rfl⟩
instance : EntersC Try.prog 6 := ⟨enters_of Try.func6 (by kernel_rfl) rfl⟩
instance : EntersC Try.prog 7 := ⟨enters_of Try.func7 (by kernel_rfl) rfl⟩
instance : EntersC Try.prog 8 := ⟨enters_of Try.func8 (by kernel_rfl) rfl⟩
instance : EntersC Try.prog 9 := ⟨enters_of Try.func9 (by kernel_rfl) rfl⟩
instance : EntersC Try.prog 10 := ⟨enters_of Try.func10 (by kernel_rfl) rfl⟩
instance : EntersC Try.prog 11 := ⟨enters_of Try.func11 (by kernel_rfl) rfl⟩
instance : EntersC Try.prog 12 := ⟨enters_of Try.func12 (by kernel_rfl) rfl⟩
instance : EntersC Try.prog 13 := ⟨enters_of Try.func13 (by kernel_rfl) rfl⟩
instance : EntersC Try.prog 14 := ⟨enters_of Try.func14 (by kernel_rfl) rfl⟩
instance : EntersC Try.prog 15 := ⟨enters_of Try.func15 (by kernel_rfl) rfl⟩
instance : EntersC Try.prog 16 := ⟨enters_of Try.func16 (by kernel_rfl) rfl⟩
instance : EntersC Try.prog 17 := ⟨enters_of Try.func17 (by kernel_rfl) rfl⟩
instance : EntersC Try.prog 18 := ⟨enters_of Try.func18 (by kernel_rfl) rfl⟩
instance : EntersC Try.prog 19 := ⟨enters_of Try.func19 (by kernel_rfl) rfl⟩
instance : EntersC Try.prog 20 := ⟨enters_of Try.func20 (by kernel_rfl) rfl⟩
instance : EntersC Try.prog 21 := ⟨enters_of Try.func21 (by kernel_rfl) rfl⟩
instance : EntersC Try.prog 22 := ⟨enters_of Try.func22 (by kernel_rfl) rfl⟩
instance : EntersC Try.prog 23 := ⟨enters_of Try.func23 (by kernel_rfl) rfl⟩
instance : EntersC Try.prog 24 := ⟨enters_of Try.func24 (by kernel_rfl) rfl⟩
instance : EntersC Try.prog 25 := ⟨enters_of Try.func25 (by kernel_rfl) rfl⟩
instance : EntersC Try.prog 26 := ⟨enters_of Try.func26 (by kernel_rfl) rfl⟩
instance : EntersC Try.prog 27 := ⟨enters_of Try.func27 (by kernel_rfl) rfl⟩
instance : EntersC Try.prog 28 := ⟨enters_of Try.func28 (by kernel_rfl) rfl⟩
instance : EntersC Try.prog 29 := ⟨enters_of Try.func29 (by kernel_rfl) rfl⟩
instance : EntersC Try.prog 30 := ⟨enters_of Try.func30 (by kernel_rfl) rfl⟩
instance : EntersC Try.prog 31 := ⟨enters_of Try.func31 (by kernel_rfl) rfl⟩
instance : EntersC Try.prog 32 := ⟨enters_of Try.func32 (by kernel_rfl) rfl⟩
instance : EntersC Try.prog 33 := ⟨enters_of Try.func33 (by kernel_rfl) rfl⟩
instance : EntersC Try.prog 34 := ⟨enters_of Try.func34 (by kernel_rfl) rfl⟩
instance : EntersC Try.prog 35 := ⟨enters_of Try.func35 (by kernel_rfl) rfl⟩
instance : EntersC Try.prog 36 := ⟨enters_of Try.func36 (by kernel_rfl) rfl⟩
instance : EntersC Try.prog 37 := ⟨enters_of Try.func37 (by kernel_rfl) rfl⟩
instance : EntersC Try.prog 38 := ⟨enters_of Try.func38 (by kernel_rfl) rfl⟩
instance : EntersC Try.prog 39 := ⟨enters_of Try.func39 (by kernel_rfl) rfl⟩
instance : EntersC Try.prog 40 := ⟨enters_of Try.func40 (by kernel_rfl) rfl⟩
instance : EntersC Try.prog 41 := ⟨enters_of Try.func41 (by kernel_rfl) rfl⟩
instance : EntersC Try.prog 42 := ⟨enters_of Try.func42 (by kernel_rfl) rfl⟩
instance : EntersC Try.prog 43 := ⟨enters_of Try.func43 (by kernel_rfl) rfl⟩
instance : EntersC Try.prog 44 := ⟨enters_of Try.func44 (by kernel_rfl) rfl⟩
instance : EntersC Try.prog 45 := ⟨enters_of Try.func45 (by kernel_rfl) rfl⟩
instance : EntersC Try.prog 46 := ⟨enters_of Try.func46 (by kernel_rfl) rfl⟩
instance : EntersC Try.prog 47 := ⟨enters_of Try.func47 (by kernel_rfl) rfl⟩
instance : EntersC Try.prog 48 := ⟨enters_of Try.func48 (by kernel_rfl) rfl⟩
instance : EntersC Try.prog 49 := ⟨enters_of Try.func49 (by kernel_rfl) rfl⟩
instance : EntersC Try.prog 50 := ⟨enters_of Try.func50 (by kernel_rfl) rfl⟩
instance : EntersC Try.prog 51 := ⟨enters_of Try.func51 (by kernel_rfl) rfl⟩
instance : EntersC Try.prog 52 := ⟨enters_of Try.func52 (by kernel_rfl) rfl⟩
instance : EntersC Try.prog 53 := ⟨enters_of Try.func53 (by kernel_rfl) rfl⟩
instance : EntersC Try.prog 54 := ⟨enters_of Try.func54 (by kernel_rfl) rfl⟩
instance : EntersC Try.prog 55 := ⟨enters_of Try.func55 (by kernel_rfl) rfl⟩
instance : EntersC Try.prog 56 := ⟨enters_of Try.func56 (by kernel_rfl) rfl⟩
instance : EntersC Try.prog 57 := ⟨enters_of Try.func57 (by kernel_rfl) rfl⟩
instance : EntersC Try.prog 58 := ⟨enters_of Try.func58 (by kernel_rfl) rfl⟩
instance : EntersC Try.prog 59 := ⟨enters_of Try.func59 (by kernel_rfl) rfl⟩
instance : EntersC Try.prog 60 := ⟨enters_of Try.func60 (by kernel_rfl) rfl⟩
instance : EntersC Try.prog 61 := ⟨enters_of Try.func61 (by kernel_rfl) rfl⟩
instance : EntersC Try.prog 62 := ⟨enters_of Try.func62 (by kernel_rfl) rfl⟩
instance : EntersC Try.prog 63 := ⟨enters_of Try.func63 (by kernel_rfl) rfl⟩
instance : EntersC Try.prog 64 := ⟨enters_of Try.func64 (by kernel_rfl) rfl⟩
instance : EntersC Try.prog 65 := ⟨enters_of Try.func65 (by kernel_rfl) rfl⟩
instance : EntersC Try.prog 66 := ⟨enters_of Try.func66 (by kernel_rfl) rfl⟩
instance : EntersC Try.prog 67 := ⟨enters_of Try.func67 (by kernel_rfl) rfl⟩
instance : EntersC Try.prog 68 := ⟨enters_of Try.func68 (by kernel_rfl) rfl⟩
instance : EntersC Try.prog 69 := ⟨enters_of Try.func69 (by kernel_rfl) rfl⟩
instance : EntersC Try.prog 70 := ⟨enters_of Try.func70 (by kernel_rfl) rfl⟩
instance : EntersC Try.prog 71 := ⟨enters_of Try.func71 (by kernel_rfl) rfl⟩
instance : EntersC Try.prog 72 := ⟨enters_of Try.func72 (by kernel_rfl) rfl⟩
instance : EntersC Try.prog 73 := ⟨enters_of Try.func73 (by kernel_rfl) rfl⟩
instance : EntersC Try.prog 74 := ⟨enters_of Try.func74 (by kernel_rfl) rfl⟩
instance : EntersC Try.prog 75 := ⟨enters_of Try.func75 (by kernel_rfl) rfl⟩
instance : EntersC Try.prog 76 := ⟨enters_of Try.func76 (by kernel_rfl) rfl⟩
instance : EntersC Try.prog 77 := ⟨enters_of Try.func77 (by kernel_rfl) rfl⟩
instance : EntersC Try.prog 78 := ⟨enters_of Try.func78 (by kernel_rfl) rfl⟩
instance : EntersC Try.prog 79 := ⟨enters_of Try.func79 (by kernel_rfl) rfl⟩
instance : EntersC Try.prog 80 := ⟨enters_of Try.func80 (by kernel_rfl) rfl⟩
instance : EntersC Try.prog 81 := ⟨enters_of Try.func81 (by kernel_rfl) rfl⟩
instance : EntersC Try.prog 82 := ⟨enters_of Try.func82 (by kernel_rfl) rfl⟩
instance : EntersC Try.prog 83 := ⟨enters_of Try.func83 (by kernel_rfl) rfl⟩
instance : EntersC Try.prog 84 := ⟨enters_of Try.func84 (by kernel_rfl) rfl⟩
instance : EntersC Try.prog 85 := ⟨enters_of Try.func85 (by kernel_rfl) rfl⟩
instance : EntersC Try.prog 86 := ⟨enters_of Try.func86 (by kernel_rfl) rfl⟩
instance : EntersC Try.prog 87 := ⟨enters_of Try.func87 (by kernel_rfl) rfl⟩
instance : EntersC Try.prog 88 := ⟨enters_of Try.func88 (by kernel_rfl) rfl⟩
instance : EntersC Try.prog 89 := ⟨enters_of Try.func89 (by kernel_rfl) rfl⟩
instance : EntersC Try.prog 90 := ⟨enters_of Try.func90 (by kernel_rfl) rfl⟩
instance : EntersC Try.prog 91 := ⟨enters_of Try.func91 (by kernel_rfl) rfl⟩
instance : EntersC Try.prog 92 := ⟨enters_of Try.func92 (by kernel_rfl) rfl⟩
instance : EntersC Try.prog 93 := ⟨enters_of Try.func93 (by kernel_rfl) rfl⟩
instance : EntersC Try.prog 94 := ⟨enters_of Try.func94 (by kernel_rfl) rfl⟩
instance : EntersC Try.prog 95 := ⟨enters_of Try.func95 (by kernel_rfl) rfl⟩
instance : EntersC Try.prog 96 := ⟨enters_of Try.func96 (by kernel_rfl) rfl⟩
instance : EntersC Try.prog 97 := ⟨enters_of Try.func97 (by kernel_rfl) rfl⟩
instance : EntersC Try.prog 98 := ⟨enters_of Try.func98 (by kernel_rfl) rfl⟩
instance : EntersC Try.prog 99 := ⟨enters_of Try.func99 (by kernel_rfl) rfl⟩
instance : EntersC Try.prog 100 := ⟨enters_of Try.func100 (by kernel_rfl) rfl⟩
instance : EntersC Try.prog 101 := ⟨enters_of Try.func101 (by kernel_rfl) rfl⟩
instance : EntersC Try.prog 102 := ⟨enters_of Try.func102 (by kernel_rfl) rfl⟩
instance : EntersC Try.prog 103 := ⟨enters_of Try.func103 (by kernel_rfl) rfl⟩
instance : EntersC Try.prog 104 := ⟨enters_of Try.func104 (by kernel_rfl) rfl⟩
instance : EntersC Try.prog 105 := ⟨enters_of Try.func105 (by kernel_rfl) rfl⟩
instance : EntersC Try.prog 106 := ⟨enters_of Try.func106 (by kernel_rfl) rfl⟩
instance : EntersC Try.prog 107 := ⟨enters_of Try.func107 (by kernel_rfl) rfl⟩
instance : EntersC Try.prog 108 := ⟨enters_of Try.func108 (by kernel_rfl) rfl⟩
instance : EntersC Try.prog 109 := ⟨enters_of Try.func109 (by kernel_rfl) rfl⟩
instance : EntersC Try.prog 110 := ⟨enters_of Try.func110 (by kernel_rfl) rfl⟩
instance : EntersC Try.prog 111 := ⟨enters_of Try.func111 (by kernel_rfl) rfl⟩
instance : EntersC Try.prog 112 := ⟨enters_of Try.func112 (by kernel_rfl) rfl⟩
instance : EntersC Try.prog 113 := ⟨enters_of Try.func113 (by kernel_rfl) rfl⟩
instance : EntersC Try.prog 114 := ⟨enters_of Try.func114 (by kernel_rfl) rfl⟩
instance : EntersC Try.prog 115 := ⟨enters_of Try.func115 (by kernel_rfl) rfl⟩
instance : EntersC Try.prog 116 := ⟨enters_of Try.func116 (by kernel_rfl) rfl⟩
instance : EntersC Try.prog 117 := ⟨enters_of Try.func117 (by kernel_rfl) rfl⟩
instance : EntersC Try.prog 118 := ⟨enters_of Try.func118 (by kernel_rfl) rfl⟩
instance : EntersC Try.prog 119 := ⟨enters_of Try.func119 (by kernel_rfl) rfl⟩
instance : EntersC Try.prog 120 := ⟨enters_of Try.func120 (by kernel_rfl) rfl⟩
instance : EntersC Try.prog 121 := ⟨enters_of Try.func121 (by kernel_rfl) rfl⟩
instance : EntersC Try.prog 122 := ⟨enters_of Try.func122 (by kernel_rfl) rfl⟩
instance : EntersC Try.prog 123 := ⟨enters_of Try.func123 (by kernel_rfl) rfl⟩
instance : EntersC Try.prog 124 := ⟨enters_of Try.func124 (by kernel_rfl) rfl⟩
end Go.Tk
