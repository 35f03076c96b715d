/- The types of this translation: printed by a program of this work (gen_ty.py). -/
import Derived.Test.YtclmemhginekbaaDoorProg
import Derived.Test.YtclmemhginekbaaDoorTkH
import Derived.KernelRfl
import Derived.Shelf.Lay
set_option linter.unusedVariables false
namespace Go.Tk
open Go.Proofs
instance : IsScalar Tryd.prog 1 := ⟨_, Tryd.underlying1, rfl⟩
instance : Size1 Tryd.prog 1 := ⟨by kernel_rfl⟩
instance : ZeroV Tryd.prog 1 (.nilFunc) := ⟨by kernel_rfl⟩
instance : Zero Tryd.prog 1 [.nilFunc] := ⟨_, ZeroV.out (P := Tryd.prog) (T := 1), rfl⟩
instance : IsScalar Tryd.prog 2 := ⟨_, Tryd.underlying2, rfl⟩
instance : Size1 Tryd.prog 2 := ⟨by kernel_rfl⟩
instance : KeyTy Tryd.prog 2 (fun n : Int => Value.int .i64 n) := KeyTy.int Tryd.underlying2
instance : ZeroV Tryd.prog 2 (.int .i64 0) := ⟨by kernel_rfl⟩
instance : Zero Tryd.prog 2 [.int .i64 0] := ⟨_, ZeroV.out (P := Tryd.prog) (T := 2), rfl⟩
instance : IsScalar Tryd.prog 3 := ⟨_, Tryd.underlying3, rfl⟩
instance : Size1 Tryd.prog 3 := ⟨by kernel_rfl⟩
instance : KeyTy Tryd.prog 3 (fun n : Int => Value.int .i64 n) := KeyTy.int Tryd.underlying3
instance : ZeroV Tryd.prog 3 (.int .i64 0) := ⟨by kernel_rfl⟩
instance : Zero Tryd.prog 3 [.int .i64 0] := ⟨_, ZeroV.out (P := Tryd.prog) (T := 3), rfl⟩
instance : ElTy Tryd.prog 3 1 8 := ElTy.of (z := (.int .i64 0)) (by kernel_rfl) rfl
instance : IsScalar Tryd.prog 4 := ⟨_, Tryd.underlying4, rfl⟩
instance : Size1 Tryd.prog 4 := ⟨by kernel_rfl⟩
instance : ZeroV Tryd.prog 4 (.bool false) := ⟨by kernel_rfl⟩
instance : Zero Tryd.prog 4 [.bool false] := ⟨_, ZeroV.out (P := Tryd.prog) (T := 4), rfl⟩
instance : IsScalar Tryd.prog 5 := ⟨_, Tryd.underlying5, rfl⟩
instance : Size1 Tryd.prog 5 := ⟨by kernel_rfl⟩
instance : KeyTy Tryd.prog 5 (fun n : Int => Value.int .u8 n) := KeyTy.int Tryd.underlying5
instance : ZeroV Tryd.prog 5 (.int .u8 0) := ⟨by kernel_rfl⟩
instance : Zero Tryd.prog 5 [.int .u8 0] := ⟨_, ZeroV.out (P := Tryd.prog) (T := 5), rfl⟩
instance : ElTy Tryd.prog 5 1 1 := ElTy.of (z := (.int .u8 0)) (by kernel_rfl) rfl
instance : IsScalar Tryd.prog 6 := ⟨_, Tryd.underlying6, rfl⟩
instance : Size1 Tryd.prog 6 := ⟨by kernel_rfl⟩
instance : KeyTy Tryd.prog 6 (fun n : Int => Value.int .u8 n) := KeyTy.int Tryd.underlying6
instance : ZeroV Tryd.prog 6 (.int .u8 0) := ⟨by kernel_rfl⟩
instance : Zero Tryd.prog 6 [.int .u8 0] := ⟨_, ZeroV.out (P := Tryd.prog) (T := 6), rfl⟩
instance : IsRow Tryd.prog 7 4 := ⟨⟨_, Tryd.underlying7, rfl⟩, by kernel_rfl⟩
instance : StructTy Tryd.prog 7 [.int .i64 0, .int .i64 0, .bool false, .int .u8 0] [(0, 1), (1, 1), (2, 1), (3, 1)] := ⟨fun parts => by kernel_rfl⟩
instance : ZeroV Tryd.prog 7 (.agg #[.int .i64 0, .int .i64 0, .bool false, .int .u8 0]) := ⟨by kernel_rfl⟩
instance : Zero Tryd.prog 7 [.int .i64 0, .int .i64 0, .bool false, .int .u8 0] := ⟨_, ZeroV.out (P := Tryd.prog) (T := 7), rfl⟩
instance : Fld Tryd.prog 7 0 0 2 := ⟨_, _, Tryd.underlying7, rfl, rfl, rfl⟩
instance : Fld Tryd.prog 7 1 1 3 := ⟨_, _, Tryd.underlying7, rfl, rfl, rfl⟩
instance : Fld Tryd.prog 7 2 2 4 := ⟨_, _, Tryd.underlying7, rfl, rfl, rfl⟩
instance : Fld Tryd.prog 7 3 3 6 := ⟨_, _, Tryd.underlying7, rfl, rfl, rfl⟩
instance : IsRow Tryd.prog 8 4 := ⟨⟨_, Tryd.underlying8, rfl⟩, by kernel_rfl⟩
instance : StructTy Tryd.prog 8 [.int .i64 0, .int .i64 0, .bool false, .int .u8 0] [(0, 1), (1, 1), (2, 1), (3, 1)] := ⟨fun parts => by kernel_rfl⟩
instance : ZeroV Tryd.prog 8 (.agg #[.int .i64 0, .int .i64 0, .bool false, .int .u8 0]) := ⟨by kernel_rfl⟩
instance : Zero Tryd.prog 8 [.int .i64 0, .int .i64 0, .bool false, .int .u8 0] := ⟨_, ZeroV.out (P := Tryd.prog) (T := 8), rfl⟩
instance : Fld Tryd.prog 8 0 0 2 := ⟨_, _, Tryd.underlying8, rfl, rfl, rfl⟩
instance : Fld Tryd.prog 8 1 1 3 := ⟨_, _, Tryd.underlying8, rfl, rfl, rfl⟩
instance : Fld Tryd.prog 8 2 2 4 := ⟨_, _, Tryd.underlying8, rfl, rfl, rfl⟩
instance : Fld Tryd.prog 8 3 3 6 := ⟨_, _, Tryd.underlying8, rfl, rfl, rfl⟩
instance : IsScalar Tryd.prog 9 := ⟨_, Tryd.underlying9, rfl⟩
instance : Size1 Tryd.prog 9 := ⟨by kernel_rfl⟩
instance : KeyTy Tryd.prog 9 (fun s : ByteArray => Value.string s) := KeyTy.str Tryd.underlying9
instance : ZeroV Tryd.prog 9 (.string ⟨#[]⟩) := ⟨by kernel_rfl⟩
instance : Zero Tryd.prog 9 [.string ⟨#[]⟩] := ⟨_, ZeroV.out (P := Tryd.prog) (T := 9), rfl⟩
instance : ElTy Tryd.prog 9 1 16 := ElTy.of (z := (.string ⟨#[]⟩)) (by kernel_rfl) rfl
instance : IsScalar Tryd.prog 10 := ⟨_, Tryd.underlying10, rfl⟩
instance : Size1 Tryd.prog 10 := ⟨by kernel_rfl⟩
instance : KeyTy Tryd.prog 10 (fun s : ByteArray => Value.string s) := KeyTy.str Tryd.underlying10
instance : ZeroV Tryd.prog 10 (.string ⟨#[]⟩) := ⟨by kernel_rfl⟩
instance : Zero Tryd.prog 10 [.string ⟨#[]⟩] := ⟨_, ZeroV.out (P := Tryd.prog) (T := 10), rfl⟩
instance : IsScalar Tryd.prog 11 := ⟨_, Tryd.underlying11, rfl⟩
instance : Size1 Tryd.prog 11 := ⟨by kernel_rfl⟩
instance : KeyTy Tryd.prog 11 (fun s : ByteArray => Value.string s) := KeyTy.str Tryd.underlying11
instance : ZeroV Tryd.prog 11 (.string ⟨#[]⟩) := ⟨by kernel_rfl⟩
instance : Zero Tryd.prog 11 [.string ⟨#[]⟩] := ⟨_, ZeroV.out (P := Tryd.prog) (T := 11), rfl⟩
instance : IsScalar Tryd.prog 12 := ⟨_, Tryd.underlying12, rfl⟩
instance : Size1 Tryd.prog 12 := ⟨by kernel_rfl⟩
instance : KeyTy Tryd.prog 12 (fun n : Int => Value.int .u64 n) := KeyTy.int Tryd.underlying12
instance : ZeroV Tryd.prog 12 (.int .u64 0) := ⟨by kernel_rfl⟩
instance : Zero Tryd.prog 12 [.int .u64 0] := ⟨_, ZeroV.out (P := Tryd.prog) (T := 12), rfl⟩
instance : IsRow Tryd.prog 13 2 := ⟨⟨_, Tryd.underlying13, rfl⟩, by kernel_rfl⟩
instance : StructTy Tryd.prog 13 [.string ⟨#[]⟩, .int .u64 0] [(0, 1), (1, 1)] := ⟨fun parts => by kernel_rfl⟩
instance : ZeroV Tryd.prog 13 (.agg #[.string ⟨#[]⟩, .int .u64 0]) := ⟨by kernel_rfl⟩
instance : Zero Tryd.prog 13 [.string ⟨#[]⟩, .int .u64 0] := ⟨_, ZeroV.out (P := Tryd.prog) (T := 13), rfl⟩
instance : Fld Tryd.prog 13 0 0 9 := ⟨_, _, Tryd.underlying13, rfl, rfl, rfl⟩
instance : Fld Tryd.prog 13 1 1 12 := ⟨_, _, Tryd.underlying13, rfl, rfl, rfl⟩
instance : IsRow Tryd.prog 14 2 := ⟨⟨_, Tryd.underlying14, rfl⟩, by kernel_rfl⟩
instance : StructTy Tryd.prog 14 [.string ⟨#[]⟩, .int .u64 0] [(0, 1), (1, 1)] := ⟨fun parts => by kernel_rfl⟩
instance : ZeroV Tryd.prog 14 (.agg #[.string ⟨#[]⟩, .int .u64 0]) := ⟨by kernel_rfl⟩
instance : Zero Tryd.prog 14 [.string ⟨#[]⟩, .int .u64 0] := ⟨_, ZeroV.out (P := Tryd.prog) (T := 14), rfl⟩
instance : Fld Tryd.prog 14 0 0 9 := ⟨_, _, Tryd.underlying14, rfl, rfl, rfl⟩
instance : Fld Tryd.prog 14 1 1 12 := ⟨_, _, Tryd.underlying14, rfl, rfl, rfl⟩
instance : IsScalar Tryd.prog 15 := ⟨_, Tryd.underlying15, rfl⟩
instance : Size1 Tryd.prog 15 := ⟨by kernel_rfl⟩
instance : ZeroV Tryd.prog 15 (.pointer none) := ⟨by kernel_rfl⟩
instance : Zero Tryd.prog 15 [.pointer none] := ⟨_, ZeroV.out (P := Tryd.prog) (T := 15), rfl⟩
instance : IsScalar Tryd.prog 16 := ⟨_, Tryd.underlying16, rfl⟩
instance : Size1 Tryd.prog 16 := ⟨by kernel_rfl⟩
instance : ZeroV Tryd.prog 16 (.pointer none) := ⟨by kernel_rfl⟩
instance : Zero Tryd.prog 16 [.pointer none] := ⟨_, ZeroV.out (P := Tryd.prog) (T := 16), rfl⟩
instance : IsScalar Tryd.prog 17 := ⟨_, Tryd.underlying17, rfl⟩
instance : Size1 Tryd.prog 17 := ⟨by kernel_rfl⟩
instance : ZeroV Tryd.prog 17 (.pointer none) := ⟨by kernel_rfl⟩
instance : Zero Tryd.prog 17 [.pointer none] := ⟨_, ZeroV.out (P := Tryd.prog) (T := 17), rfl⟩
instance : IsRow Tryd.prog 18 1 := ⟨⟨_, Tryd.underlying18, rfl⟩, by kernel_rfl⟩
instance : StructTy Tryd.prog 18 [.pointer none] [(0, 1)] := ⟨fun parts => by kernel_rfl⟩
instance : ZeroV Tryd.prog 18 (.agg #[.pointer none]) := ⟨by kernel_rfl⟩
instance : Zero Tryd.prog 18 [.pointer none] := ⟨_, ZeroV.out (P := Tryd.prog) (T := 18), rfl⟩
instance : Fld Tryd.prog 18 0 0 17 := ⟨_, _, Tryd.underlying18, rfl, rfl, rfl⟩
instance : IsRow Tryd.prog 19 1 := ⟨⟨_, Tryd.underlying19, rfl⟩, by kernel_rfl⟩
instance : StructTy Tryd.prog 19 [.pointer none] [(0, 1)] := ⟨fun parts => by kernel_rfl⟩
instance : ZeroV Tryd.prog 19 (.agg #[.pointer none]) := ⟨by kernel_rfl⟩
instance : Zero Tryd.prog 19 [.pointer none] := ⟨_, ZeroV.out (P := Tryd.prog) (T := 19), rfl⟩
instance : Fld Tryd.prog 19 0 0 17 := ⟨_, _, Tryd.underlying19, rfl, rfl, rfl⟩
instance : IsScalar Tryd.prog 20 := ⟨_, Tryd.underlying20, rfl⟩
instance : Size1 Tryd.prog 20 := ⟨by kernel_rfl⟩
instance : ZeroV Tryd.prog 20 (.nilIface) := ⟨by kernel_rfl⟩
instance : Zero Tryd.prog 20 [.nilIface] := ⟨_, ZeroV.out (P := Tryd.prog) (T := 20), rfl⟩
instance : IsScalar Tryd.prog 21 := ⟨_, Tryd.underlying21, rfl⟩
instance : Size1 Tryd.prog 21 := ⟨by kernel_rfl⟩
instance : KeyTy Tryd.prog 21 (fun n : Int => Value.int .i32 n) := KeyTy.int Tryd.underlying21
instance : ZeroV Tryd.prog 21 (.int .i32 0) := ⟨by kernel_rfl⟩
instance : Zero Tryd.prog 21 [.int .i32 0] := ⟨_, ZeroV.out (P := Tryd.prog) (T := 21), rfl⟩
instance : IsScalar Tryd.prog 22 := ⟨_, Tryd.underlying22, rfl⟩
instance : Size1 Tryd.prog 22 := ⟨by kernel_rfl⟩
instance : SlTy Tryd.prog 22 37 3 := ⟨Tryd.underlying22, by kernel_rfl⟩
instance : ZeroV Tryd.prog 22 (.slice none 0 0) := ⟨by kernel_rfl⟩
instance : Zero Tryd.prog 22 [.slice none 0 0] := ⟨_, ZeroV.out (P := Tryd.prog) (T := 22), rfl⟩
instance : IsScalar Tryd.prog 23 := ⟨_, Tryd.underlying23, rfl⟩
instance : Size1 Tryd.prog 23 := ⟨by kernel_rfl⟩
instance : KeyTy Tryd.prog 23 (fun n : Int => Value.int .i64 n) := KeyTy.int Tryd.underlying23
instance : ZeroV Tryd.prog 23 (.int .i64 0) := ⟨by kernel_rfl⟩
instance : Zero Tryd.prog 23 [.int .i64 0] := ⟨_, ZeroV.out (P := Tryd.prog) (T := 23), rfl⟩
instance : ElTy Tryd.prog 23 1 8 := ElTy.of (z := (.int .i64 0)) (by kernel_rfl) rfl
instance : IsScalar Tryd.prog 25 := ⟨_, Tryd.underlying25, rfl⟩
instance : Size1 Tryd.prog 25 := ⟨by kernel_rfl⟩
instance : ZeroV Tryd.prog 25 (.nilFunc) := ⟨by kernel_rfl⟩
instance : Zero Tryd.prog 25 [.nilFunc] := ⟨_, ZeroV.out (P := Tryd.prog) (T := 25), rfl⟩
instance : IsScalar Tryd.prog 27 := ⟨_, Tryd.underlying27, rfl⟩
instance : Size1 Tryd.prog 27 := ⟨by kernel_rfl⟩
instance : ZeroV Tryd.prog 27 (.nilFunc) := ⟨by kernel_rfl⟩
instance : Zero Tryd.prog 27 [.nilFunc] := ⟨_, ZeroV.out (P := Tryd.prog) (T := 27), rfl⟩
instance : IsScalar Tryd.prog 28 := ⟨_, Tryd.underlying28, rfl⟩
instance : Size1 Tryd.prog 28 := ⟨by kernel_rfl⟩
instance : ZeroV Tryd.prog 28 (.nilFunc) := ⟨by kernel_rfl⟩
instance : Zero Tryd.prog 28 [.nilFunc] := ⟨_, ZeroV.out (P := Tryd.prog) (T := 28), rfl⟩
instance : IsScalar Tryd.prog 29 := ⟨_, Tryd.underlying29, rfl⟩
instance : Size1 Tryd.prog 29 := ⟨by kernel_rfl⟩
instance : ZeroV Tryd.prog 29 (.nilFunc) := ⟨by kernel_rfl⟩
instance : Zero Tryd.prog 29 [.nilFunc] := ⟨_, ZeroV.out (P := Tryd.prog) (T := 29), rfl⟩
instance : IsScalar Tryd.prog 31 := ⟨_, Tryd.underlying31, rfl⟩
instance : Size1 Tryd.prog 31 := ⟨by kernel_rfl⟩
instance : ZeroV Tryd.prog 31 (.nilFunc) := ⟨by kernel_rfl⟩
instance : Zero Tryd.prog 31 [.nilFunc] := ⟨_, ZeroV.out (P := Tryd.prog) (T := 31), rfl⟩
instance : IsScalar Tryd.prog 33 := ⟨_, Tryd.underlying33, rfl⟩
instance : Size1 Tryd.prog 33 := ⟨by kernel_rfl⟩
instance : ZeroV Tryd.prog 33 (.nilFunc) := ⟨by kernel_rfl⟩
instance : Zero Tryd.prog 33 [.nilFunc] := ⟨_, ZeroV.out (P := Tryd.prog) (T := 33), rfl⟩
instance : IsScalar Tryd.prog 34 := ⟨_, Tryd.underlying34, rfl⟩
instance : Size1 Tryd.prog 34 := ⟨by kernel_rfl⟩
instance : ZeroV Tryd.prog 34 (.nilFunc) := ⟨by kernel_rfl⟩
instance : Zero Tryd.prog 34 [.nilFunc] := ⟨_, ZeroV.out (P := Tryd.prog) (T := 34), rfl⟩
instance : IsScalar Tryd.prog 35 := ⟨_, Tryd.underlying35, rfl⟩
instance : Size1 Tryd.prog 35 := ⟨by kernel_rfl⟩
instance : SlTy Tryd.prog 35 3 1 := ⟨Tryd.underlying35, by kernel_rfl⟩
instance : ZeroV Tryd.prog 35 (.slice none 0 0) := ⟨by kernel_rfl⟩
instance : Zero Tryd.prog 35 [.slice none 0 0] := ⟨_, ZeroV.out (P := Tryd.prog) (T := 35), rfl⟩
instance : IsRow Tryd.prog 36 3 := ⟨⟨_, Tryd.underlying36, rfl⟩, by kernel_rfl⟩
instance : StructTy Tryd.prog 36 [.string ⟨#[]⟩, .int .i64 0, .string ⟨#[]⟩] [(0, 1), (1, 1), (2, 1)] := ⟨fun parts => by kernel_rfl⟩
instance : ZeroV Tryd.prog 36 (.agg #[.string ⟨#[]⟩, .int .i64 0, .string ⟨#[]⟩]) := ⟨by kernel_rfl⟩
instance : Zero Tryd.prog 36 [.string ⟨#[]⟩, .int .i64 0, .string ⟨#[]⟩] := ⟨_, ZeroV.out (P := Tryd.prog) (T := 36), rfl⟩
instance : Fld Tryd.prog 36 0 0 9 := ⟨_, _, Tryd.underlying36, rfl, rfl, rfl⟩
instance : Fld Tryd.prog 36 1 1 3 := ⟨_, _, Tryd.underlying36, rfl, rfl, rfl⟩
instance : Fld Tryd.prog 36 2 2 9 := ⟨_, _, Tryd.underlying36, rfl, rfl, rfl⟩
instance : IsRow Tryd.prog 37 3 := ⟨⟨_, Tryd.underlying37, rfl⟩, by kernel_rfl⟩
instance : StructTy Tryd.prog 37 [.string ⟨#[]⟩, .int .i64 0, .string ⟨#[]⟩] [(0, 1), (1, 1), (2, 1)] := ⟨fun parts => by kernel_rfl⟩
instance : ZeroV Tryd.prog 37 (.agg #[.string ⟨#[]⟩, .int .i64 0, .string ⟨#[]⟩]) := ⟨by kernel_rfl⟩
instance : Zero Tryd.prog 37 [.string ⟨#[]⟩, .int .i64 0, .string ⟨#[]⟩] := ⟨_, ZeroV.out (P := Tryd.prog) (T := 37), rfl⟩
instance : ElTy Tryd.prog 37 3 40 := ElTy.of (z := (.agg #[.string ⟨#[]⟩, .int .i64 0, .string ⟨#[]⟩])) (by kernel_rfl) rfl
instance : Fld Tryd.prog 37 0 0 9 := ⟨_, _, Tryd.underlying37, rfl, rfl, rfl⟩
instance : Fld Tryd.prog 37 1 1 3 := ⟨_, _, Tryd.underlying37, rfl, rfl, rfl⟩
instance : Fld Tryd.prog 37 2 2 9 := ⟨_, _, Tryd.underlying37, rfl, rfl, rfl⟩
instance : IsScalar Tryd.prog 38 := ⟨_, Tryd.underlying38, rfl⟩
instance : Size1 Tryd.prog 38 := ⟨by kernel_rfl⟩
instance : ZeroV Tryd.prog 38 (.nilFunc) := ⟨by kernel_rfl⟩
instance : Zero Tryd.prog 38 [.nilFunc] := ⟨_, ZeroV.out (P := Tryd.prog) (T := 38), rfl⟩
instance : IsScalar Tryd.prog 39 := ⟨_, Tryd.underlying39, rfl⟩
instance : Size1 Tryd.prog 39 := ⟨by kernel_rfl⟩
instance : SlTy Tryd.prog 39 73 7 := ⟨Tryd.underlying39, by kernel_rfl⟩
instance : ZeroV Tryd.prog 39 (.slice none 0 0) := ⟨by kernel_rfl⟩
instance : Zero Tryd.prog 39 [.slice none 0 0] := ⟨_, ZeroV.out (P := Tryd.prog) (T := 39), rfl⟩
instance : IsScalar Tryd.prog 41 := ⟨_, Tryd.underlying41, rfl⟩
instance : Size1 Tryd.prog 41 := ⟨by kernel_rfl⟩
instance : ZeroV Tryd.prog 41 (.nilFunc) := ⟨by kernel_rfl⟩
instance : Zero Tryd.prog 41 [.nilFunc] := ⟨_, ZeroV.out (P := Tryd.prog) (T := 41), rfl⟩
instance : IsScalar Tryd.prog 43 := ⟨_, Tryd.underlying43, rfl⟩
instance : Size1 Tryd.prog 43 := ⟨by kernel_rfl⟩
instance : ZeroV Tryd.prog 43 (.nilFunc) := ⟨by kernel_rfl⟩
instance : Zero Tryd.prog 43 [.nilFunc] := ⟨_, ZeroV.out (P := Tryd.prog) (T := 43), rfl⟩
instance : IsScalar Tryd.prog 44 := ⟨_, Tryd.underlying44, rfl⟩
instance : Size1 Tryd.prog 44 := ⟨by kernel_rfl⟩
instance : ZeroV Tryd.prog 44 (.nilFunc) := ⟨by kernel_rfl⟩
instance : Zero Tryd.prog 44 [.nilFunc] := ⟨_, ZeroV.out (P := Tryd.prog) (T := 44), rfl⟩
instance : IsScalar Tryd.prog 45 := ⟨_, Tryd.underlying45, rfl⟩
instance : Size1 Tryd.prog 45 := ⟨by kernel_rfl⟩
instance : ZeroV Tryd.prog 45 (.nilFunc) := ⟨by kernel_rfl⟩
instance : Zero Tryd.prog 45 [.nilFunc] := ⟨_, ZeroV.out (P := Tryd.prog) (T := 45), rfl⟩
instance : IsScalar Tryd.prog 46 := ⟨_, Tryd.underlying46, rfl⟩
instance : Size1 Tryd.prog 46 := ⟨by kernel_rfl⟩
instance : ZeroV Tryd.prog 46 (.nilFunc) := ⟨by kernel_rfl⟩
instance : Zero Tryd.prog 46 [.nilFunc] := ⟨_, ZeroV.out (P := Tryd.prog) (T := 46), rfl⟩
instance : IsScalar Tryd.prog 47 := ⟨_, Tryd.underlying47, rfl⟩
instance : Size1 Tryd.prog 47 := ⟨by kernel_rfl⟩
instance : ZeroV Tryd.prog 47 (.nilFunc) := ⟨by kernel_rfl⟩
instance : Zero Tryd.prog 47 [.nilFunc] := ⟨_, ZeroV.out (P := Tryd.prog) (T := 47), rfl⟩
instance : IsScalar Tryd.prog 48 := ⟨_, Tryd.underlying48, rfl⟩
instance : Size1 Tryd.prog 48 := ⟨by kernel_rfl⟩
instance : ZeroV Tryd.prog 48 (.nilFunc) := ⟨by kernel_rfl⟩
instance : Zero Tryd.prog 48 [.nilFunc] := ⟨_, ZeroV.out (P := Tryd.prog) (T := 48), rfl⟩
instance : IsScalar Tryd.prog 49 := ⟨_, Tryd.underlying49, rfl⟩
instance : Size1 Tryd.prog 49 := ⟨by kernel_rfl⟩
instance : ZeroV Tryd.prog 49 (.nilFunc) := ⟨by kernel_rfl⟩
instance : Zero Tryd.prog 49 [.nilFunc] := ⟨_, ZeroV.out (P := Tryd.prog) (T := 49), rfl⟩
instance : IsScalar Tryd.prog 50 := ⟨_, Tryd.underlying50, rfl⟩
instance : Size1 Tryd.prog 50 := ⟨by kernel_rfl⟩
instance : ZeroV Tryd.prog 50 (.nilFunc) := ⟨by kernel_rfl⟩
instance : Zero Tryd.prog 50 [.nilFunc] := ⟨_, ZeroV.out (P := Tryd.prog) (T := 50), rfl⟩
instance : IsScalar Tryd.prog 51 := ⟨_, Tryd.underlying51, rfl⟩
instance : Size1 Tryd.prog 51 := ⟨by kernel_rfl⟩
instance : ZeroV Tryd.prog 51 (.nilFunc) := ⟨by kernel_rfl⟩
instance : Zero Tryd.prog 51 [.nilFunc] := ⟨_, ZeroV.out (P := Tryd.prog) (T := 51), rfl⟩
instance : IsScalar Tryd.prog 52 := ⟨_, Tryd.underlying52, rfl⟩
instance : Size1 Tryd.prog 52 := ⟨by kernel_rfl⟩
instance : ZeroV Tryd.prog 52 (.nilFunc) := ⟨by kernel_rfl⟩
instance : Zero Tryd.prog 52 [.nilFunc] := ⟨_, ZeroV.out (P := Tryd.prog) (T := 52), rfl⟩
instance : IsScalar Tryd.prog 53 := ⟨_, Tryd.underlying53, rfl⟩
instance : Size1 Tryd.prog 53 := ⟨by kernel_rfl⟩
instance : ZeroV Tryd.prog 53 (.nilFunc) := ⟨by kernel_rfl⟩
instance : Zero Tryd.prog 53 [.nilFunc] := ⟨_, ZeroV.out (P := Tryd.prog) (T := 53), rfl⟩
instance : IsRow Tryd.prog 54 6 := ⟨⟨_, Tryd.underlying54, rfl⟩, by kernel_rfl⟩
instance : StructTy Tryd.prog 54 [.slice none 0 0, .string ⟨#[]⟩, .int .i64 0, .string ⟨#[]⟩, .string ⟨#[]⟩, .string ⟨#[]⟩] [(0, 1), (1, 3), (4, 1), (5, 1)] := ⟨fun parts => by kernel_rfl⟩
instance : ZeroV Tryd.prog 54 (.agg #[.slice none 0 0, .string ⟨#[]⟩, .int .i64 0, .string ⟨#[]⟩, .string ⟨#[]⟩, .string ⟨#[]⟩]) := ⟨by kernel_rfl⟩
instance : Zero Tryd.prog 54 [.slice none 0 0, .string ⟨#[]⟩, .int .i64 0, .string ⟨#[]⟩, .string ⟨#[]⟩, .string ⟨#[]⟩] := ⟨_, ZeroV.out (P := Tryd.prog) (T := 54), rfl⟩
instance : Fld Tryd.prog 54 0 0 22 := ⟨_, _, Tryd.underlying54, rfl, rfl, rfl⟩
instance : Fld Tryd.prog 54 1 1 37 := ⟨_, _, Tryd.underlying54, rfl, rfl, rfl⟩
instance : Fld Tryd.prog 54 2 4 9 := ⟨_, _, Tryd.underlying54, rfl, rfl, rfl⟩
instance : Fld Tryd.prog 54 3 5 9 := ⟨_, _, Tryd.underlying54, rfl, rfl, rfl⟩
instance : IsRow Tryd.prog 55 6 := ⟨⟨_, Tryd.underlying55, rfl⟩, by kernel_rfl⟩
instance : StructTy Tryd.prog 55 [.slice none 0 0, .string ⟨#[]⟩, .int .i64 0, .string ⟨#[]⟩, .string ⟨#[]⟩, .string ⟨#[]⟩] [(0, 1), (1, 3), (4, 1), (5, 1)] := ⟨fun parts => by kernel_rfl⟩
instance : ZeroV Tryd.prog 55 (.agg #[.slice none 0 0, .string ⟨#[]⟩, .int .i64 0, .string ⟨#[]⟩, .string ⟨#[]⟩, .string ⟨#[]⟩]) := ⟨by kernel_rfl⟩
instance : Zero Tryd.prog 55 [.slice none 0 0, .string ⟨#[]⟩, .int .i64 0, .string ⟨#[]⟩, .string ⟨#[]⟩, .string ⟨#[]⟩] := ⟨_, ZeroV.out (P := Tryd.prog) (T := 55), rfl⟩
instance : Fld Tryd.prog 55 0 0 22 := ⟨_, _, Tryd.underlying55, rfl, rfl, rfl⟩
instance : Fld Tryd.prog 55 1 1 37 := ⟨_, _, Tryd.underlying55, rfl, rfl, rfl⟩
instance : Fld Tryd.prog 55 2 4 9 := ⟨_, _, Tryd.underlying55, rfl, rfl, rfl⟩
instance : Fld Tryd.prog 55 3 5 9 := ⟨_, _, Tryd.underlying55, rfl, rfl, rfl⟩
instance : IsScalar Tryd.prog 56 := ⟨_, Tryd.underlying56, rfl⟩
instance : Size1 Tryd.prog 56 := ⟨by kernel_rfl⟩
instance : ZeroV Tryd.prog 56 (.nilFunc) := ⟨by kernel_rfl⟩
instance : Zero Tryd.prog 56 [.nilFunc] := ⟨_, ZeroV.out (P := Tryd.prog) (T := 56), rfl⟩
instance : IsScalar Tryd.prog 58 := ⟨_, Tryd.underlying58, rfl⟩
instance : Size1 Tryd.prog 58 := ⟨by kernel_rfl⟩
instance : ZeroV Tryd.prog 58 (.nilFunc) := ⟨by kernel_rfl⟩
instance : Zero Tryd.prog 58 [.nilFunc] := ⟨_, ZeroV.out (P := Tryd.prog) (T := 58), rfl⟩
instance : IsScalar Tryd.prog 59 := ⟨_, Tryd.underlying59, rfl⟩
instance : Size1 Tryd.prog 59 := ⟨by kernel_rfl⟩
instance : ZeroV Tryd.prog 59 (.nilFunc) := ⟨by kernel_rfl⟩
instance : Zero Tryd.prog 59 [.nilFunc] := ⟨_, ZeroV.out (P := Tryd.prog) (T := 59), rfl⟩
instance : IsScalar Tryd.prog 60 := ⟨_, Tryd.underlying60, rfl⟩
instance : Size1 Tryd.prog 60 := ⟨by kernel_rfl⟩
instance : ZeroV Tryd.prog 60 (.nilFunc) := ⟨by kernel_rfl⟩
instance : Zero Tryd.prog 60 [.nilFunc] := ⟨_, ZeroV.out (P := Tryd.prog) (T := 60), rfl⟩
instance : IsScalar Tryd.prog 61 := ⟨_, Tryd.underlying61, rfl⟩
instance : Size1 Tryd.prog 61 := ⟨by kernel_rfl⟩
instance : ZeroV Tryd.prog 61 (.nilFunc) := ⟨by kernel_rfl⟩
instance : Zero Tryd.prog 61 [.nilFunc] := ⟨_, ZeroV.out (P := Tryd.prog) (T := 61), rfl⟩
instance : IsScalar Tryd.prog 62 := ⟨_, Tryd.underlying62, rfl⟩
instance : Size1 Tryd.prog 62 := ⟨by kernel_rfl⟩
instance : ZeroV Tryd.prog 62 (.nilFunc) := ⟨by kernel_rfl⟩
instance : Zero Tryd.prog 62 [.nilFunc] := ⟨_, ZeroV.out (P := Tryd.prog) (T := 62), rfl⟩
instance : IsScalar Tryd.prog 63 := ⟨_, Tryd.underlying63, rfl⟩
instance : Size1 Tryd.prog 63 := ⟨by kernel_rfl⟩
instance : MapTy Tryd.prog 63 9 3 := ⟨Tryd.underlying63⟩
instance : ZeroV Tryd.prog 63 (.map none) := ⟨by kernel_rfl⟩
instance : Zero Tryd.prog 63 [.map none] := ⟨_, ZeroV.out (P := Tryd.prog) (T := 63), rfl⟩
instance : IsScalar Tryd.prog 64 := ⟨_, Tryd.underlying64, rfl⟩
instance : Size1 Tryd.prog 64 := ⟨by kernel_rfl⟩
instance : ZeroV Tryd.prog 64 (.nilFunc) := ⟨by kernel_rfl⟩
instance : Zero Tryd.prog 64 [.nilFunc] := ⟨_, ZeroV.out (P := Tryd.prog) (T := 64), rfl⟩
instance : IsScalar Tryd.prog 65 := ⟨_, Tryd.underlying65, rfl⟩
instance : Size1 Tryd.prog 65 := ⟨by kernel_rfl⟩
instance : ZeroV Tryd.prog 65 (.nilFunc) := ⟨by kernel_rfl⟩
instance : Zero Tryd.prog 65 [.nilFunc] := ⟨_, ZeroV.out (P := Tryd.prog) (T := 65), rfl⟩
instance : IsScalar Tryd.prog 66 := ⟨_, Tryd.underlying66, rfl⟩
instance : Size1 Tryd.prog 66 := ⟨by kernel_rfl⟩
instance : ZeroV Tryd.prog 66 (.nilFunc) := ⟨by kernel_rfl⟩
instance : Zero Tryd.prog 66 [.nilFunc] := ⟨_, ZeroV.out (P := Tryd.prog) (T := 66), rfl⟩
instance : IsScalar Tryd.prog 67 := ⟨_, Tryd.underlying67, rfl⟩
instance : Size1 Tryd.prog 67 := ⟨by kernel_rfl⟩
instance : ZeroV Tryd.prog 67 (.nilFunc) := ⟨by kernel_rfl⟩
instance : Zero Tryd.prog 67 [.nilFunc] := ⟨_, ZeroV.out (P := Tryd.prog) (T := 67), rfl⟩
instance : IsScalar Tryd.prog 68 := ⟨_, Tryd.underlying68, rfl⟩
instance : Size1 Tryd.prog 68 := ⟨by kernel_rfl⟩
instance : ZeroV Tryd.prog 68 (.nilFunc) := ⟨by kernel_rfl⟩
instance : Zero Tryd.prog 68 [.nilFunc] := ⟨_, ZeroV.out (P := Tryd.prog) (T := 68), rfl⟩
instance : IsScalar Tryd.prog 69 := ⟨_, Tryd.underlying69, rfl⟩
instance : Size1 Tryd.prog 69 := ⟨by kernel_rfl⟩
instance : ZeroV Tryd.prog 69 (.nilFunc) := ⟨by kernel_rfl⟩
instance : Zero Tryd.prog 69 [.nilFunc] := ⟨_, ZeroV.out (P := Tryd.prog) (T := 69), rfl⟩
instance : IsScalar Tryd.prog 70 := ⟨_, Tryd.underlying70, rfl⟩
instance : Size1 Tryd.prog 70 := ⟨by kernel_rfl⟩
instance : ZeroV Tryd.prog 70 (.nilFunc) := ⟨by kernel_rfl⟩
instance : Zero Tryd.prog 70 [.nilFunc] := ⟨_, ZeroV.out (P := Tryd.prog) (T := 70), rfl⟩
instance : IsScalar Tryd.prog 71 := ⟨_, Tryd.underlying71, rfl⟩
instance : Size1 Tryd.prog 71 := ⟨by kernel_rfl⟩
instance : ZeroV Tryd.prog 71 (.nilFunc) := ⟨by kernel_rfl⟩
instance : Zero Tryd.prog 71 [.nilFunc] := ⟨_, ZeroV.out (P := Tryd.prog) (T := 71), rfl⟩
instance : IsRow Tryd.prog 72 7 := ⟨⟨_, Tryd.underlying72, rfl⟩, by kernel_rfl⟩
instance : StructTy Tryd.prog 72 [.string ⟨#[]⟩, .string ⟨#[]⟩, .int .i64 0, .string ⟨#[]⟩, .string ⟨#[]⟩, .int .i64 0, .string ⟨#[]⟩] [(0, 1), (1, 3), (4, 3)] := ⟨fun parts => by kernel_rfl⟩
instance : ZeroV Tryd.prog 72 (.agg #[.string ⟨#[]⟩, .string ⟨#[]⟩, .int .i64 0, .string ⟨#[]⟩, .string ⟨#[]⟩, .int .i64 0, .string ⟨#[]⟩]) := ⟨by kernel_rfl⟩
instance : Zero Tryd.prog 72 [.string ⟨#[]⟩, .string ⟨#[]⟩, .int .i64 0, .string ⟨#[]⟩, .string ⟨#[]⟩, .int .i64 0, .string ⟨#[]⟩] := ⟨_, ZeroV.out (P := Tryd.prog) (T := 72), rfl⟩
instance : Fld Tryd.prog 72 0 0 9 := ⟨_, _, Tryd.underlying72, rfl, rfl, rfl⟩
instance : Fld Tryd.prog 72 1 1 37 := ⟨_, _, Tryd.underlying72, rfl, rfl, rfl⟩
instance : Fld Tryd.prog 72 2 4 37 := ⟨_, _, Tryd.underlying72, rfl, rfl, rfl⟩
instance : IsRow Tryd.prog 73 7 := ⟨⟨_, Tryd.underlying73, rfl⟩, by kernel_rfl⟩
instance : StructTy Tryd.prog 73 [.string ⟨#[]⟩, .string ⟨#[]⟩, .int .i64 0, .string ⟨#[]⟩, .string ⟨#[]⟩, .int .i64 0, .string ⟨#[]⟩] [(0, 1), (1, 3), (4, 3)] := ⟨fun parts => by kernel_rfl⟩
instance : ZeroV Tryd.prog 73 (.agg #[.string ⟨#[]⟩, .string ⟨#[]⟩, .int .i64 0, .string ⟨#[]⟩, .string ⟨#[]⟩, .int .i64 0, .string ⟨#[]⟩]) := ⟨by kernel_rfl⟩
instance : Zero Tryd.prog 73 [.string ⟨#[]⟩, .string ⟨#[]⟩, .int .i64 0, .string ⟨#[]⟩, .string ⟨#[]⟩, .int .i64 0, .string ⟨#[]⟩] := ⟨_, ZeroV.out (P := Tryd.prog) (T := 73), rfl⟩
instance : ElTy Tryd.prog 73 7 96 := ElTy.of (z := (.agg #[.string ⟨#[]⟩, .string ⟨#[]⟩, .int .i64 0, .string ⟨#[]⟩, .string ⟨#[]⟩, .int .i64 0, .string ⟨#[]⟩])) (by kernel_rfl) rfl
instance : Fld Tryd.prog 73 0 0 9 := ⟨_, _, Tryd.underlying73, rfl, rfl, rfl⟩
instance : Fld Tryd.prog 73 1 1 37 := ⟨_, _, Tryd.underlying73, rfl, rfl, rfl⟩
instance : Fld Tryd.prog 73 2 4 37 := ⟨_, _, Tryd.underlying73, rfl, rfl, rfl⟩
instance : IsScalar Tryd.prog 74 := ⟨_, Tryd.underlying74, rfl⟩
instance : Size1 Tryd.prog 74 := ⟨by kernel_rfl⟩
instance : ZeroV Tryd.prog 74 (.nilFunc) := ⟨by kernel_rfl⟩
instance : Zero Tryd.prog 74 [.nilFunc] := ⟨_, ZeroV.out (P := Tryd.prog) (T := 74), rfl⟩
instance : IsScalar Tryd.prog 75 := ⟨_, Tryd.underlying75, rfl⟩
instance : Size1 Tryd.prog 75 := ⟨by kernel_rfl⟩
instance : ZeroV Tryd.prog 75 (.nilFunc) := ⟨by kernel_rfl⟩
instance : Zero Tryd.prog 75 [.nilFunc] := ⟨_, ZeroV.out (P := Tryd.prog) (T := 75), rfl⟩
instance : IsScalar Tryd.prog 76 := ⟨_, Tryd.underlying76, rfl⟩
instance : Size1 Tryd.prog 76 := ⟨by kernel_rfl⟩
instance : ZeroV Tryd.prog 76 (.nilFunc) := ⟨by kernel_rfl⟩
instance : Zero Tryd.prog 76 [.nilFunc] := ⟨_, ZeroV.out (P := Tryd.prog) (T := 76), rfl⟩
instance : IsScalar Tryd.prog 77 := ⟨_, Tryd.underlying77, rfl⟩
instance : Size1 Tryd.prog 77 := ⟨by kernel_rfl⟩
instance : ZeroV Tryd.prog 77 (.nilFunc) := ⟨by kernel_rfl⟩
instance : Zero Tryd.prog 77 [.nilFunc] := ⟨_, ZeroV.out (P := Tryd.prog) (T := 77), rfl⟩
instance : IsScalar Tryd.prog 78 := ⟨_, Tryd.underlying78, rfl⟩
instance : Size1 Tryd.prog 78 := ⟨by kernel_rfl⟩
instance : ZeroV Tryd.prog 78 (.nilFunc) := ⟨by kernel_rfl⟩
instance : Zero Tryd.prog 78 [.nilFunc] := ⟨_, ZeroV.out (P := Tryd.prog) (T := 78), rfl⟩
instance : IsScalar Tryd.prog 79 := ⟨_, Tryd.underlying79, rfl⟩
instance : Size1 Tryd.prog 79 := ⟨by kernel_rfl⟩
instance : ZeroV Tryd.prog 79 (.nilFunc) := ⟨by kernel_rfl⟩
instance : Zero Tryd.prog 79 [.nilFunc] := ⟨_, ZeroV.out (P := Tryd.prog) (T := 79), rfl⟩
instance : IsScalar Tryd.prog 80 := ⟨_, Tryd.underlying80, rfl⟩
instance : Size1 Tryd.prog 80 := ⟨by kernel_rfl⟩
instance : ZeroV Tryd.prog 80 (.nilFunc) := ⟨by kernel_rfl⟩
instance : Zero Tryd.prog 80 [.nilFunc] := ⟨_, ZeroV.out (P := Tryd.prog) (T := 80), rfl⟩
instance : IsScalar Tryd.prog 82 := ⟨_, Tryd.underlying82, rfl⟩
instance : Size1 Tryd.prog 82 := ⟨by kernel_rfl⟩
instance : ZeroV Tryd.prog 82 (.nilFunc) := ⟨by kernel_rfl⟩
instance : Zero Tryd.prog 82 [.nilFunc] := ⟨_, ZeroV.out (P := Tryd.prog) (T := 82), rfl⟩
instance : IsScalar Tryd.prog 83 := ⟨_, Tryd.underlying83, rfl⟩
instance : Size1 Tryd.prog 83 := ⟨by kernel_rfl⟩
instance : ZeroV Tryd.prog 83 (.nilFunc) := ⟨by kernel_rfl⟩
instance : Zero Tryd.prog 83 [.nilFunc] := ⟨_, ZeroV.out (P := Tryd.prog) (T := 83), rfl⟩
instance : IsScalar Tryd.prog 84 := ⟨_, Tryd.underlying84, rfl⟩
instance : Size1 Tryd.prog 84 := ⟨by kernel_rfl⟩
instance : ZeroV Tryd.prog 84 (.nilFunc) := ⟨by kernel_rfl⟩
instance : Zero Tryd.prog 84 [.nilFunc] := ⟨_, ZeroV.out (P := Tryd.prog) (T := 84), rfl⟩
instance : IsScalar Tryd.prog 85 := ⟨_, Tryd.underlying85, rfl⟩
instance : Size1 Tryd.prog 85 := ⟨by kernel_rfl⟩
instance : ZeroV Tryd.prog 85 (.nilFunc) := ⟨by kernel_rfl⟩
instance : Zero Tryd.prog 85 [.nilFunc] := ⟨_, ZeroV.out (P := Tryd.prog) (T := 85), rfl⟩
instance : IsScalar Tryd.prog 86 := ⟨_, Tryd.underlying86, rfl⟩
instance : Size1 Tryd.prog 86 := ⟨by kernel_rfl⟩
instance : ZeroV Tryd.prog 86 (.nilFunc) := ⟨by kernel_rfl⟩
instance : Zero Tryd.prog 86 [.nilFunc] := ⟨_, ZeroV.out (P := Tryd.prog) (T := 86), rfl⟩
instance : IsScalar Tryd.prog 88 := ⟨_, Tryd.underlying88, rfl⟩
instance : Size1 Tryd.prog 88 := ⟨by kernel_rfl⟩
instance : ZeroV Tryd.prog 88 (.nilFunc) := ⟨by kernel_rfl⟩
instance : Zero Tryd.prog 88 [.nilFunc] := ⟨_, ZeroV.out (P := Tryd.prog) (T := 88), rfl⟩
instance : IsScalar Tryd.prog 89 := ⟨_, Tryd.underlying89, rfl⟩
instance : Size1 Tryd.prog 89 := ⟨by kernel_rfl⟩
instance : ZeroV Tryd.prog 89 (.nilFunc) := ⟨by kernel_rfl⟩
instance : Zero Tryd.prog 89 [.nilFunc] := ⟨_, ZeroV.out (P := Tryd.prog) (T := 89), rfl⟩
instance : IsScalar Tryd.prog 90 := ⟨_, Tryd.underlying90, rfl⟩
instance : Size1 Tryd.prog 90 := ⟨by kernel_rfl⟩
instance : ZeroV Tryd.prog 90 (.nilFunc) := ⟨by kernel_rfl⟩
instance : Zero Tryd.prog 90 [.nilFunc] := ⟨_, ZeroV.out (P := Tryd.prog) (T := 90), rfl⟩
instance : IsScalar Tryd.prog 91 := ⟨_, Tryd.underlying91, rfl⟩
instance : Size1 Tryd.prog 91 := ⟨by kernel_rfl⟩
instance : ZeroV Tryd.prog 91 (.nilFunc) := ⟨by kernel_rfl⟩
instance : Zero Tryd.prog 91 [.nilFunc] := ⟨_, ZeroV.out (P := Tryd.prog) (T := 91), rfl⟩
instance : IsScalar Tryd.prog 92 := ⟨_, Tryd.underlying92, rfl⟩
instance : Size1 Tryd.prog 92 := ⟨by kernel_rfl⟩
instance : SlTy Tryd.prog 92 9 1 := ⟨Tryd.underlying92, by kernel_rfl⟩
instance : ZeroV Tryd.prog 92 (.slice none 0 0) := ⟨by kernel_rfl⟩
instance : Zero Tryd.prog 92 [.slice none 0 0] := ⟨_, ZeroV.out (P := Tryd.prog) (T := 92), rfl⟩
instance : IsScalar Tryd.prog 94 := ⟨_, Tryd.underlying94, rfl⟩
instance : Size1 Tryd.prog 94 := ⟨by kernel_rfl⟩
instance : ZeroV Tryd.prog 94 (.nilFunc) := ⟨by kernel_rfl⟩
instance : Zero Tryd.prog 94 [.nilFunc] := ⟨_, ZeroV.out (P := Tryd.prog) (T := 94), rfl⟩
instance : IsScalar Tryd.prog 95 := ⟨_, Tryd.underlying95, rfl⟩
instance : Size1 Tryd.prog 95 := ⟨by kernel_rfl⟩
instance : ZeroV Tryd.prog 95 (.nilFunc) := ⟨by kernel_rfl⟩
instance : Zero Tryd.prog 95 [.nilFunc] := ⟨_, ZeroV.out (P := Tryd.prog) (T := 95), rfl⟩
instance : IsScalar Tryd.prog 97 := ⟨_, Tryd.underlying97, rfl⟩
instance : Size1 Tryd.prog 97 := ⟨by kernel_rfl⟩
instance : ZeroV Tryd.prog 97 (.nilFunc) := ⟨by kernel_rfl⟩
instance : Zero Tryd.prog 97 [.nilFunc] := ⟨_, ZeroV.out (P := Tryd.prog) (T := 97), rfl⟩
instance : IsScalar Tryd.prog 99 := ⟨_, Tryd.underlying99, rfl⟩
instance : Size1 Tryd.prog 99 := ⟨by kernel_rfl⟩
instance : ZeroV Tryd.prog 99 (.nilFunc) := ⟨by kernel_rfl⟩
instance : Zero Tryd.prog 99 [.nilFunc] := ⟨_, ZeroV.out (P := Tryd.prog) (T := 99), rfl⟩
instance : IsScalar Tryd.prog 100 := ⟨_, Tryd.underlying100, rfl⟩
instance : Size1 Tryd.prog 100 := ⟨by kernel_rfl⟩
instance : ZeroV Tryd.prog 100 (.nilFunc) := ⟨by kernel_rfl⟩
instance : Zero Tryd.prog 100 [.nilFunc] := ⟨_, ZeroV.out (P := Tryd.prog) (T := 100), rfl⟩
instance : IsScalar Tryd.prog 102 := ⟨_, Tryd.underlying102, rfl⟩
instance : Size1 Tryd.prog 102 := ⟨by kernel_rfl⟩
instance : ZeroV Tryd.prog 102 (.nilFunc) := ⟨by kernel_rfl⟩
instance : Zero Tryd.prog 102 [.nilFunc] := ⟨_, ZeroV.out (P := Tryd.prog) (T := 102), rfl⟩
instance : IsScalar Tryd.prog 103 := ⟨_, Tryd.underlying103, rfl⟩
instance : Size1 Tryd.prog 103 := ⟨by kernel_rfl⟩
instance : ZeroV Tryd.prog 103 (.nilFunc) := ⟨by kernel_rfl⟩
instance : Zero Tryd.prog 103 [.nilFunc] := ⟨_, ZeroV.out (P := Tryd.prog) (T := 103), rfl⟩
instance : IsScalar Tryd.prog 104 := ⟨_, Tryd.underlying104, rfl⟩
instance : Size1 Tryd.prog 104 := ⟨by kernel_rfl⟩
instance : ZeroV Tryd.prog 104 (.nilFunc) := ⟨by kernel_rfl⟩
instance : Zero Tryd.prog 104 [.nilFunc] := ⟨_, ZeroV.out (P := Tryd.prog) (T := 104), rfl⟩
instance : IsScalar Tryd.prog 105 := ⟨_, Tryd.underlying105, rfl⟩
instance : Size1 Tryd.prog 105 := ⟨by kernel_rfl⟩
instance : ZeroV Tryd.prog 105 (.nilFunc) := ⟨by kernel_rfl⟩
instance : Zero Tryd.prog 105 [.nilFunc] := ⟨_, ZeroV.out (P := Tryd.prog) (T := 105), rfl⟩
instance : IsScalar Tryd.prog 106 := ⟨_, Tryd.underlying106, rfl⟩
instance : Size1 Tryd.prog 106 := ⟨by kernel_rfl⟩
instance : KeyTy Tryd.prog 106 (fun n : Int => Value.int .u64 n) := KeyTy.int Tryd.underlying106
instance : ZeroV Tryd.prog 106 (.int .u64 0) := ⟨by kernel_rfl⟩
instance : Zero Tryd.prog 106 [.int .u64 0] := ⟨_, ZeroV.out (P := Tryd.prog) (T := 106), rfl⟩
instance : IsScalar Tryd.prog 107 := ⟨_, Tryd.underlying107, rfl⟩
instance : Size1 Tryd.prog 107 := ⟨by kernel_rfl⟩
instance : ZeroV Tryd.prog 107 (.nilFunc) := ⟨by kernel_rfl⟩
instance : Zero Tryd.prog 107 [.nilFunc] := ⟨_, ZeroV.out (P := Tryd.prog) (T := 107), rfl⟩
instance : IsScalar Tryd.prog 108 := ⟨_, Tryd.underlying108, rfl⟩
instance : Size1 Tryd.prog 108 := ⟨by kernel_rfl⟩
instance : ZeroV Tryd.prog 108 (.pointer none) := ⟨by kernel_rfl⟩
instance : Zero Tryd.prog 108 [.pointer none] := ⟨_, ZeroV.out (P := Tryd.prog) (T := 108), rfl⟩
instance : IsScalar Tryd.prog 109 := ⟨_, Tryd.underlying109, rfl⟩
instance : Size1 Tryd.prog 109 := ⟨by kernel_rfl⟩
instance : SlTy Tryd.prog 109 5 1 := ⟨Tryd.underlying109, by kernel_rfl⟩
instance : ZeroV Tryd.prog 109 (.slice none 0 0) := ⟨by kernel_rfl⟩
instance : Zero Tryd.prog 109 [.slice none 0 0] := ⟨_, ZeroV.out (P := Tryd.prog) (T := 109), rfl⟩
instance : IsRow Tryd.prog 110 2 := ⟨⟨_, Tryd.underlying110, rfl⟩, by kernel_rfl⟩
instance : StructTy Tryd.prog 110 [.pointer none, .slice none 0 0] [(0, 1), (1, 1)] := ⟨fun parts => by kernel_rfl⟩
instance : ZeroV Tryd.prog 110 (.agg #[.pointer none, .slice none 0 0]) := ⟨by kernel_rfl⟩
instance : Zero Tryd.prog 110 [.pointer none, .slice none 0 0] := ⟨_, ZeroV.out (P := Tryd.prog) (T := 110), rfl⟩
instance : Fld Tryd.prog 110 0 0 108 := ⟨_, _, Tryd.underlying110, rfl, rfl, rfl⟩
instance : Fld Tryd.prog 110 1 1 109 := ⟨_, _, Tryd.underlying110, rfl, rfl, rfl⟩
instance : IsRow Tryd.prog 111 2 := ⟨⟨_, Tryd.underlying111, rfl⟩, by kernel_rfl⟩
instance : StructTy Tryd.prog 111 [.pointer none, .slice none 0 0] [(0, 1), (1, 1)] := ⟨fun parts => by kernel_rfl⟩
instance : ZeroV Tryd.prog 111 (.agg #[.pointer none, .slice none 0 0]) := ⟨by kernel_rfl⟩
instance : Zero Tryd.prog 111 [.pointer none, .slice none 0 0] := ⟨_, ZeroV.out (P := Tryd.prog) (T := 111), rfl⟩
instance : Fld Tryd.prog 111 0 0 108 := ⟨_, _, Tryd.underlying111, rfl, rfl, rfl⟩
instance : Fld Tryd.prog 111 1 1 109 := ⟨_, _, Tryd.underlying111, rfl, rfl, rfl⟩
instance : IsScalar Tryd.prog 112 := ⟨_, Tryd.underlying112, rfl⟩
instance : Size1 Tryd.prog 112 := ⟨by kernel_rfl⟩
instance : ZeroV Tryd.prog 112 (.nilFunc) := ⟨by kernel_rfl⟩
instance : Zero Tryd.prog 112 [.nilFunc] := ⟨_, ZeroV.out (P := Tryd.prog) (T := 112), rfl⟩
instance : IsScalar Tryd.prog 113 := ⟨_, Tryd.underlying113, rfl⟩
instance : Size1 Tryd.prog 113 := ⟨by kernel_rfl⟩
instance : ZeroV Tryd.prog 113 (.nilIface) := ⟨by kernel_rfl⟩
instance : Zero Tryd.prog 113 [.nilIface] := ⟨_, ZeroV.out (P := Tryd.prog) (T := 113), rfl⟩
instance : IsScalar Tryd.prog 114 := ⟨_, Tryd.underlying114, rfl⟩
instance : Size1 Tryd.prog 114 := ⟨by kernel_rfl⟩
instance : ZeroV Tryd.prog 114 (.nilIface) := ⟨by kernel_rfl⟩
instance : Zero Tryd.prog 114 [.nilIface] := ⟨_, ZeroV.out (P := Tryd.prog) (T := 114), rfl⟩
instance : IsScalar Tryd.prog 116 := ⟨_, Tryd.underlying116, rfl⟩
instance : Size1 Tryd.prog 116 := ⟨by kernel_rfl⟩
instance : ZeroV Tryd.prog 116 (.nilFunc) := ⟨by kernel_rfl⟩
instance : Zero Tryd.prog 116 [.nilFunc] := ⟨_, ZeroV.out (P := Tryd.prog) (T := 116), rfl⟩
instance : IsScalar Tryd.prog 117 := ⟨_, Tryd.underlying117, rfl⟩
instance : Size1 Tryd.prog 117 := ⟨by kernel_rfl⟩
instance : ZeroV Tryd.prog 117 (.nilFunc) := ⟨by kernel_rfl⟩
instance : Zero Tryd.prog 117 [.nilFunc] := ⟨_, ZeroV.out (P := Tryd.prog) (T := 117), rfl⟩
instance : IsScalar Tryd.prog 118 := ⟨_, Tryd.underlying118, rfl⟩
instance : Size1 Tryd.prog 118 := ⟨by kernel_rfl⟩
instance : ZeroV Tryd.prog 118 (.nilFunc) := ⟨by kernel_rfl⟩
instance : Zero Tryd.prog 118 [.nilFunc] := ⟨_, ZeroV.out (P := Tryd.prog) (T := 118), rfl⟩
instance : IsScalar Tryd.prog 119 := ⟨_, Tryd.underlying119, rfl⟩
instance : Size1 Tryd.prog 119 := ⟨by kernel_rfl⟩
instance : ZeroV Tryd.prog 119 (.nilFunc) := ⟨by kernel_rfl⟩
instance : Zero Tryd.prog 119 [.nilFunc] := ⟨_, ZeroV.out (P := Tryd.prog) (T := 119), rfl⟩
instance : IsScalar Tryd.prog 120 := ⟨_, Tryd.underlying120, rfl⟩
instance : Size1 Tryd.prog 120 := ⟨by kernel_rfl⟩
instance : ZeroV Tryd.prog 120 (.nilFunc) := ⟨by kernel_rfl⟩
instance : Zero Tryd.prog 120 [.nilFunc] := ⟨_, ZeroV.out (P := Tryd.prog) (T := 120), rfl⟩
instance : IsScalar Tryd.prog 121 := ⟨_, Tryd.underlying121, rfl⟩
instance : Size1 Tryd.prog 121 := ⟨by kernel_rfl⟩
instance : ZeroV Tryd.prog 121 (.nilFunc) := ⟨by kernel_rfl⟩
instance : Zero Tryd.prog 121 [.nilFunc] := ⟨_, ZeroV.out (P := Tryd.prog) (T := 121), rfl⟩
instance : IsScalar Tryd.prog 122 := ⟨_, Tryd.underlying122, rfl⟩
instance : Size1 Tryd.prog 122 := ⟨by kernel_rfl⟩
instance : KeyTy Tryd.prog 122 (fun n : Int => Value.int .i64 n) := KeyTy.int Tryd.underlying122
instance : ZeroV Tryd.prog 122 (.int .i64 0) := ⟨by kernel_rfl⟩
instance : Zero Tryd.prog 122 [.int .i64 0] := ⟨_, ZeroV.out (P := Tryd.prog) (T := 122), rfl⟩
instance : IsScalar Tryd.prog 124 := ⟨_, Tryd.underlying124, rfl⟩
instance : Size1 Tryd.prog 124 := ⟨by kernel_rfl⟩
instance : ZeroV Tryd.prog 124 (.nilFunc) := ⟨by kernel_rfl⟩
instance : Zero Tryd.prog 124 [.nilFunc] := ⟨_, ZeroV.out (P := Tryd.prog) (T := 124), rfl⟩
instance : IsScalar Tryd.prog 125 := ⟨_, Tryd.underlying125, rfl⟩
instance : Size1 Tryd.prog 125 := ⟨by kernel_rfl⟩
instance : ZeroV Tryd.prog 125 (.nilFunc) := ⟨by kernel_rfl⟩
instance : Zero Tryd.prog 125 [.nilFunc] := ⟨_, ZeroV.out (P := Tryd.prog) (T := 125), rfl⟩
instance : IsScalar Tryd.prog 126 := ⟨_, Tryd.underlying126, rfl⟩
instance : Size1 Tryd.prog 126 := ⟨by kernel_rfl⟩
instance : ZeroV Tryd.prog 126 (.nilFunc) := ⟨by kernel_rfl⟩
instance : Zero Tryd.prog 126 [.nilFunc] := ⟨_, ZeroV.out (P := Tryd.prog) (T := 126), rfl⟩
instance : IsScalar Tryd.prog 128 := ⟨_, Tryd.underlying128, rfl⟩
instance : Size1 Tryd.prog 128 := ⟨by kernel_rfl⟩
instance : ZeroV Tryd.prog 128 (.nilFunc) := ⟨by kernel_rfl⟩
instance : Zero Tryd.prog 128 [.nilFunc] := ⟨_, ZeroV.out (P := Tryd.prog) (T := 128), rfl⟩
instance : IsScalar Tryd.prog 129 := ⟨_, Tryd.underlying129, rfl⟩
instance : Size1 Tryd.prog 129 := ⟨by kernel_rfl⟩
instance : ZeroV Tryd.prog 129 (.nilFunc) := ⟨by kernel_rfl⟩
instance : Zero Tryd.prog 129 [.nilFunc] := ⟨_, ZeroV.out (P := Tryd.prog) (T := 129), rfl⟩
instance : IsScalar Tryd.prog 130 := ⟨_, Tryd.underlying130, rfl⟩
instance : Size1 Tryd.prog 130 := ⟨by kernel_rfl⟩
instance : KeyTy Tryd.prog 130 (fun n : Int => Value.int .u32 n) := KeyTy.int Tryd.underlying130
instance : ZeroV Tryd.prog 130 (.int .u32 0) := ⟨by kernel_rfl⟩
instance : Zero Tryd.prog 130 [.int .u32 0] := ⟨_, ZeroV.out (P := Tryd.prog) (T := 130), rfl⟩
instance : IsScalar Tryd.prog 131 := ⟨_, Tryd.underlying131, rfl⟩
instance : Size1 Tryd.prog 131 := ⟨by kernel_rfl⟩
instance : ZeroV Tryd.prog 131 (.nilFunc) := ⟨by kernel_rfl⟩
instance : Zero Tryd.prog 131 [.nilFunc] := ⟨_, ZeroV.out (P := Tryd.prog) (T := 131), rfl⟩
instance : IsScalar Tryd.prog 132 := ⟨_, Tryd.underlying132, rfl⟩
instance : Size1 Tryd.prog 132 := ⟨by kernel_rfl⟩
instance : KeyTy Tryd.prog 132 (fun n : Int => Value.int .u64 n) := KeyTy.int Tryd.underlying132
instance : ZeroV Tryd.prog 132 (.int .u64 0) := ⟨by kernel_rfl⟩
instance : Zero Tryd.prog 132 [.int .u64 0] := ⟨_, ZeroV.out (P := Tryd.prog) (T := 132), rfl⟩
instance : IsScalar Tryd.prog 133 := ⟨_, Tryd.underlying133, rfl⟩
instance : Size1 Tryd.prog 133 := ⟨by kernel_rfl⟩
instance : ZeroV Tryd.prog 133 (.nilFunc) := ⟨by kernel_rfl⟩
instance : Zero Tryd.prog 133 [.nilFunc] := ⟨_, ZeroV.out (P := Tryd.prog) (T := 133), rfl⟩
instance : IsScalar Tryd.prog 134 := ⟨_, Tryd.underlying134, rfl⟩
instance : Size1 Tryd.prog 134 := ⟨by kernel_rfl⟩
instance : ZeroV Tryd.prog 134 (.pointer none) := ⟨by kernel_rfl⟩
instance : Zero Tryd.prog 134 [.pointer none] := ⟨_, ZeroV.out (P := Tryd.prog) (T := 134), rfl⟩
instance : IsScalar Tryd.prog 135 := ⟨_, Tryd.underlying135, rfl⟩
instance : Size1 Tryd.prog 135 := ⟨by kernel_rfl⟩
instance : SlTy Tryd.prog 135 23 1 := ⟨Tryd.underlying135, by kernel_rfl⟩
instance : ZeroV Tryd.prog 135 (.slice none 0 0) := ⟨by kernel_rfl⟩
instance : Zero Tryd.prog 135 [.slice none 0 0] := ⟨_, ZeroV.out (P := Tryd.prog) (T := 135), rfl⟩
instance : IsScalar Tryd.prog 136 := ⟨_, Tryd.underlying136, rfl⟩
instance : Size1 Tryd.prog 136 := ⟨by kernel_rfl⟩
instance : KeyTy Tryd.prog 136 (fun n : Int => Value.int .u64 n) := KeyTy.int Tryd.underlying136
instance : ZeroV Tryd.prog 136 (.int .u64 0) := ⟨by kernel_rfl⟩
instance : Zero Tryd.prog 136 [.int .u64 0] := ⟨_, ZeroV.out (P := Tryd.prog) (T := 136), rfl⟩
instance : IsScalar Tryd.prog 137 := ⟨_, Tryd.underlying137, rfl⟩
instance : Size1 Tryd.prog 137 := ⟨by kernel_rfl⟩
instance : ZeroV Tryd.prog 137 (.nilFunc) := ⟨by kernel_rfl⟩
instance : Zero Tryd.prog 137 [.nilFunc] := ⟨_, ZeroV.out (P := Tryd.prog) (T := 137), rfl⟩
instance : IsScalar Tryd.prog 138 := ⟨_, Tryd.underlying138, rfl⟩
instance : Size1 Tryd.prog 138 := ⟨by kernel_rfl⟩
instance : ZeroV Tryd.prog 138 (.nilFunc) := ⟨by kernel_rfl⟩
instance : Zero Tryd.prog 138 [.nilFunc] := ⟨_, ZeroV.out (P := Tryd.prog) (T := 138), rfl⟩
instance : IsScalar Tryd.prog 139 := ⟨_, Tryd.underlying139, rfl⟩
instance : Size1 Tryd.prog 139 := ⟨by kernel_rfl⟩
instance : ZeroV Tryd.prog 139 (.nilFunc) := ⟨by kernel_rfl⟩
instance : Zero Tryd.prog 139 [.nilFunc] := ⟨_, ZeroV.out (P := Tryd.prog) (T := 139), rfl⟩
instance : IsScalar Tryd.prog 140 := ⟨_, Tryd.underlying140, rfl⟩
instance : Size1 Tryd.prog 140 := ⟨by kernel_rfl⟩
instance : ZeroV Tryd.prog 140 (.pointer none) := ⟨by kernel_rfl⟩
instance : Zero Tryd.prog 140 [.pointer none] := ⟨_, ZeroV.out (P := Tryd.prog) (T := 140), rfl⟩
instance : IsScalar Tryd.prog 141 := ⟨_, Tryd.underlying141, rfl⟩
instance : Size1 Tryd.prog 141 := ⟨by kernel_rfl⟩
instance : ZeroV Tryd.prog 141 (.nilFunc) := ⟨by kernel_rfl⟩
instance : Zero Tryd.prog 141 [.nilFunc] := ⟨_, ZeroV.out (P := Tryd.prog) (T := 141), rfl⟩
instance : IsScalar Tryd.prog 142 := ⟨_, Tryd.underlying142, rfl⟩
instance : Size1 Tryd.prog 142 := ⟨by kernel_rfl⟩
instance : ZeroV Tryd.prog 142 (.nilFunc) := ⟨by kernel_rfl⟩
instance : Zero Tryd.prog 142 [.nilFunc] := ⟨_, ZeroV.out (P := Tryd.prog) (T := 142), rfl⟩
instance : IsScalar Tryd.prog 143 := ⟨_, Tryd.underlying143, rfl⟩
instance : Size1 Tryd.prog 143 := ⟨by kernel_rfl⟩
instance : ZeroV Tryd.prog 143 (.pointer none) := ⟨by kernel_rfl⟩
instance : Zero Tryd.prog 143 [.pointer none] := ⟨_, ZeroV.out (P := Tryd.prog) (T := 143), rfl⟩
instance : IsScalar Tryd.prog 144 := ⟨_, Tryd.underlying144, rfl⟩
instance : Size1 Tryd.prog 144 := ⟨by kernel_rfl⟩
instance : ZeroV Tryd.prog 144 (.nilFunc) := ⟨by kernel_rfl⟩
instance : Zero Tryd.prog 144 [.nilFunc] := ⟨_, ZeroV.out (P := Tryd.prog) (T := 144), rfl⟩
instance : IsScalar Tryd.prog 145 := ⟨_, Tryd.underlying145, rfl⟩
instance : Size1 Tryd.prog 145 := ⟨by kernel_rfl⟩
instance : ZeroV Tryd.prog 145 (.nilFunc) := ⟨by kernel_rfl⟩
instance : Zero Tryd.prog 145 [.nilFunc] := ⟨_, ZeroV.out (P := Tryd.prog) (T := 145), rfl⟩
instance : IsScalar Tryd.prog 146 := ⟨_, Tryd.underlying146, rfl⟩
instance : Size1 Tryd.prog 146 := ⟨by kernel_rfl⟩
instance : ZeroV Tryd.prog 146 (.pointer none) := ⟨by kernel_rfl⟩
instance : Zero Tryd.prog 146 [.pointer none] := ⟨_, ZeroV.out (P := Tryd.prog) (T := 146), rfl⟩
instance : IsScalar Tryd.prog 147 := ⟨_, Tryd.underlying147, rfl⟩
instance : Size1 Tryd.prog 147 := ⟨by kernel_rfl⟩
instance : ZeroV Tryd.prog 147 (.nilFunc) := ⟨by kernel_rfl⟩
instance : Zero Tryd.prog 147 [.nilFunc] := ⟨_, ZeroV.out (P := Tryd.prog) (T := 147), rfl⟩
instance : IsScalar Tryd.prog 148 := ⟨_, Tryd.underlying148, rfl⟩
instance : Size1 Tryd.prog 148 := ⟨by kernel_rfl⟩
instance : ZeroV Tryd.prog 148 (.nilFunc) := ⟨by kernel_rfl⟩
instance : Zero Tryd.prog 148 [.nilFunc] := ⟨_, ZeroV.out (P := Tryd.prog) (T := 148), rfl⟩
instance : IsScalar Tryd.prog 150 := ⟨_, Tryd.underlying150, rfl⟩
instance : Size1 Tryd.prog 150 := ⟨by kernel_rfl⟩
instance : ZeroV Tryd.prog 150 (.nilFunc) := ⟨by kernel_rfl⟩
instance : Zero Tryd.prog 150 [.nilFunc] := ⟨_, ZeroV.out (P := Tryd.prog) (T := 150), rfl⟩
instance : IsScalar Tryd.prog 151 := ⟨_, Tryd.underlying151, rfl⟩
instance : Size1 Tryd.prog 151 := ⟨by kernel_rfl⟩
instance : ZeroV Tryd.prog 151 (.nilFunc) := ⟨by kernel_rfl⟩
instance : Zero Tryd.prog 151 [.nilFunc] := ⟨_, ZeroV.out (P := Tryd.prog) (T := 151), rfl⟩
instance : IsScalar Tryd.prog 152 := ⟨_, Tryd.underlying152, rfl⟩
instance : Size1 Tryd.prog 152 := ⟨by kernel_rfl⟩
instance : ZeroV Tryd.prog 152 (.nilFunc) := ⟨by kernel_rfl⟩
instance : Zero Tryd.prog 152 [.nilFunc] := ⟨_, ZeroV.out (P := Tryd.prog) (T := 152), rfl⟩
instance : IsRow Tryd.prog 153 256 := ⟨⟨_, Tryd.underlying153, rfl⟩, by kernel_rfl⟩
instance : IsRow Tryd.prog 154 2 := ⟨⟨_, Tryd.underlying154, rfl⟩, by kernel_rfl⟩
instance : StructTy Tryd.prog 154 [.int .u8 0, .int .u8 0] [(0, 1), (1, 1)] := ⟨fun parts => by kernel_rfl⟩
instance : ZeroV Tryd.prog 154 (.agg #[.int .u8 0, .int .u8 0]) := ⟨by kernel_rfl⟩
instance : Zero Tryd.prog 154 [.int .u8 0, .int .u8 0] := ⟨_, ZeroV.out (P := Tryd.prog) (T := 154), rfl⟩
instance : Fld Tryd.prog 154 0 0 5 := ⟨_, _, Tryd.underlying154, rfl, rfl, rfl⟩
instance : Fld Tryd.prog 154 1 1 5 := ⟨_, _, Tryd.underlying154, rfl, rfl, rfl⟩
instance : IsRow Tryd.prog 155 2 := ⟨⟨_, Tryd.underlying155, rfl⟩, by kernel_rfl⟩
instance : StructTy Tryd.prog 155 [.int .u8 0, .int .u8 0] [(0, 1), (1, 1)] := ⟨fun parts => by kernel_rfl⟩
instance : ZeroV Tryd.prog 155 (.agg #[.int .u8 0, .int .u8 0]) := ⟨by kernel_rfl⟩
instance : Zero Tryd.prog 155 [.int .u8 0, .int .u8 0] := ⟨_, ZeroV.out (P := Tryd.prog) (T := 155), rfl⟩
instance : Fld Tryd.prog 155 0 0 5 := ⟨_, _, Tryd.underlying155, rfl, rfl, rfl⟩
instance : Fld Tryd.prog 155 1 1 5 := ⟨_, _, Tryd.underlying155, rfl, rfl, rfl⟩
instance : IsRow Tryd.prog 156 32 := ⟨⟨_, Tryd.underlying156, rfl⟩, by kernel_rfl⟩
instance : ArrTy Tryd.prog 156 [.int .u8 0, .int .u8 0, .int .u8 0, .int .u8 0, .int .u8 0, .int .u8 0, .int .u8 0, .int .u8 0, .int .u8 0, .int .u8 0, .int .u8 0, .int .u8 0, .int .u8 0, .int .u8 0, .int .u8 0, .int .u8 0, .int .u8 0, .int .u8 0, .int .u8 0, .int .u8 0, .int .u8 0, .int .u8 0, .int .u8 0, .int .u8 0, .int .u8 0, .int .u8 0, .int .u8 0, .int .u8 0, .int .u8 0, .int .u8 0, .int .u8 0, .int .u8 0] 2 := ⟨fun parts => by kernel_rfl⟩
instance : ZeroV Tryd.prog 156 (.agg #[.int .u8 0, .int .u8 0, .int .u8 0, .int .u8 0, .int .u8 0, .int .u8 0, .int .u8 0, .int .u8 0, .int .u8 0, .int .u8 0, .int .u8 0, .int .u8 0, .int .u8 0, .int .u8 0, .int .u8 0, .int .u8 0, .int .u8 0, .int .u8 0, .int .u8 0, .int .u8 0, .int .u8 0, .int .u8 0, .int .u8 0, .int .u8 0, .int .u8 0, .int .u8 0, .int .u8 0, .int .u8 0, .int .u8 0, .int .u8 0, .int .u8 0, .int .u8 0]) := ⟨by kernel_rfl⟩
instance : Zero Tryd.prog 156 [.int .u8 0, .int .u8 0, .int .u8 0, .int .u8 0, .int .u8 0, .int .u8 0, .int .u8 0, .int .u8 0, .int .u8 0, .int .u8 0, .int .u8 0, .int .u8 0, .int .u8 0, .int .u8 0, .int .u8 0, .int .u8 0, .int .u8 0, .int .u8 0, .int .u8 0, .int .u8 0, .int .u8 0, .int .u8 0, .int .u8 0, .int .u8 0, .int .u8 0, .int .u8 0, .int .u8 0, .int .u8 0, .int .u8 0, .int .u8 0, .int .u8 0, .int .u8 0] := ⟨_, ZeroV.out (P := Tryd.prog) (T := 156), rfl⟩
instance : IsScalar Tryd.prog 158 := ⟨_, Tryd.underlying158, rfl⟩
instance : Size1 Tryd.prog 158 := ⟨by kernel_rfl⟩
instance : ZeroV Tryd.prog 158 (.nilFunc) := ⟨by kernel_rfl⟩
instance : Zero Tryd.prog 158 [.nilFunc] := ⟨_, ZeroV.out (P := Tryd.prog) (T := 158), rfl⟩
instance : IsRow Tryd.prog 159 4 := ⟨⟨_, Tryd.underlying159, rfl⟩, by kernel_rfl⟩
instance : StructTy Tryd.prog 159 [.pointer none, .pointer none, .pointer none, .string ⟨#[]⟩] [(0, 1), (1, 1), (2, 1), (3, 1)] := ⟨fun parts => by kernel_rfl⟩
instance : ZeroV Tryd.prog 159 (.agg #[.pointer none, .pointer none, .pointer none, .string ⟨#[]⟩]) := ⟨by kernel_rfl⟩
instance : Zero Tryd.prog 159 [.pointer none, .pointer none, .pointer none, .string ⟨#[]⟩] := ⟨_, ZeroV.out (P := Tryd.prog) (T := 159), rfl⟩
instance : Fld Tryd.prog 159 0 0 17 := ⟨_, _, Tryd.underlying159, rfl, rfl, rfl⟩
instance : Fld Tryd.prog 159 1 1 17 := ⟨_, _, Tryd.underlying159, rfl, rfl, rfl⟩
instance : Fld Tryd.prog 159 2 2 17 := ⟨_, _, Tryd.underlying159, rfl, rfl, rfl⟩
instance : Fld Tryd.prog 159 3 3 9 := ⟨_, _, Tryd.underlying159, rfl, rfl, rfl⟩
instance : IsRow Tryd.prog 160 4 := ⟨⟨_, Tryd.underlying160, rfl⟩, by kernel_rfl⟩
instance : StructTy Tryd.prog 160 [.pointer none, .pointer none, .pointer none, .string ⟨#[]⟩] [(0, 1), (1, 1), (2, 1), (3, 1)] := ⟨fun parts => by kernel_rfl⟩
instance : ZeroV Tryd.prog 160 (.agg #[.pointer none, .pointer none, .pointer none, .string ⟨#[]⟩]) := ⟨by kernel_rfl⟩
instance : Zero Tryd.prog 160 [.pointer none, .pointer none, .pointer none, .string ⟨#[]⟩] := ⟨_, ZeroV.out (P := Tryd.prog) (T := 160), rfl⟩
instance : Fld Tryd.prog 160 0 0 17 := ⟨_, _, Tryd.underlying160, rfl, rfl, rfl⟩
instance : Fld Tryd.prog 160 1 1 17 := ⟨_, _, Tryd.underlying160, rfl, rfl, rfl⟩
instance : Fld Tryd.prog 160 2 2 17 := ⟨_, _, Tryd.underlying160, rfl, rfl, rfl⟩
instance : Fld Tryd.prog 160 3 3 9 := ⟨_, _, Tryd.underlying160, rfl, rfl, rfl⟩
instance : IsRow Tryd.prog 161 0 := ⟨⟨_, Tryd.underlying161, rfl⟩, by kernel_rfl⟩
instance : ZeroV Tryd.prog 161 (.agg #[]) := ⟨by kernel_rfl⟩
instance : Zero Tryd.prog 161 [] := ⟨_, ZeroV.out (P := Tryd.prog) (T := 161), rfl⟩
instance : IsRow Tryd.prog 162 0 := ⟨⟨_, Tryd.underlying162, rfl⟩, by kernel_rfl⟩
instance : ZeroV Tryd.prog 162 (.agg #[]) := ⟨by kernel_rfl⟩
instance : Zero Tryd.prog 162 [] := ⟨_, ZeroV.out (P := Tryd.prog) (T := 162), rfl⟩
instance : Fld Tryd.prog 162 0 0 161 := ⟨_, _, Tryd.underlying162, rfl, rfl, rfl⟩
instance : IsRow Tryd.prog 163 0 := ⟨⟨_, Tryd.underlying163, rfl⟩, by kernel_rfl⟩
instance : ZeroV Tryd.prog 163 (.agg #[]) := ⟨by kernel_rfl⟩
instance : Zero Tryd.prog 163 [] := ⟨_, ZeroV.out (P := Tryd.prog) (T := 163), rfl⟩
instance : Fld Tryd.prog 163 0 0 161 := ⟨_, _, Tryd.underlying163, rfl, rfl, rfl⟩
instance : IsScalar Tryd.prog 164 := ⟨_, Tryd.underlying164, rfl⟩
instance : Size1 Tryd.prog 164 := ⟨by kernel_rfl⟩
instance : ZeroV Tryd.prog 164 (.nilFunc) := ⟨by kernel_rfl⟩
instance : Zero Tryd.prog 164 [.nilFunc] := ⟨_, ZeroV.out (P := Tryd.prog) (T := 164), rfl⟩
instance : IsScalar Tryd.prog 165 := ⟨_, Tryd.underlying165, rfl⟩
instance : Size1 Tryd.prog 165 := ⟨by kernel_rfl⟩
instance : KeyTy Tryd.prog 165 (fun n : Int => Value.int .u8 n) := KeyTy.int Tryd.underlying165
instance : ZeroV Tryd.prog 165 (.int .u8 0) := ⟨by kernel_rfl⟩
instance : Zero Tryd.prog 165 [.int .u8 0] := ⟨_, ZeroV.out (P := Tryd.prog) (T := 165), rfl⟩
instance : IsScalar Tryd.prog 166 := ⟨_, Tryd.underlying166, rfl⟩
instance : Size1 Tryd.prog 166 := ⟨by kernel_rfl⟩
instance : KeyTy Tryd.prog 166 (fun n : Int => Value.int .u8 n) := KeyTy.int Tryd.underlying166
instance : ZeroV Tryd.prog 166 (.int .u8 0) := ⟨by kernel_rfl⟩
instance : Zero Tryd.prog 166 [.int .u8 0] := ⟨_, ZeroV.out (P := Tryd.prog) (T := 166), rfl⟩
instance : IsScalar Tryd.prog 167 := ⟨_, Tryd.underlying167, rfl⟩
instance : Size1 Tryd.prog 167 := ⟨by kernel_rfl⟩
instance : ZeroV Tryd.prog 167 (.nilFunc) := ⟨by kernel_rfl⟩
instance : Zero Tryd.prog 167 [.nilFunc] := ⟨_, ZeroV.out (P := Tryd.prog) (T := 167), rfl⟩
instance : IsScalar Tryd.prog 168 := ⟨_, Tryd.underlying168, rfl⟩
instance : Size1 Tryd.prog 168 := ⟨by kernel_rfl⟩
instance : KeyTy Tryd.prog 168 (fun n : Int => Value.int .i32 n) := KeyTy.int Tryd.underlying168
instance : ZeroV Tryd.prog 168 (.int .i32 0) := ⟨by kernel_rfl⟩
instance : Zero Tryd.prog 168 [.int .i32 0] := ⟨_, ZeroV.out (P := Tryd.prog) (T := 168), rfl⟩
instance : IsScalar Tryd.prog 169 := ⟨_, Tryd.underlying169, rfl⟩
instance : Size1 Tryd.prog 169 := ⟨by kernel_rfl⟩
instance : KeyTy Tryd.prog 169 (fun n : Int => Value.int .i32 n) := KeyTy.int Tryd.underlying169
instance : ZeroV Tryd.prog 169 (.int .i32 0) := ⟨by kernel_rfl⟩
instance : Zero Tryd.prog 169 [.int .i32 0] := ⟨_, ZeroV.out (P := Tryd.prog) (T := 169), rfl⟩
instance : IsRow Tryd.prog 170 11 := ⟨⟨_, Tryd.underlying170, rfl⟩, by kernel_rfl⟩
instance : StructTy Tryd.prog 170 [.int .u64 0, .int .u64 0, .int .u32 0, .int .u8 0, .int .u8 0, .int .u8 0, .int .u8 0, .nilFunc, .pointer none, .int .i32 0, .int .i32 0] [(0, 1), (1, 1), (2, 1), (3, 1), (4, 1), (5, 1), (6, 1), (7, 1), (8, 1), (9, 1), (10, 1)] := ⟨fun parts => by kernel_rfl⟩
instance : ZeroV Tryd.prog 170 (.agg #[.int .u64 0, .int .u64 0, .int .u32 0, .int .u8 0, .int .u8 0, .int .u8 0, .int .u8 0, .nilFunc, .pointer none, .int .i32 0, .int .i32 0]) := ⟨by kernel_rfl⟩
instance : Zero Tryd.prog 170 [.int .u64 0, .int .u64 0, .int .u32 0, .int .u8 0, .int .u8 0, .int .u8 0, .int .u8 0, .nilFunc, .pointer none, .int .i32 0, .int .i32 0] := ⟨_, ZeroV.out (P := Tryd.prog) (T := 170), rfl⟩
instance : Fld Tryd.prog 170 0 0 12 := ⟨_, _, Tryd.underlying170, rfl, rfl, rfl⟩
instance : Fld Tryd.prog 170 1 1 12 := ⟨_, _, Tryd.underlying170, rfl, rfl, rfl⟩
instance : Fld Tryd.prog 170 2 2 130 := ⟨_, _, Tryd.underlying170, rfl, rfl, rfl⟩
instance : Fld Tryd.prog 170 3 3 165 := ⟨_, _, Tryd.underlying170, rfl, rfl, rfl⟩
instance : Fld Tryd.prog 170 4 4 5 := ⟨_, _, Tryd.underlying170, rfl, rfl, rfl⟩
instance : Fld Tryd.prog 170 5 5 5 := ⟨_, _, Tryd.underlying170, rfl, rfl, rfl⟩
instance : Fld Tryd.prog 170 6 6 166 := ⟨_, _, Tryd.underlying170, rfl, rfl, rfl⟩
instance : Fld Tryd.prog 170 7 7 167 := ⟨_, _, Tryd.underlying170, rfl, rfl, rfl⟩
instance : Fld Tryd.prog 170 8 8 134 := ⟨_, _, Tryd.underlying170, rfl, rfl, rfl⟩
instance : Fld Tryd.prog 170 9 9 168 := ⟨_, _, Tryd.underlying170, rfl, rfl, rfl⟩
instance : Fld Tryd.prog 170 10 10 169 := ⟨_, _, Tryd.underlying170, rfl, rfl, rfl⟩
instance : IsRow Tryd.prog 171 11 := ⟨⟨_, Tryd.underlying171, rfl⟩, by kernel_rfl⟩
instance : StructTy Tryd.prog 171 [.int .u64 0, .int .u64 0, .int .u32 0, .int .u8 0, .int .u8 0, .int .u8 0, .int .u8 0, .nilFunc, .pointer none, .int .i32 0, .int .i32 0] [(0, 1), (1, 1), (2, 1), (3, 1), (4, 1), (5, 1), (6, 1), (7, 1), (8, 1), (9, 1), (10, 1)] := ⟨fun parts => by kernel_rfl⟩
instance : ZeroV Tryd.prog 171 (.agg #[.int .u64 0, .int .u64 0, .int .u32 0, .int .u8 0, .int .u8 0, .int .u8 0, .int .u8 0, .nilFunc, .pointer none, .int .i32 0, .int .i32 0]) := ⟨by kernel_rfl⟩
instance : Zero Tryd.prog 171 [.int .u64 0, .int .u64 0, .int .u32 0, .int .u8 0, .int .u8 0, .int .u8 0, .int .u8 0, .nilFunc, .pointer none, .int .i32 0, .int .i32 0] := ⟨_, ZeroV.out (P := Tryd.prog) (T := 171), rfl⟩
instance : Fld Tryd.prog 171 0 0 12 := ⟨_, _, Tryd.underlying171, rfl, rfl, rfl⟩
instance : Fld Tryd.prog 171 1 1 12 := ⟨_, _, Tryd.underlying171, rfl, rfl, rfl⟩
instance : Fld Tryd.prog 171 2 2 130 := ⟨_, _, Tryd.underlying171, rfl, rfl, rfl⟩
instance : Fld Tryd.prog 171 3 3 165 := ⟨_, _, Tryd.underlying171, rfl, rfl, rfl⟩
instance : Fld Tryd.prog 171 4 4 5 := ⟨_, _, Tryd.underlying171, rfl, rfl, rfl⟩
instance : Fld Tryd.prog 171 5 5 5 := ⟨_, _, Tryd.underlying171, rfl, rfl, rfl⟩
instance : Fld Tryd.prog 171 6 6 166 := ⟨_, _, Tryd.underlying171, rfl, rfl, rfl⟩
instance : Fld Tryd.prog 171 7 7 167 := ⟨_, _, Tryd.underlying171, rfl, rfl, rfl⟩
instance : Fld Tryd.prog 171 8 8 134 := ⟨_, _, Tryd.underlying171, rfl, rfl, rfl⟩
instance : Fld Tryd.prog 171 9 9 168 := ⟨_, _, Tryd.underlying171, rfl, rfl, rfl⟩
instance : Fld Tryd.prog 171 10 10 169 := ⟨_, _, Tryd.underlying171, rfl, rfl, rfl⟩
instance : EntersC Tryd.prog 2 := ⟨enters_of Tryd.func2 (by kernel_rfl) rfl⟩
instance : EntersC Tryd.prog 3 := ⟨enters_of Tryd.func3 (by kernel_rfl) rfl⟩
instance : EntersC Tryd.prog 4 := ⟨enters_of Tryd.func4 (by kernel_rfl) rfl⟩
instance : EntersC Tryd.prog 5 := ⟨enters_of Tryd.func5 (by kernel_rfl) rfl⟩
instance : EntersC Tryd.prog 6 := ⟨enters_of Tryd.func6 (by kernel_rfl) rfl⟩
instance : EntersC Tryd.prog 7 := ⟨enters_of Tryd.func7 (by kernel_rfl) rfl⟩
instance : EntersC Tryd.prog 8 := ⟨enters_of Tryd.func8 (by kernel_rfl) rfl⟩
instance : EntersC Tryd.prog 9 := ⟨enters_of Tryd.func9 (by kernel_rfl) rfl⟩
instance : EntersC Tryd.prog 10 := ⟨enters_of Tryd.func10 (by kernel_rfl) rfl⟩
instance : EntersC Tryd.prog 11 := ⟨enters_of Tryd.func11 (by kernel_rfl) rfl⟩
instance : EntersC Tryd.prog 12 := ⟨enters_of Tryd.func12 (by kernel_rfl) rfl⟩
instance : EntersC Tryd.prog 13 := ⟨enters_of Tryd.func13 (by kernel_rfl) rfl⟩
instance : EntersC Tryd.prog 14 := ⟨enters_of Tryd.func14 (by kernel_rfl) rfl⟩
instance : EntersC Tryd.prog 15 := ⟨enters_of Tryd.func15 (by kernel_rfl) rfl⟩
instance : EntersC Tryd.prog 16 := ⟨enters_of Tryd.func16 (by kernel_rfl) rfl⟩
instance : EntersC Tryd.prog 17 := ⟨enters_of Tryd.func17 (by kernel_rfl) rfl⟩
instance : EntersC Tryd.prog 18 := ⟨enters_of Tryd.func18 (by kernel_rfl) rfl⟩
instance : EntersC Tryd.prog 19 := ⟨enters_of Tryd.func19 (by kernel_rfl) rfl⟩
instance : EntersC Tryd.prog 20 := ⟨enters_of Tryd.func20 (by kernel_rfl) rfl⟩
instance : EntersC Tryd.prog 21 := ⟨enters_of Tryd.func21 (by kernel_rfl) rfl⟩
instance : EntersC Tryd.prog 22 := ⟨enters_of Tryd.func22 (by kernel_rfl) rfl⟩
instance : EntersC Tryd.prog 23 := ⟨enters_of Tryd.func23 (by kernel_rfl) rfl⟩
instance : EntersC Tryd.prog 24 := ⟨enters_of Tryd.func24 (by kernel_rfl) rfl⟩
instance : EntersC Tryd.prog 25 := ⟨enters_of Tryd.func25 (by kernel_rfl) rfl⟩
instance : EntersC Tryd.prog 26 := ⟨enters_of Tryd.func26 (by kernel_rfl) rfl⟩
instance : EntersC Tryd.prog 27 := ⟨enters_of Tryd.func27 (by kernel_rfl) rfl⟩
instance : EntersC Tryd.prog 28 := ⟨enters_of Tryd.func28 (by kernel_rfl) rfl⟩
instance : EntersC Tryd.prog 29 := ⟨enters_of Tryd.func29 (by kernel_rfl) rfl⟩
instance : EntersC Tryd.prog 30 := ⟨enters_of Tryd.func30 (by kernel_rfl) rfl⟩
instance : EntersC Tryd.prog 31 := ⟨enters_of Tryd.func31 (by kernel_rfl) rfl⟩
instance : EntersC Tryd.prog 32 := ⟨enters_of Tryd.func32 (by kernel_rfl) rfl⟩
instance : EntersC Tryd.prog 33 := ⟨enters_of Tryd.func33 (by kernel_rfl) rfl⟩
instance : EntersC Tryd.prog 34 := ⟨enters_of Tryd.func34 (by kernel_rfl) rfl⟩
instance : EntersC Tryd.prog 35 := ⟨enters_of Tryd.func35 (by kernel_rfl) rfl⟩
instance : EntersC Tryd.prog 36 := ⟨enters_of Tryd.func36 (by kernel_rfl) rfl⟩
instance : EntersC Tryd.prog 37 := ⟨enters_of Tryd.func37 (by kernel_rfl) rfl⟩
instance : EntersC Tryd.prog 38 := ⟨enters_of Tryd.func38 (by kernel_rfl) rfl⟩
instance : EntersC Tryd.prog 39 := ⟨enters_of Tryd.func39 (by kernel_rfl) rfl⟩
instance : EntersC Tryd.prog 40 := ⟨enters_of Tryd.func40 (by kernel_rfl) rfl⟩
instance : EntersC Tryd.prog 41 := ⟨enters_of Tryd.func41 (by kernel_rfl) rfl⟩
instance : EntersC Tryd.prog 42 := ⟨enters_of Tryd.func42 (by kernel_rfl) rfl⟩
instance : EntersC Tryd.prog 43 := ⟨enters_of Tryd.func43 (by kernel_rfl) rfl⟩
instance : EntersC Tryd.prog 44 := ⟨enters_of Tryd.func44 (by kernel_rfl) rfl⟩
instance : EntersC Tryd.prog 45 := ⟨enters_of Tryd.func45 (by kernel_rfl) rfl⟩
instance : EntersC Tryd.prog 46 := ⟨enters_of Tryd.func46 (by kernel_rfl) rfl⟩
instance : EntersC Tryd.prog 47 := ⟨enters_of Tryd.func47 (by kernel_rfl) rfl⟩
instance : EntersC Tryd.prog 48 := ⟨enters_of Tryd.func48 (by kernel_rfl) rfl⟩
instance : EntersC Tryd.prog 49 := ⟨enters_of Tryd.func49 (by kernel_rfl) rfl⟩
instance : EntersC Tryd.prog 50 := ⟨enters_of Tryd.func50 (by kernel_rfl) rfl⟩
instance : EntersC Tryd.prog 51 := ⟨enters_of Tryd.func51 (by kernel_rfl) rfl⟩
instance : EntersC Tryd.prog 52 := ⟨enters_of Tryd.func52 (by kernel_rfl) rfl⟩
instance : EntersC Tryd.prog 53 := ⟨enters_of Tryd.func53 (by kernel_rfl) rfl⟩
instance : EntersC Tryd.prog 54 := ⟨enters_of Tryd.func54 (by kernel_rfl) rfl⟩
instance : EntersC Tryd.prog 55 := ⟨enters_of Tryd.func55 (by kernel_rfl) rfl⟩
instance : EntersC Tryd.prog 56 := ⟨enters_of Tryd.func56 (by kernel_rfl) rfl⟩
instance : EntersC Tryd.prog 57 := ⟨enters_of Tryd.func57 (by kernel_rfl) rfl⟩
instance : EntersC Tryd.prog 58 := ⟨enters_of Tryd.func58 (by kernel_rfl) rfl⟩
instance : EntersC Tryd.prog 59 := ⟨enters_of Tryd.func59 (by kernel_rfl) rfl⟩
instance : EntersC Tryd.prog 60 := ⟨enters_of Tryd.func60 (by kernel_rfl) rfl⟩
instance : EntersC Tryd.prog 61 := ⟨enters_of Tryd.func61 (by kernel_rfl) rfl⟩
instance : EntersC Tryd.prog 62 := ⟨enters_of Tryd.func62 (by kernel_rfl) rfl⟩
instance : EntersC Tryd.prog 63 := ⟨enters_of Tryd.func63 (by kernel_rfl) rfl⟩
instance : EntersC Tryd.prog 64 := ⟨enters_of Tryd.func64 (by kernel_rfl) rfl⟩
instance : EntersC Tryd.prog 65 := ⟨enters_of Tryd.func65 (by kernel_rfl) rfl⟩
instance : EntersC Tryd.prog 66 := ⟨enters_of Tryd.func66 (by kernel_rfl) rfl⟩
instance : EntersC Tryd.prog 67 := ⟨enters_of Tryd.func67 (by kernel_rfl) rfl⟩
instance : EntersC Tryd.prog 68 := ⟨enters_of Tryd.func68 (by kernel_rfl) rfl⟩
instance : EntersC Tryd.prog 69 := ⟨enters_of Tryd.func69 (by kernel_rfl) rfl⟩
instance : EntersC Tryd.prog 70 := ⟨enters_of Tryd.func70 (by kernel_rfl) rfl⟩
instance : EntersC Tryd.prog 71 := ⟨enters_of Tryd.func71 (by kernel_rfl) rfl⟩
instance : EntersC Tryd.prog 72 := ⟨enters_of Tryd.func72 (by kernel_rfl) rfl⟩
instance : EntersC Tryd.prog 73 := ⟨enters_of Tryd.func73 (by kernel_rfl) rfl⟩
instance : EntersC Tryd.prog 74 := ⟨enters_of Tryd.func74 (by kernel_rfl) rfl⟩
instance : EntersC Tryd.prog 75 := ⟨enters_of Tryd.func75 (by kernel_rfl) rfl⟩
instance : EntersC Tryd.prog 76 := ⟨enters_of Tryd.func76 (by kernel_rfl) rfl⟩
instance : EntersC Tryd.prog 77 := ⟨enters_of Tryd.func77 (by kernel_rfl) rfl⟩
instance : EntersC Tryd.prog 78 := ⟨enters_of Tryd.func78 (by kernel_rfl) rfl⟩
instance : EntersC Tryd.prog 79 := ⟨enters_of Tryd.func79 (by kernel_rfl) rfl⟩
instance : EntersC Tryd.prog 80 := ⟨enters_of Tryd.func80 (by kernel_rfl) rfl⟩
instance : EntersC Tryd.prog 81 := ⟨enters_of Tryd.func81 (by kernel_rfl) rfl⟩
instance : EntersC Tryd.prog 82 := ⟨enters_of Tryd.func82 (by kernel_rfl) rfl⟩
instance : EntersC Tryd.prog 83 := ⟨enters_of Tryd.func83 (by kernel_rfl) rfl⟩
instance : EntersC Tryd.prog 84 := ⟨enters_of Tryd.func84 (by kernel_rfl) rfl⟩
instance : EntersC Tryd.prog 85 := ⟨enters_of Tryd.func85 (by kernel_rfl) rfl⟩
instance : EntersC Tryd.prog 86 := ⟨enters_of Tryd.func86 (by kernel_rfl) rfl⟩
instance : EntersC Tryd.prog 87 := ⟨enters_of Tryd.func87 (by kernel_rfl) rfl⟩
instance : EntersC Tryd.prog 88 := ⟨enters_of Tryd.func88 (by kernel_rfl) rfl⟩
instance : EntersC Tryd.prog 89 := ⟨enters_of Tryd.func89 (by kernel_rfl) rfl⟩
instance : EntersC Tryd.prog 90 := ⟨enters_of Tryd.func90 (by kernel_rfl) rfl⟩
instance : EntersC Tryd.prog 91 := ⟨enters_of Tryd.func91 (by kernel_rfl) rfl⟩
instance : EntersC Tryd.prog 92 := ⟨enters_of Tryd.func92 (by kernel_rfl) rfl⟩
instance : EntersC Tryd.prog 93 := ⟨enters_of Tryd.func93 (by kernel_rfl) rfl⟩
instance : EntersC Tryd.prog 94 := ⟨enters_of Tryd.func94 (by kernel_rfl) rfl⟩
instance : EntersC Tryd.prog 95 := ⟨enters_of Tryd.func95 (by kernel_rfl) rfl⟩
instance : EntersC Tryd.prog 96 := ⟨enters_of Tryd.func96 (by kernel_rfl) rfl⟩
instance : EntersC Tryd.prog 97 := ⟨enters_of Tryd.func97 (by kernel_rfl) rfl⟩
instance : EntersC Tryd.prog 98 := ⟨enters_of Tryd.func98 (by kernel_rfl) rfl⟩
instance : EntersC Tryd.prog 99 := ⟨enters_of Tryd.func99 (by kernel_rfl) rfl⟩
instance : EntersC Tryd.prog 100 := ⟨enters_of Tryd.func100 (by kernel_rfl) rfl⟩
instance : EntersC Tryd.prog 101 := ⟨enters_of Tryd.func101 (by kernel_rfl) rfl⟩
instance : EntersC Tryd.prog 102 := ⟨enters_of Tryd.func102 (by kernel_rfl) rfl⟩
instance : EntersC Tryd.prog 103 := ⟨enters_of Tryd.func103 (by kernel_rfl) rfl⟩
instance : EntersC Tryd.prog 104 := ⟨enters_of Tryd.func104 (by kernel_rfl) rfl⟩
instance : EntersC Tryd.prog 105 := ⟨enters_of Tryd.func105 (by kernel_rfl) rfl⟩
instance : EntersC Tryd.prog 106 := ⟨enters_of Tryd.func106 (by kernel_rfl) rfl⟩
instance : EntersC Tryd.prog 107 := ⟨enters_of Tryd.func107 (by kernel_rfl) rfl⟩
instance : EntersC Tryd.prog 108 := ⟨enters_of Tryd.func108 (by kernel_rfl) rfl⟩
instance : EntersC Tryd.prog 109 := ⟨enters_of Tryd.func109 (by kernel_rfl) rfl⟩
instance : EntersC Tryd.prog 110 := ⟨enters_of Tryd.func110 (by kernel_rfl) rfl⟩
instance : EntersC Tryd.prog 113 := ⟨enters_of Tryd.func113 (by kernel_rfl) rfl⟩
instance : EntersC Tryd.prog 114 := ⟨enters_of Tryd.func114 (by kernel_rfl) rfl⟩
instance : EntersC Tryd.prog 115 := ⟨enters_of Tryd.func115 (by kernel_rfl) rfl⟩
instance : EntersC Tryd.prog 117 := ⟨enters_of Tryd.func117 (by kernel_rfl) rfl⟩
instance : EntersC Tryd.prog 118 := ⟨enters_of Tryd.func118 (by kernel_rfl) rfl⟩
instance : EntersC Tryd.prog 119 := ⟨enters_of Tryd.func119 (by kernel_rfl) rfl⟩
instance : EntersC Tryd.prog 121 := ⟨enters_of Tryd.func121 (by kernel_rfl) rfl⟩
instance : EntersC Tryd.prog 122 := ⟨enters_of Tryd.func122 (by kernel_rfl) rfl⟩
instance : EntersC Tryd.prog 124 := ⟨enters_of Tryd.func124 (by kernel_rfl) rfl⟩
instance : EntersC Tryd.prog 147 := ⟨enters_of Tryd.func147 (by kernel_rfl) rfl⟩
end Go.Tk
