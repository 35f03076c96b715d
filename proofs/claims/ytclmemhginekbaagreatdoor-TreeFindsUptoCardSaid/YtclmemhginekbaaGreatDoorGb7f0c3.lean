/- The types of this translation: printed by a program of this work (gen_ty.py); Own slices that begin inside their block, parts of slices, and append to them; What the library writes into a slice of ints, in the symbolic heap; clear of the rest of an own slice; calls of function values; an own slice's front; A range over a function in a told memory: the statement, a round, the function's return; A range over a function within a round of another one; a call of yield within a round; Paths, plainly: names between slashes; DERIVED: THE SHELF's CONTRACTS AT THIS DUMP, IN PLAIN WORDS (tools/lay-plain.mjs out of 'TryzShelfS.lean', which tools/lay-shelf.mjs wrote): THE SAME DECLARATIONS UNDER THE SAME NAMES: 'import', 'namespace', 'open', 'def', 'theorem' AND NOTHING ELSE: no command of the shelf's: FOR A HAND-IN. Each laying: the table of numbers ('.._ren') and one theorem, a field a fact of the dump's own or the kernel's comparison; each contract: ONE APPLICATION; Paths: a name; the names of a path; DERIVED: THE SHELF's CONTRACTS AT THIS DUMP, IN PLAIN WORDS (tools/lay-plain.mjs out of 'TryzShelfT.lean', which tools/lay-shelf.mjs wrote): THE SAME DECLARATIONS UNDER THE SAME NAMES: 'import', 'namespace', 'open', 'def', 'theorem' AND NOTHING ELSE: no command of the shelf's: FOR A HAND-IN. Each laying: the table of numbers ('.._ren') and one theorem, a field a fact of the dump's own or the kernel's comparison; each contract: ONE APPLICATION; Paths: the names of a path; what it splits into; Paths: the order of texts and of rows of names; Paths: two of them held against each other; what one splits into. -/
import Derived.Test.YtclmemhginekbaaGreatDoorG498b9f
import Derived.Test.YtclmemhginekbaaGreatDoorProg
import Derived.KernelRfl
import Derived.Shelf.Lay
import Derived.Sort.Row
import Derived.Sort.Grow
import Derived.RangeFuncRecord
import Derived.RangeFuncSeq
import Derived.RangeFuncCalls
import Derived.TacticsIn
import Derived.RangeFuncNested
import Derived.OrdersIn
import Derived.Lib.SplitLaws
import Derived.Lib.Join
import Derived.BigQuiet
import Derived.Lib.Hide
import Derived.Shelf.Strings.OnBuilder
import Derived.Shelf.Strings.Split
import Derived.Shelf.Slices.Equal
import Derived.Shelf.Slices.Empties2
import Derived.Shelf.SlSortCmp.NoneTotal
import Derived.Ground.SlsfProg
import Derived.Shelf.Sort.Plain
import Derived.Shelf.Slices.In.SortNone
set_option linter.unusedVariables false
namespace Go.Tk
open Go.Proofs
instance : IsScalar Tryz.prog 1 := ⟨_, Tryz.underlying1, rfl⟩
instance : Size1 Tryz.prog 1 := ⟨by kernel_rfl⟩
instance : ZeroV Tryz.prog 1 (.nilFunc) := ⟨by kernel_rfl⟩
instance : Zero Tryz.prog 1 [.nilFunc] := ⟨_, ZeroV.out (P := Tryz.prog) (T := 1), rfl⟩
instance : IsScalar Tryz.prog 2 := ⟨_, Tryz.underlying2, rfl⟩
instance : Size1 Tryz.prog 2 := ⟨by kernel_rfl⟩
instance : KeyTy Tryz.prog 2 (fun n : Int => Value.int .i64 n) := KeyTy.int Tryz.underlying2
instance : ZeroV Tryz.prog 2 (.int .i64 0) := ⟨by kernel_rfl⟩
instance : Zero Tryz.prog 2 [.int .i64 0] := ⟨_, ZeroV.out (P := Tryz.prog) (T := 2), rfl⟩
instance : IsScalar Tryz.prog 3 := ⟨_, Tryz.underlying3, rfl⟩
instance : Size1 Tryz.prog 3 := ⟨by kernel_rfl⟩
instance : KeyTy Tryz.prog 3 (fun n : Int => Value.int .i64 n) := KeyTy.int Tryz.underlying3
instance : ZeroV Tryz.prog 3 (.int .i64 0) := ⟨by kernel_rfl⟩
instance : Zero Tryz.prog 3 [.int .i64 0] := ⟨_, ZeroV.out (P := Tryz.prog) (T := 3), rfl⟩
instance : ElTy Tryz.prog 3 1 8 := ElTy.of (z := (.int .i64 0)) (by kernel_rfl) rfl
instance : IsScalar Tryz.prog 4 := ⟨_, Tryz.underlying4, rfl⟩
instance : Size1 Tryz.prog 4 := ⟨by kernel_rfl⟩
instance : ZeroV Tryz.prog 4 (.bool false) := ⟨by kernel_rfl⟩
instance : Zero Tryz.prog 4 [.bool false] := ⟨_, ZeroV.out (P := Tryz.prog) (T := 4), rfl⟩
instance : IsScalar Tryz.prog 5 := ⟨_, Tryz.underlying5, rfl⟩
instance : Size1 Tryz.prog 5 := ⟨by kernel_rfl⟩
instance : KeyTy Tryz.prog 5 (fun n : Int => Value.int .u8 n) := KeyTy.int Tryz.underlying5
instance : ZeroV Tryz.prog 5 (.int .u8 0) := ⟨by kernel_rfl⟩
instance : Zero Tryz.prog 5 [.int .u8 0] := ⟨_, ZeroV.out (P := Tryz.prog) (T := 5), rfl⟩
instance : ElTy Tryz.prog 5 1 1 := ElTy.of (z := (.int .u8 0)) (by kernel_rfl) rfl
instance : IsScalar Tryz.prog 6 := ⟨_, Tryz.underlying6, rfl⟩
instance : Size1 Tryz.prog 6 := ⟨by kernel_rfl⟩
instance : KeyTy Tryz.prog 6 (fun n : Int => Value.int .u8 n) := KeyTy.int Tryz.underlying6
instance : ZeroV Tryz.prog 6 (.int .u8 0) := ⟨by kernel_rfl⟩
instance : Zero Tryz.prog 6 [.int .u8 0] := ⟨_, ZeroV.out (P := Tryz.prog) (T := 6), rfl⟩
instance : IsRow Tryz.prog 7 4 := ⟨⟨_, Tryz.underlying7, rfl⟩, by kernel_rfl⟩
instance : StructTy Tryz.prog 7 [.int .i64 0, .int .i64 0, .bool false, .int .u8 0] [(0, 1), (1, 1), (2, 1), (3, 1)] := ⟨fun parts => by kernel_rfl⟩
instance : ZeroV Tryz.prog 7 (.agg #[.int .i64 0, .int .i64 0, .bool false, .int .u8 0]) := ⟨by kernel_rfl⟩
instance : Zero Tryz.prog 7 [.int .i64 0, .int .i64 0, .bool false, .int .u8 0] := ⟨_, ZeroV.out (P := Tryz.prog) (T := 7), rfl⟩
instance : Fld Tryz.prog 7 0 0 2 := ⟨_, _, Tryz.underlying7, rfl, rfl, rfl⟩
instance : Fld Tryz.prog 7 1 1 3 := ⟨_, _, Tryz.underlying7, rfl, rfl, rfl⟩
instance : Fld Tryz.prog 7 2 2 4 := ⟨_, _, Tryz.underlying7, rfl, rfl, rfl⟩
instance : Fld Tryz.prog 7 3 3 6 := ⟨_, _, Tryz.underlying7, rfl, rfl, rfl⟩
instance : IsRow Tryz.prog 8 4 := ⟨⟨_, Tryz.underlying8, rfl⟩, by kernel_rfl⟩
instance : StructTy Tryz.prog 8 [.int .i64 0, .int .i64 0, .bool false, .int .u8 0] [(0, 1), (1, 1), (2, 1), (3, 1)] := ⟨fun parts => by kernel_rfl⟩
instance : ZeroV Tryz.prog 8 (.agg #[.int .i64 0, .int .i64 0, .bool false, .int .u8 0]) := ⟨by kernel_rfl⟩
instance : Zero Tryz.prog 8 [.int .i64 0, .int .i64 0, .bool false, .int .u8 0] := ⟨_, ZeroV.out (P := Tryz.prog) (T := 8), rfl⟩
instance : Fld Tryz.prog 8 0 0 2 := ⟨_, _, Tryz.underlying8, rfl, rfl, rfl⟩
instance : Fld Tryz.prog 8 1 1 3 := ⟨_, _, Tryz.underlying8, rfl, rfl, rfl⟩
instance : Fld Tryz.prog 8 2 2 4 := ⟨_, _, Tryz.underlying8, rfl, rfl, rfl⟩
instance : Fld Tryz.prog 8 3 3 6 := ⟨_, _, Tryz.underlying8, rfl, rfl, rfl⟩
instance : IsScalar Tryz.prog 9 := ⟨_, Tryz.underlying9, rfl⟩
instance : Size1 Tryz.prog 9 := ⟨by kernel_rfl⟩
instance : KeyTy Tryz.prog 9 (fun s : ByteArray => Value.string s) := KeyTy.str Tryz.underlying9
instance : ZeroV Tryz.prog 9 (.string ⟨#[]⟩) := ⟨by kernel_rfl⟩
instance : Zero Tryz.prog 9 [.string ⟨#[]⟩] := ⟨_, ZeroV.out (P := Tryz.prog) (T := 9), rfl⟩
instance : ElTy Tryz.prog 9 1 16 := ElTy.of (z := (.string ⟨#[]⟩)) (by kernel_rfl) rfl
instance : IsScalar Tryz.prog 10 := ⟨_, Tryz.underlying10, rfl⟩
instance : Size1 Tryz.prog 10 := ⟨by kernel_rfl⟩
instance : KeyTy Tryz.prog 10 (fun s : ByteArray => Value.string s) := KeyTy.str Tryz.underlying10
instance : ZeroV Tryz.prog 10 (.string ⟨#[]⟩) := ⟨by kernel_rfl⟩
instance : Zero Tryz.prog 10 [.string ⟨#[]⟩] := ⟨_, ZeroV.out (P := Tryz.prog) (T := 10), rfl⟩
instance : IsScalar Tryz.prog 11 := ⟨_, Tryz.underlying11, rfl⟩
instance : Size1 Tryz.prog 11 := ⟨by kernel_rfl⟩
instance : KeyTy Tryz.prog 11 (fun s : ByteArray => Value.string s) := KeyTy.str Tryz.underlying11
instance : ZeroV Tryz.prog 11 (.string ⟨#[]⟩) := ⟨by kernel_rfl⟩
instance : Zero Tryz.prog 11 [.string ⟨#[]⟩] := ⟨_, ZeroV.out (P := Tryz.prog) (T := 11), rfl⟩
instance : IsScalar Tryz.prog 12 := ⟨_, Tryz.underlying12, rfl⟩
instance : Size1 Tryz.prog 12 := ⟨by kernel_rfl⟩
instance : KeyTy Tryz.prog 12 (fun n : Int => Value.int .u64 n) := KeyTy.int Tryz.underlying12
instance : ZeroV Tryz.prog 12 (.int .u64 0) := ⟨by kernel_rfl⟩
instance : Zero Tryz.prog 12 [.int .u64 0] := ⟨_, ZeroV.out (P := Tryz.prog) (T := 12), rfl⟩
instance : IsRow Tryz.prog 13 2 := ⟨⟨_, Tryz.underlying13, rfl⟩, by kernel_rfl⟩
instance : StructTy Tryz.prog 13 [.string ⟨#[]⟩, .int .u64 0] [(0, 1), (1, 1)] := ⟨fun parts => by kernel_rfl⟩
instance : ZeroV Tryz.prog 13 (.agg #[.string ⟨#[]⟩, .int .u64 0]) := ⟨by kernel_rfl⟩
instance : Zero Tryz.prog 13 [.string ⟨#[]⟩, .int .u64 0] := ⟨_, ZeroV.out (P := Tryz.prog) (T := 13), rfl⟩
instance : Fld Tryz.prog 13 0 0 9 := ⟨_, _, Tryz.underlying13, rfl, rfl, rfl⟩
instance : Fld Tryz.prog 13 1 1 12 := ⟨_, _, Tryz.underlying13, rfl, rfl, rfl⟩
instance : IsRow Tryz.prog 14 2 := ⟨⟨_, Tryz.underlying14, rfl⟩, by kernel_rfl⟩
instance : StructTy Tryz.prog 14 [.string ⟨#[]⟩, .int .u64 0] [(0, 1), (1, 1)] := ⟨fun parts => by kernel_rfl⟩
instance : ZeroV Tryz.prog 14 (.agg #[.string ⟨#[]⟩, .int .u64 0]) := ⟨by kernel_rfl⟩
instance : Zero Tryz.prog 14 [.string ⟨#[]⟩, .int .u64 0] := ⟨_, ZeroV.out (P := Tryz.prog) (T := 14), rfl⟩
instance : Fld Tryz.prog 14 0 0 9 := ⟨_, _, Tryz.underlying14, rfl, rfl, rfl⟩
instance : Fld Tryz.prog 14 1 1 12 := ⟨_, _, Tryz.underlying14, rfl, rfl, rfl⟩
instance : IsScalar Tryz.prog 15 := ⟨_, Tryz.underlying15, rfl⟩
instance : Size1 Tryz.prog 15 := ⟨by kernel_rfl⟩
instance : ZeroV Tryz.prog 15 (.pointer none) := ⟨by kernel_rfl⟩
instance : Zero Tryz.prog 15 [.pointer none] := ⟨_, ZeroV.out (P := Tryz.prog) (T := 15), rfl⟩
instance : IsScalar Tryz.prog 16 := ⟨_, Tryz.underlying16, rfl⟩
instance : Size1 Tryz.prog 16 := ⟨by kernel_rfl⟩
instance : ZeroV Tryz.prog 16 (.pointer none) := ⟨by kernel_rfl⟩
instance : Zero Tryz.prog 16 [.pointer none] := ⟨_, ZeroV.out (P := Tryz.prog) (T := 16), rfl⟩
instance : IsScalar Tryz.prog 17 := ⟨_, Tryz.underlying17, rfl⟩
instance : Size1 Tryz.prog 17 := ⟨by kernel_rfl⟩
instance : ZeroV Tryz.prog 17 (.pointer none) := ⟨by kernel_rfl⟩
instance : Zero Tryz.prog 17 [.pointer none] := ⟨_, ZeroV.out (P := Tryz.prog) (T := 17), rfl⟩
instance : IsRow Tryz.prog 18 1 := ⟨⟨_, Tryz.underlying18, rfl⟩, by kernel_rfl⟩
instance : StructTy Tryz.prog 18 [.pointer none] [(0, 1)] := ⟨fun parts => by kernel_rfl⟩
instance : ZeroV Tryz.prog 18 (.agg #[.pointer none]) := ⟨by kernel_rfl⟩
instance : Zero Tryz.prog 18 [.pointer none] := ⟨_, ZeroV.out (P := Tryz.prog) (T := 18), rfl⟩
instance : Fld Tryz.prog 18 0 0 17 := ⟨_, _, Tryz.underlying18, rfl, rfl, rfl⟩
instance : IsRow Tryz.prog 19 1 := ⟨⟨_, Tryz.underlying19, rfl⟩, by kernel_rfl⟩
instance : StructTy Tryz.prog 19 [.pointer none] [(0, 1)] := ⟨fun parts => by kernel_rfl⟩
instance : ZeroV Tryz.prog 19 (.agg #[.pointer none]) := ⟨by kernel_rfl⟩
instance : Zero Tryz.prog 19 [.pointer none] := ⟨_, ZeroV.out (P := Tryz.prog) (T := 19), rfl⟩
instance : Fld Tryz.prog 19 0 0 17 := ⟨_, _, Tryz.underlying19, rfl, rfl, rfl⟩
instance : IsScalar Tryz.prog 20 := ⟨_, Tryz.underlying20, rfl⟩
instance : Size1 Tryz.prog 20 := ⟨by kernel_rfl⟩
instance : ZeroV Tryz.prog 20 (.nilIface) := ⟨by kernel_rfl⟩
instance : Zero Tryz.prog 20 [.nilIface] := ⟨_, ZeroV.out (P := Tryz.prog) (T := 20), rfl⟩
instance : IsScalar Tryz.prog 21 := ⟨_, Tryz.underlying21, rfl⟩
instance : Size1 Tryz.prog 21 := ⟨by kernel_rfl⟩
instance : KeyTy Tryz.prog 21 (fun n : Int => Value.int .i32 n) := KeyTy.int Tryz.underlying21
instance : ZeroV Tryz.prog 21 (.int .i32 0) := ⟨by kernel_rfl⟩
instance : Zero Tryz.prog 21 [.int .i32 0] := ⟨_, ZeroV.out (P := Tryz.prog) (T := 21), rfl⟩
instance : IsScalar Tryz.prog 22 := ⟨_, Tryz.underlying22, rfl⟩
instance : Size1 Tryz.prog 22 := ⟨by kernel_rfl⟩
instance : SlTy Tryz.prog 22 24 3 := ⟨Tryz.underlying22, by kernel_rfl⟩
instance : ZeroV Tryz.prog 22 (.slice none 0 0) := ⟨by kernel_rfl⟩
instance : Zero Tryz.prog 22 [.slice none 0 0] := ⟨_, ZeroV.out (P := Tryz.prog) (T := 22), rfl⟩
instance : IsRow Tryz.prog 23 3 := ⟨⟨_, Tryz.underlying23, rfl⟩, by kernel_rfl⟩
instance : StructTy Tryz.prog 23 [.string ⟨#[]⟩, .int .i64 0, .string ⟨#[]⟩] [(0, 1), (1, 1), (2, 1)] := ⟨fun parts => by kernel_rfl⟩
instance : ZeroV Tryz.prog 23 (.agg #[.string ⟨#[]⟩, .int .i64 0, .string ⟨#[]⟩]) := ⟨by kernel_rfl⟩
instance : Zero Tryz.prog 23 [.string ⟨#[]⟩, .int .i64 0, .string ⟨#[]⟩] := ⟨_, ZeroV.out (P := Tryz.prog) (T := 23), rfl⟩
instance : Fld Tryz.prog 23 0 0 9 := ⟨_, _, Tryz.underlying23, rfl, rfl, rfl⟩
instance : Fld Tryz.prog 23 1 1 3 := ⟨_, _, Tryz.underlying23, rfl, rfl, rfl⟩
instance : Fld Tryz.prog 23 2 2 9 := ⟨_, _, Tryz.underlying23, rfl, rfl, rfl⟩
instance : IsRow Tryz.prog 24 3 := ⟨⟨_, Tryz.underlying24, rfl⟩, by kernel_rfl⟩
instance : StructTy Tryz.prog 24 [.string ⟨#[]⟩, .int .i64 0, .string ⟨#[]⟩] [(0, 1), (1, 1), (2, 1)] := ⟨fun parts => by kernel_rfl⟩
instance : ZeroV Tryz.prog 24 (.agg #[.string ⟨#[]⟩, .int .i64 0, .string ⟨#[]⟩]) := ⟨by kernel_rfl⟩
instance : Zero Tryz.prog 24 [.string ⟨#[]⟩, .int .i64 0, .string ⟨#[]⟩] := ⟨_, ZeroV.out (P := Tryz.prog) (T := 24), rfl⟩
instance : ElTy Tryz.prog 24 3 40 := ElTy.of (z := (.agg #[.string ⟨#[]⟩, .int .i64 0, .string ⟨#[]⟩])) (by kernel_rfl) rfl
instance : Fld Tryz.prog 24 0 0 9 := ⟨_, _, Tryz.underlying24, rfl, rfl, rfl⟩
instance : Fld Tryz.prog 24 1 1 3 := ⟨_, _, Tryz.underlying24, rfl, rfl, rfl⟩
instance : Fld Tryz.prog 24 2 2 9 := ⟨_, _, Tryz.underlying24, rfl, rfl, rfl⟩
instance : IsScalar Tryz.prog 25 := ⟨_, Tryz.underlying25, rfl⟩
instance : Size1 Tryz.prog 25 := ⟨by kernel_rfl⟩
instance : ZeroV Tryz.prog 25 (.nilFunc) := ⟨by kernel_rfl⟩
instance : Zero Tryz.prog 25 [.nilFunc] := ⟨_, ZeroV.out (P := Tryz.prog) (T := 25), rfl⟩
instance : IsScalar Tryz.prog 26 := ⟨_, Tryz.underlying26, rfl⟩
instance : Size1 Tryz.prog 26 := ⟨by kernel_rfl⟩
instance : KeyTy Tryz.prog 26 (fun n : Int => Value.int .i64 n) := KeyTy.int Tryz.underlying26
instance : ZeroV Tryz.prog 26 (.int .i64 0) := ⟨by kernel_rfl⟩
instance : Zero Tryz.prog 26 [.int .i64 0] := ⟨_, ZeroV.out (P := Tryz.prog) (T := 26), rfl⟩
instance : ElTy Tryz.prog 26 1 8 := ElTy.of (z := (.int .i64 0)) (by kernel_rfl) rfl
instance : IsScalar Tryz.prog 28 := ⟨_, Tryz.underlying28, rfl⟩
instance : Size1 Tryz.prog 28 := ⟨by kernel_rfl⟩
instance : ZeroV Tryz.prog 28 (.nilFunc) := ⟨by kernel_rfl⟩
instance : Zero Tryz.prog 28 [.nilFunc] := ⟨_, ZeroV.out (P := Tryz.prog) (T := 28), rfl⟩
instance : IsScalar Tryz.prog 30 := ⟨_, Tryz.underlying30, rfl⟩
instance : Size1 Tryz.prog 30 := ⟨by kernel_rfl⟩
instance : ZeroV Tryz.prog 30 (.nilFunc) := ⟨by kernel_rfl⟩
instance : Zero Tryz.prog 30 [.nilFunc] := ⟨_, ZeroV.out (P := Tryz.prog) (T := 30), rfl⟩
instance : IsScalar Tryz.prog 31 := ⟨_, Tryz.underlying31, rfl⟩
instance : Size1 Tryz.prog 31 := ⟨by kernel_rfl⟩
instance : ZeroV Tryz.prog 31 (.nilFunc) := ⟨by kernel_rfl⟩
instance : Zero Tryz.prog 31 [.nilFunc] := ⟨_, ZeroV.out (P := Tryz.prog) (T := 31), rfl⟩
instance : IsScalar Tryz.prog 32 := ⟨_, Tryz.underlying32, rfl⟩
instance : Size1 Tryz.prog 32 := ⟨by kernel_rfl⟩
instance : ZeroV Tryz.prog 32 (.nilFunc) := ⟨by kernel_rfl⟩
instance : Zero Tryz.prog 32 [.nilFunc] := ⟨_, ZeroV.out (P := Tryz.prog) (T := 32), rfl⟩
instance : IsScalar Tryz.prog 33 := ⟨_, Tryz.underlying33, rfl⟩
instance : Size1 Tryz.prog 33 := ⟨by kernel_rfl⟩
instance : ZeroV Tryz.prog 33 (.nilFunc) := ⟨by kernel_rfl⟩
instance : Zero Tryz.prog 33 [.nilFunc] := ⟨_, ZeroV.out (P := Tryz.prog) (T := 33), rfl⟩
instance : IsScalar Tryz.prog 34 := ⟨_, Tryz.underlying34, rfl⟩
instance : Size1 Tryz.prog 34 := ⟨by kernel_rfl⟩
instance : ZeroV Tryz.prog 34 (.nilFunc) := ⟨by kernel_rfl⟩
instance : Zero Tryz.prog 34 [.nilFunc] := ⟨_, ZeroV.out (P := Tryz.prog) (T := 34), rfl⟩
instance : IsScalar Tryz.prog 35 := ⟨_, Tryz.underlying35, rfl⟩
instance : Size1 Tryz.prog 35 := ⟨by kernel_rfl⟩
instance : ZeroV Tryz.prog 35 (.nilFunc) := ⟨by kernel_rfl⟩
instance : Zero Tryz.prog 35 [.nilFunc] := ⟨_, ZeroV.out (P := Tryz.prog) (T := 35), rfl⟩
instance : IsScalar Tryz.prog 36 := ⟨_, Tryz.underlying36, rfl⟩
instance : Size1 Tryz.prog 36 := ⟨by kernel_rfl⟩
instance : SlTy Tryz.prog 36 38 6 := ⟨Tryz.underlying36, by kernel_rfl⟩
instance : ZeroV Tryz.prog 36 (.slice none 0 0) := ⟨by kernel_rfl⟩
instance : Zero Tryz.prog 36 [.slice none 0 0] := ⟨_, ZeroV.out (P := Tryz.prog) (T := 36), rfl⟩
instance : IsRow Tryz.prog 37 6 := ⟨⟨_, Tryz.underlying37, rfl⟩, by kernel_rfl⟩
instance : StructTy Tryz.prog 37 [.int .i64 0, .string ⟨#[]⟩, .int .i64 0, .string ⟨#[]⟩, .string ⟨#[]⟩, .slice none 0 0] [(0, 1), (1, 3), (4, 1), (5, 1)] := ⟨fun parts => by kernel_rfl⟩
instance : ZeroV Tryz.prog 37 (.agg #[.int .i64 0, .string ⟨#[]⟩, .int .i64 0, .string ⟨#[]⟩, .string ⟨#[]⟩, .slice none 0 0]) := ⟨by kernel_rfl⟩
instance : Zero Tryz.prog 37 [.int .i64 0, .string ⟨#[]⟩, .int .i64 0, .string ⟨#[]⟩, .string ⟨#[]⟩, .slice none 0 0] := ⟨_, ZeroV.out (P := Tryz.prog) (T := 37), rfl⟩
instance : Fld Tryz.prog 37 0 0 3 := ⟨_, _, Tryz.underlying37, rfl, rfl, rfl⟩
instance : Fld Tryz.prog 37 1 1 24 := ⟨_, _, Tryz.underlying37, rfl, rfl, rfl⟩
instance : Fld Tryz.prog 37 2 4 9 := ⟨_, _, Tryz.underlying37, rfl, rfl, rfl⟩
instance : Fld Tryz.prog 37 3 5 22 := ⟨_, _, Tryz.underlying37, rfl, rfl, rfl⟩
instance : IsRow Tryz.prog 38 6 := ⟨⟨_, Tryz.underlying38, rfl⟩, by kernel_rfl⟩
instance : StructTy Tryz.prog 38 [.int .i64 0, .string ⟨#[]⟩, .int .i64 0, .string ⟨#[]⟩, .string ⟨#[]⟩, .slice none 0 0] [(0, 1), (1, 3), (4, 1), (5, 1)] := ⟨fun parts => by kernel_rfl⟩
instance : ZeroV Tryz.prog 38 (.agg #[.int .i64 0, .string ⟨#[]⟩, .int .i64 0, .string ⟨#[]⟩, .string ⟨#[]⟩, .slice none 0 0]) := ⟨by kernel_rfl⟩
instance : Zero Tryz.prog 38 [.int .i64 0, .string ⟨#[]⟩, .int .i64 0, .string ⟨#[]⟩, .string ⟨#[]⟩, .slice none 0 0] := ⟨_, ZeroV.out (P := Tryz.prog) (T := 38), rfl⟩
instance : ElTy Tryz.prog 38 6 88 := ElTy.of (z := (.agg #[.int .i64 0, .string ⟨#[]⟩, .int .i64 0, .string ⟨#[]⟩, .string ⟨#[]⟩, .slice none 0 0])) (by kernel_rfl) rfl
instance : Fld Tryz.prog 38 0 0 3 := ⟨_, _, Tryz.underlying38, rfl, rfl, rfl⟩
instance : Fld Tryz.prog 38 1 1 24 := ⟨_, _, Tryz.underlying38, rfl, rfl, rfl⟩
instance : Fld Tryz.prog 38 2 4 9 := ⟨_, _, Tryz.underlying38, rfl, rfl, rfl⟩
instance : Fld Tryz.prog 38 3 5 22 := ⟨_, _, Tryz.underlying38, rfl, rfl, rfl⟩
instance : IsScalar Tryz.prog 39 := ⟨_, Tryz.underlying39, rfl⟩
instance : Size1 Tryz.prog 39 := ⟨by kernel_rfl⟩
instance : ZeroV Tryz.prog 39 (.nilFunc) := ⟨by kernel_rfl⟩
instance : Zero Tryz.prog 39 [.nilFunc] := ⟨_, ZeroV.out (P := Tryz.prog) (T := 39), rfl⟩
instance : IsScalar Tryz.prog 40 := ⟨_, Tryz.underlying40, rfl⟩
instance : Size1 Tryz.prog 40 := ⟨by kernel_rfl⟩
instance : ZeroV Tryz.prog 40 (.nilFunc) := ⟨by kernel_rfl⟩
instance : Zero Tryz.prog 40 [.nilFunc] := ⟨_, ZeroV.out (P := Tryz.prog) (T := 40), rfl⟩
instance : IsScalar Tryz.prog 41 := ⟨_, Tryz.underlying41, rfl⟩
instance : Size1 Tryz.prog 41 := ⟨by kernel_rfl⟩
instance : ZeroV Tryz.prog 41 (.nilFunc) := ⟨by kernel_rfl⟩
instance : Zero Tryz.prog 41 [.nilFunc] := ⟨_, ZeroV.out (P := Tryz.prog) (T := 41), rfl⟩
instance : IsScalar Tryz.prog 42 := ⟨_, Tryz.underlying42, rfl⟩
instance : Size1 Tryz.prog 42 := ⟨by kernel_rfl⟩
instance : ZeroV Tryz.prog 42 (.nilFunc) := ⟨by kernel_rfl⟩
instance : Zero Tryz.prog 42 [.nilFunc] := ⟨_, ZeroV.out (P := Tryz.prog) (T := 42), rfl⟩
instance : IsScalar Tryz.prog 43 := ⟨_, Tryz.underlying43, rfl⟩
instance : Size1 Tryz.prog 43 := ⟨by kernel_rfl⟩
instance : ZeroV Tryz.prog 43 (.nilFunc) := ⟨by kernel_rfl⟩
instance : Zero Tryz.prog 43 [.nilFunc] := ⟨_, ZeroV.out (P := Tryz.prog) (T := 43), rfl⟩
instance : IsScalar Tryz.prog 45 := ⟨_, Tryz.underlying45, rfl⟩
instance : Size1 Tryz.prog 45 := ⟨by kernel_rfl⟩
instance : ZeroV Tryz.prog 45 (.nilFunc) := ⟨by kernel_rfl⟩
instance : Zero Tryz.prog 45 [.nilFunc] := ⟨_, ZeroV.out (P := Tryz.prog) (T := 45), rfl⟩
instance : IsScalar Tryz.prog 46 := ⟨_, Tryz.underlying46, rfl⟩
instance : Size1 Tryz.prog 46 := ⟨by kernel_rfl⟩
instance : ZeroV Tryz.prog 46 (.nilFunc) := ⟨by kernel_rfl⟩
instance : Zero Tryz.prog 46 [.nilFunc] := ⟨_, ZeroV.out (P := Tryz.prog) (T := 46), rfl⟩
instance : IsScalar Tryz.prog 47 := ⟨_, Tryz.underlying47, rfl⟩
instance : Size1 Tryz.prog 47 := ⟨by kernel_rfl⟩
instance : SlTy Tryz.prog 47 9 1 := ⟨Tryz.underlying47, by kernel_rfl⟩
instance : ZeroV Tryz.prog 47 (.slice none 0 0) := ⟨by kernel_rfl⟩
instance : Zero Tryz.prog 47 [.slice none 0 0] := ⟨_, ZeroV.out (P := Tryz.prog) (T := 47), rfl⟩
instance : IsScalar Tryz.prog 49 := ⟨_, Tryz.underlying49, rfl⟩
instance : Size1 Tryz.prog 49 := ⟨by kernel_rfl⟩
instance : ZeroV Tryz.prog 49 (.nilFunc) := ⟨by kernel_rfl⟩
instance : Zero Tryz.prog 49 [.nilFunc] := ⟨_, ZeroV.out (P := Tryz.prog) (T := 49), rfl⟩
instance : IsScalar Tryz.prog 51 := ⟨_, Tryz.underlying51, rfl⟩
instance : Size1 Tryz.prog 51 := ⟨by kernel_rfl⟩
instance : ZeroV Tryz.prog 51 (.nilFunc) := ⟨by kernel_rfl⟩
instance : Zero Tryz.prog 51 [.nilFunc] := ⟨_, ZeroV.out (P := Tryz.prog) (T := 51), rfl⟩
instance : IsScalar Tryz.prog 52 := ⟨_, Tryz.underlying52, rfl⟩
instance : Size1 Tryz.prog 52 := ⟨by kernel_rfl⟩
instance : ZeroV Tryz.prog 52 (.nilFunc) := ⟨by kernel_rfl⟩
instance : Zero Tryz.prog 52 [.nilFunc] := ⟨_, ZeroV.out (P := Tryz.prog) (T := 52), rfl⟩
instance : IsScalar Tryz.prog 53 := ⟨_, Tryz.underlying53, rfl⟩
instance : Size1 Tryz.prog 53 := ⟨by kernel_rfl⟩
instance : ZeroV Tryz.prog 53 (.nilFunc) := ⟨by kernel_rfl⟩
instance : Zero Tryz.prog 53 [.nilFunc] := ⟨_, ZeroV.out (P := Tryz.prog) (T := 53), rfl⟩
instance : IsScalar Tryz.prog 54 := ⟨_, Tryz.underlying54, rfl⟩
instance : Size1 Tryz.prog 54 := ⟨by kernel_rfl⟩
instance : ZeroV Tryz.prog 54 (.nilFunc) := ⟨by kernel_rfl⟩
instance : Zero Tryz.prog 54 [.nilFunc] := ⟨_, ZeroV.out (P := Tryz.prog) (T := 54), rfl⟩
instance : IsScalar Tryz.prog 56 := ⟨_, Tryz.underlying56, rfl⟩
instance : Size1 Tryz.prog 56 := ⟨by kernel_rfl⟩
instance : ZeroV Tryz.prog 56 (.nilFunc) := ⟨by kernel_rfl⟩
instance : Zero Tryz.prog 56 [.nilFunc] := ⟨_, ZeroV.out (P := Tryz.prog) (T := 56), rfl⟩
instance : IsScalar Tryz.prog 57 := ⟨_, Tryz.underlying57, rfl⟩
instance : Size1 Tryz.prog 57 := ⟨by kernel_rfl⟩
instance : ZeroV Tryz.prog 57 (.nilFunc) := ⟨by kernel_rfl⟩
instance : Zero Tryz.prog 57 [.nilFunc] := ⟨_, ZeroV.out (P := Tryz.prog) (T := 57), rfl⟩
instance : IsScalar Tryz.prog 58 := ⟨_, Tryz.underlying58, rfl⟩
instance : Size1 Tryz.prog 58 := ⟨by kernel_rfl⟩
instance : ZeroV Tryz.prog 58 (.nilFunc) := ⟨by kernel_rfl⟩
instance : Zero Tryz.prog 58 [.nilFunc] := ⟨_, ZeroV.out (P := Tryz.prog) (T := 58), rfl⟩
instance : IsScalar Tryz.prog 59 := ⟨_, Tryz.underlying59, rfl⟩
instance : Size1 Tryz.prog 59 := ⟨by kernel_rfl⟩
instance : ZeroV Tryz.prog 59 (.nilFunc) := ⟨by kernel_rfl⟩
instance : Zero Tryz.prog 59 [.nilFunc] := ⟨_, ZeroV.out (P := Tryz.prog) (T := 59), rfl⟩
instance : IsScalar Tryz.prog 61 := ⟨_, Tryz.underlying61, rfl⟩
instance : Size1 Tryz.prog 61 := ⟨by kernel_rfl⟩
instance : ZeroV Tryz.prog 61 (.nilFunc) := ⟨by kernel_rfl⟩
instance : Zero Tryz.prog 61 [.nilFunc] := ⟨_, ZeroV.out (P := Tryz.prog) (T := 61), rfl⟩
instance : IsScalar Tryz.prog 62 := ⟨_, Tryz.underlying62, rfl⟩
instance : Size1 Tryz.prog 62 := ⟨by kernel_rfl⟩
instance : ZeroV Tryz.prog 62 (.nilFunc) := ⟨by kernel_rfl⟩
instance : Zero Tryz.prog 62 [.nilFunc] := ⟨_, ZeroV.out (P := Tryz.prog) (T := 62), rfl⟩
instance : IsScalar Tryz.prog 63 := ⟨_, Tryz.underlying63, rfl⟩
instance : Size1 Tryz.prog 63 := ⟨by kernel_rfl⟩
instance : ZeroV Tryz.prog 63 (.nilFunc) := ⟨by kernel_rfl⟩
instance : Zero Tryz.prog 63 [.nilFunc] := ⟨_, ZeroV.out (P := Tryz.prog) (T := 63), rfl⟩
instance : IsScalar Tryz.prog 64 := ⟨_, Tryz.underlying64, rfl⟩
instance : Size1 Tryz.prog 64 := ⟨by kernel_rfl⟩
instance : ZeroV Tryz.prog 64 (.nilFunc) := ⟨by kernel_rfl⟩
instance : Zero Tryz.prog 64 [.nilFunc] := ⟨_, ZeroV.out (P := Tryz.prog) (T := 64), rfl⟩
instance : IsScalar Tryz.prog 65 := ⟨_, Tryz.underlying65, rfl⟩
instance : Size1 Tryz.prog 65 := ⟨by kernel_rfl⟩
instance : ZeroV Tryz.prog 65 (.nilFunc) := ⟨by kernel_rfl⟩
instance : Zero Tryz.prog 65 [.nilFunc] := ⟨_, ZeroV.out (P := Tryz.prog) (T := 65), rfl⟩
instance : IsScalar Tryz.prog 66 := ⟨_, Tryz.underlying66, rfl⟩
instance : Size1 Tryz.prog 66 := ⟨by kernel_rfl⟩
instance : ZeroV Tryz.prog 66 (.nilFunc) := ⟨by kernel_rfl⟩
instance : Zero Tryz.prog 66 [.nilFunc] := ⟨_, ZeroV.out (P := Tryz.prog) (T := 66), rfl⟩
instance : IsScalar Tryz.prog 67 := ⟨_, Tryz.underlying67, rfl⟩
instance : Size1 Tryz.prog 67 := ⟨by kernel_rfl⟩
instance : ZeroV Tryz.prog 67 (.nilFunc) := ⟨by kernel_rfl⟩
instance : Zero Tryz.prog 67 [.nilFunc] := ⟨_, ZeroV.out (P := Tryz.prog) (T := 67), rfl⟩
instance : IsScalar Tryz.prog 68 := ⟨_, Tryz.underlying68, rfl⟩
instance : Size1 Tryz.prog 68 := ⟨by kernel_rfl⟩
instance : ZeroV Tryz.prog 68 (.nilFunc) := ⟨by kernel_rfl⟩
instance : Zero Tryz.prog 68 [.nilFunc] := ⟨_, ZeroV.out (P := Tryz.prog) (T := 68), rfl⟩
instance : IsScalar Tryz.prog 69 := ⟨_, Tryz.underlying69, rfl⟩
instance : Size1 Tryz.prog 69 := ⟨by kernel_rfl⟩
instance : ZeroV Tryz.prog 69 (.nilFunc) := ⟨by kernel_rfl⟩
instance : Zero Tryz.prog 69 [.nilFunc] := ⟨_, ZeroV.out (P := Tryz.prog) (T := 69), rfl⟩
instance : IsScalar Tryz.prog 70 := ⟨_, Tryz.underlying70, rfl⟩
instance : Size1 Tryz.prog 70 := ⟨by kernel_rfl⟩
instance : ZeroV Tryz.prog 70 (.nilFunc) := ⟨by kernel_rfl⟩
instance : Zero Tryz.prog 70 [.nilFunc] := ⟨_, ZeroV.out (P := Tryz.prog) (T := 70), rfl⟩
instance : IsScalar Tryz.prog 72 := ⟨_, Tryz.underlying72, rfl⟩
instance : Size1 Tryz.prog 72 := ⟨by kernel_rfl⟩
instance : ZeroV Tryz.prog 72 (.nilFunc) := ⟨by kernel_rfl⟩
instance : Zero Tryz.prog 72 [.nilFunc] := ⟨_, ZeroV.out (P := Tryz.prog) (T := 72), rfl⟩
instance : IsScalar Tryz.prog 73 := ⟨_, Tryz.underlying73, rfl⟩
instance : Size1 Tryz.prog 73 := ⟨by kernel_rfl⟩
instance : ZeroV Tryz.prog 73 (.nilFunc) := ⟨by kernel_rfl⟩
instance : Zero Tryz.prog 73 [.nilFunc] := ⟨_, ZeroV.out (P := Tryz.prog) (T := 73), rfl⟩
instance : IsScalar Tryz.prog 75 := ⟨_, Tryz.underlying75, rfl⟩
instance : Size1 Tryz.prog 75 := ⟨by kernel_rfl⟩
instance : ZeroV Tryz.prog 75 (.nilFunc) := ⟨by kernel_rfl⟩
instance : Zero Tryz.prog 75 [.nilFunc] := ⟨_, ZeroV.out (P := Tryz.prog) (T := 75), rfl⟩
instance : IsScalar Tryz.prog 76 := ⟨_, Tryz.underlying76, rfl⟩
instance : Size1 Tryz.prog 76 := ⟨by kernel_rfl⟩
instance : ZeroV Tryz.prog 76 (.nilFunc) := ⟨by kernel_rfl⟩
instance : Zero Tryz.prog 76 [.nilFunc] := ⟨_, ZeroV.out (P := Tryz.prog) (T := 76), rfl⟩
instance : IsScalar Tryz.prog 77 := ⟨_, Tryz.underlying77, rfl⟩
instance : Size1 Tryz.prog 77 := ⟨by kernel_rfl⟩
instance : ZeroV Tryz.prog 77 (.nilFunc) := ⟨by kernel_rfl⟩
instance : Zero Tryz.prog 77 [.nilFunc] := ⟨_, ZeroV.out (P := Tryz.prog) (T := 77), rfl⟩
instance : IsScalar Tryz.prog 78 := ⟨_, Tryz.underlying78, rfl⟩
instance : Size1 Tryz.prog 78 := ⟨by kernel_rfl⟩
instance : ZeroV Tryz.prog 78 (.nilFunc) := ⟨by kernel_rfl⟩
instance : Zero Tryz.prog 78 [.nilFunc] := ⟨_, ZeroV.out (P := Tryz.prog) (T := 78), rfl⟩
instance : IsScalar Tryz.prog 79 := ⟨_, Tryz.underlying79, rfl⟩
instance : Size1 Tryz.prog 79 := ⟨by kernel_rfl⟩
instance : MapTy Tryz.prog 79 9 3 := ⟨Tryz.underlying79⟩
instance : ZeroV Tryz.prog 79 (.map none) := ⟨by kernel_rfl⟩
instance : Zero Tryz.prog 79 [.map none] := ⟨_, ZeroV.out (P := Tryz.prog) (T := 79), rfl⟩
instance : IsScalar Tryz.prog 80 := ⟨_, Tryz.underlying80, rfl⟩
instance : Size1 Tryz.prog 80 := ⟨by kernel_rfl⟩
instance : ZeroV Tryz.prog 80 (.nilFunc) := ⟨by kernel_rfl⟩
instance : Zero Tryz.prog 80 [.nilFunc] := ⟨_, ZeroV.out (P := Tryz.prog) (T := 80), rfl⟩
instance : IsScalar Tryz.prog 82 := ⟨_, Tryz.underlying82, rfl⟩
instance : Size1 Tryz.prog 82 := ⟨by kernel_rfl⟩
instance : ZeroV Tryz.prog 82 (.nilFunc) := ⟨by kernel_rfl⟩
instance : Zero Tryz.prog 82 [.nilFunc] := ⟨_, ZeroV.out (P := Tryz.prog) (T := 82), rfl⟩
instance : IsScalar Tryz.prog 83 := ⟨_, Tryz.underlying83, rfl⟩
instance : Size1 Tryz.prog 83 := ⟨by kernel_rfl⟩
instance : ZeroV Tryz.prog 83 (.nilFunc) := ⟨by kernel_rfl⟩
instance : Zero Tryz.prog 83 [.nilFunc] := ⟨_, ZeroV.out (P := Tryz.prog) (T := 83), rfl⟩
instance : IsScalar Tryz.prog 84 := ⟨_, Tryz.underlying84, rfl⟩
instance : Size1 Tryz.prog 84 := ⟨by kernel_rfl⟩
instance : ZeroV Tryz.prog 84 (.nilFunc) := ⟨by kernel_rfl⟩
instance : Zero Tryz.prog 84 [.nilFunc] := ⟨_, ZeroV.out (P := Tryz.prog) (T := 84), rfl⟩
instance : IsScalar Tryz.prog 85 := ⟨_, Tryz.underlying85, rfl⟩
instance : Size1 Tryz.prog 85 := ⟨by kernel_rfl⟩
instance : ZeroV Tryz.prog 85 (.nilFunc) := ⟨by kernel_rfl⟩
instance : Zero Tryz.prog 85 [.nilFunc] := ⟨_, ZeroV.out (P := Tryz.prog) (T := 85), rfl⟩
instance : IsScalar Tryz.prog 86 := ⟨_, Tryz.underlying86, rfl⟩
instance : Size1 Tryz.prog 86 := ⟨by kernel_rfl⟩
instance : ZeroV Tryz.prog 86 (.nilFunc) := ⟨by kernel_rfl⟩
instance : Zero Tryz.prog 86 [.nilFunc] := ⟨_, ZeroV.out (P := Tryz.prog) (T := 86), rfl⟩
instance : IsScalar Tryz.prog 88 := ⟨_, Tryz.underlying88, rfl⟩
instance : Size1 Tryz.prog 88 := ⟨by kernel_rfl⟩
instance : ZeroV Tryz.prog 88 (.nilFunc) := ⟨by kernel_rfl⟩
instance : Zero Tryz.prog 88 [.nilFunc] := ⟨_, ZeroV.out (P := Tryz.prog) (T := 88), rfl⟩
instance : IsScalar Tryz.prog 89 := ⟨_, Tryz.underlying89, rfl⟩
instance : Size1 Tryz.prog 89 := ⟨by kernel_rfl⟩
instance : ZeroV Tryz.prog 89 (.nilFunc) := ⟨by kernel_rfl⟩
instance : Zero Tryz.prog 89 [.nilFunc] := ⟨_, ZeroV.out (P := Tryz.prog) (T := 89), rfl⟩
instance : IsScalar Tryz.prog 90 := ⟨_, Tryz.underlying90, rfl⟩
instance : Size1 Tryz.prog 90 := ⟨by kernel_rfl⟩
instance : ZeroV Tryz.prog 90 (.nilFunc) := ⟨by kernel_rfl⟩
instance : Zero Tryz.prog 90 [.nilFunc] := ⟨_, ZeroV.out (P := Tryz.prog) (T := 90), rfl⟩
instance : IsScalar Tryz.prog 91 := ⟨_, Tryz.underlying91, rfl⟩
instance : Size1 Tryz.prog 91 := ⟨by kernel_rfl⟩
instance : ZeroV Tryz.prog 91 (.nilFunc) := ⟨by kernel_rfl⟩
instance : Zero Tryz.prog 91 [.nilFunc] := ⟨_, ZeroV.out (P := Tryz.prog) (T := 91), rfl⟩
instance : IsScalar Tryz.prog 92 := ⟨_, Tryz.underlying92, rfl⟩
instance : Size1 Tryz.prog 92 := ⟨by kernel_rfl⟩
instance : KeyTy Tryz.prog 92 (fun n : Int => Value.int .u64 n) := KeyTy.int Tryz.underlying92
instance : ZeroV Tryz.prog 92 (.int .u64 0) := ⟨by kernel_rfl⟩
instance : Zero Tryz.prog 92 [.int .u64 0] := ⟨_, ZeroV.out (P := Tryz.prog) (T := 92), rfl⟩
instance : IsScalar Tryz.prog 93 := ⟨_, Tryz.underlying93, rfl⟩
instance : Size1 Tryz.prog 93 := ⟨by kernel_rfl⟩
instance : ZeroV Tryz.prog 93 (.nilFunc) := ⟨by kernel_rfl⟩
instance : Zero Tryz.prog 93 [.nilFunc] := ⟨_, ZeroV.out (P := Tryz.prog) (T := 93), rfl⟩
instance : IsScalar Tryz.prog 94 := ⟨_, Tryz.underlying94, rfl⟩
instance : Size1 Tryz.prog 94 := ⟨by kernel_rfl⟩
instance : ZeroV Tryz.prog 94 (.nilFunc) := ⟨by kernel_rfl⟩
instance : Zero Tryz.prog 94 [.nilFunc] := ⟨_, ZeroV.out (P := Tryz.prog) (T := 94), rfl⟩
instance : IsScalar Tryz.prog 95 := ⟨_, Tryz.underlying95, rfl⟩
instance : Size1 Tryz.prog 95 := ⟨by kernel_rfl⟩
instance : ZeroV Tryz.prog 95 (.nilFunc) := ⟨by kernel_rfl⟩
instance : Zero Tryz.prog 95 [.nilFunc] := ⟨_, ZeroV.out (P := Tryz.prog) (T := 95), rfl⟩
instance : IsScalar Tryz.prog 96 := ⟨_, Tryz.underlying96, rfl⟩
instance : Size1 Tryz.prog 96 := ⟨by kernel_rfl⟩
instance : ZeroV Tryz.prog 96 (.nilFunc) := ⟨by kernel_rfl⟩
instance : Zero Tryz.prog 96 [.nilFunc] := ⟨_, ZeroV.out (P := Tryz.prog) (T := 96), rfl⟩
instance : IsScalar Tryz.prog 97 := ⟨_, Tryz.underlying97, rfl⟩
instance : Size1 Tryz.prog 97 := ⟨by kernel_rfl⟩
instance : ZeroV Tryz.prog 97 (.nilFunc) := ⟨by kernel_rfl⟩
instance : Zero Tryz.prog 97 [.nilFunc] := ⟨_, ZeroV.out (P := Tryz.prog) (T := 97), rfl⟩
instance : IsScalar Tryz.prog 98 := ⟨_, Tryz.underlying98, rfl⟩
instance : Size1 Tryz.prog 98 := ⟨by kernel_rfl⟩
instance : ZeroV Tryz.prog 98 (.nilFunc) := ⟨by kernel_rfl⟩
instance : Zero Tryz.prog 98 [.nilFunc] := ⟨_, ZeroV.out (P := Tryz.prog) (T := 98), rfl⟩
instance : IsScalar Tryz.prog 99 := ⟨_, Tryz.underlying99, rfl⟩
instance : Size1 Tryz.prog 99 := ⟨by kernel_rfl⟩
instance : ZeroV Tryz.prog 99 (.nilFunc) := ⟨by kernel_rfl⟩
instance : Zero Tryz.prog 99 [.nilFunc] := ⟨_, ZeroV.out (P := Tryz.prog) (T := 99), rfl⟩
instance : IsScalar Tryz.prog 101 := ⟨_, Tryz.underlying101, rfl⟩
instance : Size1 Tryz.prog 101 := ⟨by kernel_rfl⟩
instance : ZeroV Tryz.prog 101 (.nilFunc) := ⟨by kernel_rfl⟩
instance : Zero Tryz.prog 101 [.nilFunc] := ⟨_, ZeroV.out (P := Tryz.prog) (T := 101), rfl⟩
instance : IsScalar Tryz.prog 102 := ⟨_, Tryz.underlying102, rfl⟩
instance : Size1 Tryz.prog 102 := ⟨by kernel_rfl⟩
instance : ZeroV Tryz.prog 102 (.nilFunc) := ⟨by kernel_rfl⟩
instance : Zero Tryz.prog 102 [.nilFunc] := ⟨_, ZeroV.out (P := Tryz.prog) (T := 102), rfl⟩
instance : IsScalar Tryz.prog 103 := ⟨_, Tryz.underlying103, rfl⟩
instance : Size1 Tryz.prog 103 := ⟨by kernel_rfl⟩
instance : ZeroV Tryz.prog 103 (.pointer none) := ⟨by kernel_rfl⟩
instance : Zero Tryz.prog 103 [.pointer none] := ⟨_, ZeroV.out (P := Tryz.prog) (T := 103), rfl⟩
instance : IsScalar Tryz.prog 104 := ⟨_, Tryz.underlying104, rfl⟩
instance : Size1 Tryz.prog 104 := ⟨by kernel_rfl⟩
instance : SlTy Tryz.prog 104 5 1 := ⟨Tryz.underlying104, by kernel_rfl⟩
instance : ZeroV Tryz.prog 104 (.slice none 0 0) := ⟨by kernel_rfl⟩
instance : Zero Tryz.prog 104 [.slice none 0 0] := ⟨_, ZeroV.out (P := Tryz.prog) (T := 104), rfl⟩
instance : IsRow Tryz.prog 105 2 := ⟨⟨_, Tryz.underlying105, rfl⟩, by kernel_rfl⟩
instance : StructTy Tryz.prog 105 [.pointer none, .slice none 0 0] [(0, 1), (1, 1)] := ⟨fun parts => by kernel_rfl⟩
instance : ZeroV Tryz.prog 105 (.agg #[.pointer none, .slice none 0 0]) := ⟨by kernel_rfl⟩
instance : Zero Tryz.prog 105 [.pointer none, .slice none 0 0] := ⟨_, ZeroV.out (P := Tryz.prog) (T := 105), rfl⟩
instance : Fld Tryz.prog 105 0 0 103 := ⟨_, _, Tryz.underlying105, rfl, rfl, rfl⟩
instance : Fld Tryz.prog 105 1 1 104 := ⟨_, _, Tryz.underlying105, rfl, rfl, rfl⟩
instance : IsRow Tryz.prog 106 2 := ⟨⟨_, Tryz.underlying106, rfl⟩, by kernel_rfl⟩
instance : StructTy Tryz.prog 106 [.pointer none, .slice none 0 0] [(0, 1), (1, 1)] := ⟨fun parts => by kernel_rfl⟩
instance : ZeroV Tryz.prog 106 (.agg #[.pointer none, .slice none 0 0]) := ⟨by kernel_rfl⟩
instance : Zero Tryz.prog 106 [.pointer none, .slice none 0 0] := ⟨_, ZeroV.out (P := Tryz.prog) (T := 106), rfl⟩
instance : Fld Tryz.prog 106 0 0 103 := ⟨_, _, Tryz.underlying106, rfl, rfl, rfl⟩
instance : Fld Tryz.prog 106 1 1 104 := ⟨_, _, Tryz.underlying106, rfl, rfl, rfl⟩
instance : IsScalar Tryz.prog 107 := ⟨_, Tryz.underlying107, rfl⟩
instance : Size1 Tryz.prog 107 := ⟨by kernel_rfl⟩
instance : ZeroV Tryz.prog 107 (.nilFunc) := ⟨by kernel_rfl⟩
instance : Zero Tryz.prog 107 [.nilFunc] := ⟨_, ZeroV.out (P := Tryz.prog) (T := 107), rfl⟩
instance : IsScalar Tryz.prog 108 := ⟨_, Tryz.underlying108, rfl⟩
instance : Size1 Tryz.prog 108 := ⟨by kernel_rfl⟩
instance : ZeroV Tryz.prog 108 (.nilIface) := ⟨by kernel_rfl⟩
instance : Zero Tryz.prog 108 [.nilIface] := ⟨_, ZeroV.out (P := Tryz.prog) (T := 108), rfl⟩
instance : IsScalar Tryz.prog 109 := ⟨_, Tryz.underlying109, rfl⟩
instance : Size1 Tryz.prog 109 := ⟨by kernel_rfl⟩
instance : ZeroV Tryz.prog 109 (.nilIface) := ⟨by kernel_rfl⟩
instance : Zero Tryz.prog 109 [.nilIface] := ⟨_, ZeroV.out (P := Tryz.prog) (T := 109), rfl⟩
instance : IsScalar Tryz.prog 111 := ⟨_, Tryz.underlying111, rfl⟩
instance : Size1 Tryz.prog 111 := ⟨by kernel_rfl⟩
instance : ZeroV Tryz.prog 111 (.nilFunc) := ⟨by kernel_rfl⟩
instance : Zero Tryz.prog 111 [.nilFunc] := ⟨_, ZeroV.out (P := Tryz.prog) (T := 111), rfl⟩
instance : IsScalar Tryz.prog 112 := ⟨_, Tryz.underlying112, rfl⟩
instance : Size1 Tryz.prog 112 := ⟨by kernel_rfl⟩
instance : ZeroV Tryz.prog 112 (.nilFunc) := ⟨by kernel_rfl⟩
instance : Zero Tryz.prog 112 [.nilFunc] := ⟨_, ZeroV.out (P := Tryz.prog) (T := 112), rfl⟩
instance : IsScalar Tryz.prog 113 := ⟨_, Tryz.underlying113, rfl⟩
instance : Size1 Tryz.prog 113 := ⟨by kernel_rfl⟩
instance : ZeroV Tryz.prog 113 (.nilFunc) := ⟨by kernel_rfl⟩
instance : Zero Tryz.prog 113 [.nilFunc] := ⟨_, ZeroV.out (P := Tryz.prog) (T := 113), rfl⟩
instance : IsScalar Tryz.prog 114 := ⟨_, Tryz.underlying114, rfl⟩
instance : Size1 Tryz.prog 114 := ⟨by kernel_rfl⟩
instance : KeyTy Tryz.prog 114 (fun n : Int => Value.int .i64 n) := KeyTy.int Tryz.underlying114
instance : ZeroV Tryz.prog 114 (.int .i64 0) := ⟨by kernel_rfl⟩
instance : Zero Tryz.prog 114 [.int .i64 0] := ⟨_, ZeroV.out (P := Tryz.prog) (T := 114), rfl⟩
instance : IsScalar Tryz.prog 116 := ⟨_, Tryz.underlying116, rfl⟩
instance : Size1 Tryz.prog 116 := ⟨by kernel_rfl⟩
instance : ZeroV Tryz.prog 116 (.nilFunc) := ⟨by kernel_rfl⟩
instance : Zero Tryz.prog 116 [.nilFunc] := ⟨_, ZeroV.out (P := Tryz.prog) (T := 116), rfl⟩
instance : IsScalar Tryz.prog 117 := ⟨_, Tryz.underlying117, rfl⟩
instance : Size1 Tryz.prog 117 := ⟨by kernel_rfl⟩
instance : ZeroV Tryz.prog 117 (.nilFunc) := ⟨by kernel_rfl⟩
instance : Zero Tryz.prog 117 [.nilFunc] := ⟨_, ZeroV.out (P := Tryz.prog) (T := 117), rfl⟩
instance : IsScalar Tryz.prog 118 := ⟨_, Tryz.underlying118, rfl⟩
instance : Size1 Tryz.prog 118 := ⟨by kernel_rfl⟩
instance : ZeroV Tryz.prog 118 (.nilFunc) := ⟨by kernel_rfl⟩
instance : Zero Tryz.prog 118 [.nilFunc] := ⟨_, ZeroV.out (P := Tryz.prog) (T := 118), rfl⟩
instance : IsScalar Tryz.prog 120 := ⟨_, Tryz.underlying120, rfl⟩
instance : Size1 Tryz.prog 120 := ⟨by kernel_rfl⟩
instance : ZeroV Tryz.prog 120 (.nilFunc) := ⟨by kernel_rfl⟩
instance : Zero Tryz.prog 120 [.nilFunc] := ⟨_, ZeroV.out (P := Tryz.prog) (T := 120), rfl⟩
instance : IsScalar Tryz.prog 121 := ⟨_, Tryz.underlying121, rfl⟩
instance : Size1 Tryz.prog 121 := ⟨by kernel_rfl⟩
instance : ZeroV Tryz.prog 121 (.nilFunc) := ⟨by kernel_rfl⟩
instance : Zero Tryz.prog 121 [.nilFunc] := ⟨_, ZeroV.out (P := Tryz.prog) (T := 121), rfl⟩
instance : IsScalar Tryz.prog 122 := ⟨_, Tryz.underlying122, rfl⟩
instance : Size1 Tryz.prog 122 := ⟨by kernel_rfl⟩
instance : KeyTy Tryz.prog 122 (fun n : Int => Value.int .u32 n) := KeyTy.int Tryz.underlying122
instance : ZeroV Tryz.prog 122 (.int .u32 0) := ⟨by kernel_rfl⟩
instance : Zero Tryz.prog 122 [.int .u32 0] := ⟨_, ZeroV.out (P := Tryz.prog) (T := 122), rfl⟩
instance : IsScalar Tryz.prog 123 := ⟨_, Tryz.underlying123, rfl⟩
instance : Size1 Tryz.prog 123 := ⟨by kernel_rfl⟩
instance : ZeroV Tryz.prog 123 (.nilFunc) := ⟨by kernel_rfl⟩
instance : Zero Tryz.prog 123 [.nilFunc] := ⟨_, ZeroV.out (P := Tryz.prog) (T := 123), rfl⟩
instance : IsScalar Tryz.prog 124 := ⟨_, Tryz.underlying124, rfl⟩
instance : Size1 Tryz.prog 124 := ⟨by kernel_rfl⟩
instance : KeyTy Tryz.prog 124 (fun n : Int => Value.int .u64 n) := KeyTy.int Tryz.underlying124
instance : ZeroV Tryz.prog 124 (.int .u64 0) := ⟨by kernel_rfl⟩
instance : Zero Tryz.prog 124 [.int .u64 0] := ⟨_, ZeroV.out (P := Tryz.prog) (T := 124), rfl⟩
instance : IsScalar Tryz.prog 125 := ⟨_, Tryz.underlying125, rfl⟩
instance : Size1 Tryz.prog 125 := ⟨by kernel_rfl⟩
instance : ZeroV Tryz.prog 125 (.nilFunc) := ⟨by kernel_rfl⟩
instance : Zero Tryz.prog 125 [.nilFunc] := ⟨_, ZeroV.out (P := Tryz.prog) (T := 125), rfl⟩
instance : IsScalar Tryz.prog 126 := ⟨_, Tryz.underlying126, rfl⟩
instance : Size1 Tryz.prog 126 := ⟨by kernel_rfl⟩
instance : ZeroV Tryz.prog 126 (.nilFunc) := ⟨by kernel_rfl⟩
instance : Zero Tryz.prog 126 [.nilFunc] := ⟨_, ZeroV.out (P := Tryz.prog) (T := 126), rfl⟩
instance : IsScalar Tryz.prog 127 := ⟨_, Tryz.underlying127, rfl⟩
instance : Size1 Tryz.prog 127 := ⟨by kernel_rfl⟩
instance : ZeroV Tryz.prog 127 (.nilFunc) := ⟨by kernel_rfl⟩
instance : Zero Tryz.prog 127 [.nilFunc] := ⟨_, ZeroV.out (P := Tryz.prog) (T := 127), rfl⟩
instance : IsScalar Tryz.prog 128 := ⟨_, Tryz.underlying128, rfl⟩
instance : Size1 Tryz.prog 128 := ⟨by kernel_rfl⟩
instance : ZeroV Tryz.prog 128 (.nilFunc) := ⟨by kernel_rfl⟩
instance : Zero Tryz.prog 128 [.nilFunc] := ⟨_, ZeroV.out (P := Tryz.prog) (T := 128), rfl⟩
instance : IsScalar Tryz.prog 129 := ⟨_, Tryz.underlying129, rfl⟩
instance : Size1 Tryz.prog 129 := ⟨by kernel_rfl⟩
instance : ZeroV Tryz.prog 129 (.nilFunc) := ⟨by kernel_rfl⟩
instance : Zero Tryz.prog 129 [.nilFunc] := ⟨_, ZeroV.out (P := Tryz.prog) (T := 129), rfl⟩
instance : IsScalar Tryz.prog 130 := ⟨_, Tryz.underlying130, rfl⟩
instance : Size1 Tryz.prog 130 := ⟨by kernel_rfl⟩
instance : ZeroV Tryz.prog 130 (.nilFunc) := ⟨by kernel_rfl⟩
instance : Zero Tryz.prog 130 [.nilFunc] := ⟨_, ZeroV.out (P := Tryz.prog) (T := 130), rfl⟩
instance : IsScalar Tryz.prog 131 := ⟨_, Tryz.underlying131, rfl⟩
instance : Size1 Tryz.prog 131 := ⟨by kernel_rfl⟩
instance : ZeroV Tryz.prog 131 (.nilFunc) := ⟨by kernel_rfl⟩
instance : Zero Tryz.prog 131 [.nilFunc] := ⟨_, ZeroV.out (P := Tryz.prog) (T := 131), rfl⟩
instance : IsScalar Tryz.prog 132 := ⟨_, Tryz.underlying132, rfl⟩
instance : Size1 Tryz.prog 132 := ⟨by kernel_rfl⟩
instance : ZeroV Tryz.prog 132 (.nilFunc) := ⟨by kernel_rfl⟩
instance : Zero Tryz.prog 132 [.nilFunc] := ⟨_, ZeroV.out (P := Tryz.prog) (T := 132), rfl⟩
instance : IsScalar Tryz.prog 133 := ⟨_, Tryz.underlying133, rfl⟩
instance : Size1 Tryz.prog 133 := ⟨by kernel_rfl⟩
instance : ZeroV Tryz.prog 133 (.pointer none) := ⟨by kernel_rfl⟩
instance : Zero Tryz.prog 133 [.pointer none] := ⟨_, ZeroV.out (P := Tryz.prog) (T := 133), rfl⟩
instance : IsScalar Tryz.prog 134 := ⟨_, Tryz.underlying134, rfl⟩
instance : Size1 Tryz.prog 134 := ⟨by kernel_rfl⟩
instance : KeyTy Tryz.prog 134 (fun n : Int => Value.int .u64 n) := KeyTy.int Tryz.underlying134
instance : ZeroV Tryz.prog 134 (.int .u64 0) := ⟨by kernel_rfl⟩
instance : Zero Tryz.prog 134 [.int .u64 0] := ⟨_, ZeroV.out (P := Tryz.prog) (T := 134), rfl⟩
instance : IsScalar Tryz.prog 135 := ⟨_, Tryz.underlying135, rfl⟩
instance : Size1 Tryz.prog 135 := ⟨by kernel_rfl⟩
instance : ZeroV Tryz.prog 135 (.nilFunc) := ⟨by kernel_rfl⟩
instance : Zero Tryz.prog 135 [.nilFunc] := ⟨_, ZeroV.out (P := Tryz.prog) (T := 135), rfl⟩
instance : IsScalar Tryz.prog 136 := ⟨_, Tryz.underlying136, rfl⟩
instance : Size1 Tryz.prog 136 := ⟨by kernel_rfl⟩
instance : ZeroV Tryz.prog 136 (.nilFunc) := ⟨by kernel_rfl⟩
instance : Zero Tryz.prog 136 [.nilFunc] := ⟨_, ZeroV.out (P := Tryz.prog) (T := 136), rfl⟩
instance : IsScalar Tryz.prog 137 := ⟨_, Tryz.underlying137, rfl⟩
instance : Size1 Tryz.prog 137 := ⟨by kernel_rfl⟩
instance : ZeroV Tryz.prog 137 (.nilFunc) := ⟨by kernel_rfl⟩
instance : Zero Tryz.prog 137 [.nilFunc] := ⟨_, ZeroV.out (P := Tryz.prog) (T := 137), rfl⟩
instance : IsScalar Tryz.prog 138 := ⟨_, Tryz.underlying138, rfl⟩
instance : Size1 Tryz.prog 138 := ⟨by kernel_rfl⟩
instance : ZeroV Tryz.prog 138 (.pointer none) := ⟨by kernel_rfl⟩
instance : Zero Tryz.prog 138 [.pointer none] := ⟨_, ZeroV.out (P := Tryz.prog) (T := 138), rfl⟩
instance : IsScalar Tryz.prog 139 := ⟨_, Tryz.underlying139, rfl⟩
instance : Size1 Tryz.prog 139 := ⟨by kernel_rfl⟩
instance : ZeroV Tryz.prog 139 (.nilFunc) := ⟨by kernel_rfl⟩
instance : Zero Tryz.prog 139 [.nilFunc] := ⟨_, ZeroV.out (P := Tryz.prog) (T := 139), rfl⟩
instance : IsScalar Tryz.prog 140 := ⟨_, Tryz.underlying140, rfl⟩
instance : Size1 Tryz.prog 140 := ⟨by kernel_rfl⟩
instance : ZeroV Tryz.prog 140 (.nilFunc) := ⟨by kernel_rfl⟩
instance : Zero Tryz.prog 140 [.nilFunc] := ⟨_, ZeroV.out (P := Tryz.prog) (T := 140), rfl⟩
instance : IsScalar Tryz.prog 141 := ⟨_, Tryz.underlying141, rfl⟩
instance : Size1 Tryz.prog 141 := ⟨by kernel_rfl⟩
instance : ZeroV Tryz.prog 141 (.nilFunc) := ⟨by kernel_rfl⟩
instance : Zero Tryz.prog 141 [.nilFunc] := ⟨_, ZeroV.out (P := Tryz.prog) (T := 141), rfl⟩
instance : IsScalar Tryz.prog 142 := ⟨_, Tryz.underlying142, rfl⟩
instance : Size1 Tryz.prog 142 := ⟨by kernel_rfl⟩
instance : ZeroV Tryz.prog 142 (.nilFunc) := ⟨by kernel_rfl⟩
instance : Zero Tryz.prog 142 [.nilFunc] := ⟨_, ZeroV.out (P := Tryz.prog) (T := 142), rfl⟩
instance : IsScalar Tryz.prog 143 := ⟨_, Tryz.underlying143, rfl⟩
instance : Size1 Tryz.prog 143 := ⟨by kernel_rfl⟩
instance : SlTy Tryz.prog 143 26 1 := ⟨Tryz.underlying143, by kernel_rfl⟩
instance : ZeroV Tryz.prog 143 (.slice none 0 0) := ⟨by kernel_rfl⟩
instance : Zero Tryz.prog 143 [.slice none 0 0] := ⟨_, ZeroV.out (P := Tryz.prog) (T := 143), rfl⟩
instance : IsScalar Tryz.prog 144 := ⟨_, Tryz.underlying144, rfl⟩
instance : Size1 Tryz.prog 144 := ⟨by kernel_rfl⟩
instance : ZeroV Tryz.prog 144 (.pointer none) := ⟨by kernel_rfl⟩
instance : Zero Tryz.prog 144 [.pointer none] := ⟨_, ZeroV.out (P := Tryz.prog) (T := 144), rfl⟩
instance : IsScalar Tryz.prog 145 := ⟨_, Tryz.underlying145, rfl⟩
instance : Size1 Tryz.prog 145 := ⟨by kernel_rfl⟩
instance : ZeroV Tryz.prog 145 (.nilFunc) := ⟨by kernel_rfl⟩
instance : Zero Tryz.prog 145 [.nilFunc] := ⟨_, ZeroV.out (P := Tryz.prog) (T := 145), rfl⟩
instance : IsScalar Tryz.prog 146 := ⟨_, Tryz.underlying146, rfl⟩
instance : Size1 Tryz.prog 146 := ⟨by kernel_rfl⟩
instance : ZeroV Tryz.prog 146 (.nilFunc) := ⟨by kernel_rfl⟩
instance : Zero Tryz.prog 146 [.nilFunc] := ⟨_, ZeroV.out (P := Tryz.prog) (T := 146), rfl⟩
instance : IsScalar Tryz.prog 147 := ⟨_, Tryz.underlying147, rfl⟩
instance : Size1 Tryz.prog 147 := ⟨by kernel_rfl⟩
instance : ZeroV Tryz.prog 147 (.pointer none) := ⟨by kernel_rfl⟩
instance : Zero Tryz.prog 147 [.pointer none] := ⟨_, ZeroV.out (P := Tryz.prog) (T := 147), rfl⟩
instance : IsScalar Tryz.prog 148 := ⟨_, Tryz.underlying148, rfl⟩
instance : Size1 Tryz.prog 148 := ⟨by kernel_rfl⟩
instance : ZeroV Tryz.prog 148 (.nilFunc) := ⟨by kernel_rfl⟩
instance : Zero Tryz.prog 148 [.nilFunc] := ⟨_, ZeroV.out (P := Tryz.prog) (T := 148), rfl⟩
instance : IsScalar Tryz.prog 149 := ⟨_, Tryz.underlying149, rfl⟩
instance : Size1 Tryz.prog 149 := ⟨by kernel_rfl⟩
instance : ZeroV Tryz.prog 149 (.nilFunc) := ⟨by kernel_rfl⟩
instance : Zero Tryz.prog 149 [.nilFunc] := ⟨_, ZeroV.out (P := Tryz.prog) (T := 149), rfl⟩
instance : IsScalar Tryz.prog 150 := ⟨_, Tryz.underlying150, rfl⟩
instance : Size1 Tryz.prog 150 := ⟨by kernel_rfl⟩
instance : ZeroV Tryz.prog 150 (.nilFunc) := ⟨by kernel_rfl⟩
instance : Zero Tryz.prog 150 [.nilFunc] := ⟨_, ZeroV.out (P := Tryz.prog) (T := 150), rfl⟩
instance : IsScalar Tryz.prog 152 := ⟨_, Tryz.underlying152, rfl⟩
instance : Size1 Tryz.prog 152 := ⟨by kernel_rfl⟩
instance : ZeroV Tryz.prog 152 (.nilFunc) := ⟨by kernel_rfl⟩
instance : Zero Tryz.prog 152 [.nilFunc] := ⟨_, ZeroV.out (P := Tryz.prog) (T := 152), rfl⟩
instance : IsScalar Tryz.prog 153 := ⟨_, Tryz.underlying153, rfl⟩
instance : Size1 Tryz.prog 153 := ⟨by kernel_rfl⟩
instance : ZeroV Tryz.prog 153 (.nilFunc) := ⟨by kernel_rfl⟩
instance : Zero Tryz.prog 153 [.nilFunc] := ⟨_, ZeroV.out (P := Tryz.prog) (T := 153), rfl⟩
instance : IsScalar Tryz.prog 154 := ⟨_, Tryz.underlying154, rfl⟩
instance : Size1 Tryz.prog 154 := ⟨by kernel_rfl⟩
instance : ZeroV Tryz.prog 154 (.nilFunc) := ⟨by kernel_rfl⟩
instance : Zero Tryz.prog 154 [.nilFunc] := ⟨_, ZeroV.out (P := Tryz.prog) (T := 154), rfl⟩
instance : IsRow Tryz.prog 155 256 := ⟨⟨_, Tryz.underlying155, rfl⟩, by kernel_rfl⟩
instance : IsRow Tryz.prog 156 2 := ⟨⟨_, Tryz.underlying156, rfl⟩, by kernel_rfl⟩
instance : StructTy Tryz.prog 156 [.int .u8 0, .int .u8 0] [(0, 1), (1, 1)] := ⟨fun parts => by kernel_rfl⟩
instance : ZeroV Tryz.prog 156 (.agg #[.int .u8 0, .int .u8 0]) := ⟨by kernel_rfl⟩
instance : Zero Tryz.prog 156 [.int .u8 0, .int .u8 0] := ⟨_, ZeroV.out (P := Tryz.prog) (T := 156), rfl⟩
instance : Fld Tryz.prog 156 0 0 5 := ⟨_, _, Tryz.underlying156, rfl, rfl, rfl⟩
instance : Fld Tryz.prog 156 1 1 5 := ⟨_, _, Tryz.underlying156, rfl, rfl, rfl⟩
instance : IsRow Tryz.prog 157 2 := ⟨⟨_, Tryz.underlying157, rfl⟩, by kernel_rfl⟩
instance : StructTy Tryz.prog 157 [.int .u8 0, .int .u8 0] [(0, 1), (1, 1)] := ⟨fun parts => by kernel_rfl⟩
instance : ZeroV Tryz.prog 157 (.agg #[.int .u8 0, .int .u8 0]) := ⟨by kernel_rfl⟩
instance : Zero Tryz.prog 157 [.int .u8 0, .int .u8 0] := ⟨_, ZeroV.out (P := Tryz.prog) (T := 157), rfl⟩
instance : Fld Tryz.prog 157 0 0 5 := ⟨_, _, Tryz.underlying157, rfl, rfl, rfl⟩
instance : Fld Tryz.prog 157 1 1 5 := ⟨_, _, Tryz.underlying157, rfl, rfl, rfl⟩
instance : IsRow Tryz.prog 158 32 := ⟨⟨_, Tryz.underlying158, rfl⟩, by kernel_rfl⟩
instance : ArrTy Tryz.prog 158 [.int .u8 0, .int .u8 0, .int .u8 0, .int .u8 0, .int .u8 0, .int .u8 0, .int .u8 0, .int .u8 0, .int .u8 0, .int .u8 0, .int .u8 0, .int .u8 0, .int .u8 0, .int .u8 0, .int .u8 0, .int .u8 0, .int .u8 0, .int .u8 0, .int .u8 0, .int .u8 0, .int .u8 0, .int .u8 0, .int .u8 0, .int .u8 0, .int .u8 0, .int .u8 0, .int .u8 0, .int .u8 0, .int .u8 0, .int .u8 0, .int .u8 0, .int .u8 0] 2 := ⟨fun parts => by kernel_rfl⟩
instance : ZeroV Tryz.prog 158 (.agg #[.int .u8 0, .int .u8 0, .int .u8 0, .int .u8 0, .int .u8 0, .int .u8 0, .int .u8 0, .int .u8 0, .int .u8 0, .int .u8 0, .int .u8 0, .int .u8 0, .int .u8 0, .int .u8 0, .int .u8 0, .int .u8 0, .int .u8 0, .int .u8 0, .int .u8 0, .int .u8 0, .int .u8 0, .int .u8 0, .int .u8 0, .int .u8 0, .int .u8 0, .int .u8 0, .int .u8 0, .int .u8 0, .int .u8 0, .int .u8 0, .int .u8 0, .int .u8 0]) := ⟨by kernel_rfl⟩
instance : Zero Tryz.prog 158 [.int .u8 0, .int .u8 0, .int .u8 0, .int .u8 0, .int .u8 0, .int .u8 0, .int .u8 0, .int .u8 0, .int .u8 0, .int .u8 0, .int .u8 0, .int .u8 0, .int .u8 0, .int .u8 0, .int .u8 0, .int .u8 0, .int .u8 0, .int .u8 0, .int .u8 0, .int .u8 0, .int .u8 0, .int .u8 0, .int .u8 0, .int .u8 0, .int .u8 0, .int .u8 0, .int .u8 0, .int .u8 0, .int .u8 0, .int .u8 0, .int .u8 0, .int .u8 0] := ⟨_, ZeroV.out (P := Tryz.prog) (T := 158), rfl⟩
instance : IsScalar Tryz.prog 160 := ⟨_, Tryz.underlying160, rfl⟩
instance : Size1 Tryz.prog 160 := ⟨by kernel_rfl⟩
instance : ZeroV Tryz.prog 160 (.nilFunc) := ⟨by kernel_rfl⟩
instance : Zero Tryz.prog 160 [.nilFunc] := ⟨_, ZeroV.out (P := Tryz.prog) (T := 160), rfl⟩
instance : IsRow Tryz.prog 161 4 := ⟨⟨_, Tryz.underlying161, rfl⟩, by kernel_rfl⟩
instance : StructTy Tryz.prog 161 [.pointer none, .pointer none, .pointer none, .string ⟨#[]⟩] [(0, 1), (1, 1), (2, 1), (3, 1)] := ⟨fun parts => by kernel_rfl⟩
instance : ZeroV Tryz.prog 161 (.agg #[.pointer none, .pointer none, .pointer none, .string ⟨#[]⟩]) := ⟨by kernel_rfl⟩
instance : Zero Tryz.prog 161 [.pointer none, .pointer none, .pointer none, .string ⟨#[]⟩] := ⟨_, ZeroV.out (P := Tryz.prog) (T := 161), rfl⟩
instance : Fld Tryz.prog 161 0 0 17 := ⟨_, _, Tryz.underlying161, rfl, rfl, rfl⟩
instance : Fld Tryz.prog 161 1 1 17 := ⟨_, _, Tryz.underlying161, rfl, rfl, rfl⟩
instance : Fld Tryz.prog 161 2 2 17 := ⟨_, _, Tryz.underlying161, rfl, rfl, rfl⟩
instance : Fld Tryz.prog 161 3 3 9 := ⟨_, _, Tryz.underlying161, rfl, rfl, rfl⟩
instance : IsRow Tryz.prog 162 4 := ⟨⟨_, Tryz.underlying162, rfl⟩, by kernel_rfl⟩
instance : StructTy Tryz.prog 162 [.pointer none, .pointer none, .pointer none, .string ⟨#[]⟩] [(0, 1), (1, 1), (2, 1), (3, 1)] := ⟨fun parts => by kernel_rfl⟩
instance : ZeroV Tryz.prog 162 (.agg #[.pointer none, .pointer none, .pointer none, .string ⟨#[]⟩]) := ⟨by kernel_rfl⟩
instance : Zero Tryz.prog 162 [.pointer none, .pointer none, .pointer none, .string ⟨#[]⟩] := ⟨_, ZeroV.out (P := Tryz.prog) (T := 162), rfl⟩
instance : Fld Tryz.prog 162 0 0 17 := ⟨_, _, Tryz.underlying162, rfl, rfl, rfl⟩
instance : Fld Tryz.prog 162 1 1 17 := ⟨_, _, Tryz.underlying162, rfl, rfl, rfl⟩
instance : Fld Tryz.prog 162 2 2 17 := ⟨_, _, Tryz.underlying162, rfl, rfl, rfl⟩
instance : Fld Tryz.prog 162 3 3 9 := ⟨_, _, Tryz.underlying162, rfl, rfl, rfl⟩
instance : IsRow Tryz.prog 163 0 := ⟨⟨_, Tryz.underlying163, rfl⟩, by kernel_rfl⟩
instance : ZeroV Tryz.prog 163 (.agg #[]) := ⟨by kernel_rfl⟩
instance : Zero Tryz.prog 163 [] := ⟨_, ZeroV.out (P := Tryz.prog) (T := 163), rfl⟩
instance : IsRow Tryz.prog 164 0 := ⟨⟨_, Tryz.underlying164, rfl⟩, by kernel_rfl⟩
instance : ZeroV Tryz.prog 164 (.agg #[]) := ⟨by kernel_rfl⟩
instance : Zero Tryz.prog 164 [] := ⟨_, ZeroV.out (P := Tryz.prog) (T := 164), rfl⟩
instance : Fld Tryz.prog 164 0 0 163 := ⟨_, _, Tryz.underlying164, rfl, rfl, rfl⟩
instance : IsRow Tryz.prog 165 0 := ⟨⟨_, Tryz.underlying165, rfl⟩, by kernel_rfl⟩
instance : ZeroV Tryz.prog 165 (.agg #[]) := ⟨by kernel_rfl⟩
instance : Zero Tryz.prog 165 [] := ⟨_, ZeroV.out (P := Tryz.prog) (T := 165), rfl⟩
instance : Fld Tryz.prog 165 0 0 163 := ⟨_, _, Tryz.underlying165, rfl, rfl, rfl⟩
instance : IsScalar Tryz.prog 166 := ⟨_, Tryz.underlying166, rfl⟩
instance : Size1 Tryz.prog 166 := ⟨by kernel_rfl⟩
instance : ZeroV Tryz.prog 166 (.nilFunc) := ⟨by kernel_rfl⟩
instance : Zero Tryz.prog 166 [.nilFunc] := ⟨_, ZeroV.out (P := Tryz.prog) (T := 166), rfl⟩
instance : IsScalar Tryz.prog 167 := ⟨_, Tryz.underlying167, rfl⟩
instance : Size1 Tryz.prog 167 := ⟨by kernel_rfl⟩
instance : KeyTy Tryz.prog 167 (fun n : Int => Value.int .u8 n) := KeyTy.int Tryz.underlying167
instance : ZeroV Tryz.prog 167 (.int .u8 0) := ⟨by kernel_rfl⟩
instance : Zero Tryz.prog 167 [.int .u8 0] := ⟨_, ZeroV.out (P := Tryz.prog) (T := 167), rfl⟩
instance : IsScalar Tryz.prog 168 := ⟨_, Tryz.underlying168, rfl⟩
instance : Size1 Tryz.prog 168 := ⟨by kernel_rfl⟩
instance : KeyTy Tryz.prog 168 (fun n : Int => Value.int .u8 n) := KeyTy.int Tryz.underlying168
instance : ZeroV Tryz.prog 168 (.int .u8 0) := ⟨by kernel_rfl⟩
instance : Zero Tryz.prog 168 [.int .u8 0] := ⟨_, ZeroV.out (P := Tryz.prog) (T := 168), rfl⟩
instance : IsScalar Tryz.prog 169 := ⟨_, Tryz.underlying169, rfl⟩
instance : Size1 Tryz.prog 169 := ⟨by kernel_rfl⟩
instance : ZeroV Tryz.prog 169 (.nilFunc) := ⟨by kernel_rfl⟩
instance : Zero Tryz.prog 169 [.nilFunc] := ⟨_, ZeroV.out (P := Tryz.prog) (T := 169), rfl⟩
instance : IsScalar Tryz.prog 170 := ⟨_, Tryz.underlying170, rfl⟩
instance : Size1 Tryz.prog 170 := ⟨by kernel_rfl⟩
instance : KeyTy Tryz.prog 170 (fun n : Int => Value.int .i32 n) := KeyTy.int Tryz.underlying170
instance : ZeroV Tryz.prog 170 (.int .i32 0) := ⟨by kernel_rfl⟩
instance : Zero Tryz.prog 170 [.int .i32 0] := ⟨_, ZeroV.out (P := Tryz.prog) (T := 170), rfl⟩
instance : IsScalar Tryz.prog 171 := ⟨_, Tryz.underlying171, rfl⟩
instance : Size1 Tryz.prog 171 := ⟨by kernel_rfl⟩
instance : KeyTy Tryz.prog 171 (fun n : Int => Value.int .i32 n) := KeyTy.int Tryz.underlying171
instance : ZeroV Tryz.prog 171 (.int .i32 0) := ⟨by kernel_rfl⟩
instance : Zero Tryz.prog 171 [.int .i32 0] := ⟨_, ZeroV.out (P := Tryz.prog) (T := 171), rfl⟩
instance : IsRow Tryz.prog 172 11 := ⟨⟨_, Tryz.underlying172, rfl⟩, by kernel_rfl⟩
instance : StructTy Tryz.prog 172 [.int .u64 0, .int .u64 0, .int .u32 0, .int .u8 0, .int .u8 0, .int .u8 0, .int .u8 0, .nilFunc, .pointer none, .int .i32 0, .int .i32 0] [(0, 1), (1, 1), (2, 1), (3, 1), (4, 1), (5, 1), (6, 1), (7, 1), (8, 1), (9, 1), (10, 1)] := ⟨fun parts => by kernel_rfl⟩
instance : ZeroV Tryz.prog 172 (.agg #[.int .u64 0, .int .u64 0, .int .u32 0, .int .u8 0, .int .u8 0, .int .u8 0, .int .u8 0, .nilFunc, .pointer none, .int .i32 0, .int .i32 0]) := ⟨by kernel_rfl⟩
instance : Zero Tryz.prog 172 [.int .u64 0, .int .u64 0, .int .u32 0, .int .u8 0, .int .u8 0, .int .u8 0, .int .u8 0, .nilFunc, .pointer none, .int .i32 0, .int .i32 0] := ⟨_, ZeroV.out (P := Tryz.prog) (T := 172), rfl⟩
instance : Fld Tryz.prog 172 0 0 12 := ⟨_, _, Tryz.underlying172, rfl, rfl, rfl⟩
instance : Fld Tryz.prog 172 1 1 12 := ⟨_, _, Tryz.underlying172, rfl, rfl, rfl⟩
instance : Fld Tryz.prog 172 2 2 122 := ⟨_, _, Tryz.underlying172, rfl, rfl, rfl⟩
instance : Fld Tryz.prog 172 3 3 167 := ⟨_, _, Tryz.underlying172, rfl, rfl, rfl⟩
instance : Fld Tryz.prog 172 4 4 5 := ⟨_, _, Tryz.underlying172, rfl, rfl, rfl⟩
instance : Fld Tryz.prog 172 5 5 5 := ⟨_, _, Tryz.underlying172, rfl, rfl, rfl⟩
instance : Fld Tryz.prog 172 6 6 168 := ⟨_, _, Tryz.underlying172, rfl, rfl, rfl⟩
instance : Fld Tryz.prog 172 7 7 169 := ⟨_, _, Tryz.underlying172, rfl, rfl, rfl⟩
instance : Fld Tryz.prog 172 8 8 133 := ⟨_, _, Tryz.underlying172, rfl, rfl, rfl⟩
instance : Fld Tryz.prog 172 9 9 170 := ⟨_, _, Tryz.underlying172, rfl, rfl, rfl⟩
instance : Fld Tryz.prog 172 10 10 171 := ⟨_, _, Tryz.underlying172, rfl, rfl, rfl⟩
instance : IsRow Tryz.prog 173 11 := ⟨⟨_, Tryz.underlying173, rfl⟩, by kernel_rfl⟩
instance : StructTy Tryz.prog 173 [.int .u64 0, .int .u64 0, .int .u32 0, .int .u8 0, .int .u8 0, .int .u8 0, .int .u8 0, .nilFunc, .pointer none, .int .i32 0, .int .i32 0] [(0, 1), (1, 1), (2, 1), (3, 1), (4, 1), (5, 1), (6, 1), (7, 1), (8, 1), (9, 1), (10, 1)] := ⟨fun parts => by kernel_rfl⟩
instance : ZeroV Tryz.prog 173 (.agg #[.int .u64 0, .int .u64 0, .int .u32 0, .int .u8 0, .int .u8 0, .int .u8 0, .int .u8 0, .nilFunc, .pointer none, .int .i32 0, .int .i32 0]) := ⟨by kernel_rfl⟩
instance : Zero Tryz.prog 173 [.int .u64 0, .int .u64 0, .int .u32 0, .int .u8 0, .int .u8 0, .int .u8 0, .int .u8 0, .nilFunc, .pointer none, .int .i32 0, .int .i32 0] := ⟨_, ZeroV.out (P := Tryz.prog) (T := 173), rfl⟩
instance : Fld Tryz.prog 173 0 0 12 := ⟨_, _, Tryz.underlying173, rfl, rfl, rfl⟩
instance : Fld Tryz.prog 173 1 1 12 := ⟨_, _, Tryz.underlying173, rfl, rfl, rfl⟩
instance : Fld Tryz.prog 173 2 2 122 := ⟨_, _, Tryz.underlying173, rfl, rfl, rfl⟩
instance : Fld Tryz.prog 173 3 3 167 := ⟨_, _, Tryz.underlying173, rfl, rfl, rfl⟩
instance : Fld Tryz.prog 173 4 4 5 := ⟨_, _, Tryz.underlying173, rfl, rfl, rfl⟩
instance : Fld Tryz.prog 173 5 5 5 := ⟨_, _, Tryz.underlying173, rfl, rfl, rfl⟩
instance : Fld Tryz.prog 173 6 6 168 := ⟨_, _, Tryz.underlying173, rfl, rfl, rfl⟩
instance : Fld Tryz.prog 173 7 7 169 := ⟨_, _, Tryz.underlying173, rfl, rfl, rfl⟩
instance : Fld Tryz.prog 173 8 8 133 := ⟨_, _, Tryz.underlying173, rfl, rfl, rfl⟩
instance : Fld Tryz.prog 173 9 9 170 := ⟨_, _, Tryz.underlying173, rfl, rfl, rfl⟩
instance : Fld Tryz.prog 173 10 10 171 := ⟨_, _, Tryz.underlying173, rfl, rfl, rfl⟩
instance : EntersC Tryz.prog 2 := ⟨enters_of Tryz.func2 (by kernel_rfl) rfl⟩
instance : EntersC Tryz.prog 3 := ⟨enters_of Tryz.func3 (by kernel_rfl) rfl⟩
instance : EntersC Tryz.prog 4 := ⟨enters_of Tryz.func4 (by kernel_rfl) rfl⟩
instance : EntersC Tryz.prog 5 := ⟨enters_of Tryz.func5 (by kernel_rfl) rfl⟩
instance : EntersC Tryz.prog 6 := ⟨enters_of Tryz.func6 (by kernel_rfl) rfl⟩
instance : EntersC Tryz.prog 7 := ⟨enters_of Tryz.func7 (by kernel_rfl) rfl⟩
instance : EntersC Tryz.prog 8 := ⟨enters_of Tryz.func8 (by kernel_rfl) rfl⟩
instance : EntersC Tryz.prog 9 := ⟨enters_of Tryz.func9 (by kernel_rfl) rfl⟩
instance : EntersC Tryz.prog 10 := ⟨enters_of Tryz.func10 (by kernel_rfl) rfl⟩
instance : EntersC Tryz.prog 11 := ⟨enters_of Tryz.func11 (by kernel_rfl) rfl⟩
instance : EntersC Tryz.prog 12 := ⟨enters_of Tryz.func12 (by kernel_rfl) rfl⟩
instance : EntersC Tryz.prog 13 := ⟨enters_of Tryz.func13 (by kernel_rfl) rfl⟩
instance : EntersC Tryz.prog 14 := ⟨enters_of Tryz.func14 (by kernel_rfl) rfl⟩
instance : EntersC Tryz.prog 15 := ⟨enters_of Tryz.func15 (by kernel_rfl) rfl⟩
instance : EntersC Tryz.prog 16 := ⟨enters_of Tryz.func16 (by kernel_rfl) rfl⟩
instance : EntersC Tryz.prog 17 := ⟨enters_of Tryz.func17 (by kernel_rfl) rfl⟩
instance : EntersC Tryz.prog 18 := ⟨enters_of Tryz.func18 (by kernel_rfl) rfl⟩
instance : EntersC Tryz.prog 19 := ⟨enters_of Tryz.func19 (by kernel_rfl) rfl⟩
instance : EntersC Tryz.prog 20 := ⟨enters_of Tryz.func20 (by kernel_rfl) rfl⟩
instance : EntersC Tryz.prog 21 := ⟨enters_of Tryz.func21 (by kernel_rfl) rfl⟩
instance : EntersC Tryz.prog 22 := ⟨enters_of Tryz.func22 (by kernel_rfl) rfl⟩
instance : EntersC Tryz.prog 23 := ⟨enters_of Tryz.func23 (by kernel_rfl) rfl⟩
instance : EntersC Tryz.prog 24 := ⟨enters_of Tryz.func24 (by kernel_rfl) rfl⟩
instance : EntersC Tryz.prog 25 := ⟨enters_of Tryz.func25 (by kernel_rfl) rfl⟩
instance : EntersC Tryz.prog 26 := ⟨enters_of Tryz.func26 (by kernel_rfl) rfl⟩
instance : EntersC Tryz.prog 27 := ⟨enters_of Tryz.func27 (by kernel_rfl) rfl⟩
instance : EntersC Tryz.prog 28 := ⟨enters_of Tryz.func28 (by kernel_rfl) rfl⟩
instance : EntersC Tryz.prog 29 := ⟨enters_of Tryz.func29 (by kernel_rfl) rfl⟩
instance : EntersC Tryz.prog 30 := ⟨enters_of Tryz.func30 (by kernel_rfl) rfl⟩
instance : EntersC Tryz.prog 31 := ⟨enters_of Tryz.func31 (by kernel_rfl) rfl⟩
instance : EntersC Tryz.prog 32 := ⟨enters_of Tryz.func32 (by kernel_rfl) rfl⟩
instance : EntersC Tryz.prog 33 := ⟨enters_of Tryz.func33 (by kernel_rfl) rfl⟩
instance : EntersC Tryz.prog 34 := ⟨enters_of Tryz.func34 (by kernel_rfl) rfl⟩
instance : EntersC Tryz.prog 35 := ⟨enters_of Tryz.func35 (by kernel_rfl) rfl⟩
instance : EntersC Tryz.prog 36 := ⟨enters_of Tryz.func36 (by kernel_rfl) rfl⟩
instance : EntersC Tryz.prog 37 := ⟨enters_of Tryz.func37 (by kernel_rfl) rfl⟩
instance : EntersC Tryz.prog 38 := ⟨enters_of Tryz.func38 (by kernel_rfl) rfl⟩
instance : EntersC Tryz.prog 39 := ⟨enters_of Tryz.func39 (by kernel_rfl) rfl⟩
instance : EntersC Tryz.prog 40 := ⟨enters_of Tryz.func40 (by kernel_rfl) rfl⟩
instance : EntersC Tryz.prog 41 := ⟨enters_of Tryz.func41 (by kernel_rfl) rfl⟩
instance : EntersC Tryz.prog 42 := ⟨enters_of Tryz.func42 (by kernel_rfl) rfl⟩
instance : EntersC Tryz.prog 43 := ⟨enters_of Tryz.func43 (by kernel_rfl) rfl⟩
instance : EntersC Tryz.prog 44 := ⟨enters_of Tryz.func44 (by kernel_rfl) rfl⟩
instance : EntersC Tryz.prog 45 := ⟨enters_of Tryz.func45 (by kernel_rfl) rfl⟩
instance : EntersC Tryz.prog 46 := ⟨enters_of Tryz.func46 (by kernel_rfl) rfl⟩
instance : EntersC Tryz.prog 47 := ⟨enters_of Tryz.func47 (by kernel_rfl) rfl⟩
instance : EntersC Tryz.prog 48 := ⟨enters_of Tryz.func48 (by kernel_rfl) rfl⟩
instance : EntersC Tryz.prog 49 := ⟨enters_of Tryz.func49 (by kernel_rfl) rfl⟩
instance : EntersC Tryz.prog 50 := ⟨enters_of Tryz.func50 (by kernel_rfl) rfl⟩
instance : EntersC Tryz.prog 51 := ⟨enters_of Tryz.func51 (by kernel_rfl) rfl⟩
instance : EntersC Tryz.prog 52 := ⟨enters_of Tryz.func52 (by kernel_rfl) rfl⟩
instance : EntersC Tryz.prog 53 := ⟨enters_of Tryz.func53 (by kernel_rfl) rfl⟩
instance : EntersC Tryz.prog 54 := ⟨enters_of Tryz.func54 (by kernel_rfl) rfl⟩
instance : EntersC Tryz.prog 55 := ⟨enters_of Tryz.func55 (by kernel_rfl) rfl⟩
instance : EntersC Tryz.prog 56 := ⟨enters_of Tryz.func56 (by kernel_rfl) rfl⟩
instance : EntersC Tryz.prog 57 := ⟨enters_of Tryz.func57 (by kernel_rfl) rfl⟩
instance : EntersC Tryz.prog 58 := ⟨enters_of Tryz.func58 (by kernel_rfl) rfl⟩
instance : EntersC Tryz.prog 59 := ⟨enters_of Tryz.func59 (by kernel_rfl) rfl⟩
instance : EntersC Tryz.prog 60 := ⟨enters_of Tryz.func60 (by kernel_rfl) rfl⟩
instance : EntersC Tryz.prog 61 := ⟨enters_of Tryz.func61 (by kernel_rfl) rfl⟩
instance : EntersC Tryz.prog 62 := ⟨enters_of Tryz.func62 (by kernel_rfl) rfl⟩
instance : EntersC Tryz.prog 63 := ⟨enters_of Tryz.func63 (by kernel_rfl) rfl⟩
instance : EntersC Tryz.prog 64 := ⟨enters_of Tryz.func64 (by kernel_rfl) rfl⟩
instance : EntersC Tryz.prog 65 := ⟨enters_of Tryz.func65 (by kernel_rfl) rfl⟩
instance : EntersC Tryz.prog 66 := ⟨enters_of Tryz.func66 (by kernel_rfl) rfl⟩
instance : EntersC Tryz.prog 67 := ⟨enters_of Tryz.func67 (by kernel_rfl) rfl⟩
instance : EntersC Tryz.prog 68 := ⟨enters_of Tryz.func68 (by kernel_rfl) rfl⟩
instance : EntersC Tryz.prog 69 := ⟨enters_of Tryz.func69 (by kernel_rfl) rfl⟩
instance : EntersC Tryz.prog 70 := ⟨enters_of Tryz.func70 (by kernel_rfl) rfl⟩
instance : EntersC Tryz.prog 71 := ⟨enters_of Tryz.func71 (by kernel_rfl) rfl⟩
instance : EntersC Tryz.prog 72 := ⟨enters_of Tryz.func72 (by kernel_rfl) rfl⟩
instance : EntersC Tryz.prog 73 := ⟨enters_of Tryz.func73 (by kernel_rfl) rfl⟩
instance : EntersC Tryz.prog 74 := ⟨enters_of Tryz.func74 (by kernel_rfl) rfl⟩
instance : EntersC Tryz.prog 75 := ⟨enters_of Tryz.func75 (by kernel_rfl) rfl⟩
instance : EntersC Tryz.prog 76 := ⟨enters_of Tryz.func76 (by kernel_rfl) rfl⟩
instance : EntersC Tryz.prog 77 := ⟨enters_of Tryz.func77 (by kernel_rfl) rfl⟩
instance : EntersC Tryz.prog 78 := ⟨enters_of Tryz.func78 (by kernel_rfl) rfl⟩
instance : EntersC Tryz.prog 79 := ⟨enters_of Tryz.func79 (by kernel_rfl) rfl⟩
instance : EntersC Tryz.prog 80 := ⟨enters_of Tryz.func80 (by kernel_rfl) rfl⟩
instance : EntersC Tryz.prog 81 := ⟨enters_of Tryz.func81 (by kernel_rfl) rfl⟩
instance : EntersC Tryz.prog 82 := ⟨enters_of Tryz.func82 (by kernel_rfl) rfl⟩
instance : EntersC Tryz.prog 83 := ⟨enters_of Tryz.func83 (by kernel_rfl) rfl⟩
instance : EntersC Tryz.prog 84 := ⟨enters_of Tryz.func84 (by kernel_rfl) rfl⟩
instance : EntersC Tryz.prog 85 := ⟨enters_of Tryz.func85 (by kernel_rfl) rfl⟩
instance : EntersC Tryz.prog 86 := ⟨enters_of Tryz.func86 (by kernel_rfl) rfl⟩
instance : EntersC Tryz.prog 87 := ⟨enters_of Tryz.func87 (by kernel_rfl) rfl⟩
instance : EntersC Tryz.prog 88 := ⟨enters_of Tryz.func88 (by kernel_rfl) rfl⟩
instance : EntersC Tryz.prog 89 := ⟨enters_of Tryz.func89 (by kernel_rfl) rfl⟩
instance : EntersC Tryz.prog 90 := ⟨enters_of Tryz.func90 (by kernel_rfl) rfl⟩
instance : EntersC Tryz.prog 91 := ⟨enters_of Tryz.func91 (by kernel_rfl) rfl⟩
instance : EntersC Tryz.prog 92 := ⟨enters_of Tryz.func92 (by kernel_rfl) rfl⟩
instance : EntersC Tryz.prog 93 := ⟨enters_of Tryz.func93 (by kernel_rfl) rfl⟩
instance : EntersC Tryz.prog 94 := ⟨enters_of Tryz.func94 (by kernel_rfl) rfl⟩
instance : EntersC Tryz.prog 95 := ⟨enters_of Tryz.func95 (by kernel_rfl) rfl⟩
instance : EntersC Tryz.prog 96 := ⟨enters_of Tryz.func96 (by kernel_rfl) rfl⟩
instance : EntersC Tryz.prog 97 := ⟨enters_of Tryz.func97 (by kernel_rfl) rfl⟩
instance : EntersC Tryz.prog 98 := ⟨enters_of Tryz.func98 (by kernel_rfl) rfl⟩
instance : EntersC Tryz.prog 99 := ⟨enters_of Tryz.func99 (by kernel_rfl) rfl⟩
instance : EntersC Tryz.prog 100 := ⟨enters_of Tryz.func100 (by kernel_rfl) rfl⟩
instance : EntersC Tryz.prog 101 := ⟨enters_of Tryz.func101 (by kernel_rfl) rfl⟩
instance : EntersC Tryz.prog 102 := ⟨enters_of Tryz.func102 (by kernel_rfl) rfl⟩
instance : EntersC Tryz.prog 103 := ⟨enters_of Tryz.func103 (by kernel_rfl) rfl⟩
instance : EntersC Tryz.prog 104 := ⟨enters_of Tryz.func104 (by kernel_rfl) rfl⟩
instance : EntersC Tryz.prog 105 := ⟨enters_of Tryz.func105 (by kernel_rfl) rfl⟩
instance : EntersC Tryz.prog 106 := ⟨enters_of Tryz.func106 (by kernel_rfl) rfl⟩
instance : EntersC Tryz.prog 107 := ⟨enters_of Tryz.func107 (by kernel_rfl) rfl⟩
instance : EntersC Tryz.prog 108 := ⟨enters_of Tryz.func108 (by kernel_rfl) rfl⟩
instance : EntersC Tryz.prog 109 := ⟨enters_of Tryz.func109 (by kernel_rfl) rfl⟩
instance : EntersC Tryz.prog 110 := ⟨enters_of Tryz.func110 (by kernel_rfl) rfl⟩
instance : EntersC Tryz.prog 111 := ⟨enters_of Tryz.func111 (by kernel_rfl) rfl⟩
instance : EntersC Tryz.prog 112 := ⟨enters_of Tryz.func112 (by kernel_rfl) rfl⟩
instance : EntersC Tryz.prog 113 := ⟨enters_of Tryz.func113 (by kernel_rfl) rfl⟩
instance : EntersC Tryz.prog 114 := ⟨enters_of Tryz.func114 (by kernel_rfl) rfl⟩
instance : EntersC Tryz.prog 115 := ⟨enters_of Tryz.func115 (by kernel_rfl) rfl⟩
instance : EntersC Tryz.prog 116 := ⟨enters_of Tryz.func116 (by kernel_rfl) rfl⟩
instance : EntersC Tryz.prog 117 := ⟨enters_of Tryz.func117 (by kernel_rfl) rfl⟩
instance : EntersC Tryz.prog 118 := ⟨enters_of Tryz.func118 (by kernel_rfl) rfl⟩
instance : EntersC Tryz.prog 119 := ⟨enters_of Tryz.func119 (by kernel_rfl) rfl⟩
instance : EntersC Tryz.prog 120 := ⟨enters_of Tryz.func120 (by kernel_rfl) rfl⟩
instance : EntersC Tryz.prog 123 := ⟨enters_of Tryz.func123 (by kernel_rfl) rfl⟩
instance : EntersC Tryz.prog 124 := ⟨enters_of Tryz.func124 (by kernel_rfl) rfl⟩
instance : EntersC Tryz.prog 125 := ⟨enters_of Tryz.func125 (by kernel_rfl) rfl⟩
instance : EntersC Tryz.prog 126 := ⟨enters_of Tryz.func126 (by kernel_rfl) rfl⟩
instance : EntersC Tryz.prog 128 := ⟨enters_of Tryz.func128 (by kernel_rfl) rfl⟩
instance : EntersC Tryz.prog 129 := ⟨enters_of Tryz.func129 (by kernel_rfl) rfl⟩
instance : EntersC Tryz.prog 130 := ⟨enters_of Tryz.func130 (by kernel_rfl) rfl⟩
instance : EntersC Tryz.prog 132 := ⟨enters_of Tryz.func132 (by kernel_rfl) rfl⟩
instance : EntersC Tryz.prog 133 := ⟨enters_of Tryz.func133 (by kernel_rfl) rfl⟩
instance : EntersC Tryz.prog 135 := ⟨enters_of Tryz.func135 (by kernel_rfl) rfl⟩
instance : EntersC Tryz.prog 158 := ⟨enters_of Tryz.func158 (by kernel_rfl) rfl⟩
end Go.Tk

set_option linter.unusedSectionVars false
set_option linter.unusedSimpArgs false
set_option linter.unusedVariables false
namespace Go.Tk
open Go.RowKit

/-- An own slice with dead cells ahead of it. -/
class OwnD {α : outParam Type} (E : outParam (Enc α)) (a : Option Addr) (dead : outParam (List Value)) (xs : outParam (List α)) (sp : outParam (List Value)) (cap : outParam Nat) : Prop where
  nil : a = none → dead = [] ∧ xs = [] ∧ sp = [] ∧ cap = 0
  form : ∀ ad, a = some ad → ad = ⟨ad.block, dead.length, none⟩
  le : xs.length ≤ cap
  room : cap * E.k ≤ xs.length * E.k + sp.length
  max : cap ≤ maxLen
abbrev rowD {α : Type} (E : Enc α) (A : Option Addr) (dead : List Value) (xs : List α) (sp : List Value) (T : TypeId) : HL := rowA A (dead ++ (flat E xs ++ sp)) T

section
variable {α : Type} {E : Enc α} {B : Base} {H R : HL} {w : World} {A : Option Addr} {xs : List α} {dead sp : List Value} {cap : Nat}
theorem OwnD.nothing : OwnD E none [] [] [] 0 := ⟨fun _ => ⟨rfl, rfl, rfl, rfl⟩, (fun _ h => nomatch h), Nat.le_refl _, by simp, Nat.zero_le _⟩
theorem OwnD.of (h : OwnSl E A xs sp cap) : OwnD E A [] xs sp cap := ⟨fun e => by obtain ⟨h1, h2, h3⟩ := h.nil e; exact ⟨rfl, h1, h2, h3⟩, h.form, h.len_le, Nat.le_of_eq h.capEq.symm, h.max⟩
theorem OwnD.ok (h : OwnD E A dead xs sp cap) : SlOk A xs.length := by
  intro hn
  cases A with
  | none => have := (h.nil rfl).2.1; subst this; simp at hn
  | some ad => rw [h.form ad rfl]; exact ⟨_, _, rfl⟩
theorem OwnD.at_ {T : TypeId} (h : OwnD E A dead xs sp cap) [hp : HasRow H A (dead ++ (flat E xs ++ sp)) T R] : RdAt E B H A xs := {
  ok := h.ok
  max := by have := h.le; have := h.max; unfold maxLen at this; omega
  get j x hj f v hv w hS := by
    have hS' := hS.pick hp.out
    cases ha : A with
    | none => have := (h.nil ha).2.1; subst this; simp at hj
    | some ad =>
      subst ha
      have hf := h.form ad rfl
      have ho := hS'.own (ad.block, .cells (dead ++ (flat E xs ++ sp)).toArray T (0, 0)) (by simp [rowA])
      rw [hf]
      simp only [blkA, offA, World.cell?]
      rw [ho]
      have hg := flat_get hj sp hv
      simp only [List.getElem?_toArray]
      rw [List.getElem?_append_right (by omega), show dead.length + j * E.k + f - dead.length = j * E.k + f by omega]
      exact hg }
instance RdAt.ofOwnD {T : TypeId} [h : OwnD E A dead xs sp cap] [hp : HasRow H A (dead ++ (flat E xs ++ sp)) T R] : RdAt E B H A xs := h.at_

/-- The front of it; the rest of it. -/
theorem OwnD.take (h : OwnD E A dead xs sp cap) (k : Nat) (hk : k ≤ xs.length) : OwnD E A dead (xs.take k) (flat E (xs.drop k) ++ sp) cap ∧ dead ++ (flat E (xs.take k) ++ (flat E (xs.drop k) ++ sp)) = dead ++ (flat E xs ++ sp) := by
  have hl : (xs.take k).length = k := by rw [List.length_take]; omega
  refine ⟨⟨fun e => ?_, h.form, ?_, ?_, h.max⟩, ?_⟩
  · obtain ⟨h1, h2, h3, h4⟩ := h.nil e
    subst h2; subst h3
    exact ⟨h1, by simp, by simp [flat], h4⟩
  · rw [hl]; have := h.le; omega
  · have := h.room
    have e1 : xs.length * E.k = k * E.k + (xs.length - k) * E.k := by rw [← Nat.add_mul]; congr 1; omega
    rw [hl, List.length_append, flat_length, List.length_drop]
    omega
  · rw [← List.append_assoc (flat E (xs.take k)), ← flat_append, List.take_append_drop]
theorem OwnD.drop (h : OwnD E A dead xs sp cap) (k : Nat) (hk : k ≤ xs.length) : ∃ d2 sp2, OwnD E (if cap = k then A else A.map (·.add (k * E.k))) d2 (xs.drop k) sp2 (cap - k) ∧ d2 ++ (flat E (xs.drop k) ++ sp2) = dead ++ (flat E xs ++ sp) ∧
    ∀ l T, rowA (if cap = k then A else A.map (·.add (k * E.k))) l T = rowA A l T := by
  have hle := h.le
  by_cases hc : cap = k
  · have hx : xs.drop k = [] := List.drop_eq_nil_of_le (by omega)
    rw [if_pos hc, hx]
    refine ⟨dead, flat E xs ++ sp, ⟨fun e => ?_, h.form, by simp, by simp [hc], by have := h.max; omega⟩, by simp [flat], fun _ _ => rfl⟩
    obtain ⟨h1, h2, h3, h4⟩ := h.nil e
    subst h1; subst h2; subst h3
    exact ⟨rfl, rfl, rfl, by omega⟩
  · rw [if_neg hc]
    have hl : (xs.drop k).length = xs.length - k := List.length_drop ..
    have hcat : flat E (xs.take k) ++ flat E (xs.drop k) = flat E xs := by rw [← flat_append, List.take_append_drop]
    refine ⟨dead ++ flat E (xs.take k), sp, ⟨fun e => ?_, fun ad e => ?_, by rw [hl]; omega, ?_, by have := h.max; omega⟩, ?_, fun l T => ?_⟩
    · cases A with
      | none => have := (h.nil rfl).2.2.2; omega
      | some ad => cases e
    · cases A with
      | none => cases e
      | some a0 =>
        have hf := h.form a0 rfl
        have hlt : (xs.take k).length = k := by rw [List.length_take]; omega
        simp only [Option.map_some, Option.some.injEq] at e
        subst e
        rw [hf, Addr.add_mid, List.length_append, flat_length, hlt]
    · have h1 := h.room
      rw [hl]
      have e1 : xs.length * E.k = k * E.k + (xs.length - k) * E.k := by rw [← Nat.add_mul]; congr 1; omega
      have e2 : cap * E.k = k * E.k + (cap - k) * E.k := by rw [← Nat.add_mul]; congr 1; omega
      omega
    · rw [← hcat]; simp
    · cases A with
      | none => rfl
      | some a0 =>
        have hf := h.form a0 rfl
        rw [hf]
        simp [rowA, Addr.add_mid]
end

section
variable {P : Program} {ops : Array Oper} {Q : Exit → Act → World → Prop} {rest : List Oper} {o : Oper} {a : Act} {B : Base} {H R : HL} {w : World} {α : Type} {E : Enc α}
theorem flat_cells_at {A' : Option Addr} {ys : List α} (hr : RdAt E B H A' ys) (hS : Sh B H w) : ∀ j u, (flat E ys)[j]? = some u → w.cell? ((⟨blkA A', offA A', none⟩ : Addr).add j) = some u := by
  intro j u hu
  rw [Addr.add_mid]
  have hj : j < ys.length * E.k := by
    have := (List.getElem?_eq_some_iff.1 hu).1
    rwa [flat_length] at this
  have hk := E.pos
  have hdiv : j / E.k < ys.length := Nat.div_lt_of_lt_mul (by rw [Nat.mul_comm]; exact hj)
  have hmod : j % E.k < E.k := Nat.mod_lt _ hk
  have hdm : j / E.k * E.k + j % E.k = j := by rw [Nat.mul_comm]; exact Nat.div_add_mod j E.k
  have hx1 : ys[j / E.k]? = some ys[j / E.k] := List.getElem?_eq_getElem hdiv
  have hf : (E.cells ys[j / E.k])[j % E.k]? = some ((E.cells ys[j / E.k])[j % E.k]'(by rw [E.len]; exact hmod)) := List.getElem?_eq_getElem _
  have h1 := flat_get hx1 [] hf
  rw [List.append_nil, hdm, hu] at h1
  have h2 := hr.get (j / E.k) _ hx1 (j % E.k) _ hf w hS
  rw [h1, ← h2, Nat.add_assoc, hdm]

/-- append(xs, ys...), xs an own slice that may begin inside its block. -/
theorem run_append_D {t ty e bytes cap cap' : Nat} {A A' : Option Addr} {dead : List Value} {xs ys : List α} {sp : List Value} [hsl : SlTy P t e E.k] [hel : ElTy P e E.k bytes]
    (hO : OwnD E A dead xs sp cap) (hS' : Sh B (rowD E A dead xs sp e ++ R) w) (hr : RdAt E B (rowD E A dead xs sp e ++ R) A' ys) (hy : 0 < ys.length)
    (hb : (xs.length + ys.length) * bytes ≤ 140737488355328) (hb0 : 0 < bytes) :
    ∃ A2 dead2 sp2 cap2 w2, (Builtin.append_ #[t, t] ty #[.slice A xs.length cap, .slice A' ys.length cap']).run P w = .ok (.slice A2 (xs ++ ys).length cap2) w2 ∧
      OwnD E A2 dead2 (xs ++ ys) sp2 cap2 ∧ Sh B (rowD E A2 dead2 (xs ++ ys) sp2 e ++ R) w2 := by
  cases hA : A with
  | none =>
    subst hA
    obtain ⟨h1, h2, h3, h4⟩ := hO.nil rfl
    subst h1; subst h2; subst h3; subst h4
    obtain ⟨A2, sp2, cap2, w2, hrun, hO2, hS2⟩ := run_append_sh (P := P) (t := t) (ty := ty) (cap' := cap') (OwnSl.nothing (E := E)) hS' hr hb hb0
    exact ⟨A2, [], sp2, cap2, w2, hrun, OwnD.of hO2, hS2⟩
  | some ad =>
    subst hA
    obtain ⟨i, z, hi, hz, hsz, hby, hzs⟩ := hel.out
    have hform := hO.form ad rfl
    have hA' := hr.ok.form hy
    have hnews := flat_cells_at hr hS'
    have h63 : xs.length + ys.length ≤ maxLen := by
      have : xs.length + ys.length ≤ (xs.length + ys.length) * bytes := Nat.le_mul_of_pos_right _ hb0
      simp only [maxLen]; omega
    by_cases hroom : xs.length + ys.length ≤ cap
    · have hrm := hO.room
      have hmul : (xs.length + ys.length) * E.k ≤ cap * E.k := Nat.mul_le_mul_right _ hroom
      rw [Nat.add_mul] at hmul
      have hS0 : Sh B (cellB ad.block (dead ++ (flat E xs ++ sp)) e ++ R) w := hS'
      obtain ⟨w2, hst, hS2⟩ := run_storeCells_sh (P := P) (off := dead.length + xs.length * E.k) (flat E ys) 0 _ w hS0 (by simp [flat_length]; omega) (flat_one ys)
      have hf := run_firstCells_some (P := P) w E.k ys.length ⟨blkA A', offA A', none⟩ ys.length cap' (flat E ys) (flat_length ys) hnews
      refine ⟨some ad, dead, sp.drop (ys.length * E.k), cap, w2, ?_, ⟨(fun h => by cases h), hO.form, by simpa using hroom, by simp [Nat.add_mul]; omega, hO.max⟩, ?_⟩
      · rw [hform, hA']
        simp [Builtin.append_, run_underlying hsl.under, sizeOf, typeInfo, hi, hsz, Builtin.lenOf, hroom, hf, Addr.add_lit, hst]
      · rw [Nat.add_zero, splice_eq _ _ _ (by simp [flat_length]; omega)] at hS2
        have e1 : (dead ++ (flat E xs ++ sp)).take (dead.length + xs.length * E.k) = dead ++ flat E xs := by
          rw [← List.append_assoc, List.take_append_of_le_length (by simp [flat_length])]
          exact List.take_of_length_le (by simp [flat_length])
        have e2 : (dead ++ (flat E xs ++ sp)).drop (dead.length + xs.length * E.k + (flat E ys).length) = sp.drop (ys.length * E.k) := by
          rw [← List.append_assoc, List.drop_append, List.drop_of_length_le (by simp [flat_length])]
          simp [flat_length]
        rw [e1, e2] at hS2
        show Sh B (rowA (some ad) (dead ++ (flat E (xs ++ ys) ++ sp.drop (ys.length * E.k))) e ++ R) w2
        rw [flat_append]
        have e3 : dead ++ (flat E xs ++ flat E ys ++ sp.drop (ys.length * E.k)) = dead ++ flat E xs ++ flat E ys ++ sp.drop (ys.length * E.k) := by simp
        rw [e3]
        exact hS2
    · have holds := flat_cells_at (hO.at_ (B := B) (H := rowD E (some ad) dead xs sp e ++ R) (T := e) (R := R) (hp := ⟨PickL.hd⟩)) hS'
      have hb1 : blkA (some ad) = ad.block := rfl
      have hb2 : offA (some ad) = dead.length := by rw [hform]; rfl
      rw [hb1, hb2] at holds
      have hb' : (xs.length + ys.length) * i.bytes ≤ 140737488355328 := by rw [hby]; exact hb
      have hrun := run_append_grow (P := P) w t ty e i z hsl.under hi hz ⟨ad.block, dead.length, none⟩ xs.length cap (flat E xs) (by rw [hsz]; exact flat_length xs) holds ⟨blkA A', offA A', none⟩ ys.length cap' (flat E ys) (by rw [hsz]; exact flat_length ys) hnews (by omega) (by simp only [maxLen] at h63; omega) (growslice_fits (by omega) hb')
      have hge := grownCap_ge w (xs.length + ys.length) cap e
      have hcm : grownCap w (xs.length + ys.length) cap e ≤ maxLen := grownCap_le_maxLen w _ cap e h63
      refine ⟨some ⟨w.heap.size, 0, none⟩, [], (Builtin.zeroCells z.cells (grownCap w (xs.length + ys.length) cap e - (xs.length + ys.length))).toList, grownCap w (xs.length + ys.length) cap e, w.drew.alloc (.cells ((flat E xs).toArray ++ (flat E ys).toArray ++ Builtin.zeroCells z.cells (grownCap w (xs.length + ys.length) cap e - (xs.length + ys.length))) e), ?_, ⟨(fun h => by cases h), fun ad h => by cases h; rfl, by simpa using hge, ?_, hcm⟩, ?_⟩
      · rw [hform, hA', hrun, List.length_append]
      · simp only [Array.length_toList, size_zeroCells, hzs, List.length_append, ← Nat.add_mul]
        exact Nat.mul_le_mul_right _ (by omega)
      · have hS1 := hS'.drew
        have hS2 := hS1.alloc (.cells ((flat E xs).toArray ++ (flat E ys).toArray ++ Builtin.zeroCells z.cells (grownCap w (xs.length + ys.length) cap e - (xs.length + ys.length))) e)
        have hsz2 : w.drew.heap.size = w.heap.size := rfl
        refine hS2.sub ?_
        have e1 : (flat E xs).toArray ++ (flat E ys).toArray ++ Builtin.zeroCells z.cells (grownCap w (xs.length + ys.length) cap e - (xs.length + ys.length)) = ([] ++ (flat E (xs ++ ys) ++ (Builtin.zeroCells z.cells (grownCap w (xs.length + ys.length) cap e - (xs.length + ys.length))).toList)).toArray := by
          apply Array.ext'
          simp [flat_append]
        rw [e1]
        exact List.Sublist.cons_cons _ (List.sublist_append_right _ _)
theorem wl_apD {t e bytes cap cap' nx ny : Nat} {s x : Operand} {A A' : Option Addr} {dead : List Value} {xs ys : List α} {sp : List Value} (hw : Region.wanted o (yielded ops a.tmps) = true)
    (ho : o.op = .call { callee := .builtin .append, args := #[s, x], argTypes := #[t, t] }) [hsl : SlTy P t e E.k] [hel : ElTy P e E.k bytes]
    (hs : a.eval s = .slice A nx cap) (hx : a.eval x = .slice A' ny cap') (hS : Sh B H w) [hO : OwnD E A dead xs sp cap] {C : HL → HL} [hp : CtxRow H A (dead ++ (flat E xs ++ sp)) e C] [hr : RdAt E B H A' ys] (hnx : nx = xs.length) (hny : ny = ys.length) (hy : 0 < ys.length)
    (hb : (xs.length + ys.length) * bytes ≤ 140737488355328) (hb0 : 0 < bytes)
    (h : ∀ A2 dead2 sp2 cap2 w2, OwnD E A2 dead2 (xs ++ ys) sp2 cap2 → Sh B (C (rowA A2 (dead2 ++ (flat E (xs ++ ys) ++ sp2)) e)) w2 → wpList P ops Q rest (a.put o.dst (.slice A2 (xs ++ ys).length cap2)) w2) : wpList P ops Q (o :: rest) a w := by
  subst hnx; subst hny
  have hctx := hp.ctx
  have hpk := hctx.choose_spec (rowA A (dead ++ (flat E xs ++ sp)) e)
  have hS0 : Sh B (rowA A (dead ++ (flat E xs ++ sp)) e ++ hctx.choose) w := (hp.eq ▸ hS).pick hpk
  obtain ⟨A2, dead2, sp2, cap2, w2, hrun, hO2, hS2⟩ := run_append_D (P := P) (ty := o.type) (t := t) (cap' := cap') hO hS0 (hr.perm (by rw [hp.eq]; exact hpk.symm)) hy hb hb0
  refine wl_to hw ?_ (h A2 dead2 sp2 cap2 w2 hO2 (hS2.perm (hctx.choose_spec (rowA A2 (dead2 ++ (flat E (xs ++ ys) ++ sp2)) e)).symm))
  simp only [execOp, ho, resolve, invoke, builtin, Sem.run_bind, Sem.run_pure, Result.andThen_ok, List.map_toArray, List.map_cons, List.map_nil, hs, hx, hrun]

/-- x[:h], x[l:]. -/
theorem elem_of {t e k : Nat} (h : SlTy P t e k) : P.underlying t = some (.slice (P.elem t)) ∧ (P.info? (P.elem t)).map (·.size) = some k := by
  have : P.elem t = e := by simp [Program.elem, h.under]
  rw [this]
  exact ⟨h.under, h.size⟩
theorem ex_cutH {t e k n cap h : Nat} {x hi : Operand} {kk : IntKind} {A : Option Addr} [hsl : SlTy P t e k] (ho : o.op = .slice t x none (some hi) none) (hx : a.eval x = .slice A n cap) (hh : a.eval hi = .int kk (h : Int)) (hle : h ≤ cap) :
    (execOp a.eval o).run P w = .ok (.value (.slice A h cap)) w := by
  obtain ⟨h1, h2⟩ := elem_of hsl
  have hr := run_slice_h (P := P) (w := w) t A n cap h1 kk (h : Int) (by omega) (by omega)
  rw [run_sizeOf h2] at hr
  have e0 : A.map (fun x => x.add 0) = A := by
    cases A with
    | none => rfl
    | some ad => simp [Addr.add]
  simp only [execOp, ho, Option.map, hx, hh]
  simp [run_sliceAt_slice w t _ _ _ _ h1, hr, sliced, Result.andThen]
  exact fun _ => e0
theorem ex_cutL {t e k n cap l : Nat} {x lo : Operand} {kk : IntKind} {A : Option Addr} [hsl : SlTy P t e k] (ho : o.op = .slice t x (some lo) none none) (hx : a.eval x = .slice A n cap) (hh : a.eval lo = .int kk (l : Int)) (hle : l ≤ n) :
    (execOp a.eval o).run P w = .ok (.value (.slice (if cap = l then A else A.map (·.add (l * k))) (n - l) (cap - l))) w := by
  obtain ⟨h1, h2⟩ := elem_of hsl
  have hr := run_slice_l (P := P) (w := w) t A n cap h1 kk (l : Int) (by omega) (by omega)
  rw [run_sizeOf h2] at hr
  simp only [execOp, ho, Option.map, hx, hh]
  simp [run_sliceAt_slice w t _ _ _ _ h1, hr, sliced, Result.andThen]
  cases A <;> rfl
/-- x[l:], of an own slice, from there on by its rest. -/
theorem wl_cutL {t e n cap l T : Nat} {x lo : Operand} {kk : IntKind} {A : Option Addr} {dead : List Value} {xs : List α} {sp : List Value} (hw : Region.wanted o (yielded ops a.tmps) = true) [hsl : SlTy P t e E.k] (ho : o.op = .slice t x (some lo) none none) (hx : a.eval x = .slice A n cap) (hh : a.eval lo = .int kk (l : Int))
    (hS : Sh B H w) (hO : OwnD E A dead xs sp cap) {C : HL → HL} [hp : CtxRow H A (dead ++ (flat E xs ++ sp)) T C] (hn : n = xs.length) (hle : l ≤ xs.length)
    (h : ∀ A2 d2 sp2, OwnD E A2 d2 (xs.drop l) sp2 (cap - l) → Sh B (C (rowA A2 (d2 ++ (flat E (xs.drop l) ++ sp2)) T)) w → wpList P ops Q rest (a.put o.dst (.slice A2 (xs.drop l).length (cap - l))) w) : wpList P ops Q (o :: rest) a w := by
  subst hn
  obtain ⟨d2, sp2, hO2, he, hrow⟩ := hO.drop l hle
  refine wl_value hw (ex_cutL ho hx hh hle) ?_
  rw [← List.length_drop]
  refine h _ d2 sp2 hO2 ?_
  rw [he, hrow]
  exact hp.eq ▸ hS
end
end Go.Tk

set_option linter.unusedSectionVars false
set_option linter.unusedSimpArgs false
set_option linter.unusedVariables false
namespace Go.Tk
open Go.RowKit Go.Proofs

theorem Sh.growW {B : Base} {H : HL} {w : World} (h : Sh B H w) (os' : Array Obj) : Sh B H (Go.Sort.grow w os') := {
  os := h.os
  tape := h.tape
  output := h.output
  drawn := h.drawn
  base b o hb := by
    have := h.base b o hb
    have hl := (Array.getElem?_eq_some_iff.1 this).1
    show (w.heap ++ os')[b]? = _
    rw [Array.getElem?_append_left hl, this]
  own p hp := by
    have := h.own p hp
    have hl := (Array.getElem?_eq_some_iff.1 this).1
    show (w.heap ++ os')[p.1]? = _
    rw [Array.getElem?_append_left hl, this]
  apart := h.apart
  nodup := h.nodup }
theorem putCells_mid {k : IntKind} (dead : List Value) (xs zs : List Int) (sp : List Value) (hl : zs.length = xs.length) :
    Go.Sort.putCells (Value.int k) dead.length zs.toArray (dead ++ (flat (intE k) xs ++ sp)).toArray = (dead ++ (flat (intE k) zs ++ sp)).toArray := by
  have hf : ∀ l : List Int, flat (intE k) l = l.map (Value.int k) := by
    intro l
    induction l with
    | nil => rfl
    | cons a l ih => show [Value.int k a] ++ flat (intE k) l = _; rw [ih]; rfl
  rw [hf, hf]
  apply Array.ext'
  apply List.ext_getElem?
  intro i
  simp only [Go.Sort.putCells, Array.getElem?_toList, Array.getElem?_mapIdx, List.getElem?_toArray, List.size_toArray]
  by_cases h1 : i < dead.length
  · rw [List.getElem?_append_left h1, List.getElem?_append_left h1]
    have : ¬ (dead.length ≤ i ∧ i < dead.length + zs.length) := by omega
    simp only [this, if_false, Option.map_id']
  · have a1 : (dead ++ (xs.map (Value.int k) ++ sp))[i]? = (xs.map (Value.int k) ++ sp)[i - dead.length]? := List.getElem?_append_right (by omega)
    have a2 : (dead ++ (zs.map (Value.int k) ++ sp))[i]? = (zs.map (Value.int k) ++ sp)[i - dead.length]? := List.getElem?_append_right (by omega)
    rw [a1, a2]
    have hx : (xs.map (Value.int k)).length = xs.length := List.length_map ..
    have hz : (zs.map (Value.int k)).length = zs.length := List.length_map ..
    by_cases h2 : i < dead.length + zs.length
    · have hc : (dead.length ≤ i ∧ i < dead.length + zs.length) := by omega
      have e1 : (xs.map (Value.int k) ++ sp)[i - dead.length]? = some (Value.int k (xs[i - dead.length]'(by omega))) := by
        rw [List.getElem?_append_left (by omega), List.getElem?_map, List.getElem?_eq_getElem (by omega)]; rfl
      have e2 : (zs.map (Value.int k) ++ sp)[i - dead.length]? = some (Value.int k (zs[i - dead.length]'(by omega))) := by
        rw [List.getElem?_append_left (by omega), List.getElem?_map, List.getElem?_eq_getElem (by omega)]; rfl
      have e3 : (zs.toArray)[i - dead.length]! = zs[i - dead.length]'(by omega) := by rw [getElem!_pos zs.toArray _ (by simp; omega)]; simp
      rw [e1, e2]
      simp only [hc, and_self, if_true, Option.map_some, e3]
    · have hc : ¬ (dead.length ≤ i ∧ i < dead.length + zs.length) := by omega
      simp only [hc, if_false, Option.map_id']
      have b1 : (xs.map (Value.int k) ++ sp)[i - dead.length]? = sp[i - dead.length - (xs.map (Value.int k)).length]? := List.getElem?_append_right (by omega)
      have b2 : (zs.map (Value.int k) ++ sp)[i - dead.length]? = sp[i - dead.length - (zs.map (Value.int k)).length]? := List.getElem?_append_right (by omega)
      rw [b1, b2, hx, hz, hl]
theorem mapBlock_setW {w : World} {b T : Nat} {c : Array Value} (f : Array Value → Array Value) (h : w.heap[b]? = some (.cells c T (0, 0))) : Go.Sort.mapBlock w b f = Tk.setB w b (.cells (f c) T (0, 0)) := by
  unfold Go.Sort.mapBlock Tk.setB
  congr 1
  apply Array.ext_getElem?
  intro i
  by_cases hi : b = i
  · subst hi
    have hl := (Array.getElem?_eq_some_iff.1 h).1
    rw [Array.getElem?_modify, Array.getElem?_setIfInBounds_self_of_lt hl]
    simp [h, Go.Sort.onCells]
  · rw [Array.getElem?_modify, Array.getElem?_setIfInBounds_ne hi]
    simp [hi]
section
variable {B : Base} {H R : HL} {w : World} {k : IntKind} {b n T : Nat} {dead sp : List Value} {xs zs : List Int}
theorem Sh.putI (hS : Sh B H w) {C : HL → HL} [hp : CtxRow H (some ⟨b, dead.length, none⟩) (dead ++ (flat (intE k) xs ++ sp)) T C] (hl : zs.length = xs.length) : Sh B (C (rowA (some ⟨b, dead.length, none⟩) (dead ++ (flat (intE k) zs ++ sp)) T)) (Go.Sort.putRow (Value.int k) (Go.Sort.ahead w n) b dead.length zs.toArray) := by
  obtain ⟨R, hS, hC⟩ := Sh.out (hp.eq ▸ hS) hp.ctx
  refine hC _ _ ?_
  have hb : w.heap[b]? = some (.cells (dead ++ (flat (intE k) xs ++ sp)).toArray T (0, 0)) := hS.own (b, _) (by simp [rowA])
  have hbn : (Go.Sort.ahead w n).heap[b]? = some (.cells (dead ++ (flat (intE k) xs ++ sp)).toArray T (0, 0)) := hb
  unfold Go.Sort.putRow
  rw [mapBlock_setW _ hbn, putCells_mid dead xs zs sp hl]
  have hS2 : Sh B (rowA (some ⟨b, dead.length, none⟩) (dead ++ (flat (intE k) xs ++ sp)) T ++ R) (Go.Sort.ahead w n) := hS.drewN n
  exact Sh.setB (H := R) (b := b) (o := .cells (dead ++ (flat (intE k) xs ++ sp)).toArray T (0, 0)) hS2 (.cells (dead ++ (flat (intE k) zs ++ sp)).toArray T (0, 0))
theorem Sh.holdsI (hS : Sh B H w) [hp : HasRow H (some ⟨b, dead.length, none⟩) (dead ++ (flat (intE k) xs ++ sp)) T R] : Go.Sort.Holds (Value.int k) w b dead.length xs.toArray ∧ b < w.heap.size := by
  have hS' := hS.pick hp.out
  have hb : w.heap[b]? = some (.cells (dead ++ (flat (intE k) xs ++ sp)).toArray T (0, 0)) := hS'.own (b, _) (by simp [rowA])
  refine ⟨?_, (Array.getElem?_eq_some_iff.1 hb).1⟩
  intro j hj
  have hj' : j < xs.length := by simpa using hj
  have e1 : (xs.toArray)[j]! = xs[j] := by rw [getElem!_pos xs.toArray _ hj]; simp
  refine ⟨?_, by simp [World.frozen?, hb]⟩
  have hg := flat_get (E := intE k) (List.getElem?_eq_getElem hj') sp (f := 0) (v := .int k xs[j]) rfl
  have hk : (intE k).k = 1 := rfl
  rw [hk, Nat.mul_one, Nat.add_zero] at hg
  simp only [World.cell?, hb, e1]
  simp only [List.getElem?_toArray]
  rw [List.getElem?_append_right (by omega), show dead.length + j - dead.length = j by omega]
  exact hg
end
end Go.Tk

set_option linter.unusedSectionVars false
set_option linter.unusedSimpArgs false
set_option linter.unusedVariables false
namespace Go.Tk
open Go.RowKit
section
variable {P : Program} {ops : Array Oper} {Q : Exit → Act → World → Prop} {rest : List Oper} {o : Oper} {a : Act} {B : Base} {H R : HL} {w : World} {α : Type} {E : Enc α}
theorem zeroCells_flat (z : α) (n : Nat) : (Builtin.zeroCells (E.cells z).toArray n).toList = flat E (List.replicate n z) := by
  have hlen : (E.cells z).length = E.k := E.len z
  apply List.ext_getElem?
  intro i
  by_cases hi : i < n * E.k
  · have hj : i / E.k < n := Nat.div_lt_of_lt_mul (by rw [Nat.mul_comm]; exact hi)
    have hf : i % E.k < E.k := Nat.mod_lt _ E.pos
    have hx : (List.replicate n z)[i / E.k]? = some z := by simp [hj]
    have h2 := flat_get (E := E) hx [] (f := i % E.k) (v := (E.cells z)[i % E.k]'(by omega)) (List.getElem?_eq_getElem (by omega))
    rw [List.append_nil, show i / E.k * E.k + i % E.k = i from by rw [Nat.mul_comm]; exact Nat.div_add_mod i E.k] at h2
    rw [h2]
    unfold Builtin.zeroCells
    simp [hlen, hi, getElem!_pos, hf]
  · rw [List.getElem?_eq_none (by unfold Builtin.zeroCells; simp [hlen]; omega), List.getElem?_eq_none (by rw [flat_length, List.length_replicate]; omega)]
/-- clear(s[i:]), s an own slice. -/
theorem wl_clearL {t e n cap cap0 i k : Nat} {x : Operand} {A : Option Addr} {xs : List α} {sp zc : List Value} (z : α) (hw : Region.wanted o (yielded ops a.tmps) = true) (ho : o.op = .call { callee := .builtin .clear, args := #[x], argTypes := #[t] })
    [hsl : SlTy P t e E.k] [hz : Zero P e zc] (hzc : zc = E.cells z) (hx : a.eval x = .slice (if cap0 = i then A else A.map (·.add (i * k))) n cap) (hk : E.k = k) (hS : Sh B H w) (hO : OwnSl E A xs sp cap0) {C : HL → HL} [hp : CtxRow H A (flat E xs ++ sp) e C]
    (hn : n = xs.length - i) (hi : i ≤ xs.length)
    (h : ∀ w', Sh B (C (rowA A (flat E (xs.take i ++ List.replicate (xs.length - i) z) ++ sp) e)) w' → OwnSl E A (xs.take i ++ List.replicate (xs.length - i) z) sp cap0 → wpList P ops Q rest (a.put o.dst (.tuple #[])) w') : wpList P ops Q (o :: rest) a w := by
  subst hk; subst hn; subst hzc
  by_cases h0 : xs.length - i = 0
  · have hx0 : xs.take i ++ List.replicate (xs.length - i) z = xs := by rw [h0, List.take_of_length_le (by omega)]; simp
    rw [hx0] at h
    refine wl_to hw ?_ (h w (hp.eq ▸ hS) hO)
    rw [h0] at hx
    have hrun : ∀ B', (Builtin.clear_ #[t] o.type #[.slice B' 0 cap]).run P w = .ok (.tuple #[]) w := by
      intro B'
      cases B' <;> simp [Builtin.clear_, run_underlying hsl.under]
    simp [execOp, ho, resolve, invoke, builtin, hx, hrun]
  · cases hA : A with
    | none => have := (hO.nil hA).1; subst this; simp at h0
    | some ad =>
      subst hA
      have hform := hO.form ad rfl
      have hle : xs.length ≤ cap0 := hO.len_le
      rw [if_neg (by omega)] at hx
      have hx' : a.eval x = .slice (some ⟨ad.block, i * E.k, none⟩) (xs.length - i) cap := by
        rw [hx, hform]
        simp only [Option.map_some]
        congr 2
        by_cases hi0 : i * E.k = 0
        · simp [Addr.add, hi0]
        · simp [Addr.add, hi0]
      obtain ⟨R, hS0, back⟩ := Sh.out (hp.eq ▸ hS) hp.ctx
      obtain ⟨zv, hz1, hz2⟩ := hz.out
      have hmul : (xs.length - i) * E.k + i * E.k = xs.length * E.k := by rw [← Nat.add_mul]; congr 1; omega
      rw [hform] at hS0
      obtain ⟨w', hr, hS'⟩ := run_storeCells_sh (P := P) (b := ad.block) (off := i * E.k) (T := e) (flat E (List.replicate (xs.length - i) z)) 0 (flat E xs ++ sp) w hS0 (by rw [List.length_append, flat_length, flat_length, List.length_replicate]; omega) (flat_one _)
      have hcells : splice (flat E xs ++ sp) (i * E.k + 0) (flat E (List.replicate (xs.length - i) z)) = flat E (xs.take i ++ List.replicate (xs.length - i) z) ++ sp := by
        have e1 : flat E xs = flat E (xs.take i) ++ flat E (xs.drop i) := by rw [← flat_append, List.take_append_drop]
        have e2 : (flat E (xs.take i)).length = i * E.k := by rw [flat_length, List.length_take, Nat.min_eq_left hi]
        have e3 : (flat E (xs.drop i)).length = (xs.length - i) * E.k := by rw [flat_length, List.length_drop]
        have e4 : (flat E (List.replicate (xs.length - i) z)).length = (xs.length - i) * E.k := by rw [flat_length, List.length_replicate]
        rw [splice_eq _ _ _ (by have e5 : (flat E xs).length = xs.length * E.k := flat_length xs; rw [List.length_append, e4, e5]; omega), e1, flat_append, Nat.add_zero]
        rw [List.append_assoc (flat E (xs.take i)), List.take_append_of_le_length (by omega), List.take_of_length_le (by omega), e4]
        rw [← List.append_assoc (flat E (xs.take i)) (flat E (xs.drop i)) sp, List.drop_append, List.drop_of_length_le (by rw [List.length_append]; omega)]
        rw [List.length_append, e2, e3, show i * E.k + (xs.length - i) * E.k - (i * E.k + (xs.length - i) * E.k) = 0 by omega]
        simp
      rw [hcells] at hS'
      have hlen : (xs.take i ++ List.replicate (xs.length - i) z).length = xs.length := by rw [List.length_append, List.length_take, List.length_replicate]; omega
      refine wl_to hw ?_ (h w' (back (rowA (some ad) _ e) w' (by rw [hform]; exact hS')) ⟨fun e => (by cases e), hO.form, by rw [hlen]; exact hO.capEq, hO.max⟩)
      obtain ⟨m, hm⟩ : ∃ m, xs.length - i = m + 1 := ⟨xs.length - i - 1, by omega⟩
      have hzc : (Builtin.zeroCells zv.cells (m + 1)).toList = flat E (List.replicate (m + 1) z) := by rw [hz2]; exact zeroCells_flat z _
      rw [hm] at hr hx'
      have hrun : (Builtin.clear_ #[t] o.type #[.slice (some ⟨ad.block, i * E.k, none⟩) (m + 1) cap]).run P w = .ok (.tuple #[]) w' := by
        simp [Builtin.clear_, run_underlying hsl.under, run_zeroValue hz1, hzc, hr]
      simp [execOp, ho, resolve, invoke, builtin, hx', hrun]
theorem OwnSl.front {A : Option Addr} {ys zs : List α} {sp : List Value} {cap : Nat} (h : OwnSl E A (ys ++ zs) sp cap) : OwnSl E A ys (flat E zs ++ sp) cap ∧ flat E (ys ++ zs) ++ sp = flat E ys ++ (flat E zs ++ sp) := by
  refine ⟨⟨fun e => ?_, h.form, ?_, h.max⟩, by rw [flat_append, List.append_assoc]⟩
  · obtain ⟨h1, h2, h3⟩ := h.nil e
    obtain ⟨h4, h5⟩ := List.append_eq_nil_iff.1 h1
    subst h4; subst h5; subst h2
    exact ⟨rfl, rfl, h3⟩
  · have := h.capEq
    rw [List.length_append, Nat.add_mul] at this
    rw [List.length_append, flat_length]
    omega
/-- A call of a function value. -/
theorem wl_callV {f : FuncId} {x : Operand} {args : Array Operand} {ats : Array TypeId} {ar : List Value} {lb : Array Value} (he : ∀ ar w, (callFunc f ar).run P w = .ok (.enter f ar) w) (hw : Region.wanted o (yielded ops a.tmps) = true) (ho : o.op = .call { callee := .value x, args := args, argTypes := ats })
    (hx : a.eval x = .func (.func f) #[] lb) (ha : args.toList.map a.eval = ar) (h : Calls P f (ar.toArray ++ lb) w fun e w' => ∃ v, e = .returned v ∧ wpList P ops Q rest (a.put o.dst v) w') : wpList P ops Q (o :: rest) a w := by
  refine wpList_step fun K hK => ?_
  rw [if_pos hw]
  have ha' : args.map a.eval = ar.toArray := by rw [← ha]; apply Array.ext'; simp
  have hrun : (execOp a.eval o).run P w = .ok (.enter f (ar.toArray ++ lb)) w := by
    have := he (ar.toArray ++ lb) w
    simp [execOp, ho, resolve, hx, Deferred.ofValue, invoke, ha', this]
  unfold Oper.wp
  rw [hrun]
  refine h.mono fun e w' he => ?_
  obtain ⟨v, rfl, hv⟩ := he
  exact hK _ _ hv
end
theorem ex_ixN {P : Program} {o : Oper} {a : Act} {w : World} {t e k n cap j : Nat} {x i : Operand} {kk : IntKind} {ii : Int} {A : Option Addr} (ho : o.op = .indexAddr t x i) [SlTy P t e k] (hx : a.eval x = .slice A n cap) (hi : a.eval i = .int kk ii) [hj : IsN ii j] (hlt : j < n) (hok : SlOk A n) :
    (execOp a.eval o).run P w = .ok (.value (.pointer (some ⟨blkA A, offA A + j * k, none⟩))) w := by
  have e := hj.out
  subst e
  have := ex_idx (P := P) (t := t) (w := w) (ho := ho) hx hi (Int.natCast_nonneg j) (by omega) hok
  rwa [Int.toNat_natCast] at this
def cutI (A : Option Addr) (cap l k : Nat) : Option Addr := if cap = l then A else A.map (·.add (l * k))
theorem ex_cutI {P : Program} {o : Oper} {a : Act} {w : World} {t e k n cap l : Nat} {x lo : Operand} {kk : IntKind} {A : Option Addr} [hsl : SlTy P t e k] (ho : o.op = .slice t x (some lo) none none) (hx : a.eval x = .slice A n cap) (hh : a.eval lo = .int kk (l : Int)) (hle : l ≤ n) :
    (execOp a.eval o).run P w = .ok (.value (.slice (cutI A cap l k) (n - l) (cap - l))) w := ex_cutL ho hx hh hle
theorem cutRdI {α : Type} {E : Enc α} {B : Base} {H : HL} {A : Option Addr} {cap l k : Nat} {xs : List α} (r : RdAt E B H A xs) (hk : E.k = k) (hc : xs.length ≤ cap) : RdAt E B H (cutI A cap l k) (xs.drop l) := by
  subst hk
  unfold cutI
  by_cases h : cap = l
  · rw [List.drop_eq_nil_of_le (by omega)]
    exact RdAt.nil
  · rw [if_neg h]
    exact r.drop l
end Go.Tk

set_option linter.unusedSectionVars false
set_option linter.unusedSimpArgs false
set_option linter.unusedVariables false
namespace Go.Tk
open Go.RowKit
section
variable {P : Program} {ops : Array Oper} {Q : Exit → Act → World → Prop} {B : Base} {H R : HL} {w : World}
theorem rowsIn_of {n l : Nat} {row : String} {args : Array Value} {R : Value → World → Prop} (h : Rows P row args w R) : RowsIn (Fence.wide.inRound l) n P row args w R :=
  fun c cs _ => let ⟨v, w', r, s⟩ := h c cs; ⟨v, w', r, by rw [fenced_inRound]; exact stepsIn_wide.2 s⟩
/-- What goes everywhere goes in a round. -/
theorem wpListIn_of {l n : Nat} (hQ : ¬ LetsOut Q) : ∀ (L : List Oper) (a : Act) (w : World), (∀ o ∈ L, ∀ c, o.op ≠ .defer c) → wpList P ops Q L a w → wpListIn (Fence.wide.inRound l) n P ops Q L a w
  | [], a, w, _, h => h
  | o :: L, a, w, hd, h => by
    have hd' : ∀ o ∈ L, ∀ c, o.op ≠ .defer c := fun x hx => hd x (List.mem_cons_of_mem _ hx)
    have ih := fun a w => wpListIn_of (l := l) (n := n) hQ L a w hd'
    unfold wpList at h
    unfold wpListIn
    by_cases hw : Region.wanted o (yielded ops a.tmps) = true
    · rw [if_pos hw] at h ⊢
      rcases h with h | h
      · refine ⟨fun _ _ => trivial, ?_⟩
        rw [Fence.inRound_round, Oper.semAt_some l a.eval o (hd o (List.mem_cons_self ..))]
        unfold Oper.wp at h
        generalize (execOp a.eval o).run P w = res at h
        cases res with
        | ok nx w' =>
          cases nx with
          | value v => exact ih _ _ h
          | skip => exact ih _ _ h
          | defer d => exact ih _ _ h
          | enter f args =>
            refine ⟨(fun h0 => Bool.noConfusion h0), CallsIn.inRound l (callsIn_wide.2 (Calls.mono h fun e w'' he => ?_))⟩
            cases e with
            | returned v => exact ih _ _ he
            | panicked c => exact he
            | outgrown => exact he
          | row r args => exact ⟨(fun h0 => Bool.noConfusion h0), rowsIn_of (h.mono fun v w'' hv => ih _ _ hv)⟩
          | _ => exact h.elim
        | halt x w' =>
          cases x with
          | panic v => exact h
          | _ => exact h.elim
      · exact absurd h.2 hQ
    · rw [if_neg hw] at h ⊢
      exact ⟨fun _ _ => trivial, ih _ _ h⟩
def noDefer (ops : Array Oper) : Bool := ops.toList.all fun o => match o.op with | .defer _ => false | _ => true
theorem noDefer_ops {ops : Array Oper} (h : noDefer ops = true) : ∀ o ∈ ops.toList, ∀ c, o.op ≠ .defer c := by
  intro o ho c hc
  have := List.all_eq_true.1 h o ho
  rw [hc] at this
  cases this
theorem wpIn_region_of {l n id : Nat} {L : List Oper} {a : Act} (hQ : ¬ LetsOut Q) (hd : noDefer L.toArray = true) (h : wpList P L.toArray Q L a w) : (Code.region id L.toArray false).wpIn (Fence.wide.inRound l) n P Q a w :=
  wpIn_region_lit (wpListIn_of hQ _ _ _ (fun o ho => noDefer_ops hd o (by simpa using ho)) h)
theorem letsOut_then {K : Act → World → Prop} (h : ¬ LetsOut Q) : ¬ LetsOut (Exit.then K Q) := by
  rintro ⟨a, w, hq⟩
  exact h ⟨a, w, hq⟩
/-- A function whose body holds a range over a function. -/
theorem calls_of_marks {f : FuncId} {fn : Func} {c : Code} {args : Array Value} {R : Ending → World → Prop} (hf : P.funcs[f]? = some fn) (hb : fn.body = some c)
    (h : c.wp P (bodyPostM Fence.wide 0 P fn R) { tmps := args ++ Array.replicate (fn.ntmps - args.size) undef, defers := [] } w) : Calls P f args w R :=
  callsIn_wide.1 (callsIn_of_wp_marks hf hb trivial (wpIn_wide.2 h))
theorem putObj_setB (w : World) (b : Nat) (o : Obj) : w.putObj b o = setB w b o := rfl
def objB (b : Nat) (o : Obj) : HL := [(b, o)]
def loopO (st : LoopState) (pd : Option Code) (fn : FuncId) (tmps : Array Value) (ps : Array Tmp) (assign body : Code) (D : Nat) : Obj :=
  .loop { state := st, pending := pd, fn, tmps, params := ps, assign, body, defers := D }
theorem post_marks {fn : Func} {a : Act} {D : Nat} {R : Ending → World → Prop} {v : Value} (hS : Sh B (objB D (.deferred (some [])) ++ H) w) (hd : a.defers = [{ target := .collected D, args := #[] }])
    (hr : ∀ w', Sh B H w' → (results fn a.tmps).run P w' = .ok v w' ∧ R (.returned v) w') : bodyPostM Fence.wide 0 P fn R .ret a w := by
  show LeavesInM Fence.wide 0 P fn a.tmps R a.defers .returning w
  rw [hd]
  refine ⟨by simp, .inl ⟨D, _, rfl, run_takeDeferred (hS.own (D, .deferred (some [])) (by simp [objB])), ?_⟩⟩
  rw [putObj_setB]
  exact ⟨v, hr _ (Sh.drop (c := objB D (.deferred none)) (hS.setB (.deferred none)))⟩
theorem post_marks0 {fn : Func} {a : Act} {R : Ending → World → Prop} {v : Value} (hd : a.defers = []) (hr : (results fn a.tmps).run P w = .ok v w ∧ R (.returned v) w) : bodyPostM Fence.wide 0 P fn R .ret a w := by
  show LeavesInM Fence.wide 0 P fn a.tmps R a.defers .returning w
  rw [hd]
  exact ⟨v, hr⟩
/-- The statement. -/
theorem wp_rangeS {g : Operand} {ps : Array Tmp} {assign body : Code} {a : Act} {f : FuncId} {lb : Array Value} (hS : Sh B H w) (hg : a.eval g = .func (.func f) #[] lb) (he : ∀ ar w, (callFunc f ar).run P w = .ok (.enter f ar) w)
    (h : ∀ (fn : FuncId) (l D : Nat) (w₂ : World), Sh B (objB l (loopO .ready none fn a.tmps ps assign body D) ++ (objB D (.deferred (some [])) ++ H)) w₂ →
      Calls P f (#[.func (.yield l) #[] #[]] ++ lb) w₂ fun e w₃ => ∃ v st jump H', e = .returned v ∧ st ≠ .busy ∧ Sh B (objB l (loopO st jump fn a.tmps ps assign body D) ++ H') w₃ ∧
        ∀ w₄, Sh B H' w₄ → (match jump with
          | none => Q .normal { a with defers := { target := .collected D, args := #[] } :: a.defers } w₄
          | some c => c.wp P Q { a with defers := { target := .collected D, args := #[] } :: a.defers } w₄)) :
    (Code.rangeFunc g ps assign body).wp P Q a w := by
  refine (wpIn_wide (n := 0)).1 (wpIn_rangeFunc fun fn _ => ?_)
  have hS1 := (hS.alloc (.deferred (some []))).alloc (loopO .ready none fn a.tmps ps assign body w.heap.size)
  rw [World.size_alloc] at hS1
  refine ⟨w.heap.size + 1, [{ target := .collected w.heap.size, args := #[] }], (w.alloc (.deferred (some []))).alloc (loopO .ready none fn a.tmps ps assign body w.heap.size), { target := .fn (.func f) lb, args := #[.func (.yield (w.heap.size + 1)) #[] #[]] }, ((w.alloc (.deferred (some []))).alloc (loopO .ready none fn a.tmps ps assign body w.heap.size)), f,
    #[.func (.yield (w.heap.size + 1)) #[] #[]] ++ lb, ((w.alloc (.deferred (some []))).alloc (loopO .ready none fn a.tmps ps assign body w.heap.size)), run_enterLoop_outer _ _ _ _ _, ?_, fun _ _ => trivial, ?_, (fun h0 => Bool.noConfusion h0), ?_⟩
  · simp only [resolve, hg]
    simp [go_sem]
  · simp [invoke, go_sem, he]
  · refine callsIn_wide.2 ((h fn (w.heap.size + 1) w.heap.size _ hS1).mono ?_)
    rintro e w₃ ⟨v, st, jump, H', rfl, hst, hS3, hk⟩
    refine ⟨jump, _, run_endLoop (hS3.own (w.heap.size + 1, loopO st jump fn a.tmps ps assign body w.heap.size) (by simp [objB])) hst, ?_⟩
    rw [putObj_setB]
    have := hk _ (Sh.drop (c := objB (w.heap.size + 1) (loopO .exhausted jump fn a.tmps ps assign body w.heap.size)) (hS3.setB (loopO .exhausted jump fn a.tmps ps assign body w.heap.size)))
    cases jump with
    | none => exact this
    | some c => exact wpIn_wide.2 this
/-- One round. -/
theorem yield_at {l n D : Nat} {fn : FuncId} {tmps : Array Value} {ps : Array Tmp} {assign body : Code} {args : Array Value} {R : Ending → World → Prop} (hS : Sh B (objB l (loopO .ready none fn tmps ps assign body D) ++ H) w) (hn : args.size = ps.size)
    (h : ∀ (K : Act → World → Prop), (∀ a₁ w₁ H₁, Sh B (objB l (loopO .ready none fn tmps ps assign body D) ++ H₁) w₁ → (∀ w₂, Sh B (objB l (loopO .busy none fn tmps ps assign body D) ++ H₁) w₂ → body.wpIn (Fence.wide.inRound l) n P (roundPost P l R) a₁ w₂) → K a₁ w₁) →
      assign.wpIn (Fence.wide.inRound l) n P (Exit.then K (fun _ _ _ => False)) { tmps := (ps.zip args).foldl (fun t (p, v) => t.setIfInBounds p v) tmps, defers := [] } w) : YieldAt Fence.wide n P l args w R := by
  refine ⟨fn, _, assign, body, run_yield (hS.own (l, loopO .ready none fn tmps ps assign body D) (by simp [objB])) hn, roundIn_of_wpIn trivial (h _ fun a₁ w₁ H₁ hS1 hb => ?_)⟩
  refine ⟨_, run_beginRound (hS1.own (l, loopO .ready none fn tmps ps assign body D) (by simp [objB])) rfl, ?_⟩
  rw [putObj_setB]
  exact hb _ (hS1.setB (loopO .busy none fn tmps ps assign body D))
theorem round_end {l D : Nat} {fn : FuncId} {tmps : Array Value} {ps : Array Tmp} {assign body : Code} {R : Ending → World → Prop} {a : Act} (hS : Sh B (objB l (loopO .busy none fn tmps ps assign body D) ++ H) w)
    (h : ∀ w', Sh B (objB l (loopO .ready none fn tmps ps assign body D) ++ H) w' → R (.returned (.bool true)) w') : roundPost P l R .normal a w := by
  refine ⟨_, _, run_endRound none (hS.own (l, loopO .busy none fn tmps ps assign body D) (by simp [objB])), ?_⟩
  rw [putObj_setB]
  exact h _ (hS.setB (loopO .ready none fn tmps ps assign body D))
theorem round_exit {l D id : Nat} {fn : FuncId} {tmps : Array Value} {ps : Array Tmp} {assign body : Code} {R : Ending → World → Prop} {a : Act} (hS : Sh B (objB l (loopO .busy none fn tmps ps assign body D) ++ H) w)
    (h : ∀ w', Sh B (objB l (loopO .done (some (.exit id)) fn tmps ps assign body D) ++ H) w' → R (.returned (.bool false)) w') : roundPost P l R (.exit id) a w := by
  refine ⟨_, _, run_endRound (some (.exit id)) (hS.own (l, loopO .busy none fn tmps ps assign body D) (by simp [objB])), ?_⟩
  rw [putObj_setB]
  exact h _ (hS.setB (loopO .done (some (.exit id)) fn tmps ps assign body D))
theorem round_ret {l D : Nat} {fn : FuncId} {tmps : Array Value} {ps : Array Tmp} {assign body : Code} {R : Ending → World → Prop} {a : Act} (hS : Sh B (objB l (loopO .busy none fn tmps ps assign body D) ++ H) w)
    (h : ∀ w', Sh B (objB l (loopO .done (some .ret) fn tmps ps assign body D) ++ H) w' → R (.returned (.bool false)) w') : roundPost P l R .ret a w := by
  refine ⟨_, _, run_endRound (some .ret) (hS.own (l, loopO .busy none fn tmps ps assign body D) (by simp [objB])), ?_⟩
  rw [putObj_setB]
  exact h _ (hS.setB (loopO .done (some .ret) fn tmps ps assign body D))
/-- A loop's record, kept shut. -/
structure LoopIs (O : LoopState → Option Code → Obj) (fn : FuncId) (tmps : Array Value) (ps : Array Tmp) (assign body : Code) (D : Nat) : Prop where
  out : O = fun st pd => loopO st pd fn tmps ps assign body D
theorem wp_rangeO {g : Operand} {ps : Array Tmp} {assign body : Code} {a : Act} {f : FuncId} {lb : Array Value} (hS : Sh B H w) (hg : a.eval g = .func (.func f) #[] lb) (he : ∀ ar w, (callFunc f ar).run P w = .ok (.enter f ar) w)
    (h : ∀ (fn : FuncId) (l D : Nat) (w₂ : World) (O : LoopState → Option Code → Obj), LoopIs O fn a.tmps ps assign body D → Sh B (objB l (O .ready none) ++ (objB D (.deferred (some [])) ++ H)) w₂ →
      Calls P f (#[.func (.yield l) #[] #[]] ++ lb) w₂ fun e w₃ => ∃ v st jump H', e = .returned v ∧ st ≠ .busy ∧ Sh B (objB l (O st jump) ++ H') w₃ ∧
        ∀ w₄, Sh B H' w₄ → (match jump with
          | none => Q .normal { a with defers := { target := .collected D, args := #[] } :: a.defers } w₄
          | some c => c.wp P Q { a with defers := { target := .collected D, args := #[] } :: a.defers } w₄)) :
    (Code.rangeFunc g ps assign body).wp P Q a w :=
  wp_rangeS hS hg he fun fn l D w₂ hS2 => h fn l D w₂ _ ⟨rfl⟩ hS2
section
variable {l n D : Nat} {fn : FuncId} {tmps : Array Value} {ps : Array Tmp} {assign body : Code} {O : LoopState → Option Code → Obj}
theorem LoopIs.yield {args : Array Value} {R : Ending → World → Prop} (hL : LoopIs O fn tmps ps assign body D) (hS : Sh B (objB l (O .ready none) ++ H) w) (hn : args.size = ps.size)
    (h : ∀ (K : Act → World → Prop), (∀ a₁ w₁ H₁, Sh B (objB l (O .ready none) ++ H₁) w₁ → (∀ w₂, Sh B (objB l (O .busy none) ++ H₁) w₂ → body.wpIn (Fence.wide.inRound l) n P (roundPost P l R) a₁ w₂) → K a₁ w₁) →
      assign.wpIn (Fence.wide.inRound l) n P (Exit.then K (fun _ _ _ => False)) { tmps := (ps.zip args).foldl (fun t (p, v) => t.setIfInBounds p v) tmps, defers := [] } w) : YieldAt Fence.wide n P l args w R := by
  obtain rfl := hL.out
  exact yield_at hS hn h
theorem LoopIs.yield1 {p : Tmp} {v : Value} {R : Ending → World → Prop} (hL : LoopIs O fn tmps #[p] assign body D) (hS : Sh B (objB l (O .ready none) ++ H) w)
    (h : ∀ (K : Act → World → Prop), (∀ a₁ w₁ H₁, Sh B (objB l (O .ready none) ++ H₁) w₁ → (∀ w₂, Sh B (objB l (O .busy none) ++ H₁) w₂ → body.wpIn (Fence.wide.inRound l) n P (roundPost P l R) a₁ w₂) → K a₁ w₁) →
      assign.wpIn (Fence.wide.inRound l) n P (Exit.then K (fun _ _ _ => False)) { tmps := tmps.setIfInBounds p v, defers := [] } w) : YieldAt Fence.wide n P l #[v] w R :=
  hL.yield hS rfl fun K hK => by
    have := h K hK
    simpa using this
theorem LoopIs.yield2 {p q : Tmp} {u v : Value} {R : Ending → World → Prop} (hL : LoopIs O fn tmps #[p, q] assign body D) (hS : Sh B (objB l (O .ready none) ++ H) w)
    (h : ∀ (K : Act → World → Prop), (∀ a₁ w₁ H₁, Sh B (objB l (O .ready none) ++ H₁) w₁ → (∀ w₂, Sh B (objB l (O .busy none) ++ H₁) w₂ → body.wpIn (Fence.wide.inRound l) n P (roundPost P l R) a₁ w₂) → K a₁ w₁) →
      assign.wpIn (Fence.wide.inRound l) n P (Exit.then K (fun _ _ _ => False)) { tmps := (tmps.setIfInBounds p u).setIfInBounds q v, defers := [] } w) : YieldAt Fence.wide n P l #[u, v] w R :=
  hL.yield hS rfl fun K hK => by
    have := h K hK
    simpa using this
theorem LoopIs.yield0 {u v : Value} {R : Ending → World → Prop} (hL : LoopIs O fn tmps #[] assign body D) (hS : Sh B (objB l (O .ready none) ++ H) w)
    (h : ∀ (K : Act → World → Prop), (∀ a₁ w₁ H₁, Sh B (objB l (O .ready none) ++ H₁) w₁ → (∀ w₂, Sh B (objB l (O .busy none) ++ H₁) w₂ → body.wpIn (Fence.wide.inRound l) n P (roundPost P l R) a₁ w₂) → K a₁ w₁) →
      assign.wpIn (Fence.wide.inRound l) n P (Exit.then K (fun _ _ _ => False)) { tmps := tmps, defers := [] } w) : YieldAt Fence.wide n P l #[] w R :=
  hL.yield hS rfl fun K hK => by
    have := h K hK
    simpa using this
theorem LoopIs.end_ {R : Ending → World → Prop} {a : Act} (hL : LoopIs O fn tmps ps assign body D) (hS : Sh B (objB l (O .busy none) ++ H) w)
    (h : ∀ w', Sh B (objB l (O .ready none) ++ H) w' → R (.returned (.bool true)) w') : roundPost P l R .normal a w := by
  obtain rfl := hL.out
  exact round_end hS h
theorem LoopIs.exit_ {id : Nat} {R : Ending → World → Prop} {a : Act} (hL : LoopIs O fn tmps ps assign body D) (hS : Sh B (objB l (O .busy none) ++ H) w)
    (h : ∀ w', Sh B (objB l (O .done (some (.exit id))) ++ H) w' → R (.returned (.bool false)) w') : roundPost P l R (.exit id) a w := by
  obtain rfl := hL.out
  exact round_exit hS h
theorem LoopIs.ret_ {R : Ending → World → Prop} {a : Act} (hL : LoopIs O fn tmps ps assign body D) (hS : Sh B (objB l (O .busy none) ++ H) w)
    (h : ∀ w', Sh B (objB l (O .done (some .ret)) ++ H) w' → R (.returned (.bool false)) w') : roundPost P l R .ret a w := by
  obtain rfl := hL.out
  exact round_ret hS h
end
/-- The front of a row of operations goes as everywhere. -/
theorem wpListIn_pre {n : Nat} (hQ : ¬ LetsOut Q) (L2 : List Oper) : ∀ (L1 : List Oper) (a : Act) (w : World), wpList P ops (Exit.then (fun a w => wpListIn Fence.wide n P ops Q L2 a w) Q) L1 a w → wpListIn Fence.wide n P ops Q (L1 ++ L2) a w
  | [], a, w, h => h
  | o :: L, a, w, h => by
    have ih := wpListIn_pre (n := n) hQ L2 L
    rw [List.cons_append]
    unfold wpList at h
    unfold wpListIn
    by_cases hw : Region.wanted o (yielded ops a.tmps) = true
    · rw [if_pos hw] at h ⊢
      rcases h with h | h
      · refine ⟨fun _ _ => trivial, ?_⟩
        show Oper.uponIn Fence.wide n P o a _ Q ((execOp a.eval o).run P w)
        unfold Oper.wp at h
        generalize (execOp a.eval o).run P w = res at h
        cases res with
        | ok nx w' =>
          cases nx with
          | value v => exact ih _ _ h
          | skip => exact ih _ _ h
          | defer d => exact ih _ _ h
          | enter f args =>
            refine ⟨(fun h0 => Bool.noConfusion h0), callsIn_wide.2 (Calls.mono h fun e w'' he => ?_)⟩
            cases e with
            | returned v => exact ih _ _ he
            | panicked c => exact he
            | outgrown => exact he
          | row r args => exact ⟨(fun h0 => Bool.noConfusion h0), fun c cs _ => let ⟨v, w', r, s⟩ := (Rows.mono h fun v w'' hv => ih _ _ hv) c cs; ⟨v, w', r, stepsIn_wide.2 s⟩⟩
          | _ => exact h.elim
        | halt x w' =>
          cases x with
          | panic v => exact h
          | _ => exact h.elim
      · exact absurd h.2 (letsOut_then hQ)
    · rw [if_neg hw] at h ⊢
      exact ⟨fun _ _ => trivial, ih _ _ h⟩
theorem then_self : Exit.then (fun a w => Q .normal a w) Q = Q := by funext e a w; cases e <;> rfl
theorem wpListIn_all {n : Nat} (hQ : ¬ LetsOut Q) {L : List Oper} {a : Act} {w : World} (h : wpList P ops Q L a w) : wpListIn Fence.wide n P ops Q L a w := by
  have := wpListIn_pre (ops := ops) (n := n) hQ [] L a w (by
    show wpList P ops (Exit.then (fun a w => Q .normal a w) Q) L a w
    rw [then_self]; exact h)
  rwa [List.append_nil] at this
/-- A call of yield. -/
theorem wlI_yield {n l : Nat} {o : Oper} {rest : List Oper} {a : Act} {x : Operand} {args : Array Operand} {ats : Array TypeId} {vals : List Value} {R : Ending → World → Prop} (hw : Region.wanted o (yielded ops a.tmps) = true)
    (ho : o.op = .call { callee := .value x, args := args, argTypes := ats }) (hx : a.eval x = .func (.yield l) #[] #[]) (ha : args.toList.map a.eval = vals) (hy : YieldAt Fence.wide (n - 1) P l vals.toArray w R)
    (h : ∀ e w', R e w' → ∃ v, e = .returned v ∧ wpListIn Fence.wide n P ops Q rest (a.put o.dst v) w') : wpListIn Fence.wide n P ops Q (o :: rest) a w := by
  obtain ⟨fn, tmps, assign, body, h1, h2⟩ := hy
  unfold wpListIn
  rw [if_pos hw]
  refine ⟨fun _ _ => trivial, ?_⟩
  have ha' : args.map a.eval = vals.toArray := by rw [← ha]; apply Array.ext'; simp
  have hrun : (execOp a.eval o).run P w = .ok (.round l fn tmps assign body) w := by
    simp [execOp, ho, resolve, hx, Deferred.ofValue, invoke, ha', h1]
  show Oper.uponIn Fence.wide n P o a _ Q ((execOp a.eval o).run P w)
  rw [hrun]
  refine ⟨(fun h0 => Bool.noConfusion h0), h2.mono fun e w' he => ?_⟩
  obtain ⟨v, rfl, hv⟩ := h e w' he
  exact hv
end
end Go.Tk

set_option linter.unusedSectionVars false
set_option linter.unusedSimpArgs false
set_option linter.unusedVariables false
namespace Go.Tk
open Go.RowKit
section
variable {P : Program} {ops : Array Oper} {Q : Exit → Act → World → Prop} {B : Base} {H R : HL} {w : World}
theorem wpListIn_preR {l n : Nat} (hQ : ¬ LetsOut Q) (L2 : List Oper) : ∀ (L1 : List Oper) (a : Act) (w : World), (∀ o ∈ L1, ∀ c, o.op ≠ .defer c) → wpList P ops (Exit.then (fun a w => wpListIn (Fence.wide.inRound l) n P ops Q L2 a w) Q) L1 a w → wpListIn (Fence.wide.inRound l) n P ops Q (L1 ++ L2) a w
  | [], a, w, _, h => h
  | o :: L, a, w, hd, h => by
    have hd' : ∀ o ∈ L, ∀ c, o.op ≠ .defer c := fun x hx => hd x (List.mem_cons_of_mem _ hx)
    have ih := fun a w => wpListIn_preR (l := l) (n := n) hQ L2 L a w hd'
    rw [List.cons_append]
    unfold wpList at h
    unfold wpListIn
    by_cases hw : Region.wanted o (yielded ops a.tmps) = true
    · rw [if_pos hw] at h ⊢
      rcases h with h | h
      · refine ⟨fun _ _ => trivial, ?_⟩
        rw [Fence.inRound_round, Oper.semAt_some l a.eval o (hd o (List.mem_cons_self ..))]
        unfold Oper.wp at h
        generalize (execOp a.eval o).run P w = res at h
        cases res with
        | ok nx w' =>
          cases nx with
          | value v => exact ih _ _ h
          | skip => exact ih _ _ h
          | defer d => exact ih _ _ h
          | enter f args =>
            refine ⟨(fun h0 => Bool.noConfusion h0), CallsIn.inRound l (callsIn_wide.2 (Calls.mono h fun e w'' he => ?_))⟩
            cases e with
            | returned v => exact ih _ _ he
            | panicked c => exact he
            | outgrown => exact he
          | row r args => exact ⟨(fun h0 => Bool.noConfusion h0), rowsIn_of (h.mono fun v w'' hv => ih _ _ hv)⟩
          | _ => exact h.elim
        | halt x w' =>
          cases x with
          | panic v => exact h
          | _ => exact h.elim
      · exact absurd h.2 (letsOut_then hQ)
    · rw [if_neg hw] at h ⊢
      exact ⟨fun _ _ => trivial, ih _ _ h⟩
/-- A call of yield within a round of another loop. -/
theorem wlI_yieldR {n l k : Nat} {o : Oper} {rest : List Oper} {a : Act} {x : Operand} {args : Array Operand} {ats : Array TypeId} {vals : List Value} {R : Ending → World → Prop} (hw : Region.wanted o (yielded ops a.tmps) = true)
    (ho : o.op = .call { callee := .value x, args := args, argTypes := ats }) (hx : a.eval x = .func (.yield l) #[] #[]) (ha : args.toList.map a.eval = vals) (hy : YieldAt Fence.wide (n - 1) P l vals.toArray w R)
    (h : ∀ e w', R e w' → ∃ v, e = .returned v ∧ wpListIn (Fence.wide.inRound k) n P ops Q rest (a.put o.dst v) w') : wpListIn (Fence.wide.inRound k) n P ops Q (o :: rest) a w := by
  obtain ⟨fn, tmps, assign, body, h1, h2⟩ := hy
  unfold wpListIn
  rw [if_pos hw]
  refine ⟨fun _ _ => trivial, ?_⟩
  have ha' : args.map a.eval = vals.toArray := by rw [← ha]; apply Array.ext'; simp
  have hrun : (execOp a.eval o).run P w = .ok (.round l fn tmps assign body) w := by
    simp [execOp, ho, resolve, hx, Deferred.ofValue, invoke, ha', h1]
  rw [Fence.inRound_round, Oper.semAt_some k a.eval o (by rw [ho]; intro c; exact Op.noConfusion)]
  show Oper.uponIn (Fence.wide.inRound k) n P o a _ Q ((execOp a.eval o).run P w)
  rw [hrun]
  refine ⟨(fun h0 => Bool.noConfusion h0), ?_⟩
  refine RoundIn.mono (F := Fence.wide) h2 fun e w' he => ?_
  obtain ⟨v, rfl, hv⟩ := h e w' he
  exact hv
theorem wpIn_region_cutR {l n id : Nat} (k : Nat) {L : List Oper} {a : Act} (hQ : ¬ LetsOut Q) (hd : noDefer L.toArray = true) (h : wpList P L.toArray (Exit.then (fun a w => wpListIn (Fence.wide.inRound l) n P L.toArray Q (L.drop k) a w) Q) (L.take k) a w) : (Code.region id L.toArray false).wpIn (Fence.wide.inRound l) n P Q a w := by
  refine wpIn_region_lit ?_
  have := wpListIn_preR (ops := L.toArray) (l := l) (n := n) hQ (L.drop k) (L.take k) a w (fun o ho => noDefer_ops hd o (by simpa using List.mem_of_mem_take ho)) h
  rwa [List.take_append_drop] at this
theorem wpListIn_rest {l n : Nat} {L : List Oper} {a : Act} (hQ : ¬ LetsOut Q) (hd : noDefer L.toArray = true) (h : wpList P ops Q L a w) : wpListIn (Fence.wide.inRound l) n P ops Q L a w :=
  wpListIn_of hQ _ _ _ (fun o ho => noDefer_ops hd o (by simpa using ho)) h
/-- The statement, within a round. -/
theorem wp_rangeI {g : Operand} {ps : Array Tmp} {assign body : Code} {a : Act} {f : FuncId} {lb : Array Value} {n l0 D0 : Nat} {O0 : LoopState → Option Code → Obj} {fn0 : FuncId} {tmps0 : Array Value} {ps0 : Array Tmp} {assign0 body0 : Code}
    (hL : LoopIs O0 fn0 tmps0 ps0 assign0 body0 D0) (hS : Sh B (objB l0 (O0 .busy none) ++ H) w) (hg : a.eval g = .func (.func f) #[] lb) (he : ∀ ar w, (callFunc f ar).run P w = .ok (.enter f ar) w)
    (h : ∀ (fn : FuncId) (l : Nat) (w₂ : World) (O : LoopState → Option Code → Obj), LoopIs O fn a.tmps ps assign body D0 → Sh B (objB l (O .ready none) ++ (objB l0 (O0 .busy none) ++ H)) w₂ →
      Calls P f (#[.func (.yield l) #[] #[]] ++ lb) w₂ fun e w₃ => ∃ v st jump H', e = .returned v ∧ st ≠ .busy ∧ Sh B (objB l (O st jump) ++ H') w₃ ∧
        ∀ w₄, Sh B H' w₄ → (match jump with
          | none => Q .normal a w₄
          | some c => c.wpIn (Fence.wide.inRound l0) n P Q a w₄)) :
    (Code.rangeFunc g ps assign body).wpIn (Fence.wide.inRound l0) n P Q a w := by
  obtain rfl := hL.out
  refine wpIn_rangeFunc fun fn _ => ?_
  have hS1 := hS.alloc (loopO .ready none fn a.tmps ps assign body D0)
  refine ⟨w.heap.size, [], w.alloc (loopO .ready none fn a.tmps ps assign body D0), { target := .fn (.func f) lb, args := #[.func (.yield w.heap.size) #[] #[]] }, w.alloc (loopO .ready none fn a.tmps ps assign body D0), f,
    #[.func (.yield w.heap.size) #[] #[]] ++ lb, w.alloc (loopO .ready none fn a.tmps ps assign body D0), run_enterLoop_inner (hS.own (l0, loopO .busy none fn0 tmps0 ps0 assign0 body0 D0) (by simp [objB])) _ _ _ _ _, ?_, fun _ _ => trivial, ?_, (fun h0 => Bool.noConfusion h0), ?_⟩
  · simp only [resolve, hg]
    simp [go_sem]
  · simp [invoke, go_sem, he]
  · refine CallsIn.inRound l0 (callsIn_wide.2 ((h fn w.heap.size _ _ ⟨rfl⟩ hS1).mono ?_))
    rintro e w₃ ⟨v, st, jump, H', rfl, hst, hS3, hk⟩
    refine ⟨jump, _, run_endLoop (hS3.own (w.heap.size, loopO st jump fn a.tmps ps assign body D0) (by simp [objB])) hst, ?_⟩
    rw [putObj_setB]
    have := hk _ (Sh.drop (c := objB w.heap.size (loopO .exhausted jump fn a.tmps ps assign body D0)) (hS3.setB (loopO .exhausted jump fn a.tmps ps assign body D0)))
    cases jump with
    | none => exact this
    | some c => exact this
/-- An operation of a drawn region, within a round. -/
theorem wpOpIn_of {l n i : Nat} {K : Act → World → Prop} {a : Act} {w : World} (hQ : ¬ LetsOut Q) (hd : ∀ o ∈ ops.toList, ∀ c, o.op ≠ .defer c) (h : wpOp P ops Q i K a w) : wpOpIn (Fence.wide.inRound l) n P ops Q i K a w := by
  unfold wpOp at h
  unfold wpOpIn
  cases ho : ops[i]? with
  | none => rw [ho] at h; exact h
  | some o =>
    rw [ho] at h
    dsimp only at h ⊢
    have hm : o ∈ ops.toList := by
      have := Array.mem_of_getElem? ho
      simpa using this
    by_cases hw : Region.wanted o (yielded ops a.tmps) = true
    · rw [if_pos hw] at h ⊢
      rcases h with h | h
      · refine ⟨fun _ _ => trivial, ?_⟩
        rw [Fence.inRound_round, Oper.semAt_some l a.eval o (hd o hm)]
        unfold Oper.wp at h
        generalize (execOp a.eval o).run P w = res at h
        cases res with
        | ok nx w' =>
          cases nx with
          | value v => exact h
          | skip => exact h
          | defer d => exact h
          | enter f args =>
            refine ⟨(fun h0 => Bool.noConfusion h0), CallsIn.inRound l (callsIn_wide.2 (Calls.mono h fun e w'' he => ?_))⟩
            cases e with
            | returned v => exact he
            | panicked c => exact he
            | outgrown => exact he
          | row r args => exact ⟨(fun h0 => Bool.noConfusion h0), rowsIn_of (h.mono fun v w'' hv => hv)⟩
          | _ => exact h.elim
        | halt x w' =>
          cases x with
          | panic v => exact h
          | _ => exact h.elim
      · exact absurd h.2 hQ
    · rw [if_neg hw] at h ⊢
      exact ⟨fun _ _ => trivial, h⟩
theorem wpAnyIn_of {md : Region.Mode} {l n : Nat} (hQ : ¬ LetsOut Q) (hd : ∀ o ∈ ops.toList, ∀ c, o.op ≠ .defer c) : ∀ (fuel : Nat) (listed : Array Bool) (a : Act) (w : World), wpAny P md ops Q fuel listed a w → wpAnyIn (Fence.wide.inRound l) n P md ops Q fuel listed a w
  | 0, _, _, _, h => h
  | fuel + 1, _, _, _, h => ⟨h.1, fun i hi => wpOpIn_of hQ hd (wpOp_mono (fun a' w' h' => wpAnyIn_of hQ hd fuel _ a' w' h') (h.2 i hi))⟩
/-- A drawn region within a round. -/
theorem wp_drawnFR {B : Base} {H : HL} {id l n : Nat} {a : Act} {w : World} (hS : Sh B H w) (ord : List (Nat × Bool)) (hm : P.follows .mixedOrders = true)
    (hs : (lastIs .any ops && Region.noSelect ops && okF ops ord (Array.replicate ops.size false) && decide (ord.length ≤ ops.size) && ord.all (fun p => decide (p.1 < ops.size)) && noDefer ops) = true)
    (hQ : ∀ d v c a w, Q (.panic c) (Act.put a d v) w → Q (.panic c) a w) (hlo : ¬ LetsOut Q) (h : wpF P ops Q (Sh B H) (picks ops.toList ord) a w.drew) : (Code.region id ops true).wpIn (Fence.wide.inRound l) n P Q a w := by
  simp only [Bool.and_eq_true, decide_eq_true_eq, List.all_eq_true] at hs
  exact wpIn_region_any hm (wpAnyIn_of hlo (noDefer_ops hs.2) _ _ _ _ (wpAny_ofF _ _ _ _ (wpF_sound (S := Sh B H) (lastIs_spec hs.1.1.1.1.1) hs.1.1.1.1.2 hQ ord _ _ a _ (fun p hp => hs.1.2 p hp) (by simp) closed_none hs.1.1.1.2 hs.1.1.2 h)))
/-- The return behind two loops. -/
theorem post_marks2 {fn : Func} {a : Act} {D D2 : Nat} {R : Ending → World → Prop} {v : Value} (hS : Sh B (objB D2 (.deferred (some [])) ++ (objB D (.deferred (some [])) ++ H)) w) (hd : a.defers = [{ target := .collected D2, args := #[] }, { target := .collected D, args := #[] }])
    (hr : ∀ w', Sh B H w' → (results fn a.tmps).run P w' = .ok v w' ∧ R (.returned v) w') : bodyPostM Fence.wide 0 P fn R .ret a w := by
  show LeavesInM Fence.wide 0 P fn a.tmps R a.defers .returning w
  rw [hd]
  refine ⟨by simp, .inl ⟨D2, _, rfl, run_takeDeferred (hS.own (D2, .deferred (some [])) (by simp [objB])), ?_⟩⟩
  rw [putObj_setB]
  have h2 := Sh.drop (c := objB D2 (.deferred none)) (hS.setB (.deferred none))
  refine ⟨by simp, .inl ⟨D, _, rfl, run_takeDeferred (h2.own (D, .deferred (some [])) (by simp [objB])), ?_⟩⟩
  rw [putObj_setB]
  exact ⟨v, hr _ (Sh.drop (c := objB D (.deferred none)) (h2.setB (.deferred none)))⟩
end
end Go.Tk

set_option linter.unusedSectionVars false
set_option linter.unusedSimpArgs false
set_option linter.unusedVariables false
namespace Go.Tk
open Go.RowKit Go.Proofs

abbrev slash : ByteArray := ⟨#[47]⟩
abbrev mkB (l : List UInt8) : ByteArray := ⟨l.toArray⟩
theorem mkB_data (s : ByteArray) : mkB s.data.toList = s := by cases s; rfl
theorem data_mkB (l : List UInt8) : (mkB l).data.toList = l := rfl
theorem mkB_inj {a b : List UInt8} (h : mkB a = mkB b) : a = b := by have := congrArg (fun s : ByteArray => s.data.toList) h; simpa using this
theorem ba_ext {s t : ByteArray} (h : s.data.toList = t.data.toList) : s = t := by rw [← mkB_data s, ← mkB_data t, h]
theorem ba_size (s : ByteArray) : s.size = s.data.toList.length := by cases s; rfl
/-- What stands between slashes. -/
def splitL : List UInt8 → List (List UInt8)
  | [] => [[]]
  | c :: t => if c = 47 then [] :: splitL t else
    match splitL t with
    | [] => [[c]]
    | h :: r => (c :: h) :: r
theorem splitL_ne : ∀ l, splitL l ≠ []
  | [] => by simp [splitL]
  | c :: t => by
    unfold splitL
    split
    · simp
    · split <;> simp
theorem splitL_miss : ∀ {l : List UInt8}, (47 : UInt8) ∉ l → splitL l = [l]
  | [], _ => rfl
  | c :: t, h => by
    simp only [List.mem_cons, not_or] at h
    unfold splitL
    rw [if_neg (fun e => h.1 e.symm), splitL_miss h.2]
theorem splitL_hit : ∀ {a b : List UInt8}, (47 : UInt8) ∉ a → splitL (a ++ 47 :: b) = a :: splitL b
  | [], b, _ => by rw [List.nil_append]; conv => lhs; unfold splitL; rw [if_pos rfl]
  | c :: t, b, h => by
    simp only [List.mem_cons, not_or] at h
    rw [List.cons_append]
    conv => lhs; unfold splitL
    rw [if_neg (fun e => h.1 e.symm), splitL_hit h.2]
theorem splitK_splitL : ∀ (n : Nat) (s : List UInt8), s.length ≤ n → Lib.splitK [47] 0 (Lib.count s [47]) s = splitL s
  | n, s, hn => by
    rcases Lib.indexB_cases (mkB s) slash with h | ⟨i, h, hi⟩
    · have h0 : Lib.index s [47] = -1 := h
      have hc : Lib.count s [47] = 0 := Lib.count_miss h0
      rw [hc]
      have hm : (47 : UInt8) ∉ s := by
        intro hm
        rw [Lib.index_one] at h0
        obtain ⟨k, hk⟩ := List.getElem?_of_mem hm
        exact Lib.indexByte_none h0 k hk
      rw [splitL_miss hm]
      rfl
    · have h0 : Lib.index s [47] = i := h
      have hc : Lib.count s [47] = 1 + Lib.count (s.drop (i + 1)) [47] := by
        have := Lib.countB_hit (mkB s) slash i (by decide) h
        have e : ((mkB s).extract (i + slash.size) (mkB s).size).data.toList = s.drop (i + 1) := by rw [Lib.extract_to_end]; rfl
        unfold Lib.countB at this
        rw [e] at this
        exact this
      rw [hc, Nat.add_comm]
      have hs := h0
      rw [Lib.index_one] at hs
      obtain ⟨h1, h2⟩ := Lib.indexByte_some hs
      have hlt : i < s.length := (List.getElem?_eq_some_iff.1 h1).1
      have hsp : s = s.take i ++ 47 :: s.drop (i + 1) := by
        have e : s[i] = 47 := (List.getElem?_eq_some_iff.1 h1).2
        rw [← e, List.getElem_cons_drop, List.take_append_drop]
      have hm : (47 : UInt8) ∉ s.take i := by
        intro hm
        obtain ⟨k, hk⟩ := List.getElem?_of_mem hm
        have hki : k < i := by have := (List.getElem?_eq_some_iff.1 hk).1; rw [List.length_take] at this; omega
        rw [List.getElem?_take_of_lt hki] at hk
        exact h2 k hki hk
      unfold Lib.splitK
      have hne : (Lib.index s [47] == -1) = false := by rw [h0]; exact beq_no (by omega)
      rw [hne, h0]
      simp only [Bool.false_eq_true, if_false, Int.toNat_natCast, Nat.add_zero, List.length_cons, List.length_nil]
      have hn' : (s.drop (i + 1)).length < n := by rw [List.length_drop]; omega
      match n, hn' with
      | n + 1, hn' =>
        rw [splitK_splitL n (s.drop (i + (0 + 1))) (Nat.le_of_lt_succ hn')]
        conv => rhs; rw [hsp]
        rw [splitL_hit hm, Nat.zero_add]
def piecesB (s : ByteArray) : List ByteArray := (splitL s.data.toList).map mkB
theorem splitB_pieces (s : ByteArray) : Lib.splitB slash 0 (Lib.countB s slash) s = piecesB s := by
  have h := Lib.splitB_data slash 0 (Lib.countB s slash) s
  have h2 : Lib.splitK slash.data.toList 0 (Lib.countB s slash) s.data.toList = splitL s.data.toList := splitK_splitL _ _ (Nat.le_refl _)
  rw [h2] at h
  unfold piecesB
  rw [← h, List.map_map]
  conv => lhs; rw [← List.map_id (Lib.splitB slash 0 (Lib.countB s slash) s)]
  exact List.map_congr_left fun x _ => (mkB_data x).symm
theorem pieces_length (s : ByteArray) : (piecesB s).length = Lib.countB s slash + 1 := by
  rw [← splitB_pieces]
  exact Lib.splitB_all slash (by decide) 0 _ s rfl

def okC (c : UInt8) : Bool := (97 ≤ c && c ≤ 122) || (65 ≤ c && c ≤ 90) || (48 ≤ c && c ≤ 57) || c == 46 || c == 95 || c == 45
def nameB (s : ByteArray) : Bool := decide (1 ≤ s.size) && decide (s.size ≤ 64) && !(s == (⟨#[46]⟩ : ByteArray)) && !(s == (⟨#[46, 46]⟩ : ByteArray)) && s.data.toList.all okC
def namesB (s : ByteArray) : Option (List ByteArray) :=
  if s.size = 0 then some [] else if 32 < (piecesB s).length then none else if (piecesB s).all nameB then some (piecesB s) else none
def namesL (s : ByteArray) : List ByteArray := (namesB s).getD []
def errN (s : ByteArray) : Int := if (namesB s).isSome then 0 else 45
def joinB (l : List ByteArray) : ByteArray := mkB (Lib.join (l.map (·.data.toList)) [47])
def splitP (s : ByteArray) : ByteArray × ByteArray × Int :=
  match namesB s with
  | none => (⟨#[]⟩, ⟨#[]⟩, 45)
  | some l => if h : l = [] then (⟨#[]⟩, ⟨#[]⟩, 46) else (joinB l.dropLast, l.getLast h, 0)
/-- The order of texts; of rows of names. -/
def ltS (a b : ByteArray) : Bool := Op.bytesLess a.toList b.toList
def cmpS (a b : ByteArray) : Int := if ltS a b then -1 else if a.toList == b.toList then 0 else 1
def cmpL : List ByteArray → List ByteArray → Int
  | [], [] => 0
  | [], _ :: _ => -1
  | _ :: _, [] => 1
  | a :: l, b :: m => if cmpS a b = 0 then cmpL l m else cmpS a b
def aboveB (a b : ByteArray) : Bool :=
  match namesB a, namesB b with
  | some x, some y => decide (x.length < y.length) && decide (x = y.take x.length)
  | _, _ => false
def errB (a b : ByteArray) : Int := if (namesB a).isSome && (namesB b).isSome then 0 else 45
def lessI (a b : ByteArray) : Int :=
  match namesB a, namesB b with
  | some x, some y => cmpL x y
  | _, _ => 0
end Go.Tk

namespace Go.Proofs
open Go.Shelf
def Tryz.lays156_ren : Go.Shelf.Ren := ⟨fun | 156 => 66 | 165 => 80 | 166 => 81 | 169 => 82 | 240 => 106 | 241 => 107 | 276 => 121 | 277 => 122 | n => n, fun | 31 => 47 | 9 => 9 | 3 => 3 | 4 => 4 | 0 => 0 | 20 => 20 | 72 => 106 | 76 => 110 | 70 => 103 | 37 => 104 | 75 => 109 | 127 => 133 | 164 => 144 | 5 => 5 | 80 => 112 | n => n, fun | n => n⟩
theorem Tryz.lays156 : Go.Proofs.Lays.n156 Tryz.prog Tryz.lays156_ren := {
  mixed := by kernel_rfl
  f156 := Tryz.func66.trans (congrArg some (by kernel_rfl))
  f165 := Tryz.func80.trans (congrArg some (by kernel_rfl))
  f166 := Tryz.func81.trans (congrArg some (by kernel_rfl))
  f169 := Tryz.func82.trans (congrArg some (by kernel_rfl))
  f240 := Tryz.func106.trans (congrArg some (by kernel_rfl))
  f241 := Tryz.func107.trans (congrArg some (by kernel_rfl))
  f276 := Tryz.func121.trans (congrArg some (by kernel_rfl))
  f277 := Tryz.func122.trans (congrArg some (by kernel_rfl))
  t0 := Tryz.underlying0
  a0 := Tryz.isAgg0
  z0 := Tryz.sizeOf0
  v0 := Tryz.zeroValue0
  t3 := Tryz.underlying3
  a3 := Tryz.isAgg3
  z3 := Tryz.sizeOf3
  v3 := Tryz.zeroValue3
  t4 := Tryz.underlying4
  a4 := Tryz.isAgg4
  z4 := Tryz.sizeOf4
  v4 := Tryz.zeroValue4
  t9 := Tryz.underlying9
  a9 := Tryz.isAgg9
  z9 := Tryz.sizeOf9
  v9 := Tryz.zeroValue9
  t20 := Tryz.underlying20
  a20 := Tryz.isAgg20
  z20 := Tryz.sizeOf20
  v20 := Tryz.zeroValue20
  t31 := Tryz.underlying47
  a31 := Tryz.isAgg47
  z31 := Tryz.sizeOf47
  v31 := Tryz.zeroValue47
  t37 := Tryz.underlying104
  a37 := Tryz.isAgg104
  z37 := Tryz.sizeOf104
  v37 := Tryz.zeroValue104
  t70 := Tryz.underlying103
  a70 := Tryz.isAgg103
  z70 := Tryz.sizeOf103
  v70 := Tryz.zeroValue103
  t72 := Tryz.underlying106
  a72 := Tryz.isAgg106
  z72 := Tryz.sizeOf106
  v72 := Tryz.zeroValue106
  t75 := Tryz.underlying109
  a75 := Tryz.isAgg109
  z75 := Tryz.sizeOf109
  v75 := Tryz.zeroValue109
  t76 := Tryz.underlying110
  a76 := Tryz.isAgg110
  z76 := Tryz.sizeOf110
  v76 := Tryz.zeroValue110
  t127 := Tryz.underlying133
  a127 := Tryz.isAgg133
  z127 := Tryz.sizeOf133
  v127 := Tryz.zeroValue133
  t164 := Tryz.underlying144
  a164 := Tryz.isAgg144
  z164 := Tryz.sizeOf144
  v164 := Tryz.zeroValue144 }
theorem Tryz.Builder_Extra_156 : Builder.Extra Tryz.prog Tryz.lays156_ren := {
  sizeBuilder := by kernel_rfl
  liesBuilder := by kernel_rfl
  t5 := Tryz.underlying5
  a5 := Tryz.isAgg5
  z5 := Tryz.sizeOf5
  v5 := Tryz.zeroValue5
  infoByte := by kernel_rfl
  cellsByte := by kernel_rfl
  sizeByte := by kernel_rfl
  neB5 := by decide }
open Go.RowKit in
/-- No element: the empty string; the world is as it was. (Whatever the slice's address and capacity: a nil slice too.) (LAID: no walk: one application.) -/
theorem Tryz.strings_Join_none (a : Option Addr) (c : Nat) (sep : ByteArray) (w : World) :
    Calls Tryz.prog 66 #[.slice a 0 c, .string sep] w fun e w' => e = .returned (.string ⟨#[]⟩) ∧ w' = w := Any.strings_Join_none Tryz.lays156 Tryz.Builder_Extra_156 a c sep w
open Go.RowKit in
/-- strings.Join: "Join concatenates the elements of its first argument to create a single string. The separator string sep is placed between elements in the resulting string.": HOWEVER MANY ELEMENTS. Below the heap's end the world is as it was. (LAID: no walk: one application.) -/
theorem Tryz.strings_Join (bk o c : Nat) (xs : List ByteArray) (sep : ByteArray) (w : World) (hcells : ∀ (j : Nat) x, xs[j]? = some x → w.cell? ⟨bk, o + j, none⟩ = some (.string x)) (hbk : bk < w.heap.size) (hN : xs.length ≤ 140737488355328) (hcap : xs.length ≤ c) (hlen : (Lib.join (xs.map (·.data.toList)) sep.data.toList).length ≤ 140737488355328) :
    Calls Tryz.prog 66 #[.slice (some ⟨bk, o, none⟩) xs.length c, .string sep] w fun e w' => e = .returned (.string ⟨(Lib.join (xs.map (·.data.toList)) sep.data.toList).toArray⟩) ∧ Below w.heap.size w w' := Any.strings_Join Tryz.lays156 Tryz.Builder_Extra_156 bk o c xs sep w hcells hbk hN hcap hlen
def Tryz.lays146_ren : Go.Shelf.Ren := ⟨fun | 146 => 76 | 221 => 104 | 268 => 118 | 138 => 119 | 143 => 120 | 195 => 125 | 197 => 126 | 218 => 127 | 219 => 128 | 260 => 129 | 217 => 130 | 225 => 131 | 224 => 132 | 267 => 133 | 266 => 134 | 314 => 135 | n => n, fun | 9 => 9 | 31 => 47 | 3 => 3 | 4 => 4 | 0 => 0 | 105 => 151 | 21 => 21 | 5 => 5 | 46 => 92 | 119 => 155 | 139 => 158 | 138 => 157 | 146 => 159 | 51 => 122 | n => n, fun | 1 => 0 | 3 => 1 | 4 => 2 | n => n⟩
theorem Tryz.lays146 : Go.Proofs.Lays.n146 Tryz.prog Tryz.lays146_ren := {
  mixed := by kernel_rfl
  f138 := Tryz.func119.trans (congrArg some (by kernel_rfl))
  f143 := Tryz.func120.trans (congrArg some (by kernel_rfl))
  f146 := Tryz.func76.trans (congrArg some (by kernel_rfl))
  f195 := Tryz.func125.trans (congrArg some (by kernel_rfl))
  f197 := Tryz.func126.trans (congrArg some (by kernel_rfl))
  f217 := Tryz.func130.trans (congrArg some (by kernel_rfl))
  f218 := Tryz.func127.trans (congrArg some (by kernel_rfl))
  f219 := Tryz.func128.trans (congrArg some (by kernel_rfl))
  f221 := Tryz.func104.trans (congrArg some (by kernel_rfl))
  f224 := Tryz.func132.trans (congrArg some (by kernel_rfl))
  f225 := Tryz.func131.trans (congrArg some (by kernel_rfl))
  f260 := Tryz.func129.trans (congrArg some (by kernel_rfl))
  f266 := Tryz.func134.trans (congrArg some (by kernel_rfl))
  f267 := Tryz.func133.trans (congrArg some (by kernel_rfl))
  f268 := Tryz.func118.trans (congrArg some (by kernel_rfl))
  f314 := Tryz.func135.trans (congrArg some (by kernel_rfl))
  t0 := Tryz.underlying0
  a0 := Tryz.isAgg0
  z0 := Tryz.sizeOf0
  v0 := Tryz.zeroValue0
  t3 := Tryz.underlying3
  a3 := Tryz.isAgg3
  z3 := Tryz.sizeOf3
  v3 := Tryz.zeroValue3
  t4 := Tryz.underlying4
  a4 := Tryz.isAgg4
  z4 := Tryz.sizeOf4
  v4 := Tryz.zeroValue4
  t5 := Tryz.underlying5
  a5 := Tryz.isAgg5
  z5 := Tryz.sizeOf5
  v5 := Tryz.zeroValue5
  t9 := Tryz.underlying9
  a9 := Tryz.isAgg9
  z9 := Tryz.sizeOf9
  v9 := Tryz.zeroValue9
  t21 := Tryz.underlying21
  a21 := Tryz.isAgg21
  z21 := Tryz.sizeOf21
  v21 := Tryz.zeroValue21
  t31 := Tryz.underlying47
  a31 := Tryz.isAgg47
  z31 := Tryz.sizeOf47
  v31 := Tryz.zeroValue47
  t46 := Tryz.underlying92
  a46 := Tryz.isAgg92
  z46 := Tryz.sizeOf92
  v46 := Tryz.zeroValue92
  t51 := Tryz.underlying122
  a51 := Tryz.isAgg122
  z51 := Tryz.sizeOf122
  v51 := Tryz.zeroValue122
  t105 := Tryz.underlying151
  a105 := Tryz.isAgg151
  z105 := Tryz.sizeOf151
  v105 := Tryz.zeroValue151
  t119 := Tryz.underlying155
  a119 := Tryz.isAgg155
  z119 := Tryz.sizeOf155
  t138 := Tryz.underlying157
  a138 := Tryz.isAgg157
  z138 := Tryz.sizeOf157
  v138 := Tryz.zeroValue157
  t139 := Tryz.underlying158
  a139 := Tryz.isAgg158
  z139 := Tryz.sizeOf158
  v139 := Tryz.zeroValue158
  t146 := Tryz.underlying159
  a146 := Tryz.isAgg159
  z146 := Tryz.sizeOf159
  v146 := Tryz.zeroValue159
  g1 := by kernel_rfl
  g3 := by kernel_rfl
  g4 := by kernel_rfl }
open Go.RowKit Go.Lib in
/-- strings.Split. (LAID: no walk: one application.) -/
theorem Tryz.strings_Split (s sep : ByteArray) (m : Int) (w : World) (hs : s.size < 4294967281) (hm : w.cell? ⟨0, 0, none⟩ = some (.int .i64 m)) (h1 : 1 ≤ sep.size) :
    Calls Tryz.prog 76 #[.string s, .string sep] w fun e w' =>
      e = .returned (.slice (some ⟨w.heap.size, 0, none⟩) (Lib.countB s sep + 1) (Lib.countB s sep + 1)) ∧ w' = w.alloc (.cells ((Lib.splitB sep 0 (Lib.countB s sep) s).map Value.string).toArray 9) := Any.strings_Split Tryz.lays146 (by kernel_rfl) s sep m w hs hm h1
def Tryz.lays193_ren : Go.Shelf.Ren := ⟨fun | 193 => 79 | n => n, fun | 31 => 47 | 9 => 9 | 4 => 4 | 3 => 3 | 0 => 0 | n => n, fun | n => n⟩
theorem Tryz.lays193 : Go.Proofs.Lays.n193 Tryz.prog Tryz.lays193_ren := {
  mixed := by kernel_rfl
  f193 := Tryz.func79.trans (congrArg some (by kernel_rfl))
  t0 := Tryz.underlying0
  a0 := Tryz.isAgg0
  z0 := Tryz.sizeOf0
  v0 := Tryz.zeroValue0
  t3 := Tryz.underlying3
  a3 := Tryz.isAgg3
  z3 := Tryz.sizeOf3
  v3 := Tryz.zeroValue3
  t4 := Tryz.underlying4
  a4 := Tryz.isAgg4
  z4 := Tryz.sizeOf4
  v4 := Tryz.zeroValue4
  t9 := Tryz.underlying9
  a9 := Tryz.isAgg9
  z9 := Tryz.sizeOf9
  v9 := Tryz.zeroValue9
  t31 := Tryz.underlying47
  a31 := Tryz.isAgg47
  z31 := Tryz.sizeOf47
  v31 := Tryz.zeroValue47 }
open Go.RowKit Go.Lib in
/-- slices.Equal at []string: "Equal reports whether two slices are equal: the same length and all elements equal. If the lengths are different, Equal returns false. Otherwise, the elements are compared in increasing index order, and the comparison stops at the first unequal pair. Empty and nil slices are considered equal.": IT RETURNS WHETHER THE TWO LISTS OF ELEMENTS ARE ONE; the world is as it was but for the count of draws (the test 's1[i] != s2[i]' has two reads, whose order the model draws, once a round). 'xs', 'ys': what the cells behind the two addresses hold (the spare capacity too, if you have it); 'xs.take n', 'ys.take m': the elements. THE TWO SLICES MAY OVERLAP. (LAID: no walk: one application.) -/
theorem Tryz.slices_Equal_string (b1 o1 n c b2 o2 m d : Nat) (xs ys : List ByteArray) (w : World) (hx : n ≤ xs.length) (hy : m ≤ ys.length) (hbig : n ≤ 9223372036854775807) (hbig2 : m ≤ 9223372036854775807) (hc1 : ∀ j, j < xs.length → w.cell? ⟨b1, o1 + j, none⟩ = some (.string (xs.getD j ByteArray.empty))) (hc2 : ∀ j, j < ys.length → w.cell? ⟨b2, o2 + j, none⟩ = some (.string (ys.getD j ByteArray.empty))) :
    Calls Tryz.prog 79 #[.slice (some ⟨b1, o1, none⟩) n c, .slice (some ⟨b2, o2, none⟩) m d] w fun e w' => e = .returned (.bool (decide (xs.take n = ys.take m))) ∧ ∃ q, w' = w.drewN q := Any.slices_Equal_string Tryz.lays193 b1 o1 n c b2 o2 m d xs ys w hx hy hbig hbig2 hc1 hc2
open Go.RowKit Go.Lib in
/-- The same where the first is of length 0 (a nil one too): no cell is asked for. (LAID: no walk: one application.) -/
theorem Tryz.slices_Equal_string_empty (a1 a2 : Option Addr) (c m d : Nat) (w : World) (hbig2 : m ≤ 9223372036854775807) :
    Calls Tryz.prog 79 #[.slice a1 0 c, .slice a2 m d] w fun e w' => e = .returned (.bool (decide (m = 0))) ∧ w' = w := Any.slices_Equal_string_empty Tryz.lays193 a1 a2 c m d w hbig2
open Go.RowKit Go.Lib in
theorem Tryz.slices_Equal_string_lens (a1 a2 : Option Addr) (n c m d : Nat) (w : World) (hnm : n ≠ m) :
    Calls Tryz.prog 79 #[.slice a1 n c, .slice a2 m d] w fun e w' => e = .returned (.bool false) ∧ w' = w := Any.slices_Equal_string_lens Tryz.lays193 a1 a2 n c m d w hnm
def Tryz.sortW_ren : Go.Shelf.Ren := ⟨fun | 6 => 61 | 15 => 68 | 14 => 75 | 28 => 92 | 29 => 93 | 20 => 96 | 21 => 97 | 22 => 98 | 23 => 99 | 24 => 100 | 25 => 101 | 26 => 102 | 27 => 103 | 46 => 115 | 47 => 109 | 48 => 110 | 49 => 116 | 50 => 117 | 57 => 124 | n => n, fun | 22 => 22 | 24 => 24 | 25 => 85 | 3 => 3 | 39 => 92 | 0 => 0 | 53 => 122 | 55 => 124 | 4 => 4 | 46 => 115 | 45 => 114 | 50 => 119 | 5 => 5 | 9 => 9 | 66 => 134 | 70 => 138 | 76 => 147 | 77 => 60 | n => n, fun | n => n⟩
theorem Tryz.sortW : Go.Proofs.SlLaysF0.n6 Tryz.prog Tryz.sortW_ren := {
  mixed := by kernel_rfl
  f6 := ⟨Tryz.f61.name, by decide, Tryz.func61.trans (congrArg some (by kernel_rfl))⟩
  f14 := ⟨Tryz.f75.name, by decide, Tryz.func75.trans (congrArg some (by kernel_rfl))⟩
  f15 := Tryz.func68.trans (congrArg some (by kernel_rfl))
  f20 := ⟨Tryz.f96.name, by decide, Tryz.func96.trans (congrArg some (by kernel_rfl))⟩
  f21 := ⟨Tryz.f97.name, by decide, Tryz.func97.trans (congrArg some (by kernel_rfl))⟩
  f22 := ⟨Tryz.f98.name, by decide, Tryz.func98.trans (congrArg some (by kernel_rfl))⟩
  f23 := ⟨Tryz.f99.name, by decide, Tryz.func99.trans (congrArg some (by kernel_rfl))⟩
  f24 := ⟨Tryz.f100.name, by decide, Tryz.func100.trans (congrArg some (by kernel_rfl))⟩
  f25 := ⟨Tryz.f101.name, by decide, Tryz.func101.trans (congrArg some (by kernel_rfl))⟩
  f26 := ⟨Tryz.f102.name, by decide, Tryz.func102.trans (congrArg some (by kernel_rfl))⟩
  f27 := ⟨Tryz.f103.name, by decide, Tryz.func103.trans (congrArg some (by kernel_rfl))⟩
  f28 := Tryz.func92.trans (congrArg some (by kernel_rfl))
  f29 := Tryz.func93.trans (congrArg some (by kernel_rfl))
  f46 := ⟨Tryz.f115.name, by decide, Tryz.func115.trans (congrArg some (by kernel_rfl))⟩
  f47 := Tryz.func109.trans (congrArg some (by kernel_rfl))
  f48 := Tryz.func110.trans (congrArg some (by kernel_rfl))
  f49 := ⟨Tryz.f116.name, by decide, Tryz.func116.trans (congrArg some (by kernel_rfl))⟩
  f50 := ⟨Tryz.f117.name, by decide, Tryz.func117.trans (congrArg some (by kernel_rfl))⟩
  f57 := ⟨Tryz.f124.name, by decide, Tryz.func124.trans (congrArg some (by kernel_rfl))⟩
  t0 := Tryz.underlying0
  a0 := Tryz.isAgg0
  z0 := Tryz.sizeOf0
  v0 := Tryz.zeroValue0
  t3 := Tryz.underlying3
  a3 := Tryz.isAgg3
  z3 := Tryz.sizeOf3
  v3 := Tryz.zeroValue3
  t4 := Tryz.underlying4
  a4 := Tryz.isAgg4
  z4 := Tryz.sizeOf4
  v4 := Tryz.zeroValue4
  t5 := Tryz.underlying5
  a5 := Tryz.isAgg5
  z5 := Tryz.sizeOf5
  v5 := Tryz.zeroValue5
  t9 := Tryz.underlying9
  a9 := Tryz.isAgg9
  z9 := Tryz.sizeOf9
  v9 := Tryz.zeroValue9
  t22 := Tryz.underlying22
  a22 := Tryz.isAgg22
  z22 := Tryz.sizeOf22
  v22 := Tryz.zeroValue22
  t25 := Tryz.underlying85
  a25 := Tryz.isAgg85
  z25 := Tryz.sizeOf85
  v25 := Tryz.zeroValue85
  t39 := Tryz.underlying92
  a39 := Tryz.isAgg92
  z39 := Tryz.sizeOf92
  v39 := Tryz.zeroValue92
  t45 := Tryz.underlying114
  a45 := Tryz.isAgg114
  z45 := Tryz.sizeOf114
  v45 := Tryz.zeroValue114
  t46 := Tryz.underlying115
  a46 := Tryz.isAgg115
  z46 := Tryz.sizeOf115
  v46 := Tryz.zeroValue115
  t50 := Tryz.underlying119
  a50 := Tryz.isAgg119
  z50 := Tryz.sizeOf119
  v50 := Tryz.zeroValue119
  t53 := Tryz.underlying122
  a53 := Tryz.isAgg122
  z53 := Tryz.sizeOf122
  v53 := Tryz.zeroValue122
  t55 := Tryz.underlying124
  a55 := Tryz.isAgg124
  z55 := Tryz.sizeOf124
  v55 := Tryz.zeroValue124
  t66 := Tryz.underlying134
  a66 := Tryz.isAgg134
  z66 := Tryz.sizeOf134
  v66 := Tryz.zeroValue134
  t70 := Tryz.underlying138
  a70 := Tryz.isAgg138
  z70 := Tryz.sizeOf138
  v70 := Tryz.zeroValue138
  t76 := Tryz.underlying147
  a76 := Tryz.isAgg147
  z76 := Tryz.sizeOf147
  v76 := Tryz.zeroValue147
  t77 := Tryz.underlying60
  a77 := Tryz.isAgg60
  z77 := Tryz.sizeOf60
  v77 := Tryz.zeroValue60 }
end Go.Proofs

set_option linter.unusedSectionVars false
set_option linter.unusedSimpArgs false
set_option linter.unusedVariables false
namespace Go.Tk
open Go.RowKit Go.Proofs

/-- The library's own variable of a machine word's length. -/
class HasML (B : Base) : Prop where out : ∃ m, B.cell 0 0 = some (.int .i64 m)
/-- Where draws are not counted. -/
class NoDraw (B : Base) : Prop where out : B.drawn = 0
def Base.free (W : World) : Base := { Base.of W with drawn := 0 }
instance (W : World) : NoDraw (Base.free W) := ⟨rfl⟩
theorem Sh.free (W : World) : Sh (Base.free W) [] W := ⟨rfl, rfl, rfl, Nat.zero_le _, fun _ _ h => h, by simp, by simp, by simp⟩
theorem RdB.free {α : Type} {E : Enc α} {W : World} {a : Option Addr} {xs : List α} (h : RdB E (Base.of W) a xs) : RdB E (Base.free W) a xs := ⟨h.ok, h.max, h.get⟩
section
variable {B : Base} {R H H1 : HL} {w w' : World}
theorem Sh.ofBelow [hn : NoDraw B] (hS : Sh B H w) (hb : Below w.heap.size w w') : Sh B H w' := {
  os := hb.os.trans hS.os
  tape := hb.tape.trans hS.tape
  output := hb.output.trans hS.output
  drawn := by rw [hn.out]; exact Nat.zero_le _
  base b o h := by
    have h1 := hS.base b o h
    rw [hb.block b (Array.getElem?_eq_some_iff.1 h1).1]; exact h1
  own p hp := by rw [hb.block p.1 (hS.lt hp)]; exact hS.own p hp
  apart := hS.apart
  nodup := hS.nodup }
theorem Sh.ml [h : HasML B] (hS : Sh B H w) : ∃ m, w.cell? ⟨0, 0, none⟩ = some (.int .i64 m) := by
  obtain ⟨m, hm⟩ := h.out
  exact ⟨m, hS.bcell hm⟩
theorem RdAt.cells {α : Type} {E : Enc α} {A : Option Addr} {xs : List α} (r : RdAt E B H A xs) (hS : Sh B H w) (hk : E.k = 1) : ∀ (j : Nat) x, xs[j]? = some x → ∀ v, (E.cells x)[0]? = some v → w.cell? ⟨blkA A, offA A + j, none⟩ = some v := fun j x hx v hv => r.f1 hS hk hx hv
def codeN (s : ByteArray) : Int := if nameB s then 0 else 42
theorem okC_int (c : UInt8) : okC c = decide ((97 ≤ (c.toNat : Int) ∧ (c.toNat : Int) ≤ 122) ∨ (65 ≤ (c.toNat : Int) ∧ (c.toNat : Int) ≤ 90) ∨ (48 ≤ (c.toNat : Int) ∧ (c.toNat : Int) ≤ 57) ∨ (c.toNat : Int) = 46 ∨ (c.toNat : Int) = 95 ∨ (c.toNat : Int) = 45) := by
  rw [Bool.eq_iff_iff]
  simp [okC, UInt8.le_iff_toNat_le, ← UInt8.toNat_inj]
  omega
theorem nameB_no {s : ByteArray} {i : Nat} (h : i < s.size) (hc : okC s[i] = false) : nameB s = false := by
  have hm : s[i] ∈ s.data.toList := by
    have e : s[i] = s.data[i]'(by simpa using h) := rfl
    rw [e]; exact Array.getElem_mem_toList _
  have : s.data.toList.all okC = false := by
    rw [Bool.eq_false_iff]
    intro ha
    rw [List.all_eq_true] at ha
    rw [ha _ hm] at hc
    cases hc
  unfold nameB
  rw [this, Bool.and_false]
def NameI (s : ByteArray) (R : HL) (B : Base) (i : Nat) (w : World) : Prop := i ≤ s.size ∧ (∀ j (h : j < s.size), j < i → okC s[j] = true) ∧ Sh B R w
set_option maxRecDepth 100000 in
set_option maxHeartbeats 1600000 in
theorem Name_bad (hS : Sh B R w) (s : ByteArray) (hs : s.size ≤ 16777216) (hb : nameB s = false) (hc : s.size < 1 ∨ 64 < s.size ∨ s.toList = [46] ∨ s.toList = [46, 46]) :
    Calls Tryz.prog 77 #[.string s] w fun e w' => e = .returned (.int .i64 (codeN s)) ∧ Sh B R w' := by
  have Hb := Lib.hid (show codeN s = 42 by unfold codeN; rw [hb]; rfl)
  clear hb
  by_cases h1 : s.size < 1
  · have d1 : decide ((s.size : Int) < 1) = true := decide_eq_true (by omega)
    clear h1 hc
    go_enter Tryz.func77, Tryz.ntmps77
    go_wp2
    go_ret
    exact ⟨by rw [Hb.out]; rfl, hS⟩
  have d1 : decide ((s.size : Int) < 1) = false := decide_eq_false (by omega)
  by_cases h2 : 64 < s.size
  · have d2 : decide (64 < (s.size : Int)) = true := decide_eq_true (by omega)
    clear h1 h2 hc
    go_enter Tryz.func77, Tryz.ntmps77
    go_wp2
    go_ret
    exact ⟨by rw [Hb.out]; rfl, hS⟩
  have d2 : decide (64 < (s.size : Int)) = false := decide_eq_false (by omega)
  by_cases h3 : s.toList = [46]
  · have d3 : (s.toList == [46]) = true := by simp [h3]
    clear h1 h2 h3 hc
    go_enter Tryz.func77, Tryz.ntmps77
    go_wp2
    go_ret
    exact ⟨by rw [Hb.out]; rfl, hS⟩
  have d3 : (s.toList == [46]) = false := beq_no h3
  have h4 : s.toList = [46, 46] := by
    rcases hc with h | h | h | h
    · exact absurd h h1
    · exact absurd h h2
    · exact absurd h h3
    · exact h
  have d4 : (s.toList == [46, 46]) = true := by simp [h4]
  clear h1 h2 h3 h4 hc
  go_enter Tryz.func77, Tryz.ntmps77
  go_wp2
  go_ret
  exact ⟨by rw [Hb.out]; rfl, hS⟩
set_option maxRecDepth 100000 in
set_option maxHeartbeats 1600000 in
theorem Name_ok (hS : Sh B R w) (s : ByteArray) (hs : s.size ≤ 16777216) (h1 : 1 ≤ s.size) (h2 : s.size ≤ 64) (h3 : ¬ s.toList = [46]) (h4 : ¬ s.toList = [46, 46]) (hn : s.data.toList.all okC = nameB s) :
    Calls Tryz.prog 77 #[.string s] w fun e w' => e = .returned (.int .i64 (codeN s)) ∧ Sh B R w' := by
  have d1 : decide ((s.size : Int) < 1) = false := decide_eq_false (by omega)
  have d2 : decide (64 < (s.size : Int)) = false := decide_eq_false (by omega)
  have d3 : (s.toList == [46]) = false := beq_no h3
  have d4 : (s.toList == [46, 46]) = false := beq_no h4
  have Hn := Lib.hid hn
  clear h1 h2 h3 h4 hn
  go_enter Tryz.func77, Tryz.ntmps77
  go_wp2
  refine wp_loopS [24] [2, 3, 4, 5, 25, 26, 27, 28, 29, 30, 31, 32, 33, 34, 35, 36, 37, 38, 39, 40, 41, 42, 43, 44, 45, 46, 47, 48, 49, 50, 51, 52, 53, 54, 55, 56, 57, 58, 59, 60, 61, 62, 63, 64, 65, 66] (fun i : Nat => [.int .i64 i]) (NameI s R B) (fun i => s.size - i) ((0 : Nat)) rfl (⟨Nat.zero_le _, fun _ _ h => absurd h (Nat.not_lt_zero _), hS⟩) ?_
  clear hS
  rintro i J w ⟨hi, hok, hS⟩
  have Hok := Lib.hid hok
  clear hok
  (simp only [Frm, setsT, junkT, List.setIfInBounds_toArray, List.set_cons_zero, List.set_cons_succ])
  by_cases hlt : i < s.size
  · have Hc := Lib.hid (okC_int s[i])
    go_wp2
    all_goals first
      | (have hcf : okC s[i] = false := by
           rw [Hc.out]
           apply decide_eq_false
           clear hS Hok Hn Hc
           simp only [Bool.and_eq_true, Bool.or_eq_true, decide_eq_true_eq, bne_iff_ne, ne_eq, Bool.not_eq_true', Bool.not_eq_false', Bool.or_eq_false_iff, Bool.and_eq_false_iff, decide_eq_false_iff_not, beq_iff_eq, beq_eq_false_iff_ne, bne_eq_false_iff_eq] at *
           omega
         go_ret
         refine ⟨?_, hS⟩
         rw [show codeN s = 42 from by unfold codeN; rw [nameB_no hlt hcf]; rfl]
         rfl)
      | (have hct : okC s[i] = true := by
           rw [Hc.out]
           apply decide_eq_true
           clear hS Hok Hn Hc
           simp only [Bool.and_eq_true, Bool.or_eq_true, decide_eq_true_eq, bne_iff_ne, ne_eq, Bool.not_eq_true', Bool.not_eq_false', Bool.or_eq_false_iff, Bool.and_eq_false_iff, decide_eq_false_iff_not, beq_iff_eq, beq_eq_false_iff_ne, bne_eq_false_iff_eq] at *
           omega
         exact ⟨i + 1, ⟨hlt, fun j hj hji => by rcases Nat.lt_succ_iff_lt_or_eq.1 hji with h | h; exact Hok.out j hj h; subst h; exact hct, hS⟩, (by (try dsimp only); omega), rfl, (by (simp only [blankT, junkT, List.cons_append, List.nil_append, List.setIfInBounds_toArray, List.set_cons_zero, List.set_cons_succ])), rfl⟩)
  · have Hall := Lib.hid (show codeN s = 0 by
      unfold codeN
      rw [← Hn.out, if_pos]
      rw [List.all_eq_true]
      intro c hc
      obtain ⟨j, hj, rfl⟩ := List.getElem_of_mem hc
      have hj' : j < s.size := by rw [ba_size]; exact hj
      exact Hok.out j hj' (by omega))
    go_wp2
    go_ret
    exact ⟨by rw [Hall.out]; rfl, hS⟩
theorem str_eq (s : ByteArray) (l : List UInt8) : (s == (⟨l.toArray⟩ : ByteArray)) = (s.toList == l) := by
  rw [Bool.eq_iff_iff, ba_beq, beq_iff_eq, ByteArray.toList_eq s]
  exact ⟨fun h => by rw [h], fun h => ba_ext h⟩
theorem Name_any (hS : Sh B R w) (s : ByteArray) (hs : s.size ≤ 16777216) : Calls Tryz.prog 77 #[.string s] w fun e w' => e = .returned (.int .i64 (codeN s)) ∧ Sh B R w' := by
  by_cases hc : s.size < 1 ∨ 64 < s.size ∨ s.toList = [46] ∨ s.toList = [46, 46]
  · refine Name_bad hS s hs ?_ hc
    unfold nameB
    rw [str_eq s [46], str_eq s [46, 46]]
    rcases hc with h | h | h | h
    · simp [h]; omega
    · simp; omega
    · simp [h]
    · simp [h]
  · have h1 : 1 ≤ s.size := by omega
    have h2 : s.size ≤ 64 := by omega
    have h3 : ¬ s.toList = [46] := fun h => hc (.inr (.inr (.inl h)))
    have h4 : ¬ s.toList = [46, 46] := fun h => hc (.inr (.inr (.inr h)))
    refine Name_ok hS s hs h1 h2 h3 h4 ?_
    unfold nameB
    rw [str_eq s [46], str_eq s [46, 46]]
    simp [h1, h2, h3, h4]
end
end Go.Tk

namespace Go.Proofs
open Go.Shelf
def Tryz.lays190_ren : Go.Shelf.Ren := ⟨fun | 190 => 52 | 125 => 68 | 258 => 67 | 128 => 92 | 129 => 93 | 302 => 83 | 303 => 84 | 304 => 85 | 305 => 86 | 306 => 87 | 307 => 88 | 308 => 89 | 309 => 90 | 310 => 91 | 333 => 108 | 329 => 109 | 330 => 110 | 334 => 111 | 335 => 112 | 336 => 113 | 344 => 123 | n => n, fun | 31 => 47 | 9 => 9 | 3 => 3 | 46 => 92 | 0 => 0 | 51 => 122 | 53 => 124 | 4 => 4 | 183 => 115 | 182 => 114 | 131 => 119 | 5 => 5 | 218 => 134 | 222 => 138 | 228 => 147 | 229 => 60 | n => n, fun | n => n⟩
theorem Tryz.lays190 : Go.Proofs.Lays.n190 Tryz.prog Tryz.lays190_ren := {
  mixed := by kernel_rfl
  f125 := Tryz.func68.trans (congrArg some (by kernel_rfl))
  f128 := Tryz.func92.trans (congrArg some (by kernel_rfl))
  f129 := Tryz.func93.trans (congrArg some (by kernel_rfl))
  f190 := Tryz.func52.trans (congrArg some (by kernel_rfl))
  f258 := Tryz.func67.trans (congrArg some (by kernel_rfl))
  f302 := Tryz.func83.trans (congrArg some (by kernel_rfl))
  f303 := Tryz.func84.trans (congrArg some (by kernel_rfl))
  f304 := Tryz.func85.trans (congrArg some (by kernel_rfl))
  f305 := Tryz.func86.trans (congrArg some (by kernel_rfl))
  f306 := Tryz.func87.trans (congrArg some (by kernel_rfl))
  f307 := Tryz.func88.trans (congrArg some (by kernel_rfl))
  f308 := Tryz.func89.trans (congrArg some (by kernel_rfl))
  f309 := Tryz.func90.trans (congrArg some (by kernel_rfl))
  f310 := Tryz.func91.trans (congrArg some (by kernel_rfl))
  f329 := Tryz.func109.trans (congrArg some (by kernel_rfl))
  f330 := Tryz.func110.trans (congrArg some (by kernel_rfl))
  f333 := Tryz.func108.trans (congrArg some (by kernel_rfl))
  f334 := Tryz.func111.trans (congrArg some (by kernel_rfl))
  f335 := Tryz.func112.trans (congrArg some (by kernel_rfl))
  f336 := Tryz.func113.trans (congrArg some (by kernel_rfl))
  f344 := Tryz.func123.trans (congrArg some (by kernel_rfl))
  t0 := Tryz.underlying0
  a0 := Tryz.isAgg0
  z0 := Tryz.sizeOf0
  v0 := Tryz.zeroValue0
  t3 := Tryz.underlying3
  a3 := Tryz.isAgg3
  z3 := Tryz.sizeOf3
  v3 := Tryz.zeroValue3
  t4 := Tryz.underlying4
  a4 := Tryz.isAgg4
  z4 := Tryz.sizeOf4
  v4 := Tryz.zeroValue4
  t5 := Tryz.underlying5
  a5 := Tryz.isAgg5
  z5 := Tryz.sizeOf5
  v5 := Tryz.zeroValue5
  t9 := Tryz.underlying9
  a9 := Tryz.isAgg9
  z9 := Tryz.sizeOf9
  v9 := Tryz.zeroValue9
  t31 := Tryz.underlying47
  a31 := Tryz.isAgg47
  z31 := Tryz.sizeOf47
  v31 := Tryz.zeroValue47
  t46 := Tryz.underlying92
  a46 := Tryz.isAgg92
  z46 := Tryz.sizeOf92
  v46 := Tryz.zeroValue92
  t51 := Tryz.underlying122
  a51 := Tryz.isAgg122
  z51 := Tryz.sizeOf122
  v51 := Tryz.zeroValue122
  t53 := Tryz.underlying124
  a53 := Tryz.isAgg124
  z53 := Tryz.sizeOf124
  v53 := Tryz.zeroValue124
  t131 := Tryz.underlying119
  a131 := Tryz.isAgg119
  z131 := Tryz.sizeOf119
  v131 := Tryz.zeroValue119
  t182 := Tryz.underlying114
  a182 := Tryz.isAgg114
  z182 := Tryz.sizeOf114
  v182 := Tryz.zeroValue114
  t183 := Tryz.underlying115
  a183 := Tryz.isAgg115
  z183 := Tryz.sizeOf115
  v183 := Tryz.zeroValue115
  t218 := Tryz.underlying134
  a218 := Tryz.isAgg134
  z218 := Tryz.sizeOf134
  v218 := Tryz.zeroValue134
  t222 := Tryz.underlying138
  a222 := Tryz.isAgg138
  z222 := Tryz.sizeOf138
  v222 := Tryz.zeroValue138
  t228 := Tryz.underlying147
  a228 := Tryz.isAgg147
  z228 := Tryz.sizeOf147
  v228 := Tryz.zeroValue147
  t229 := Tryz.underlying60
  a229 := Tryz.isAgg60
  z229 := Tryz.sizeOf60
  v229 := Tryz.zeroValue60 }
open Go.Sort Go.RowKit in
theorem Tryz.slices_Sort_string (blk off cap : Nat) (ss : List (List UInt8)) (w : World) (hH : Holds encStr w blk off ss.toArray) (hblk : blk < w.heap.size) (hsz : ss.length < 4611686018427387904) :
    Calls Tryz.prog 52 #[.slice (some ⟨blk, off, none⟩) ss.length cap] w fun e w' =>
      e = .returned (.tuple #[]) ∧ ∃ n os, w' = grow (putRow encStr (Sort.ahead w n) blk off (ss.mergeSort fun x y => decide (x ≤ y)).toArray) os := Any.slices_Sort_string Tryz.lays190 blk off cap ss w hH hblk hsz
open Go.RowKit Go.Sort in
/-- .. and plain. (LAID: no walk: one application.) -/
theorem Tryz.slices_Sort_string_none (p : Option Addr) (cap : Nat) (w : World) :
    Calls Tryz.prog 52 #[.slice p 0 cap] w fun e w' => e = .returned (.tuple #[]) ∧ w' = w := Any.slices_Sort_string_none Tryz.lays190 p cap w
end Go.Proofs

set_option linter.unusedSectionVars false
set_option linter.unusedSimpArgs false
set_option linter.unusedVariables false
namespace Go.Tk
open Go.RowKit Go.Proofs

section
variable {B : Base} {R H H1 : HL} {w w' : World}
theorem flat_str (l : List ByteArray) : flat strE l = l.map Value.string := by
  induction l with
  | nil => rfl
  | cons x l ih => rw [flat_cons, ih]; rfl
theorem Split_any [HasML B] (hS : Sh B R w) (s : ByteArray) (hs : s.size ≤ 16777216) :
    Calls Tryz.prog 76 #[.string s, .string slash] w fun e w' => ∃ b, e = .returned (.slice (some ⟨b, 0, none⟩) (piecesB s).length (piecesB s).length) ∧ OwnSl strE (some ⟨b, 0, none⟩) (piecesB s) [] (piecesB s).length ∧ Sh B (rowA (some ⟨b, 0, none⟩) (flat strE (piecesB s) ++ []) 9 ++ R) w' := by
  obtain ⟨m, hm⟩ := hS.ml
  refine (Tryz.strings_Split s slash m w (by omega) hm (by decide)).mono fun e w' h => ⟨w.heap.size, ?_, ?_, ?_⟩
  · rw [h.1, pieces_length]
  · refine ⟨(fun h => by cases h), (fun ad h => by cases h; rfl), by simp, ?_⟩
    have h1 := Lib.countB_le slash (by decide) s.size s (Nat.le_refl _)
    rw [pieces_length]; unfold maxLen; omega
  · rw [h.2, splitB_pieces, List.append_nil, flat_str]
    exact hS.alloc _
def NamesI (B : Base) (A : Option Addr) (s : ByteArray) (R : HL) (i : Nat) (w : World) : Prop := i ≤ (piecesB s).length ∧ (∀ j x, (piecesB s)[j]? = some x → j < i → nameB x = true) ∧ Sh B (rowA A (flat strE (piecesB s) ++ []) 9 ++ R) w
def NamesP (B : Base) (R : HL) (s : ByteArray) (e : Ending) (w' : World) : Prop :=
  ∃ A cap, e = .returned (.tuple #[.slice A (namesL s).length cap, .int .i64 (errN s)]) ∧ OwnSl strE A (namesL s) [] cap ∧ Sh B (rowA A (flat strE (namesL s) ++ []) 9 ++ R) w'
theorem names_none {s : ByteArray} (h : namesB s = none) : namesL s = [] ∧ errN s = 45 := by unfold namesL errN; rw [h]; exact ⟨rfl, rfl⟩
theorem names_some {s : ByteArray} {l : List ByteArray} (h : namesB s = some l) : namesL s = l ∧ errN s = 0 := by unfold namesL errN; rw [h]; exact ⟨rfl, rfl⟩
theorem pieces_small (s : ByteArray) : ∀ x ∈ piecesB s, x.size ≤ s.size := by
  have h : ∀ (l : List UInt8), ∀ y ∈ splitL l, y.length ≤ l.length := by
    intro l
    induction l with
    | nil => intro y hy; simp [splitL] at hy; subst hy; simp
    | cons c t ih =>
      intro y hy
      unfold splitL at hy
      split at hy
      · rcases List.mem_cons.1 hy with rfl | hy
        · simp
        · have := ih y hy; simp; omega
      · split at hy
        · rw [List.mem_singleton] at hy; subst hy; simp
        · rename_i h r hr
          rcases List.mem_cons.1 hy with rfl | hy
          · have := ih h (by rw [hr]; simp); simp; omega
          · have := ih y (by rw [hr]; simp [hy]); simp; omega
  intro x hx
  obtain ⟨y, hy, rfl⟩ := List.mem_map.1 hx
  rw [ba_size, ba_size]
  exact h _ y hy
set_option maxRecDepth 100000 in
set_option maxHeartbeats 1600000 in
theorem Names_any [HasML B] (hS : Sh B R w) (s : ByteArray) (hs : s.size ≤ 16777216) : Calls Tryz.prog 63 #[.string s] w (NamesP B R s) := by
  by_cases h0 : s.size = 0
  · have hn : namesB s = some [] := by unfold namesB; rw [if_pos h0]
    have d0 : s.toList = [] := by rw [ByteArray.toList_eq s]; have := ba_size s; rw [h0] at this; exact List.eq_nil_of_length_eq_zero this.symm
    have d1 : s.toList.isEmpty = true := by rw [d0]; rfl
    have Hn := Lib.hid (names_some hn)
    clear hn h0
    go_enter Tryz.func63, Tryz.ntmps63
    go_wp2
    go_ret2
    unfold NamesP
    rw [Hn.out.1, Hn.out.2]
    exact ⟨none, 0, rfl, OwnSl.nothing, hS⟩
  · have d0 : ¬ s.toList = [] := by rw [ByteArray.toList_eq s]; intro h; apply h0; rw [ba_size, h]; rfl
    have d1 : s.toList.isEmpty = false := by rw [Bool.eq_false_iff]; simpa using d0
    have hsp := fun (w : World) (R : HL) (hS : Sh B R w) => Split_any hS s hs
    by_cases h32 : 32 < (piecesB s).length
    · have hn : namesB s = none := by unfold namesB; rw [if_neg h0, if_pos h32]
      have d2 : decide ((32 : Int) < ((piecesB s).length : Int)) = true := decide_eq_true (by omega)
      have d3 : decide (32 < (piecesB s).length) = true := decide_eq_true h32
      have Hn := Lib.hid (names_none hn)
      clear hn h0 h32
      go_enter Tryz.func63, Tryz.ntmps63
      go_wp2_with (first | (go_at_call 76; refine ((hsp _ _ hS)).mono ?_; rintro e w' (⟨b, rfl, hO, hS⟩)) | (refine wl_isld rfl ?_; ((first | refine wl_value rfl (ex_l0 hS rfl rfl rfl CellAt.out) ?_ | refine wl_value rfl (ex_lf hS rfl rfl rfl CellAt.out) ?_ | refine wl_value rfl (ex_l1 hS rfl rfl rfl CellAt.out) ?_ | refine wl_value rfl (ex_ldC hS rfl rfl CellAt.out) ?_ | refine wl_value rfl (ex_l0 hS rfl rfl rfl rfl) ?_ | refine wl_value rfl (ex_lf hS rfl rfl rfl rfl) ?_ | refine wl_value rfl (ex_l1 hS rfl rfl rfl rfl) ?_ | refine wl_value rfl (ex_ldC hS rfl rfl rfl) ?_ | refine wl_value rfl (ex_l00 hS rfl rfl CellAt.out) ?_ | refine wl_value rfl (ex_l00 hS rfl rfl rfl) ?_ | refine wl_value rfl (ex_l0f hS rfl rfl CellAt.out) ?_ | refine wl_value rfl (ex_l0f hS rfl rfl rfl) ?_ | refine wl_value rfl (ex_lr hS rfl rfl rfl rfl) ?_ | refine wl_value rfl (ex_lr0 hS rfl rfl rfl) ?_ | refine wl_value rfl (ex_lrz hS rfl rfl rfl) ?_ | refine wl_value rfl (ex_lrf hS rfl rfl rfl) ?_ | refine wl_value rfl (ex_ldrC hS rfl rfl) ?_ | refine wl_value rfl (ex_ldr0 hS rfl rfl rfl) ?_); (try simp only [Act.put, List.setIfInBounds_toArray, List.set_cons_zero, List.set_cons_succ]))) | ((first | refine wl_value rfl (ex_ix hS rfl rfl rfl ?_) ?_); (focus (first | rfl | omega | (simp; done))); (try simp only [Act.put, List.setIfInBounds_toArray, List.set_cons_zero, List.set_cons_succ])) | ((first | refine wl_value rfl (ex_eqA rfl rfl rfl) ?_ | refine wl_value rfl (ex_neA rfl rfl rfl) ?_); (try simp only [Act.put, List.setIfInBounds_toArray, List.set_cons_zero, List.set_cons_succ])) | (refine wl_alloc rfl rfl hS ?_; intro _ _ hS; (try simp only [Act.put, List.setIfInBounds_toArray, List.set_cons_zero, List.set_cons_succ])) | (refine wl_box rfl rfl rfl rfl hS ?_; intro _ _ hS; (try simp only [Act.put, List.setIfInBounds_toArray, List.set_cons_zero, List.set_cons_succ])) | (refine wl_st rfl rfl rfl rfl rfl hS (of_decide_eq_true rfl) ?_; intro _ hS; (try simp only [evT, evC, List.getD_cons_succ, List.getD_cons_zero, List.set_cons_zero, List.set_cons_succ] at hS); (try simp only [List.set_cons_zero, List.set_cons_succ] at hS); (try simp only [Act.put, List.setIfInBounds_toArray, List.set_cons_zero, List.set_cons_succ])) | (refine wl_strC rfl rfl rfl rfl hS rfl rfl ?_; intro _ hS; (try simp only [evT, evC, List.getD_cons_succ, List.getD_cons_zero, List.set_cons_zero, List.set_cons_succ] at hS); (try simp only [Act.put, List.setIfInBounds_toArray, List.set_cons_zero, List.set_cons_succ])))
      go_ret2
      unfold NamesP
      rw [Hn.out.1, Hn.out.2]
      exact ⟨none, 0, rfl, OwnSl.nothing, hS.to⟩
    · have d2 : decide ((32 : Int) < ((piecesB s).length : Int)) = false := decide_eq_false (by omega)
      have d3 : decide (32 < (piecesB s).length) = false := decide_eq_false h32
      have Hall := Lib.hid (show (piecesB s).all nameB = true → namesB s = some (piecesB s) by intro h; unfold namesB; rw [if_neg h0, if_neg h32, if_pos h])
      have Hno := Lib.hid (show ∀ x, x ∈ piecesB s → nameB x = false → namesB s = none by
        intro x hx hf
        unfold namesB
        rw [if_neg h0, if_neg h32, if_neg]
        intro ha
        rw [List.all_eq_true] at ha
        rw [ha x hx] at hf
        cases hf)
      have hpl : (piecesB s).length ≤ 32 := by omega
      clear h0 h32
      go_enter Tryz.func63, Tryz.ntmps63
      go_wp2_with (first | (go_at_call 76; refine ((hsp _ _ hS)).mono ?_; rintro e w' (⟨b, rfl, hO, hS⟩)) | (refine wl_isld rfl ?_; ((first | refine wl_value rfl (ex_l0 hS rfl rfl rfl CellAt.out) ?_ | refine wl_value rfl (ex_lf hS rfl rfl rfl CellAt.out) ?_ | refine wl_value rfl (ex_l1 hS rfl rfl rfl CellAt.out) ?_ | refine wl_value rfl (ex_ldC hS rfl rfl CellAt.out) ?_ | refine wl_value rfl (ex_l0 hS rfl rfl rfl rfl) ?_ | refine wl_value rfl (ex_lf hS rfl rfl rfl rfl) ?_ | refine wl_value rfl (ex_l1 hS rfl rfl rfl rfl) ?_ | refine wl_value rfl (ex_ldC hS rfl rfl rfl) ?_ | refine wl_value rfl (ex_l00 hS rfl rfl CellAt.out) ?_ | refine wl_value rfl (ex_l00 hS rfl rfl rfl) ?_ | refine wl_value rfl (ex_l0f hS rfl rfl CellAt.out) ?_ | refine wl_value rfl (ex_l0f hS rfl rfl rfl) ?_ | refine wl_value rfl (ex_lr hS rfl rfl rfl rfl) ?_ | refine wl_value rfl (ex_lr0 hS rfl rfl rfl) ?_ | refine wl_value rfl (ex_lrz hS rfl rfl rfl) ?_ | refine wl_value rfl (ex_lrf hS rfl rfl rfl) ?_ | refine wl_value rfl (ex_ldrC hS rfl rfl) ?_ | refine wl_value rfl (ex_ldr0 hS rfl rfl rfl) ?_); (try simp only [Act.put, List.setIfInBounds_toArray, List.set_cons_zero, List.set_cons_succ]))) | ((first | refine wl_value rfl (ex_ix hS rfl rfl rfl ?_) ?_); (focus (first | rfl | omega | (simp; done))); (try simp only [Act.put, List.setIfInBounds_toArray, List.set_cons_zero, List.set_cons_succ])) | ((first | refine wl_value rfl (ex_eqA rfl rfl rfl) ?_ | refine wl_value rfl (ex_neA rfl rfl rfl) ?_); (try simp only [Act.put, List.setIfInBounds_toArray, List.set_cons_zero, List.set_cons_succ])) | (refine wl_alloc rfl rfl hS ?_; intro _ _ hS; (try simp only [Act.put, List.setIfInBounds_toArray, List.set_cons_zero, List.set_cons_succ])) | (refine wl_box rfl rfl rfl rfl hS ?_; intro _ _ hS; (try simp only [Act.put, List.setIfInBounds_toArray, List.set_cons_zero, List.set_cons_succ])) | (refine wl_st rfl rfl rfl rfl rfl hS (of_decide_eq_true rfl) ?_; intro _ hS; (try simp only [evT, evC, List.getD_cons_succ, List.getD_cons_zero, List.set_cons_zero, List.set_cons_succ] at hS); (try simp only [List.set_cons_zero, List.set_cons_succ] at hS); (try simp only [Act.put, List.setIfInBounds_toArray, List.set_cons_zero, List.set_cons_succ])) | (refine wl_strC rfl rfl rfl rfl hS rfl rfl ?_; intro _ hS; (try simp only [evT, evC, List.getD_cons_succ, List.getD_cons_zero, List.set_cons_zero, List.set_cons_succ] at hS); (try simp only [Act.put, List.setIfInBounds_toArray, List.set_cons_zero, List.set_cons_succ])))
      have h0 : NamesI B (some ⟨b, 0, none⟩) s R 0 _ := ⟨Nat.zero_le _, fun _ _ _ h => absurd h (Nat.not_lt_zero _), hS⟩
      clear hS
      refine wp_loopS [16] [2, 3, 6, 17, 18, 19, 20, 21, 22, 23] (fun i : Nat => [.int .i64 i]) (NamesI B (some ⟨b, 0, none⟩) s R) (fun i => (piecesB s).length - i) ((0 : Nat)) rfl (h0) ?_
      clear h0
      rintro i J w ⟨hi, hok, hS⟩
      have Hok := Lib.hid hok
      clear hok
      (simp only [Frm, setsT, junkT, List.setIfInBounds_toArray, List.set_cons_zero, List.set_cons_succ])
      by_cases hlt : i < (piecesB s).length
      · obtain ⟨x, gx⟩ := Nth.of hlt
        have hxs : x.size ≤ 16777216 := Nat.le_trans (pieces_small s x gx.mem) hs
        have hnm := fun (w : World) (R : HL) (hS : Sh B R w) => Name_any hS x hxs
        cases hb : nameB x with
        | true =>
          rw [show codeN x = 0 by unfold codeN; rw [hb]; rfl] at hnm
          have Hb := Lib.hid hb
          clear hb
          go_wp2_with (first | (go_at_call 77; refine ((hnm _ _ hS)).mono ?_; rintro e w' (⟨rfl, hS⟩)) | (refine wl_isld rfl ?_; ((first | refine wl_value rfl (ex_l0 hS rfl rfl rfl CellAt.out) ?_ | refine wl_value rfl (ex_lf hS rfl rfl rfl CellAt.out) ?_ | refine wl_value rfl (ex_l1 hS rfl rfl rfl CellAt.out) ?_ | refine wl_value rfl (ex_ldC hS rfl rfl CellAt.out) ?_ | refine wl_value rfl (ex_l0 hS rfl rfl rfl rfl) ?_ | refine wl_value rfl (ex_lf hS rfl rfl rfl rfl) ?_ | refine wl_value rfl (ex_l1 hS rfl rfl rfl rfl) ?_ | refine wl_value rfl (ex_ldC hS rfl rfl rfl) ?_ | refine wl_value rfl (ex_l00 hS rfl rfl CellAt.out) ?_ | refine wl_value rfl (ex_l00 hS rfl rfl rfl) ?_ | refine wl_value rfl (ex_l0f hS rfl rfl CellAt.out) ?_ | refine wl_value rfl (ex_l0f hS rfl rfl rfl) ?_ | refine wl_value rfl (ex_lr hS rfl rfl rfl rfl) ?_ | refine wl_value rfl (ex_lr0 hS rfl rfl rfl) ?_ | refine wl_value rfl (ex_lrz hS rfl rfl rfl) ?_ | refine wl_value rfl (ex_lrf hS rfl rfl rfl) ?_ | refine wl_value rfl (ex_ldrC hS rfl rfl) ?_ | refine wl_value rfl (ex_ldr0 hS rfl rfl rfl) ?_); (try simp only [Act.put, List.setIfInBounds_toArray, List.set_cons_zero, List.set_cons_succ]))) | ((first | refine wl_value rfl (ex_ix hS rfl rfl rfl ?_) ?_); (focus (first | rfl | omega | (simp; done))); (try simp only [Act.put, List.setIfInBounds_toArray, List.set_cons_zero, List.set_cons_succ])) | ((first | refine wl_value rfl (ex_eqA rfl rfl rfl) ?_ | refine wl_value rfl (ex_neA rfl rfl rfl) ?_); (try simp only [Act.put, List.setIfInBounds_toArray, List.set_cons_zero, List.set_cons_succ])) | (refine wl_alloc rfl rfl hS ?_; intro _ _ hS; (try simp only [Act.put, List.setIfInBounds_toArray, List.set_cons_zero, List.set_cons_succ])) | (refine wl_box rfl rfl rfl rfl hS ?_; intro _ _ hS; (try simp only [Act.put, List.setIfInBounds_toArray, List.set_cons_zero, List.set_cons_succ])) | (refine wl_st rfl rfl rfl rfl rfl hS (of_decide_eq_true rfl) ?_; intro _ hS; (try simp only [evT, evC, List.getD_cons_succ, List.getD_cons_zero, List.set_cons_zero, List.set_cons_succ] at hS); (try simp only [List.set_cons_zero, List.set_cons_succ] at hS); (try simp only [Act.put, List.setIfInBounds_toArray, List.set_cons_zero, List.set_cons_succ])) | (refine wl_strC rfl rfl rfl rfl hS rfl rfl ?_; intro _ hS; (try simp only [evT, evC, List.getD_cons_succ, List.getD_cons_zero, List.set_cons_zero, List.set_cons_succ] at hS); (try simp only [Act.put, List.setIfInBounds_toArray, List.set_cons_zero, List.set_cons_succ])))
          (refine ⟨((i + 1 : Nat)), (⟨hlt, fun j y hy hj => by rcases Nat.lt_succ_iff_lt_or_eq.1 hj with h | h; exact Hok.out j y hy h; subst h; rw [gx.get] at hy; cases hy; exact Hb.out, hS⟩), (by (try dsimp only); omega), rfl, (by (simp only [blankT, junkT, List.cons_append, List.nil_append, List.setIfInBounds_toArray, List.set_cons_zero, List.set_cons_succ])), rfl⟩)
        | false =>
          rw [show codeN x = 42 by unfold codeN; rw [hb]; rfl] at hnm
          have Hn := Lib.hid (names_none (Hno.out x gx.mem hb))
          clear hb
          go_wp2_with (first | (go_at_call 77; refine ((hnm _ _ hS)).mono ?_; rintro e w' (⟨rfl, hS⟩)) | (refine wl_isld rfl ?_; ((first | refine wl_value rfl (ex_l0 hS rfl rfl rfl CellAt.out) ?_ | refine wl_value rfl (ex_lf hS rfl rfl rfl CellAt.out) ?_ | refine wl_value rfl (ex_l1 hS rfl rfl rfl CellAt.out) ?_ | refine wl_value rfl (ex_ldC hS rfl rfl CellAt.out) ?_ | refine wl_value rfl (ex_l0 hS rfl rfl rfl rfl) ?_ | refine wl_value rfl (ex_lf hS rfl rfl rfl rfl) ?_ | refine wl_value rfl (ex_l1 hS rfl rfl rfl rfl) ?_ | refine wl_value rfl (ex_ldC hS rfl rfl rfl) ?_ | refine wl_value rfl (ex_l00 hS rfl rfl CellAt.out) ?_ | refine wl_value rfl (ex_l00 hS rfl rfl rfl) ?_ | refine wl_value rfl (ex_l0f hS rfl rfl CellAt.out) ?_ | refine wl_value rfl (ex_l0f hS rfl rfl rfl) ?_ | refine wl_value rfl (ex_lr hS rfl rfl rfl rfl) ?_ | refine wl_value rfl (ex_lr0 hS rfl rfl rfl) ?_ | refine wl_value rfl (ex_lrz hS rfl rfl rfl) ?_ | refine wl_value rfl (ex_lrf hS rfl rfl rfl) ?_ | refine wl_value rfl (ex_ldrC hS rfl rfl) ?_ | refine wl_value rfl (ex_ldr0 hS rfl rfl rfl) ?_); (try simp only [Act.put, List.setIfInBounds_toArray, List.set_cons_zero, List.set_cons_succ]))) | ((first | refine wl_value rfl (ex_ix hS rfl rfl rfl ?_) ?_); (focus (first | rfl | omega | (simp; done))); (try simp only [Act.put, List.setIfInBounds_toArray, List.set_cons_zero, List.set_cons_succ])) | ((first | refine wl_value rfl (ex_eqA rfl rfl rfl) ?_ | refine wl_value rfl (ex_neA rfl rfl rfl) ?_); (try simp only [Act.put, List.setIfInBounds_toArray, List.set_cons_zero, List.set_cons_succ])) | (refine wl_alloc rfl rfl hS ?_; intro _ _ hS; (try simp only [Act.put, List.setIfInBounds_toArray, List.set_cons_zero, List.set_cons_succ])) | (refine wl_box rfl rfl rfl rfl hS ?_; intro _ _ hS; (try simp only [Act.put, List.setIfInBounds_toArray, List.set_cons_zero, List.set_cons_succ])) | (refine wl_st rfl rfl rfl rfl rfl hS (of_decide_eq_true rfl) ?_; intro _ hS; (try simp only [evT, evC, List.getD_cons_succ, List.getD_cons_zero, List.set_cons_zero, List.set_cons_succ] at hS); (try simp only [List.set_cons_zero, List.set_cons_succ] at hS); (try simp only [Act.put, List.setIfInBounds_toArray, List.set_cons_zero, List.set_cons_succ])) | (refine wl_strC rfl rfl rfl rfl hS rfl rfl ?_; intro _ hS; (try simp only [evT, evC, List.getD_cons_succ, List.getD_cons_zero, List.set_cons_zero, List.set_cons_succ] at hS); (try simp only [Act.put, List.setIfInBounds_toArray, List.set_cons_zero, List.set_cons_succ])))
          go_ret2
          unfold NamesP
          rw [Hn.out.1, Hn.out.2]
          exact ⟨none, 0, rfl, OwnSl.nothing, hS.to⟩
      · have Hn := Lib.hid (names_some (Hall.out (by
          rw [List.all_eq_true]
          intro x hx
          obtain ⟨j, hj⟩ := List.getElem?_of_mem hx
          exact Hok.out j x hj (by have := (List.getElem?_eq_some_iff.1 hj).1; omega))))
        go_wp2_with (first | (refine wl_isld rfl ?_; ((first | refine wl_value rfl (ex_l0 hS rfl rfl rfl CellAt.out) ?_ | refine wl_value rfl (ex_lf hS rfl rfl rfl CellAt.out) ?_ | refine wl_value rfl (ex_l1 hS rfl rfl rfl CellAt.out) ?_ | refine wl_value rfl (ex_ldC hS rfl rfl CellAt.out) ?_ | refine wl_value rfl (ex_l0 hS rfl rfl rfl rfl) ?_ | refine wl_value rfl (ex_lf hS rfl rfl rfl rfl) ?_ | refine wl_value rfl (ex_l1 hS rfl rfl rfl rfl) ?_ | refine wl_value rfl (ex_ldC hS rfl rfl rfl) ?_ | refine wl_value rfl (ex_l00 hS rfl rfl CellAt.out) ?_ | refine wl_value rfl (ex_l00 hS rfl rfl rfl) ?_ | refine wl_value rfl (ex_l0f hS rfl rfl CellAt.out) ?_ | refine wl_value rfl (ex_l0f hS rfl rfl rfl) ?_ | refine wl_value rfl (ex_lr hS rfl rfl rfl rfl) ?_ | refine wl_value rfl (ex_lr0 hS rfl rfl rfl) ?_ | refine wl_value rfl (ex_lrz hS rfl rfl rfl) ?_ | refine wl_value rfl (ex_lrf hS rfl rfl rfl) ?_ | refine wl_value rfl (ex_ldrC hS rfl rfl) ?_ | refine wl_value rfl (ex_ldr0 hS rfl rfl rfl) ?_); (try simp only [Act.put, List.setIfInBounds_toArray, List.set_cons_zero, List.set_cons_succ]))) | ((first | refine wl_value rfl (ex_ix hS rfl rfl rfl ?_) ?_); (focus (first | rfl | omega | (simp; done))); (try simp only [Act.put, List.setIfInBounds_toArray, List.set_cons_zero, List.set_cons_succ])) | ((first | refine wl_value rfl (ex_eqA rfl rfl rfl) ?_ | refine wl_value rfl (ex_neA rfl rfl rfl) ?_); (try simp only [Act.put, List.setIfInBounds_toArray, List.set_cons_zero, List.set_cons_succ])) | (refine wl_alloc rfl rfl hS ?_; intro _ _ hS; (try simp only [Act.put, List.setIfInBounds_toArray, List.set_cons_zero, List.set_cons_succ])) | (refine wl_box rfl rfl rfl rfl hS ?_; intro _ _ hS; (try simp only [Act.put, List.setIfInBounds_toArray, List.set_cons_zero, List.set_cons_succ])) | (refine wl_st rfl rfl rfl rfl rfl hS (of_decide_eq_true rfl) ?_; intro _ hS; (try simp only [evT, evC, List.getD_cons_succ, List.getD_cons_zero, List.set_cons_zero, List.set_cons_succ] at hS); (try simp only [List.set_cons_zero, List.set_cons_succ] at hS); (try simp only [Act.put, List.setIfInBounds_toArray, List.set_cons_zero, List.set_cons_succ])) | (refine wl_strC rfl rfl rfl rfl hS rfl rfl ?_; intro _ hS; (try simp only [evT, evC, List.getD_cons_succ, List.getD_cons_zero, List.set_cons_zero, List.set_cons_succ] at hS); (try simp only [Act.put, List.setIfInBounds_toArray, List.set_cons_zero, List.set_cons_succ])))
        go_ret2
        unfold NamesP
        rw [Hn.out.1, Hn.out.2]
        exact ⟨some ⟨b, 0, none⟩, _, rfl, hO, hS⟩
set_option maxRecDepth 100000 in
theorem Check_any [HasML B] (hS : Sh B R w) (s : ByteArray) (hs : s.size ≤ 16777216) : Calls Tryz.prog 45 #[.string s] w fun e w' => e = .returned (.int .i64 (errN s)) ∧ Sh B R w' := by
  have hn := fun (w : World) (R : HL) (hS : Sh B R w) => Names_any hS s hs
  go_enter Tryz.func45, Tryz.ntmps45
  go_wp2_with (first | (go_at_call 63; refine ((hn _ _ hS)).mono ?_; rintro e w' (⟨A, cap, rfl, hO, hS⟩)) | (refine wl_isld rfl ?_; ((first | refine wl_value rfl (ex_l0 hS rfl rfl rfl CellAt.out) ?_ | refine wl_value rfl (ex_lf hS rfl rfl rfl CellAt.out) ?_ | refine wl_value rfl (ex_l1 hS rfl rfl rfl CellAt.out) ?_ | refine wl_value rfl (ex_ldC hS rfl rfl CellAt.out) ?_ | refine wl_value rfl (ex_l0 hS rfl rfl rfl rfl) ?_ | refine wl_value rfl (ex_lf hS rfl rfl rfl rfl) ?_ | refine wl_value rfl (ex_l1 hS rfl rfl rfl rfl) ?_ | refine wl_value rfl (ex_ldC hS rfl rfl rfl) ?_ | refine wl_value rfl (ex_l00 hS rfl rfl CellAt.out) ?_ | refine wl_value rfl (ex_l00 hS rfl rfl rfl) ?_ | refine wl_value rfl (ex_l0f hS rfl rfl CellAt.out) ?_ | refine wl_value rfl (ex_l0f hS rfl rfl rfl) ?_ | refine wl_value rfl (ex_lr hS rfl rfl rfl rfl) ?_ | refine wl_value rfl (ex_lr0 hS rfl rfl rfl) ?_ | refine wl_value rfl (ex_lrz hS rfl rfl rfl) ?_ | refine wl_value rfl (ex_lrf hS rfl rfl rfl) ?_ | refine wl_value rfl (ex_ldrC hS rfl rfl) ?_ | refine wl_value rfl (ex_ldr0 hS rfl rfl rfl) ?_); (try simp only [Act.put, List.setIfInBounds_toArray, List.set_cons_zero, List.set_cons_succ]))) | ((first | refine wl_value rfl (ex_ix hS rfl rfl rfl ?_) ?_); (focus (first | rfl | omega | (simp; done))); (try simp only [Act.put, List.setIfInBounds_toArray, List.set_cons_zero, List.set_cons_succ])) | ((first | refine wl_value rfl (ex_eqA rfl rfl rfl) ?_ | refine wl_value rfl (ex_neA rfl rfl rfl) ?_); (try simp only [Act.put, List.setIfInBounds_toArray, List.set_cons_zero, List.set_cons_succ])) | (refine wl_alloc rfl rfl hS ?_; intro _ _ hS; (try simp only [Act.put, List.setIfInBounds_toArray, List.set_cons_zero, List.set_cons_succ])) | (refine wl_box rfl rfl rfl rfl hS ?_; intro _ _ hS; (try simp only [Act.put, List.setIfInBounds_toArray, List.set_cons_zero, List.set_cons_succ])) | (refine wl_st rfl rfl rfl rfl rfl hS (of_decide_eq_true rfl) ?_; intro _ hS; (try simp only [evT, evC, List.getD_cons_succ, List.getD_cons_zero, List.set_cons_zero, List.set_cons_succ] at hS); (try simp only [List.set_cons_zero, List.set_cons_succ] at hS); (try simp only [Act.put, List.setIfInBounds_toArray, List.set_cons_zero, List.set_cons_succ])) | (refine wl_strC rfl rfl rfl rfl hS rfl rfl ?_; intro _ hS; (try simp only [evT, evC, List.getD_cons_succ, List.getD_cons_zero, List.set_cons_zero, List.set_cons_succ] at hS); (try simp only [Act.put, List.setIfInBounds_toArray, List.set_cons_zero, List.set_cons_succ])))
  go_ret
  exact ⟨rfl, hS.to⟩
end
end Go.Tk

set_option linter.unusedSectionVars false
set_option linter.unusedSimpArgs false
set_option linter.unusedVariables false
namespace Go.Tk
open Go.RowKit Go.Proofs

section
variable {B : Base} {R H H1 : HL} {w w' : World}
set_option maxRecDepth 100000 in
theorem isNaN_any (hS : Sh B R w) (s : ByteArray) : Calls Tryz.prog 113 #[.string s] w fun e w' => e = .returned (.bool false) ∧ Sh B R w' := by
  have d1 : (s.toList != s.toList) = false := by simp
  go_enter Tryz.func113, Tryz.ntmps113
  go_wp2
  go_ret
  exact ⟨by simp, hS⟩
set_option maxRecDepth 100000 in
theorem CmpS_any (hS : Sh B R w) (s t : ByteArray) : Calls Tryz.prog 114 #[.string s, .string t] w fun e w' => e = .returned (.int .i64 (cmpS s t)) ∧ Sh B R w' := by
  go_enter Tryz.func114, Tryz.ntmps114
  go_wp2_with (first | (go_at_call 113; refine ((isNaN_any hS _)).mono ?_; rintro e w' (⟨rfl, hS⟩)) | (refine wl_isld rfl ?_; ((first | refine wl_value rfl (ex_l0 hS rfl rfl rfl CellAt.out) ?_ | refine wl_value rfl (ex_lf hS rfl rfl rfl CellAt.out) ?_ | refine wl_value rfl (ex_l1 hS rfl rfl rfl CellAt.out) ?_ | refine wl_value rfl (ex_ldC hS rfl rfl CellAt.out) ?_ | refine wl_value rfl (ex_l0 hS rfl rfl rfl rfl) ?_ | refine wl_value rfl (ex_lf hS rfl rfl rfl rfl) ?_ | refine wl_value rfl (ex_l1 hS rfl rfl rfl rfl) ?_ | refine wl_value rfl (ex_ldC hS rfl rfl rfl) ?_ | refine wl_value rfl (ex_l00 hS rfl rfl CellAt.out) ?_ | refine wl_value rfl (ex_l00 hS rfl rfl rfl) ?_ | refine wl_value rfl (ex_l0f hS rfl rfl CellAt.out) ?_ | refine wl_value rfl (ex_l0f hS rfl rfl rfl) ?_ | refine wl_value rfl (ex_lr hS rfl rfl rfl rfl) ?_ | refine wl_value rfl (ex_lr0 hS rfl rfl rfl) ?_ | refine wl_value rfl (ex_lrz hS rfl rfl rfl) ?_ | refine wl_value rfl (ex_lrf hS rfl rfl rfl) ?_ | refine wl_value rfl (ex_ldrC hS rfl rfl) ?_ | refine wl_value rfl (ex_ldr0 hS rfl rfl rfl) ?_); (try simp only [Act.put, List.setIfInBounds_toArray, List.set_cons_zero, List.set_cons_succ]))) | ((first | refine wl_value rfl (ex_ix hS rfl rfl rfl ?_) ?_); (focus (first | rfl | omega | (simp; done))); (try simp only [Act.put, List.setIfInBounds_toArray, List.set_cons_zero, List.set_cons_succ])) | ((first | refine wl_value rfl (ex_eqA rfl rfl rfl) ?_ | refine wl_value rfl (ex_neA rfl rfl rfl) ?_); (try simp only [Act.put, List.setIfInBounds_toArray, List.set_cons_zero, List.set_cons_succ])) | (refine wl_alloc rfl rfl hS ?_; intro _ _ hS; (try simp only [Act.put, List.setIfInBounds_toArray, List.set_cons_zero, List.set_cons_succ])) | (refine wl_box rfl rfl rfl rfl hS ?_; intro _ _ hS; (try simp only [Act.put, List.setIfInBounds_toArray, List.set_cons_zero, List.set_cons_succ])) | (refine wl_st rfl rfl rfl rfl rfl hS (of_decide_eq_true rfl) ?_; intro _ hS; (try simp only [evT, evC, List.getD_cons_succ, List.getD_cons_zero, List.set_cons_zero, List.set_cons_succ] at hS); (try simp only [List.set_cons_zero, List.set_cons_succ] at hS); (try simp only [Act.put, List.setIfInBounds_toArray, List.set_cons_zero, List.set_cons_succ])) | (refine wl_strC rfl rfl rfl rfl hS rfl rfl ?_; intro _ hS; (try simp only [evT, evC, List.getD_cons_succ, List.getD_cons_zero, List.set_cons_zero, List.set_cons_succ] at hS); (try simp only [Act.put, List.setIfInBounds_toArray, List.set_cons_zero, List.set_cons_succ])))
  · have h : Op.bytesLess s.toList t.toList = true := by assumption
    go_ret
    exact ⟨by unfold cmpS ltS; rw [h]; rfl, hS⟩
  · have h : Op.bytesLess s.toList t.toList = false := by assumption
    have h2 : (!s.toList == t.toList) = true := by assumption
    go_ret
    refine ⟨?_, hS⟩
    have h3 : (s.toList == t.toList) = false := by simpa using h2
    unfold cmpS ltS; rw [h, h3]; rfl
  · have h : Op.bytesLess s.toList t.toList = false := by assumption
    have h2 : (!s.toList == t.toList) = false := by assumption
    go_ret
    refine ⟨?_, hS⟩
    have h3 : (s.toList == t.toList) = true := by simpa using h2
    unfold cmpS ltS; rw [h, h3]; rfl
def orI (xs : List Int) : Int := (xs.find? fun x => decide (x ≠ 0)).getD 0
def OrI (B : Base) (R : HL) (xs : List Int) (i : Nat) (w : World) : Prop := i ≤ xs.length ∧ orI (xs.drop i) = orI xs ∧ Sh B R w
set_option maxRecDepth 100000 in
set_option maxHeartbeats 800000 in
theorem Or_any (hS : Sh B R w) {A : Option Addr} {cap : Nat} {xs : List Int} [r : RdAt (intE .i64) B R A xs] (hl : xs.length ≤ 1000) : Calls Tryz.prog 105 #[.slice A xs.length cap] w fun e w' => e = .returned (.int .i64 (orI xs)) ∧ Sh B R w' := by
  go_enter Tryz.func105, Tryz.ntmps105
  go_wp2
  refine wp_loopS [8] [2, 5, 9, 10, 11, 12, 13, 14, 15, 16] (fun i : Nat => [.int .i64 i]) (OrI B R xs) (fun i => xs.length - i) ((0 : Nat)) rfl (⟨Nat.zero_le _, rfl, hS⟩) ?_
  clear hS
  rintro i J w ⟨hi, hor, hS⟩
  have Hor := Lib.hid hor
  clear hor
  (simp only [Frm, setsT, junkT, List.setIfInBounds_toArray, List.set_cons_zero, List.set_cons_succ])
  by_cases hlt : i < xs.length
  · obtain ⟨x, gx⟩ := Nth.of hlt
    have hd := gx.drop
    by_cases hx : x = 0
    · have d1 : (x != 0) = false := by simp [hx]
      have HX := Lib.hid (show orI (xs.drop (i + 1)) = orI xs by rw [← Hor.out, hd]; subst hx; rfl)
      clear hd hx
      go_wp2_with (first | (refine wl_isld rfl ?_; ((first | refine wl_value rfl (ex_l0 hS rfl rfl rfl CellAt.out) ?_ | refine wl_value rfl (ex_lf hS rfl rfl rfl CellAt.out) ?_ | refine wl_value rfl (ex_l1 hS rfl rfl rfl CellAt.out) ?_ | refine wl_value rfl (ex_ldC hS rfl rfl CellAt.out) ?_ | refine wl_value rfl (ex_l0 hS rfl rfl rfl rfl) ?_ | refine wl_value rfl (ex_lf hS rfl rfl rfl rfl) ?_ | refine wl_value rfl (ex_l1 hS rfl rfl rfl rfl) ?_ | refine wl_value rfl (ex_ldC hS rfl rfl rfl) ?_ | refine wl_value rfl (ex_l00 hS rfl rfl CellAt.out) ?_ | refine wl_value rfl (ex_l00 hS rfl rfl rfl) ?_ | refine wl_value rfl (ex_l0f hS rfl rfl CellAt.out) ?_ | refine wl_value rfl (ex_l0f hS rfl rfl rfl) ?_ | refine wl_value rfl (ex_lr hS rfl rfl rfl rfl) ?_ | refine wl_value rfl (ex_lr0 hS rfl rfl rfl) ?_ | refine wl_value rfl (ex_lrz hS rfl rfl rfl) ?_ | refine wl_value rfl (ex_lrf hS rfl rfl rfl) ?_ | refine wl_value rfl (ex_ldrC hS rfl rfl) ?_ | refine wl_value rfl (ex_ldr0 hS rfl rfl rfl) ?_); (try simp only [Act.put, List.setIfInBounds_toArray, List.set_cons_zero, List.set_cons_succ]))) | ((first | refine wl_value rfl (ex_ix hS rfl rfl rfl ?_) ?_); (focus (first | rfl | omega | (simp; done))); (try simp only [Act.put, List.setIfInBounds_toArray, List.set_cons_zero, List.set_cons_succ])) | ((first | refine wl_value rfl (ex_eqA rfl rfl rfl) ?_ | refine wl_value rfl (ex_neA rfl rfl rfl) ?_); (try simp only [Act.put, List.setIfInBounds_toArray, List.set_cons_zero, List.set_cons_succ])) | (refine wl_alloc rfl rfl hS ?_; intro _ _ hS; (try simp only [Act.put, List.setIfInBounds_toArray, List.set_cons_zero, List.set_cons_succ])) | (refine wl_box rfl rfl rfl rfl hS ?_; intro _ _ hS; (try simp only [Act.put, List.setIfInBounds_toArray, List.set_cons_zero, List.set_cons_succ])) | (refine wl_st rfl rfl rfl rfl rfl hS (of_decide_eq_true rfl) ?_; intro _ hS; (try simp only [evT, evC, List.getD_cons_succ, List.getD_cons_zero, List.set_cons_zero, List.set_cons_succ] at hS); (try simp only [List.set_cons_zero, List.set_cons_succ] at hS); (try simp only [Act.put, List.setIfInBounds_toArray, List.set_cons_zero, List.set_cons_succ])) | (refine wl_strC rfl rfl rfl rfl hS rfl rfl ?_; intro _ hS; (try simp only [evT, evC, List.getD_cons_succ, List.getD_cons_zero, List.set_cons_zero, List.set_cons_succ] at hS); (try simp only [Act.put, List.setIfInBounds_toArray, List.set_cons_zero, List.set_cons_succ])))
      (refine ⟨((i + 1 : Nat)), (⟨hlt, HX.out, hS⟩), (by (try dsimp only); omega), rfl, (by (simp only [blankT, junkT, List.cons_append, List.nil_append, List.setIfInBounds_toArray, List.set_cons_zero, List.set_cons_succ])), rfl⟩)
    · have d1 : (x != 0) = true := bne_no hx
      have HX := Lib.hid (show orI xs = x by rw [← Hor.out, hd]; unfold orI; simp [hx])
      clear hd hx
      go_wp2_with (first | (refine wl_isld rfl ?_; ((first | refine wl_value rfl (ex_l0 hS rfl rfl rfl CellAt.out) ?_ | refine wl_value rfl (ex_lf hS rfl rfl rfl CellAt.out) ?_ | refine wl_value rfl (ex_l1 hS rfl rfl rfl CellAt.out) ?_ | refine wl_value rfl (ex_ldC hS rfl rfl CellAt.out) ?_ | refine wl_value rfl (ex_l0 hS rfl rfl rfl rfl) ?_ | refine wl_value rfl (ex_lf hS rfl rfl rfl rfl) ?_ | refine wl_value rfl (ex_l1 hS rfl rfl rfl rfl) ?_ | refine wl_value rfl (ex_ldC hS rfl rfl rfl) ?_ | refine wl_value rfl (ex_l00 hS rfl rfl CellAt.out) ?_ | refine wl_value rfl (ex_l00 hS rfl rfl rfl) ?_ | refine wl_value rfl (ex_l0f hS rfl rfl CellAt.out) ?_ | refine wl_value rfl (ex_l0f hS rfl rfl rfl) ?_ | refine wl_value rfl (ex_lr hS rfl rfl rfl rfl) ?_ | refine wl_value rfl (ex_lr0 hS rfl rfl rfl) ?_ | refine wl_value rfl (ex_lrz hS rfl rfl rfl) ?_ | refine wl_value rfl (ex_lrf hS rfl rfl rfl) ?_ | refine wl_value rfl (ex_ldrC hS rfl rfl) ?_ | refine wl_value rfl (ex_ldr0 hS rfl rfl rfl) ?_); (try simp only [Act.put, List.setIfInBounds_toArray, List.set_cons_zero, List.set_cons_succ]))) | ((first | refine wl_value rfl (ex_ix hS rfl rfl rfl ?_) ?_); (focus (first | rfl | omega | (simp; done))); (try simp only [Act.put, List.setIfInBounds_toArray, List.set_cons_zero, List.set_cons_succ])) | ((first | refine wl_value rfl (ex_eqA rfl rfl rfl) ?_ | refine wl_value rfl (ex_neA rfl rfl rfl) ?_); (try simp only [Act.put, List.setIfInBounds_toArray, List.set_cons_zero, List.set_cons_succ])) | (refine wl_alloc rfl rfl hS ?_; intro _ _ hS; (try simp only [Act.put, List.setIfInBounds_toArray, List.set_cons_zero, List.set_cons_succ])) | (refine wl_box rfl rfl rfl rfl hS ?_; intro _ _ hS; (try simp only [Act.put, List.setIfInBounds_toArray, List.set_cons_zero, List.set_cons_succ])) | (refine wl_st rfl rfl rfl rfl rfl hS (of_decide_eq_true rfl) ?_; intro _ hS; (try simp only [evT, evC, List.getD_cons_succ, List.getD_cons_zero, List.set_cons_zero, List.set_cons_succ] at hS); (try simp only [List.set_cons_zero, List.set_cons_succ] at hS); (try simp only [Act.put, List.setIfInBounds_toArray, List.set_cons_zero, List.set_cons_succ])) | (refine wl_strC rfl rfl rfl rfl hS rfl rfl ?_; intro _ hS; (try simp only [evT, evC, List.getD_cons_succ, List.getD_cons_zero, List.set_cons_zero, List.set_cons_succ] at hS); (try simp only [Act.put, List.setIfInBounds_toArray, List.set_cons_zero, List.set_cons_succ])))
      go_ret
      exact ⟨by rw [HX.out]; rfl, hS⟩
  · have HX := Lib.hid (show orI xs = 0 by rw [← Hor.out, List.drop_eq_nil_of_le (by omega)]; rfl)
    go_wp2_with (first | (refine wl_isld rfl ?_; ((first | refine wl_value rfl (ex_l0 hS rfl rfl rfl CellAt.out) ?_ | refine wl_value rfl (ex_lf hS rfl rfl rfl CellAt.out) ?_ | refine wl_value rfl (ex_l1 hS rfl rfl rfl CellAt.out) ?_ | refine wl_value rfl (ex_ldC hS rfl rfl CellAt.out) ?_ | refine wl_value rfl (ex_l0 hS rfl rfl rfl rfl) ?_ | refine wl_value rfl (ex_lf hS rfl rfl rfl rfl) ?_ | refine wl_value rfl (ex_l1 hS rfl rfl rfl rfl) ?_ | refine wl_value rfl (ex_ldC hS rfl rfl rfl) ?_ | refine wl_value rfl (ex_l00 hS rfl rfl CellAt.out) ?_ | refine wl_value rfl (ex_l00 hS rfl rfl rfl) ?_ | refine wl_value rfl (ex_l0f hS rfl rfl CellAt.out) ?_ | refine wl_value rfl (ex_l0f hS rfl rfl rfl) ?_ | refine wl_value rfl (ex_lr hS rfl rfl rfl rfl) ?_ | refine wl_value rfl (ex_lr0 hS rfl rfl rfl) ?_ | refine wl_value rfl (ex_lrz hS rfl rfl rfl) ?_ | refine wl_value rfl (ex_lrf hS rfl rfl rfl) ?_ | refine wl_value rfl (ex_ldrC hS rfl rfl) ?_ | refine wl_value rfl (ex_ldr0 hS rfl rfl rfl) ?_); (try simp only [Act.put, List.setIfInBounds_toArray, List.set_cons_zero, List.set_cons_succ]))) | ((first | refine wl_value rfl (ex_ix hS rfl rfl rfl ?_) ?_); (focus (first | rfl | omega | (simp; done))); (try simp only [Act.put, List.setIfInBounds_toArray, List.set_cons_zero, List.set_cons_succ])) | ((first | refine wl_value rfl (ex_eqA rfl rfl rfl) ?_ | refine wl_value rfl (ex_neA rfl rfl rfl) ?_); (try simp only [Act.put, List.setIfInBounds_toArray, List.set_cons_zero, List.set_cons_succ])) | (refine wl_alloc rfl rfl hS ?_; intro _ _ hS; (try simp only [Act.put, List.setIfInBounds_toArray, List.set_cons_zero, List.set_cons_succ])) | (refine wl_box rfl rfl rfl rfl hS ?_; intro _ _ hS; (try simp only [Act.put, List.setIfInBounds_toArray, List.set_cons_zero, List.set_cons_succ])) | (refine wl_st rfl rfl rfl rfl rfl hS (of_decide_eq_true rfl) ?_; intro _ hS; (try simp only [evT, evC, List.getD_cons_succ, List.getD_cons_zero, List.set_cons_zero, List.set_cons_succ] at hS); (try simp only [List.set_cons_zero, List.set_cons_succ] at hS); (try simp only [Act.put, List.setIfInBounds_toArray, List.set_cons_zero, List.set_cons_succ])) | (refine wl_strC rfl rfl rfl rfl hS rfl rfl ?_; intro _ hS; (try simp only [evT, evC, List.getD_cons_succ, List.getD_cons_zero, List.set_cons_zero, List.set_cons_succ] at hS); (try simp only [Act.put, List.setIfInBounds_toArray, List.set_cons_zero, List.set_cons_succ])))
    go_ret
    exact ⟨by rw [HX.out]; rfl, hS⟩
def CmpI (B : Base) (R : HL) (xs ys : List ByteArray) (i : Nat) (w : World) : Prop := i ≤ xs.length ∧ (i < xs.length → i ≤ ys.length) ∧ (i ≤ ys.length) ∧ cmpL (xs.drop i) (ys.drop i) = cmpL xs ys ∧ Sh B R w
set_option maxRecDepth 100000 in
set_option maxHeartbeats 800000 in
theorem CmpL_any (hS : Sh B R w) {A A2 : Option Addr} {cap cap2 : Nat} {xs ys : List ByteArray} [r : RdAt strE B R A xs] [r2 : RdAt strE B R A2 ys] (hl : xs.length ≤ 1000000) (hl2 : ys.length ≤ 1000000) :
    Calls Tryz.prog 94 #[.slice A xs.length cap, .slice A2 ys.length cap2] w fun e w' => e = .returned (.int .i64 (cmpL xs ys)) ∧ Sh B R w' := by
  go_enter Tryz.func94, Tryz.ntmps94
  go_wp2
  refine wp_loopS [11] [4, 5, 6, 7, 8, 12, 13, 14, 15, 16, 17, 18, 19, 20, 21, 22, 23, 24, 25, 26, 27, 28, 29, 30] (fun i : Nat => [.int .i64 i]) (CmpI B R xs ys) (fun i => xs.length - i) ((0 : Nat)) rfl (⟨Nat.zero_le _, fun _ => Nat.zero_le _, Nat.zero_le _, rfl, hS⟩) ?_
  clear hS
  rintro i J w ⟨hi, _, hi2, hor, hS⟩
  have Hor := Lib.hid hor
  clear hor
  (simp only [Frm, setsT, junkT, List.setIfInBounds_toArray, List.set_cons_zero, List.set_cons_succ])
  by_cases hlt : i < xs.length
  · obtain ⟨x, gx⟩ := Nth.of hlt
    have hd := gx.drop
    by_cases hlt2 : i < ys.length
    · obtain ⟨y, gy⟩ := Nth.of hlt2
      have hd2 := gy.drop
      have hc := fun (w : World) (R : HL) (hS : Sh B R w) => CmpS_any hS x y
      by_cases hx : cmpS x y = 0
      · have HX := Lib.hid (show cmpL (xs.drop (i + 1)) (ys.drop (i + 1)) = cmpL xs ys by rw [← Hor.out, hd, hd2]; conv => rhs; unfold cmpL; rw [if_pos hx])
        rw [hx] at hc
        clear hd hd2 hx
        go_wp2_with (first | (go_at_call 114; refine ((hc _ _ hS)).mono ?_; rintro e w' (⟨rfl, hS⟩)) | (refine wl_isld rfl ?_; ((first | refine wl_value rfl (ex_l0 hS rfl rfl rfl CellAt.out) ?_ | refine wl_value rfl (ex_lf hS rfl rfl rfl CellAt.out) ?_ | refine wl_value rfl (ex_l1 hS rfl rfl rfl CellAt.out) ?_ | refine wl_value rfl (ex_ldC hS rfl rfl CellAt.out) ?_ | refine wl_value rfl (ex_l0 hS rfl rfl rfl rfl) ?_ | refine wl_value rfl (ex_lf hS rfl rfl rfl rfl) ?_ | refine wl_value rfl (ex_l1 hS rfl rfl rfl rfl) ?_ | refine wl_value rfl (ex_ldC hS rfl rfl rfl) ?_ | refine wl_value rfl (ex_l00 hS rfl rfl CellAt.out) ?_ | refine wl_value rfl (ex_l00 hS rfl rfl rfl) ?_ | refine wl_value rfl (ex_l0f hS rfl rfl CellAt.out) ?_ | refine wl_value rfl (ex_l0f hS rfl rfl rfl) ?_ | refine wl_value rfl (ex_lr hS rfl rfl rfl rfl) ?_ | refine wl_value rfl (ex_lr0 hS rfl rfl rfl) ?_ | refine wl_value rfl (ex_lrz hS rfl rfl rfl) ?_ | refine wl_value rfl (ex_lrf hS rfl rfl rfl) ?_ | refine wl_value rfl (ex_ldrC hS rfl rfl) ?_ | refine wl_value rfl (ex_ldr0 hS rfl rfl rfl) ?_); (try simp only [Act.put, List.setIfInBounds_toArray, List.set_cons_zero, List.set_cons_succ]))) | ((first | refine wl_value rfl (ex_ix hS rfl rfl rfl ?_) ?_); (focus (first | rfl | omega | (simp; done))); (try simp only [Act.put, List.setIfInBounds_toArray, List.set_cons_zero, List.set_cons_succ])) | ((first | refine wl_value rfl (ex_eqA rfl rfl rfl) ?_ | refine wl_value rfl (ex_neA rfl rfl rfl) ?_); (try simp only [Act.put, List.setIfInBounds_toArray, List.set_cons_zero, List.set_cons_succ])) | (refine wl_alloc rfl rfl hS ?_; intro _ _ hS; (try simp only [Act.put, List.setIfInBounds_toArray, List.set_cons_zero, List.set_cons_succ])) | (refine wl_box rfl rfl rfl rfl hS ?_; intro _ _ hS; (try simp only [Act.put, List.setIfInBounds_toArray, List.set_cons_zero, List.set_cons_succ])) | (refine wl_st rfl rfl rfl rfl rfl hS (of_decide_eq_true rfl) ?_; intro _ hS; (try simp only [evT, evC, List.getD_cons_succ, List.getD_cons_zero, List.set_cons_zero, List.set_cons_succ] at hS); (try simp only [List.set_cons_zero, List.set_cons_succ] at hS); (try simp only [Act.put, List.setIfInBounds_toArray, List.set_cons_zero, List.set_cons_succ])) | (refine wl_strC rfl rfl rfl rfl hS rfl rfl ?_; intro _ hS; (try simp only [evT, evC, List.getD_cons_succ, List.getD_cons_zero, List.set_cons_zero, List.set_cons_succ] at hS); (try simp only [Act.put, List.setIfInBounds_toArray, List.set_cons_zero, List.set_cons_succ])))
        (refine ⟨((i + 1 : Nat)), (⟨hlt, fun _ => hlt2, hlt2, HX.out, hS⟩), (by (try dsimp only); omega), rfl, (by (simp only [blankT, junkT, List.cons_append, List.nil_append, List.setIfInBounds_toArray, List.set_cons_zero, List.set_cons_succ])), rfl⟩)
      · have HX := Lib.hid (show cmpL xs ys = cmpS x y by rw [← Hor.out, hd, hd2]; conv => lhs; unfold cmpL; rw [if_neg hx])
        have d1 : (cmpS x y != 0) = true := bne_no hx
        clear hd hd2 hx
        go_wp2_with (first | (go_at_call 114; refine ((hc _ _ hS)).mono ?_; rintro e w' (⟨rfl, hS⟩)) | (refine wl_isld rfl ?_; ((first | refine wl_value rfl (ex_l0 hS rfl rfl rfl CellAt.out) ?_ | refine wl_value rfl (ex_lf hS rfl rfl rfl CellAt.out) ?_ | refine wl_value rfl (ex_l1 hS rfl rfl rfl CellAt.out) ?_ | refine wl_value rfl (ex_ldC hS rfl rfl CellAt.out) ?_ | refine wl_value rfl (ex_l0 hS rfl rfl rfl rfl) ?_ | refine wl_value rfl (ex_lf hS rfl rfl rfl rfl) ?_ | refine wl_value rfl (ex_l1 hS rfl rfl rfl rfl) ?_ | refine wl_value rfl (ex_ldC hS rfl rfl rfl) ?_ | refine wl_value rfl (ex_l00 hS rfl rfl CellAt.out) ?_ | refine wl_value rfl (ex_l00 hS rfl rfl rfl) ?_ | refine wl_value rfl (ex_l0f hS rfl rfl CellAt.out) ?_ | refine wl_value rfl (ex_l0f hS rfl rfl rfl) ?_ | refine wl_value rfl (ex_lr hS rfl rfl rfl rfl) ?_ | refine wl_value rfl (ex_lr0 hS rfl rfl rfl) ?_ | refine wl_value rfl (ex_lrz hS rfl rfl rfl) ?_ | refine wl_value rfl (ex_lrf hS rfl rfl rfl) ?_ | refine wl_value rfl (ex_ldrC hS rfl rfl) ?_ | refine wl_value rfl (ex_ldr0 hS rfl rfl rfl) ?_); (try simp only [Act.put, List.setIfInBounds_toArray, List.set_cons_zero, List.set_cons_succ]))) | ((first | refine wl_value rfl (ex_ix hS rfl rfl rfl ?_) ?_); (focus (first | rfl | omega | (simp; done))); (try simp only [Act.put, List.setIfInBounds_toArray, List.set_cons_zero, List.set_cons_succ])) | ((first | refine wl_value rfl (ex_eqA rfl rfl rfl) ?_ | refine wl_value rfl (ex_neA rfl rfl rfl) ?_); (try simp only [Act.put, List.setIfInBounds_toArray, List.set_cons_zero, List.set_cons_succ])) | (refine wl_alloc rfl rfl hS ?_; intro _ _ hS; (try simp only [Act.put, List.setIfInBounds_toArray, List.set_cons_zero, List.set_cons_succ])) | (refine wl_box rfl rfl rfl rfl hS ?_; intro _ _ hS; (try simp only [Act.put, List.setIfInBounds_toArray, List.set_cons_zero, List.set_cons_succ])) | (refine wl_st rfl rfl rfl rfl rfl hS (of_decide_eq_true rfl) ?_; intro _ hS; (try simp only [evT, evC, List.getD_cons_succ, List.getD_cons_zero, List.set_cons_zero, List.set_cons_succ] at hS); (try simp only [List.set_cons_zero, List.set_cons_succ] at hS); (try simp only [Act.put, List.setIfInBounds_toArray, List.set_cons_zero, List.set_cons_succ])) | (refine wl_strC rfl rfl rfl rfl hS rfl rfl ?_; intro _ hS; (try simp only [evT, evC, List.getD_cons_succ, List.getD_cons_zero, List.set_cons_zero, List.set_cons_succ] at hS); (try simp only [Act.put, List.setIfInBounds_toArray, List.set_cons_zero, List.set_cons_succ])))
        go_ret
        exact ⟨by rw [HX.out]; rfl, hS⟩
    · have HX := Lib.hid (show cmpL xs ys = 1 by rw [← Hor.out, hd, List.drop_eq_nil_of_le (by omega : ys.length ≤ i)]; rfl)
      clear hd
      go_wp2_with (first | (refine wl_isld rfl ?_; ((first | refine wl_value rfl (ex_l0 hS rfl rfl rfl CellAt.out) ?_ | refine wl_value rfl (ex_lf hS rfl rfl rfl CellAt.out) ?_ | refine wl_value rfl (ex_l1 hS rfl rfl rfl CellAt.out) ?_ | refine wl_value rfl (ex_ldC hS rfl rfl CellAt.out) ?_ | refine wl_value rfl (ex_l0 hS rfl rfl rfl rfl) ?_ | refine wl_value rfl (ex_lf hS rfl rfl rfl rfl) ?_ | refine wl_value rfl (ex_l1 hS rfl rfl rfl rfl) ?_ | refine wl_value rfl (ex_ldC hS rfl rfl rfl) ?_ | refine wl_value rfl (ex_l00 hS rfl rfl CellAt.out) ?_ | refine wl_value rfl (ex_l00 hS rfl rfl rfl) ?_ | refine wl_value rfl (ex_l0f hS rfl rfl CellAt.out) ?_ | refine wl_value rfl (ex_l0f hS rfl rfl rfl) ?_ | refine wl_value rfl (ex_lr hS rfl rfl rfl rfl) ?_ | refine wl_value rfl (ex_lr0 hS rfl rfl rfl) ?_ | refine wl_value rfl (ex_lrz hS rfl rfl rfl) ?_ | refine wl_value rfl (ex_lrf hS rfl rfl rfl) ?_ | refine wl_value rfl (ex_ldrC hS rfl rfl) ?_ | refine wl_value rfl (ex_ldr0 hS rfl rfl rfl) ?_); (try simp only [Act.put, List.setIfInBounds_toArray, List.set_cons_zero, List.set_cons_succ]))) | ((first | refine wl_value rfl (ex_ix hS rfl rfl rfl ?_) ?_); (focus (first | rfl | omega | (simp; done))); (try simp only [Act.put, List.setIfInBounds_toArray, List.set_cons_zero, List.set_cons_succ])) | ((first | refine wl_value rfl (ex_eqA rfl rfl rfl) ?_ | refine wl_value rfl (ex_neA rfl rfl rfl) ?_); (try simp only [Act.put, List.setIfInBounds_toArray, List.set_cons_zero, List.set_cons_succ])) | (refine wl_alloc rfl rfl hS ?_; intro _ _ hS; (try simp only [Act.put, List.setIfInBounds_toArray, List.set_cons_zero, List.set_cons_succ])) | (refine wl_box rfl rfl rfl rfl hS ?_; intro _ _ hS; (try simp only [Act.put, List.setIfInBounds_toArray, List.set_cons_zero, List.set_cons_succ])) | (refine wl_st rfl rfl rfl rfl rfl hS (of_decide_eq_true rfl) ?_; intro _ hS; (try simp only [evT, evC, List.getD_cons_succ, List.getD_cons_zero, List.set_cons_zero, List.set_cons_succ] at hS); (try simp only [List.set_cons_zero, List.set_cons_succ] at hS); (try simp only [Act.put, List.setIfInBounds_toArray, List.set_cons_zero, List.set_cons_succ])) | (refine wl_strC rfl rfl rfl rfl hS rfl rfl ?_; intro _ hS; (try simp only [evT, evC, List.getD_cons_succ, List.getD_cons_zero, List.set_cons_zero, List.set_cons_succ] at hS); (try simp only [Act.put, List.setIfInBounds_toArray, List.set_cons_zero, List.set_cons_succ])))
      go_ret
      exact ⟨by rw [HX.out]; rfl, hS⟩
  · by_cases hlt2 : xs.length < ys.length
    · have HX := Lib.hid (show cmpL xs ys = -1 by
        rw [← Hor.out, List.drop_eq_nil_of_le (by omega : xs.length ≤ i)]
        have : i < ys.length := by omega
        obtain ⟨y, gy⟩ := Nth.of this
        rw [gy.drop]; rfl)
      have d1 : decide ((xs.length : Int) < (ys.length : Int)) = true := decide_eq_true (by omega)
      have d2 : decide (xs.length < ys.length) = true := decide_eq_true hlt2
      go_wp2_with (first | (refine wl_isld rfl ?_; ((first | refine wl_value rfl (ex_l0 hS rfl rfl rfl CellAt.out) ?_ | refine wl_value rfl (ex_lf hS rfl rfl rfl CellAt.out) ?_ | refine wl_value rfl (ex_l1 hS rfl rfl rfl CellAt.out) ?_ | refine wl_value rfl (ex_ldC hS rfl rfl CellAt.out) ?_ | refine wl_value rfl (ex_l0 hS rfl rfl rfl rfl) ?_ | refine wl_value rfl (ex_lf hS rfl rfl rfl rfl) ?_ | refine wl_value rfl (ex_l1 hS rfl rfl rfl rfl) ?_ | refine wl_value rfl (ex_ldC hS rfl rfl rfl) ?_ | refine wl_value rfl (ex_l00 hS rfl rfl CellAt.out) ?_ | refine wl_value rfl (ex_l00 hS rfl rfl rfl) ?_ | refine wl_value rfl (ex_l0f hS rfl rfl CellAt.out) ?_ | refine wl_value rfl (ex_l0f hS rfl rfl rfl) ?_ | refine wl_value rfl (ex_lr hS rfl rfl rfl rfl) ?_ | refine wl_value rfl (ex_lr0 hS rfl rfl rfl) ?_ | refine wl_value rfl (ex_lrz hS rfl rfl rfl) ?_ | refine wl_value rfl (ex_lrf hS rfl rfl rfl) ?_ | refine wl_value rfl (ex_ldrC hS rfl rfl) ?_ | refine wl_value rfl (ex_ldr0 hS rfl rfl rfl) ?_); (try simp only [Act.put, List.setIfInBounds_toArray, List.set_cons_zero, List.set_cons_succ]))) | ((first | refine wl_value rfl (ex_ix hS rfl rfl rfl ?_) ?_); (focus (first | rfl | omega | (simp; done))); (try simp only [Act.put, List.setIfInBounds_toArray, List.set_cons_zero, List.set_cons_succ])) | ((first | refine wl_value rfl (ex_eqA rfl rfl rfl) ?_ | refine wl_value rfl (ex_neA rfl rfl rfl) ?_); (try simp only [Act.put, List.setIfInBounds_toArray, List.set_cons_zero, List.set_cons_succ])) | (refine wl_alloc rfl rfl hS ?_; intro _ _ hS; (try simp only [Act.put, List.setIfInBounds_toArray, List.set_cons_zero, List.set_cons_succ])) | (refine wl_box rfl rfl rfl rfl hS ?_; intro _ _ hS; (try simp only [Act.put, List.setIfInBounds_toArray, List.set_cons_zero, List.set_cons_succ])) | (refine wl_st rfl rfl rfl rfl rfl hS (of_decide_eq_true rfl) ?_; intro _ hS; (try simp only [evT, evC, List.getD_cons_succ, List.getD_cons_zero, List.set_cons_zero, List.set_cons_succ] at hS); (try simp only [List.set_cons_zero, List.set_cons_succ] at hS); (try simp only [Act.put, List.setIfInBounds_toArray, List.set_cons_zero, List.set_cons_succ])) | (refine wl_strC rfl rfl rfl rfl hS rfl rfl ?_; intro _ hS; (try simp only [evT, evC, List.getD_cons_succ, List.getD_cons_zero, List.set_cons_zero, List.set_cons_succ] at hS); (try simp only [Act.put, List.setIfInBounds_toArray, List.set_cons_zero, List.set_cons_succ])))
      go_ret
      exact ⟨by rw [HX.out]; rfl, hS⟩
    · have HX := Lib.hid (show cmpL xs ys = 0 by rw [← Hor.out, List.drop_eq_nil_of_le (by omega : xs.length ≤ i), List.drop_eq_nil_of_le (by omega : ys.length ≤ i)]; rfl)
      have d1 : decide ((xs.length : Int) < (ys.length : Int)) = false := decide_eq_false (by omega)
      have d2 : decide (xs.length < ys.length) = false := decide_eq_false hlt2
      go_wp2_with (first | (refine wl_isld rfl ?_; ((first | refine wl_value rfl (ex_l0 hS rfl rfl rfl CellAt.out) ?_ | refine wl_value rfl (ex_lf hS rfl rfl rfl CellAt.out) ?_ | refine wl_value rfl (ex_l1 hS rfl rfl rfl CellAt.out) ?_ | refine wl_value rfl (ex_ldC hS rfl rfl CellAt.out) ?_ | refine wl_value rfl (ex_l0 hS rfl rfl rfl rfl) ?_ | refine wl_value rfl (ex_lf hS rfl rfl rfl rfl) ?_ | refine wl_value rfl (ex_l1 hS rfl rfl rfl rfl) ?_ | refine wl_value rfl (ex_ldC hS rfl rfl rfl) ?_ | refine wl_value rfl (ex_l00 hS rfl rfl CellAt.out) ?_ | refine wl_value rfl (ex_l00 hS rfl rfl rfl) ?_ | refine wl_value rfl (ex_l0f hS rfl rfl CellAt.out) ?_ | refine wl_value rfl (ex_l0f hS rfl rfl rfl) ?_ | refine wl_value rfl (ex_lr hS rfl rfl rfl rfl) ?_ | refine wl_value rfl (ex_lr0 hS rfl rfl rfl) ?_ | refine wl_value rfl (ex_lrz hS rfl rfl rfl) ?_ | refine wl_value rfl (ex_lrf hS rfl rfl rfl) ?_ | refine wl_value rfl (ex_ldrC hS rfl rfl) ?_ | refine wl_value rfl (ex_ldr0 hS rfl rfl rfl) ?_); (try simp only [Act.put, List.setIfInBounds_toArray, List.set_cons_zero, List.set_cons_succ]))) | ((first | refine wl_value rfl (ex_ix hS rfl rfl rfl ?_) ?_); (focus (first | rfl | omega | (simp; done))); (try simp only [Act.put, List.setIfInBounds_toArray, List.set_cons_zero, List.set_cons_succ])) | ((first | refine wl_value rfl (ex_eqA rfl rfl rfl) ?_ | refine wl_value rfl (ex_neA rfl rfl rfl) ?_); (try simp only [Act.put, List.setIfInBounds_toArray, List.set_cons_zero, List.set_cons_succ])) | (refine wl_alloc rfl rfl hS ?_; intro _ _ hS; (try simp only [Act.put, List.setIfInBounds_toArray, List.set_cons_zero, List.set_cons_succ])) | (refine wl_box rfl rfl rfl rfl hS ?_; intro _ _ hS; (try simp only [Act.put, List.setIfInBounds_toArray, List.set_cons_zero, List.set_cons_succ])) | (refine wl_st rfl rfl rfl rfl rfl hS (of_decide_eq_true rfl) ?_; intro _ hS; (try simp only [evT, evC, List.getD_cons_succ, List.getD_cons_zero, List.set_cons_zero, List.set_cons_succ] at hS); (try simp only [List.set_cons_zero, List.set_cons_succ] at hS); (try simp only [Act.put, List.setIfInBounds_toArray, List.set_cons_zero, List.set_cons_succ])) | (refine wl_strC rfl rfl rfl rfl hS rfl rfl ?_; intro _ hS; (try simp only [evT, evC, List.getD_cons_succ, List.getD_cons_zero, List.set_cons_zero, List.set_cons_succ] at hS); (try simp only [Act.put, List.setIfInBounds_toArray, List.set_cons_zero, List.set_cons_succ])))
      go_ret
      exact ⟨by rw [HX.out]; rfl, hS⟩
end
end Go.Tk

set_option linter.unusedSectionVars false
set_option linter.unusedSimpArgs false
set_option linter.unusedVariables false
namespace Go.Tk
open Go.RowKit Go.Proofs

theorem join_splitL : ∀ (s : List UInt8), Lib.join (splitL s) [47] = s
  | [] => by simp [splitL, Lib.join_one]
  | c :: t => by
    have ih := join_splitL t
    unfold splitL
    by_cases hc : c = 47
    · subst hc
      rw [if_pos rfl, Lib.join_cons, List.nil_append]
      cases hs : splitL t with
      | nil => exact absurd hs (splitL_ne t)
      | cons h r =>
        rw [hs, Lib.join_cons] at ih
        simp only [Lib.joinTail, List.map_cons, List.flatten_cons] at ih ⊢
        rw [List.cons_append, List.nil_append, List.cons_append, ih]
    · rw [if_neg hc]
      cases hs : splitL t with
      | nil => exact absurd hs (splitL_ne t)
      | cons h r =>
        rw [hs, Lib.join_cons] at ih
        show Lib.join ((c :: h) :: r) [47] = c :: t
        rw [Lib.join_cons, List.cons_append, ih]
theorem joinB_pieces (s : ByteArray) : joinB (piecesB s) = s := by
  unfold joinB piecesB
  rw [List.map_map, show ((fun x : ByteArray => x.data.toList) ∘ mkB) = id from funext fun l => rfl, List.map_id, join_splitL, mkB_data]
theorem join_append_le (a b : List (List UInt8)) : (Lib.join a [47]).length ≤ (Lib.join (a ++ b) [47]).length := by
  cases a with
  | nil => simp [Lib.join_nil]
  | cons x r =>
    rw [List.cons_append, Lib.join_cons, Lib.join_cons]
    simp [Lib.joinTail]
theorem joinB_take_le (l : List ByteArray) (n : Nat) : (joinB (l.take n)).size ≤ (joinB l).size := by
  unfold joinB
  rw [ba_size, ba_size]
  show (Lib.join ((l.take n).map _) [47]).length ≤ (Lib.join (l.map _) [47]).length
  conv => rhs; rw [← List.take_append_drop n l, List.map_append]
  exact join_append_le _ _
theorem namesL_join {s : ByteArray} {l : List ByteArray} (h : namesB s = some l) : joinB l = s ∧ (l = [] ↔ s.size = 0) := by
  unfold namesB at h
  split at h
  · rename_i h0
    simp only [Option.some.injEq] at h
    subst h
    refine ⟨?_, by simp [h0]⟩
    apply ba_ext
    rw [ba_size] at h0
    rw [List.eq_nil_of_length_eq_zero h0]
    rfl
  · rename_i h0
    split at h
    · cases h
    · split at h
      · simp only [Option.some.injEq] at h
        subst h
        refine ⟨joinB_pieces s, ?_⟩
        have : piecesB s ≠ [] := by
          intro h
          have := pieces_length s
          rw [h] at this
          simp at this
        simp [this, h0]
      · cases h
section
variable {B : Base} {R H H1 : HL} {w w' : World}
theorem or_errB (a b : ByteArray) : orI [errN a, errN b] = errB a b := by
  unfold errN errB orI
  cases (namesB a).isSome <;> cases (namesB b).isSome <;> rfl
theorem errB_0 {a b : ByteArray} (h : errB a b = 0) : ∃ x y, namesB a = some x ∧ namesB b = some y := by
  unfold errB at h
  cases ha : namesB a with
  | none => rw [ha] at h; simp at h
  | some x =>
    cases hb : namesB b with
    | none => rw [ha, hb] at h; simp at h
    | some y => exact ⟨x, y, rfl, rfl⟩
theorem errB_ne {a b : ByteArray} (h : errB a b ≠ 0) : aboveB a b = false ∧ lessI a b = 0 := by
  unfold errB at h
  unfold aboveB lessI
  cases ha : namesB a with
  | none => exact ⟨rfl, rfl⟩
  | some x =>
    cases hb : namesB b with
    | none => exact ⟨rfl, rfl⟩
    | some y => rw [ha, hb] at h; simp at h
def BothP (B : Base) (R : HL) (a b : ByteArray) (e : Ending) (w' : World) : Prop :=
  ∃ A c A2 c2, e = .returned (.tuple #[.slice A (namesL a).length c, .slice A2 (namesL b).length c2, .int .i64 (errB a b)]) ∧ OwnSl strE A (namesL a) [] c ∧ OwnSl strE A2 (namesL b) [] c2 ∧
    Sh B (rowA A2 (flat strE (namesL b) ++ []) 9 ++ (rowA A (flat strE (namesL a) ++ []) 9 ++ R)) w'
set_option maxRecDepth 100000 in
set_option maxHeartbeats 800000 in
theorem both_any [HasML B] (hS : Sh B R w) (a b : ByteArray) (ha : a.size ≤ 16777216) (hb : b.size ≤ 16777216) : Calls Tryz.prog 78 #[.string a, .string b] w (BothP B R a b) := by
  have h1 := fun (w : World) (R : HL) (hS : Sh B R w) => Names_any hS a ha
  have h2 := fun (w : World) (R : HL) (hS : Sh B R w) => Names_any hS b hb
  have h3 := fun (w : World) (R : HL) (A : Option Addr) (cap : Nat) (hS : Sh B R w) (r : RdAt (intE .i64) B R A [errN a, errN b]) => Or_any hS (A := A) (cap := cap) (xs := [errN a, errN b]) (by simp) (r := r)
  rw [or_errB] at h3
  go_enter Tryz.func78, Tryz.ntmps78
  go_wp2_with fail
  refine (h1 _ _ hS).mono ?_
  rintro e w' ⟨A, c, rfl, hO, hS⟩
  dsimp only
  go_wp2_with fail
  refine (h2 _ _ hS).mono ?_
  rintro e w' ⟨A2, c2, rfl, hO2, hS⟩
  dsimp only
  go_wp2_with (first | (refine wl_buildSlice (E := (intE .i64)) ([errN a, errN b]) rfl rfl (by simp only [List.map_toArray, List.map_cons, List.map_nil]; rfl) rfl (by decide) (by decide) hS ?_; intro _ _ hS hN; (try simp only [Act.put, List.setIfInBounds_toArray, List.set_cons_zero, List.set_cons_succ])) | (go_at_call 105; refine ((h3 _ _ _ _ hS inferInstance)).mono ?_; rintro e w' (⟨rfl, hS⟩)) | (refine wl_isld rfl ?_; ((first | refine wl_value rfl (ex_l0 hS rfl rfl rfl CellAt.out) ?_ | refine wl_value rfl (ex_lf hS rfl rfl rfl CellAt.out) ?_ | refine wl_value rfl (ex_l1 hS rfl rfl rfl CellAt.out) ?_ | refine wl_value rfl (ex_ldC hS rfl rfl CellAt.out) ?_ | refine wl_value rfl (ex_l0 hS rfl rfl rfl rfl) ?_ | refine wl_value rfl (ex_lf hS rfl rfl rfl rfl) ?_ | refine wl_value rfl (ex_l1 hS rfl rfl rfl rfl) ?_ | refine wl_value rfl (ex_ldC hS rfl rfl rfl) ?_ | refine wl_value rfl (ex_l00 hS rfl rfl CellAt.out) ?_ | refine wl_value rfl (ex_l00 hS rfl rfl rfl) ?_ | refine wl_value rfl (ex_l0f hS rfl rfl CellAt.out) ?_ | refine wl_value rfl (ex_l0f hS rfl rfl rfl) ?_ | refine wl_value rfl (ex_lr hS rfl rfl rfl rfl) ?_ | refine wl_value rfl (ex_lr0 hS rfl rfl rfl) ?_ | refine wl_value rfl (ex_lrz hS rfl rfl rfl) ?_ | refine wl_value rfl (ex_lrf hS rfl rfl rfl) ?_ | refine wl_value rfl (ex_ldrC hS rfl rfl) ?_ | refine wl_value rfl (ex_ldr0 hS rfl rfl rfl) ?_); (try simp only [Act.put, List.setIfInBounds_toArray, List.set_cons_zero, List.set_cons_succ]))) | ((first | refine wl_value rfl (ex_ix hS rfl rfl rfl ?_) ?_); (focus (first | rfl | omega | (simp; done))); (try simp only [Act.put, List.setIfInBounds_toArray, List.set_cons_zero, List.set_cons_succ])) | ((first | refine wl_value rfl (ex_eqA rfl rfl rfl) ?_ | refine wl_value rfl (ex_neA rfl rfl rfl) ?_); (try simp only [Act.put, List.setIfInBounds_toArray, List.set_cons_zero, List.set_cons_succ])) | (refine wl_alloc rfl rfl hS ?_; intro _ _ hS; (try simp only [Act.put, List.setIfInBounds_toArray, List.set_cons_zero, List.set_cons_succ])) | (refine wl_box rfl rfl rfl rfl hS ?_; intro _ _ hS; (try simp only [Act.put, List.setIfInBounds_toArray, List.set_cons_zero, List.set_cons_succ])) | (refine wl_st rfl rfl rfl rfl rfl hS (of_decide_eq_true rfl) ?_; intro _ hS; (try simp only [evT, evC, List.getD_cons_succ, List.getD_cons_zero, List.set_cons_zero, List.set_cons_succ] at hS); (try simp only [List.set_cons_zero, List.set_cons_succ] at hS); (try simp only [Act.put, List.setIfInBounds_toArray, List.set_cons_zero, List.set_cons_succ])) | (refine wl_strC rfl rfl rfl rfl hS rfl rfl ?_; intro _ hS; (try simp only [evT, evC, List.getD_cons_succ, List.getD_cons_zero, List.set_cons_zero, List.set_cons_succ] at hS); (try simp only [Act.put, List.setIfInBounds_toArray, List.set_cons_zero, List.set_cons_succ])))
  refine bodyPost_res (rs := ([.tmp 4, .tmp 5, .tmp 6])) rfl ((.tmp (.tmp (.tmp .nil)))) rfl ?_
  exact ⟨A, c, A2, c2, rfl, hO, hO2, hS.to⟩
theorem EqS_any (hS : Sh B R w) {A A2 : Option Addr} {cap cap2 : Nat} {xs ys : List ByteArray} [r : RdAt strE B R A xs] [r2 : RdAt strE B R A2 ys] :
    Calls Tryz.prog 79 #[.slice A xs.length cap, .slice A2 ys.length cap2] w fun e w' => e = .returned (.bool (decide (xs = ys))) ∧ Sh B R w' := by
  by_cases hl : xs.length = ys.length
  · cases hx : xs with
    | nil =>
      have hy : ys = [] := by rw [hx] at hl; exact List.eq_nil_of_length_eq_zero hl.symm
      subst hy
      refine (Tryz.slices_Equal_string_empty A A2 cap 0 cap2 w (by decide)).mono fun e w' h => ⟨by rw [h.1]; rfl, by rw [h.2]; exact hS⟩
    | cons x0 xr =>
      rw [← hx]
      have h0 : 0 < xs.length := by rw [hx]; simp
      have hA := r.ok.form h0
      have hA2 := r2.ok.form (by omega)
      rw [hA, hA2]
      have g : ∀ (zs : List ByteArray) (Z : Option Addr) (rz : RdAt strE B R Z zs) j, j < zs.length → w.cell? ⟨blkA Z, offA Z + j, none⟩ = some (.string (zs.getD j ByteArray.empty)) := by
        intro zs Z rz j hj
        have hz : zs[j]? = some zs[j] := List.getElem?_eq_getElem hj
        have := rz.f1 hS rfl hz (v := .string zs[j]) rfl
        rw [this, List.getD_eq_getElem?_getD, hz]; rfl
      refine (Tryz.slices_Equal_string (blkA A) (offA A) xs.length cap (blkA A2) (offA A2) ys.length cap2 xs ys w (Nat.le_refl _) (Nat.le_refl _) r.max r2.max (g xs A r) (g ys A2 r2)).mono fun e w' h => ⟨by rw [h.1, List.take_length, List.take_length], ?_⟩
      obtain ⟨q, hq⟩ := h.2
      rw [hq]; exact hS.drewN q
  · refine (Tryz.slices_Equal_string_lens A A2 xs.length cap ys.length cap2 w hl).mono fun e w' h => ⟨?_, by rw [h.2]; exact hS⟩
    rw [h.1, decide_eq_false]
    intro h; exact hl (by rw [h])
theorem Join_any [NoDraw B] (hS : Sh B R w) {A : Option Addr} {cap : Nat} {xs : List ByteArray} [r : RdAt strE B R A xs] (hc : xs.length ≤ cap) (hl : xs.length ≤ 16777216) (hj : (joinB xs).size ≤ 16777216) :
    Calls Tryz.prog 66 #[.slice A xs.length cap, .string slash] w fun e w' => e = .returned (.string (joinB xs)) ∧ Sh B R w' := by
  cases hx : xs with
  | nil => exact (Tryz.strings_Join_none A cap slash w).mono fun e w' h => ⟨by rw [h.1]; rfl, by rw [h.2]; exact hS⟩
  | cons x0 xr =>
    rw [← hx]
    have h0 : 0 < xs.length := by rw [hx]; simp
    rw [r.ok.form h0]
    have hcell : ∀ (j : Nat) x, xs[j]? = some x → w.cell? ⟨blkA A, offA A + j, none⟩ = some (.string x) := fun j x hx => r.f1 hS rfl hx rfl
    have hbk : blkA A < w.heap.size := by
      have := hcell 0 x0 (by rw [hx]; rfl)
      unfold World.cell? at this
      split at this
      · rename_i hh
        exact (Array.getElem?_eq_some_iff.1 hh).1
      all_goals simp_all
    have hj' : (Lib.join (xs.map (·.data.toList)) slash.data.toList).length ≤ 140737488355328 := by
      have : (Lib.join (xs.map (·.data.toList)) [47]).length ≤ 16777216 := hj
      exact Nat.le_trans this (by decide)
    refine (Tryz.strings_Join (blkA A) (offA A) cap xs slash w hcell hbk (by omega) hc hj').mono fun e w' h => ⟨by rw [h.1]; rfl, hS.ofBelow h.2⟩
end
end Go.Tk
