/-
  DERIVED. GIVEN WITH THE SEED: THE CARDS: each row of YtclmemhginekbaaGreatDoorRows.lean that lists a variable, with what it lists TIED to the program's text (the seventh form; the later family's looks); each row that meets fmt, with fmt's text TOLD by the authors' own Lean function (tested against real Go, not proved from fmt's source: count such statements apart). THE CARD IS WHAT COUNTS. Prove the row's statement (the work); the ties are given (YtclmemhginekbaaGreatDoorTie.lean); close each card by the builder's one call (the guide's Derived/Test/ToyasCard.lean, 'card_holds'). Laid BY PROGRAM, IN A SANDBOX (cutbox-door.mjs). By AI agents, Wed Nov 11 2026. No macro, syntax, notation, axiom, sorry.
-/
import Derived.Test.YtclmemhginekbaaGreatDoorRows
import GoSem.ClaimSeven
namespace Go.Proofs.YtclmemhginekbaaGreatDoor
namespace Rows

/-- THE TIED CARD OF 'treadlelaw05.TreeOwn'. -/
def treeOwnCard : Claim7 := { stood := { row := treeOwnRow, standIns := [], harness := (true, "eaeba90aa5186707c2b0596e4729f88b27717a17ecdba1b65a4cb4c303bda7b4"), looks := false }, kinds := [], alts := [], laidByText := true, laidKinds := [.data, .pinned], laidTests := true, laidLooks := .later }
def TreeOwnCardSaid : Prop := Claim7.holds Tryz.pinned (.plain (OpenSpec.ofChange treeOwnSpec)) treeOwnCard

/-- THE TIED CARD OF 'treadlelaw05.TreeEdits'. -/
def treeEditsCard : Claim7 := { stood := { row := treeEditsRow, standIns := [], harness := (true, "eaeba90aa5186707c2b0596e4729f88b27717a17ecdba1b65a4cb4c303bda7b4"), looks := false }, kinds := [], alts := [], laidByText := true, laidKinds := [.data, .pinned], laidTests := true, laidLooks := .later }
def TreeEditsCardSaid : Prop := Claim7.holds Tryz.pinned (.plain (OpenSpec.ofChange treeEditsSpec)) treeEditsCard

/-- THE TIED CARD OF 'treadlelaw05.TreeFinds'. -/
def treeFindsCard : Claim7 := { stood := { row := treeFindsRow, standIns := [], harness := (true, "eaeba90aa5186707c2b0596e4729f88b27717a17ecdba1b65a4cb4c303bda7b4"), looks := false }, kinds := [], alts := [], laidByText := true, laidKinds := [.data, .pinned], laidTests := true, laidLooks := .later }
def TreeFindsCardSaid : Prop := Claim7.holds Tryz.pinned (.plain (OpenSpec.ofChange treeFindsSpec)) treeFindsCard

/-- THE SECOND FORM's CARD OF 'treadlelaw05.TreeOwn'. -/
def treeOwnUptoCard : Claim7 := { stood := { row := treeOwnUptoRow, standIns := [], harness := (true, "eaeba90aa5186707c2b0596e4729f88b27717a17ecdba1b65a4cb4c303bda7b4"), looks := false }, kinds := [], alts := [], laidByText := true, laidKinds := [.data, .pinned], laidTests := true, laidLooks := .later }
def TreeOwnUptoCardSaid : Prop := Claim7.holds Tryz.pinned (.plain (OpenSpec.upto treeOwnSpec)) treeOwnUptoCard

/-- THE SECOND FORM's CARD OF 'treadlelaw05.TreeEdits'. -/
def treeEditsUptoCard : Claim7 := { stood := { row := treeEditsUptoRow, standIns := [], harness := (true, "eaeba90aa5186707c2b0596e4729f88b27717a17ecdba1b65a4cb4c303bda7b4"), looks := false }, kinds := [], alts := [], laidByText := true, laidKinds := [.data, .pinned], laidTests := true, laidLooks := .later }
def TreeEditsUptoCardSaid : Prop := Claim7.holds Tryz.pinned (.plain (OpenSpec.upto treeEditsSpec)) treeEditsUptoCard

/-- THE SECOND FORM's CARD OF 'treadlelaw05.TreeFinds'. -/
def treeFindsUptoCard : Claim7 := { stood := { row := treeFindsUptoRow, standIns := [], harness := (true, "eaeba90aa5186707c2b0596e4729f88b27717a17ecdba1b65a4cb4c303bda7b4"), looks := false }, kinds := [], alts := [], laidByText := true, laidKinds := [.data, .pinned], laidTests := true, laidLooks := .later }
def TreeFindsUptoCardSaid : Prop := Claim7.holds Tryz.pinned (.plain (OpenSpec.upto treeFindsSpec)) treeFindsUptoCard
end Rows
end Go.Proofs.YtclmemhginekbaaGreatDoor
