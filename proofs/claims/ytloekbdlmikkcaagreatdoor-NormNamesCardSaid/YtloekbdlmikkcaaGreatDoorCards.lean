/-
  DERIVED. GIVEN WITH THE SEED: THE CARDS: each row of YtloekbdlmikkcaaGreatDoorRows.lean that lists a variable, with what it lists TIED to the program's text (the seventh form; the later family's looks); each row that meets fmt, with fmt's text TOLD by the authors' own Lean function (tested against real Go, not proved from fmt's source: count such statements apart). THE CARD IS WHAT COUNTS. Prove the row's statement (the work); the ties are given (YtloekbdlmikkcaaGreatDoorTie.lean); close each card by the builder's one call (the guide's Derived/Test/ToyasCard.lean, 'card_holds'). Laid BY PROGRAM, IN A SANDBOX (cutbox-door.mjs). By AI agents, Wed Nov 11 2026. No macro, syntax, notation, axiom, sorry.
-/
import Derived.Test.YtloekbdlmikkcaaGreatDoorRows
import GoSem.ClaimSeven
namespace Go.Proofs.YtloekbdlmikkcaaGreatDoor
namespace Rows

/-- THE TIED CARD OF 'sidinglaw21.TreeDiff'. -/
def treeDiffCard : Claim7 := { stood := { row := treeDiffRow, standIns := [], harness := (true, "101c03db78eb50309a713dba00eccdcba3ffde73c4c2496ba389b76982e5555c"), looks := false }, kinds := [], alts := [], laidByText := true, laidKinds := [.data, .pinned], laidTests := true, laidLooks := .later }
def TreeDiffCardSaid : Prop := Claim7.holds Tryz.pinned (.plain (OpenSpec.ofChange treeDiffSpec)) treeDiffCard

/-- THE TIED CARD OF 'sidinglaw17.NormForms'. -/
def normFormsCard : Claim7 := { stood := { row := normFormsRow, standIns := [], harness := (true, "101c03db78eb50309a713dba00eccdcba3ffde73c4c2496ba389b76982e5555c"), looks := false }, kinds := [], alts := [], laidByText := true, laidKinds := [.data, .data, .data, .data, .data, .data, .sentinel, .pinned], laidTests := true, laidLooks := .later }
def NormFormsCardSaid : Prop := Claim7.holds Tryz.pinned (.plain (OpenSpec.ofChange normFormsSpec)) normFormsCard

/-- THE TIED CARD OF 'sidinglaw17.NormNames'. -/
def normNamesCard : Claim7 := { stood := { row := normNamesRow, standIns := [], harness := (true, "101c03db78eb50309a713dba00eccdcba3ffde73c4c2496ba389b76982e5555c"), looks := false }, kinds := [], alts := [], laidByText := true, laidKinds := [.data, .data, .data, .data, .data, .data, .sentinel, .pinned], laidTests := true, laidLooks := .later }
def NormNamesCardSaid : Prop := Claim7.holds Tryz.pinned (.plain (OpenSpec.ofChange normNamesSpec)) normNamesCard

/-- THE TIED CARD OF 'sidinglaw17.NormClasses'. -/
def normClassesCard : Claim7 := { stood := { row := normClassesRow, standIns := [], harness := (true, "101c03db78eb50309a713dba00eccdcba3ffde73c4c2496ba389b76982e5555c"), looks := false }, kinds := [], alts := [], laidByText := true, laidKinds := [.data, .data, .data, .data, .data, .data, .sentinel, .pinned], laidTests := true, laidLooks := .later }
def NormClassesCardSaid : Prop := Claim7.holds Tryz.pinned (.plain (OpenSpec.ofChange normClassesSpec)) normClassesCard

/-- THE TIED CARD OF 'sidinglaw17.NormTwice'. -/
def normTwiceCard : Claim7 := { stood := { row := normTwiceRow, standIns := [], harness := (true, "101c03db78eb50309a713dba00eccdcba3ffde73c4c2496ba389b76982e5555c"), looks := false }, kinds := [], alts := [], laidByText := true, laidKinds := [.data, .data, .data, .data, .data, .data, .sentinel, .pinned], laidTests := true, laidLooks := .later }
def NormTwiceCardSaid : Prop := Claim7.holds Tryz.pinned (.plain (OpenSpec.ofChange normTwiceSpec)) normTwiceCard

/-- THE TIED CARD OF 'sidinglaw17.NormMoves'. -/
def normMovesCard : Claim7 := { stood := { row := normMovesRow, standIns := [], harness := (true, "101c03db78eb50309a713dba00eccdcba3ffde73c4c2496ba389b76982e5555c"), looks := false }, kinds := [], alts := [], laidByText := true, laidKinds := [.data, .data, .data, .data, .data, .data, .sentinel, .pinned], laidTests := true, laidLooks := .later }
def NormMovesCardSaid : Prop := Claim7.holds Tryz.pinned (.plain (OpenSpec.ofChange normMovesSpec)) normMovesCard

/-- THE TIED CARD OF 'sidinglaw21.TreeClasses'. -/
def treeClassesCard : Claim7 := { stood := { row := treeClassesRow, standIns := [], harness := (true, "101c03db78eb50309a713dba00eccdcba3ffde73c4c2496ba389b76982e5555c"), looks := false }, kinds := [], alts := [], laidByText := true, laidKinds := [.data, .pinned], laidTests := true, laidLooks := .later }
def TreeClassesCardSaid : Prop := Claim7.holds Tryz.pinned (.plain (OpenSpec.ofChange treeClassesSpec)) treeClassesCard

/-- THE SECOND FORM's CARD OF 'sidinglaw21.TreeDiff'. -/
def treeDiffUptoCard : Claim7 := { stood := { row := treeDiffUptoRow, standIns := [], harness := (true, "101c03db78eb50309a713dba00eccdcba3ffde73c4c2496ba389b76982e5555c"), looks := false }, kinds := [], alts := [], laidByText := true, laidKinds := [.data, .pinned], laidTests := true, laidLooks := .later }
def TreeDiffUptoCardSaid : Prop := Claim7.holds Tryz.pinned (.plain (OpenSpec.upto treeDiffSpec)) treeDiffUptoCard

/-- THE SECOND FORM's CARD OF 'sidinglaw17.NormForms'. -/
def normFormsUptoCard : Claim7 := { stood := { row := normFormsUptoRow, standIns := [], harness := (true, "101c03db78eb50309a713dba00eccdcba3ffde73c4c2496ba389b76982e5555c"), looks := false }, kinds := [], alts := [], laidByText := true, laidKinds := [.data, .data, .data, .data, .data, .data, .sentinel, .pinned], laidTests := true, laidLooks := .later }
def NormFormsUptoCardSaid : Prop := Claim7.holds Tryz.pinned (.plain (OpenSpec.upto normFormsSpec)) normFormsUptoCard

/-- THE SECOND FORM's CARD OF 'sidinglaw17.NormNames'. -/
def normNamesUptoCard : Claim7 := { stood := { row := normNamesUptoRow, standIns := [], harness := (true, "101c03db78eb50309a713dba00eccdcba3ffde73c4c2496ba389b76982e5555c"), looks := false }, kinds := [], alts := [], laidByText := true, laidKinds := [.data, .data, .data, .data, .data, .data, .sentinel, .pinned], laidTests := true, laidLooks := .later }
def NormNamesUptoCardSaid : Prop := Claim7.holds Tryz.pinned (.plain (OpenSpec.upto normNamesSpec)) normNamesUptoCard

/-- THE SECOND FORM's CARD OF 'sidinglaw17.NormClasses'. -/
def normClassesUptoCard : Claim7 := { stood := { row := normClassesUptoRow, standIns := [], harness := (true, "101c03db78eb50309a713dba00eccdcba3ffde73c4c2496ba389b76982e5555c"), looks := false }, kinds := [], alts := [], laidByText := true, laidKinds := [.data, .data, .data, .data, .data, .data, .sentinel, .pinned], laidTests := true, laidLooks := .later }
def NormClassesUptoCardSaid : Prop := Claim7.holds Tryz.pinned (.plain (OpenSpec.upto normClassesSpec)) normClassesUptoCard

/-- THE SECOND FORM's CARD OF 'sidinglaw17.NormTwice'. -/
def normTwiceUptoCard : Claim7 := { stood := { row := normTwiceUptoRow, standIns := [], harness := (true, "101c03db78eb50309a713dba00eccdcba3ffde73c4c2496ba389b76982e5555c"), looks := false }, kinds := [], alts := [], laidByText := true, laidKinds := [.data, .data, .data, .data, .data, .data, .sentinel, .pinned], laidTests := true, laidLooks := .later }
def NormTwiceUptoCardSaid : Prop := Claim7.holds Tryz.pinned (.plain (OpenSpec.upto normTwiceSpec)) normTwiceUptoCard

/-- THE SECOND FORM's CARD OF 'sidinglaw17.NormMoves'. -/
def normMovesUptoCard : Claim7 := { stood := { row := normMovesUptoRow, standIns := [], harness := (true, "101c03db78eb50309a713dba00eccdcba3ffde73c4c2496ba389b76982e5555c"), looks := false }, kinds := [], alts := [], laidByText := true, laidKinds := [.data, .data, .data, .data, .data, .data, .sentinel, .pinned], laidTests := true, laidLooks := .later }
def NormMovesUptoCardSaid : Prop := Claim7.holds Tryz.pinned (.plain (OpenSpec.upto normMovesSpec)) normMovesUptoCard

/-- THE SECOND FORM's CARD OF 'sidinglaw21.TreeClasses'. -/
def treeClassesUptoCard : Claim7 := { stood := { row := treeClassesUptoRow, standIns := [], harness := (true, "101c03db78eb50309a713dba00eccdcba3ffde73c4c2496ba389b76982e5555c"), looks := false }, kinds := [], alts := [], laidByText := true, laidKinds := [.data, .pinned], laidTests := true, laidLooks := .later }
def TreeClassesUptoCardSaid : Prop := Claim7.holds Tryz.pinned (.plain (OpenSpec.upto treeClassesSpec)) treeClassesUptoCard
end Rows
end Go.Proofs.YtloekbdlmikkcaaGreatDoor
