/-
  DERIVED. GIVEN WITH THE SEED: THE CARDS: each row of YtedbfdlgiilapaaGreatDoorRows.lean that lists a variable, with what it lists TIED to the program's text (the seventh form; the later family's looks); each row that meets fmt, with fmt's text TOLD by the authors' own Lean function (tested against real Go, not proved from fmt's source: count such statements apart). THE CARD IS WHAT COUNTS. Prove the row's statement (the work); the ties are given (YtedbfdlgiilapaaGreatDoorTie.lean); close each card by the builder's one call (the guide's Derived/Test/ToyasCard.lean, 'card_holds'). Laid BY PROGRAM, IN A SANDBOX (cutbox-door.mjs). By AI agents, Wed Nov 11 2026. No macro, syntax, notation, axiom, sorry.
-/
import Derived.Test.YtedbfdlgiilapaaGreatDoorRows
import GoSem.ClaimSeven
namespace Go.Proofs.YtedbfdlgiilapaaGreatDoor
namespace Rows

/-- THE TIED CARD OF 'sidinglaw09.ObjectTrees'. -/
def objectTreesCard : Claim7 := { stood := { row := objectTreesRow, standIns := [], harness := (true, "b547eb4481b715cff55840752c8ecdffc497f6d39c9ab1ef778c2a5012a1c880"), looks := false }, kinds := [], alts := [], laidByText := true, laidKinds := [.data, .data, .data, .pinned], laidTests := true, laidLooks := .later }
def ObjectTreesCardSaid : Prop := Claim7.holds Tryz.pinned (.plain (OpenSpec.ofChange objectTreesSpec)) objectTreesCard

/-- THE TIED CARD OF 'sidinglaw09.ObjectBack'. -/
def objectBackCard : Claim7 := { stood := { row := objectBackRow, standIns := [], harness := (true, "b547eb4481b715cff55840752c8ecdffc497f6d39c9ab1ef778c2a5012a1c880"), looks := false }, kinds := [], alts := [], laidByText := true, laidKinds := [.data, .data, .data, .pinned], laidTests := true, laidLooks := .later }
def ObjectBackCardSaid : Prop := Claim7.holds Tryz.pinned (.plain (OpenSpec.ofChange objectBackSpec)) objectBackCard

/-- THE TIED CARD OF 'sidinglaw22.TreemergeTexts'. -/
def treemergeTextsCard : Claim7 := { stood := { row := treemergeTextsRow, standIns := [], harness := (true, "b547eb4481b715cff55840752c8ecdffc497f6d39c9ab1ef778c2a5012a1c880"), looks := false }, kinds := [], alts := [], laidByText := true, laidKinds := [.data, .pinned], laidTests := true, laidLooks := .later }
def TreemergeTextsCardSaid : Prop := Claim7.holds Tryz.pinned (.plain (OpenSpec.ofChange treemergeTextsSpec)) treemergeTextsCard

/-- THE TIED CARD OF 'sidinglaw22.TreemergeNames'. -/
def treemergeNamesCard : Claim7 := { stood := { row := treemergeNamesRow, standIns := [], harness := (true, "b547eb4481b715cff55840752c8ecdffc497f6d39c9ab1ef778c2a5012a1c880"), looks := false }, kinds := [], alts := [], laidByText := true, laidKinds := [.data, .pinned], laidTests := true, laidLooks := .later }
def TreemergeNamesCardSaid : Prop := Claim7.holds Tryz.pinned (.plain (OpenSpec.ofChange treemergeNamesSpec)) treemergeNamesCard

/-- THE TIED CARD OF 'sidinglaw22.TreemergeLaws'. -/
def treemergeLawsCard : Claim7 := { stood := { row := treemergeLawsRow, standIns := [], harness := (true, "b547eb4481b715cff55840752c8ecdffc497f6d39c9ab1ef778c2a5012a1c880"), looks := false }, kinds := [], alts := [], laidByText := true, laidKinds := [.data, .pinned], laidTests := true, laidLooks := .later }
def TreemergeLawsCardSaid : Prop := Claim7.holds Tryz.pinned (.plain (OpenSpec.ofChange treemergeLawsSpec)) treemergeLawsCard

/-- THE TIED CARD OF 'sidinglaw22.TreemergeTurns'. -/
def treemergeTurnsCard : Claim7 := { stood := { row := treemergeTurnsRow, standIns := [], harness := (true, "b547eb4481b715cff55840752c8ecdffc497f6d39c9ab1ef778c2a5012a1c880"), looks := false }, kinds := [], alts := [], laidByText := true, laidKinds := [.data, .pinned], laidTests := true, laidLooks := .later }
def TreemergeTurnsCardSaid : Prop := Claim7.holds Tryz.pinned (.plain (OpenSpec.ofChange treemergeTurnsSpec)) treemergeTurnsCard

/-- THE SECOND FORM's CARD OF 'sidinglaw09.ObjectTrees'. -/
def objectTreesUptoCard : Claim7 := { stood := { row := objectTreesUptoRow, standIns := [], harness := (true, "b547eb4481b715cff55840752c8ecdffc497f6d39c9ab1ef778c2a5012a1c880"), looks := false }, kinds := [], alts := [], laidByText := true, laidKinds := [.data, .data, .data, .pinned], laidTests := true, laidLooks := .later }
def ObjectTreesUptoCardSaid : Prop := Claim7.holds Tryz.pinned (.plain (OpenSpec.upto objectTreesSpec)) objectTreesUptoCard

/-- THE SECOND FORM's CARD OF 'sidinglaw09.ObjectBack'. -/
def objectBackUptoCard : Claim7 := { stood := { row := objectBackUptoRow, standIns := [], harness := (true, "b547eb4481b715cff55840752c8ecdffc497f6d39c9ab1ef778c2a5012a1c880"), looks := false }, kinds := [], alts := [], laidByText := true, laidKinds := [.data, .data, .data, .pinned], laidTests := true, laidLooks := .later }
def ObjectBackUptoCardSaid : Prop := Claim7.holds Tryz.pinned (.plain (OpenSpec.upto objectBackSpec)) objectBackUptoCard

/-- THE SECOND FORM's CARD OF 'sidinglaw22.TreemergeTexts'. -/
def treemergeTextsUptoCard : Claim7 := { stood := { row := treemergeTextsUptoRow, standIns := [], harness := (true, "b547eb4481b715cff55840752c8ecdffc497f6d39c9ab1ef778c2a5012a1c880"), looks := false }, kinds := [], alts := [], laidByText := true, laidKinds := [.data, .pinned], laidTests := true, laidLooks := .later }
def TreemergeTextsUptoCardSaid : Prop := Claim7.holds Tryz.pinned (.plain (OpenSpec.upto treemergeTextsSpec)) treemergeTextsUptoCard

/-- THE SECOND FORM's CARD OF 'sidinglaw22.TreemergeNames'. -/
def treemergeNamesUptoCard : Claim7 := { stood := { row := treemergeNamesUptoRow, standIns := [], harness := (true, "b547eb4481b715cff55840752c8ecdffc497f6d39c9ab1ef778c2a5012a1c880"), looks := false }, kinds := [], alts := [], laidByText := true, laidKinds := [.data, .pinned], laidTests := true, laidLooks := .later }
def TreemergeNamesUptoCardSaid : Prop := Claim7.holds Tryz.pinned (.plain (OpenSpec.upto treemergeNamesSpec)) treemergeNamesUptoCard

/-- THE SECOND FORM's CARD OF 'sidinglaw22.TreemergeLaws'. -/
def treemergeLawsUptoCard : Claim7 := { stood := { row := treemergeLawsUptoRow, standIns := [], harness := (true, "b547eb4481b715cff55840752c8ecdffc497f6d39c9ab1ef778c2a5012a1c880"), looks := false }, kinds := [], alts := [], laidByText := true, laidKinds := [.data, .pinned], laidTests := true, laidLooks := .later }
def TreemergeLawsUptoCardSaid : Prop := Claim7.holds Tryz.pinned (.plain (OpenSpec.upto treemergeLawsSpec)) treemergeLawsUptoCard

/-- THE SECOND FORM's CARD OF 'sidinglaw22.TreemergeTurns'. -/
def treemergeTurnsUptoCard : Claim7 := { stood := { row := treemergeTurnsUptoRow, standIns := [], harness := (true, "b547eb4481b715cff55840752c8ecdffc497f6d39c9ab1ef778c2a5012a1c880"), looks := false }, kinds := [], alts := [], laidByText := true, laidKinds := [.data, .pinned], laidTests := true, laidLooks := .later }
def TreemergeTurnsUptoCardSaid : Prop := Claim7.holds Tryz.pinned (.plain (OpenSpec.upto treemergeTurnsSpec)) treemergeTurnsUptoCard
end Rows
end Go.Proofs.YtedbfdlgiilapaaGreatDoor
