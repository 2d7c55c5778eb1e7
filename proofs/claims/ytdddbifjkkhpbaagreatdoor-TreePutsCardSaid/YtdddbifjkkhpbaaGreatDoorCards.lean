/-
  DERIVED. GIVEN WITH THE SEED: THE CARDS: each row of YtdddbifjkkhpbaaGreatDoorRows.lean that lists a variable, with what it lists TIED to the program's text (the seventh form; the later family's looks); each row that meets fmt, with fmt's text TOLD by the authors' own Lean function (tested against real Go, not proved from fmt's source: count such statements apart). THE CARD IS WHAT COUNTS. Prove the row's statement (the work); the ties are given (YtdddbifjkkhpbaaGreatDoorTie.lean); close each card by the builder's one call (the guide's Derived/Test/ToyasCard.lean, 'card_holds'). Laid BY PROGRAM, IN A SANDBOX (cutbox-door.mjs). By AI agents, Wed Nov 11 2026. No macro, syntax, notation, axiom, sorry.
-/
import Derived.Test.YtdddbifjkkhpbaaGreatDoorRows
import GoSem.ClaimSeven
namespace Go.Proofs.YtdddbifjkkhpbaaGreatDoor
namespace Rows

/-- THE TIED CARD OF 'sidinglaw21.TreePuts'. -/
def treePutsCard : Claim7 := { stood := { row := treePutsRow, standIns := [], harness := (true, "a3711f4b069ca353802d3e7bfdd64e28b8c600c9acd3ffada655192a757bdb25"), looks := false }, kinds := [], alts := [], laidByText := true, laidKinds := [.data, .pinned], laidTests := true, laidLooks := .later }
def TreePutsCardSaid : Prop := Claim7.holds Tryz.pinned (.plain (OpenSpec.ofChange treePutsSpec)) treePutsCard

/-- THE TIED CARD OF 'sidinglaw21.TreeNames'. -/
def treeNamesCard : Claim7 := { stood := { row := treeNamesRow, standIns := [], harness := (true, "a3711f4b069ca353802d3e7bfdd64e28b8c600c9acd3ffada655192a757bdb25"), looks := false }, kinds := [], alts := [], laidByText := true, laidKinds := [.data, .pinned], laidTests := true, laidLooks := .later }
def TreeNamesCardSaid : Prop := Claim7.holds Tryz.pinned (.plain (OpenSpec.ofChange treeNamesSpec)) treeNamesCard

/-- THE TIED CARD OF 'sidinglaw17.NormNames'. -/
def normNamesCard : Claim7 := { stood := { row := normNamesRow, standIns := [], harness := (true, "a3711f4b069ca353802d3e7bfdd64e28b8c600c9acd3ffada655192a757bdb25"), looks := false }, kinds := [], alts := [], laidByText := true, laidKinds := [.data, .data, .data, .data, .data, .data, .sentinel, .pinned], laidTests := true, laidLooks := .later }
def NormNamesCardSaid : Prop := Claim7.holds Tryz.pinned (.plain (OpenSpec.ofChange normNamesSpec)) normNamesCard

/-- THE TIED CARD OF 'sidinglaw22.TreemergeNames'. -/
def treemergeNamesCard : Claim7 := { stood := { row := treemergeNamesRow, standIns := [], harness := (true, "a3711f4b069ca353802d3e7bfdd64e28b8c600c9acd3ffada655192a757bdb25"), looks := false }, kinds := [], alts := [], laidByText := true, laidKinds := [.data, .pinned], laidTests := true, laidLooks := .later }
def TreemergeNamesCardSaid : Prop := Claim7.holds Tryz.pinned (.plain (OpenSpec.ofChange treemergeNamesSpec)) treemergeNamesCard

/-- THE SECOND FORM's CARD OF 'sidinglaw21.TreePuts'. -/
def treePutsUptoCard : Claim7 := { stood := { row := treePutsUptoRow, standIns := [], harness := (true, "a3711f4b069ca353802d3e7bfdd64e28b8c600c9acd3ffada655192a757bdb25"), looks := false }, kinds := [], alts := [], laidByText := true, laidKinds := [.data, .pinned], laidTests := true, laidLooks := .later }
def TreePutsUptoCardSaid : Prop := Claim7.holds Tryz.pinned (.plain (OpenSpec.upto treePutsSpec)) treePutsUptoCard

/-- THE SECOND FORM's CARD OF 'sidinglaw21.TreeNames'. -/
def treeNamesUptoCard : Claim7 := { stood := { row := treeNamesUptoRow, standIns := [], harness := (true, "a3711f4b069ca353802d3e7bfdd64e28b8c600c9acd3ffada655192a757bdb25"), looks := false }, kinds := [], alts := [], laidByText := true, laidKinds := [.data, .pinned], laidTests := true, laidLooks := .later }
def TreeNamesUptoCardSaid : Prop := Claim7.holds Tryz.pinned (.plain (OpenSpec.upto treeNamesSpec)) treeNamesUptoCard

/-- THE SECOND FORM's CARD OF 'sidinglaw17.NormNames'. -/
def normNamesUptoCard : Claim7 := { stood := { row := normNamesUptoRow, standIns := [], harness := (true, "a3711f4b069ca353802d3e7bfdd64e28b8c600c9acd3ffada655192a757bdb25"), looks := false }, kinds := [], alts := [], laidByText := true, laidKinds := [.data, .data, .data, .data, .data, .data, .sentinel, .pinned], laidTests := true, laidLooks := .later }
def NormNamesUptoCardSaid : Prop := Claim7.holds Tryz.pinned (.plain (OpenSpec.upto normNamesSpec)) normNamesUptoCard

/-- THE SECOND FORM's CARD OF 'sidinglaw22.TreemergeNames'. -/
def treemergeNamesUptoCard : Claim7 := { stood := { row := treemergeNamesUptoRow, standIns := [], harness := (true, "a3711f4b069ca353802d3e7bfdd64e28b8c600c9acd3ffada655192a757bdb25"), looks := false }, kinds := [], alts := [], laidByText := true, laidKinds := [.data, .pinned], laidTests := true, laidLooks := .later }
def TreemergeNamesUptoCardSaid : Prop := Claim7.holds Tryz.pinned (.plain (OpenSpec.upto treemergeNamesSpec)) treemergeNamesUptoCard
end Rows
end Go.Proofs.YtdddbifjkkhpbaaGreatDoor
