/-
  DERIVED. GIVEN WITH THE SEED: THE CARDS: each row of YtakmapoompffgaaGreatDoorRows.lean that lists a variable, with what it lists TIED to the program's text (the seventh form; the later family's looks); each row that meets fmt, with fmt's text TOLD by the authors' own Lean function (tested against real Go, not proved from fmt's source: count such statements apart). THE CARD IS WHAT COUNTS. Prove the row's statement (the work); the ties are given (YtakmapoompffgaaGreatDoorTie.lean); close each card by the builder's one call (the guide's Derived/Test/ToyasCard.lean, 'card_holds'). Laid BY PROGRAM, IN A SANDBOX (cutbox-door.mjs). By AI agents, Wed Nov 11 2026. No macro, syntax, notation, axiom, sorry.
-/
import Derived.Test.YtakmapoompffgaaGreatDoorRows
import GoSem.ClaimSeven
namespace Go.Proofs.YtakmapoompffgaaGreatDoor
namespace Rows

/-- THE TIED CARD OF 'guiselaw12.FoldTwins'. -/
def foldTwinsCard : Claim7 := { stood := { row := foldTwinsRow, standIns := [], harness := (true, "10add261cc57a4c684487c957d514973092be5f708a2d96102a21c4dcd5015a0"), looks := false }, kinds := [], alts := [], laidByText := true, laidKinds := [.data, .pinned], laidTests := true, laidLooks := .later }
def FoldTwinsCardSaid : Prop := Claim7.holds Tryz.pinned (.plain (OpenSpec.ofChange foldTwinsSpec)) foldTwinsCard

/-- THE TIED CARD OF 'guiselaw12.FoldRunes'. -/
def foldRunesCard : Claim7 := { stood := { row := foldRunesRow, standIns := [], harness := (true, "10add261cc57a4c684487c957d514973092be5f708a2d96102a21c4dcd5015a0"), looks := false }, kinds := [], alts := [], laidByText := true, laidKinds := [.data, .pinned], laidTests := true, laidLooks := .later }
def FoldRunesCardSaid : Prop := Claim7.holds Tryz.pinned (.plain (OpenSpec.ofChange foldRunesSpec)) foldRunesCard

/-- THE TIED CARD OF 'guiselaw12.FoldJoins'. -/
def foldJoinsCard : Claim7 := { stood := { row := foldJoinsRow, standIns := [], harness := (true, "10add261cc57a4c684487c957d514973092be5f708a2d96102a21c4dcd5015a0"), looks := false }, kinds := [], alts := [], laidByText := true, laidKinds := [.data, .pinned], laidTests := true, laidLooks := .later }
def FoldJoinsCardSaid : Prop := Claim7.holds Tryz.pinned (.plain (OpenSpec.ofChange foldJoinsSpec)) foldJoinsCard

/-- THE TIED CARD OF 'guiselaw12.FoldFolds'. -/
def foldFoldsCard : Claim7 := { stood := { row := foldFoldsRow, standIns := [], harness := (true, "10add261cc57a4c684487c957d514973092be5f708a2d96102a21c4dcd5015a0"), looks := false }, kinds := [], alts := [], laidByText := true, laidKinds := [.data, .pinned], laidTests := true, laidLooks := .later }
def FoldFoldsCardSaid : Prop := Claim7.holds Tryz.pinned (.plain (OpenSpec.ofChange foldFoldsSpec)) foldFoldsCard

/-- THE TIED CARD OF 'guiselaw12.FoldStays'. -/
def foldStaysCard : Claim7 := { stood := { row := foldStaysRow, standIns := [], harness := (true, "10add261cc57a4c684487c957d514973092be5f708a2d96102a21c4dcd5015a0"), looks := false }, kinds := [], alts := [], laidByText := true, laidKinds := [.data, .pinned], laidTests := true, laidLooks := .later }
def FoldStaysCardSaid : Prop := Claim7.holds Tryz.pinned (.plain (OpenSpec.ofChange foldStaysSpec)) foldStaysCard

/-- THE TIED CARD OF 'guiselaw12.FoldNumbers'. -/
def foldNumbersCard : Claim7 := { stood := { row := foldNumbersRow, standIns := [], harness := (true, "10add261cc57a4c684487c957d514973092be5f708a2d96102a21c4dcd5015a0"), looks := false }, kinds := [], alts := [], laidByText := true, laidKinds := [.data, .pinned], laidTests := true, laidLooks := .later }
def FoldNumbersCardSaid : Prop := Claim7.holds Tryz.pinned (.plain (OpenSpec.ofChange foldNumbersSpec)) foldNumbersCard

/-- THE SECOND FORM's CARD OF 'guiselaw12.FoldTwins'. -/
def foldTwinsUptoCard : Claim7 := { stood := { row := foldTwinsUptoRow, standIns := [], harness := (true, "10add261cc57a4c684487c957d514973092be5f708a2d96102a21c4dcd5015a0"), looks := false }, kinds := [], alts := [], laidByText := true, laidKinds := [.data, .pinned], laidTests := true, laidLooks := .later }
def FoldTwinsUptoCardSaid : Prop := Claim7.holds Tryz.pinned (.plain (OpenSpec.upto foldTwinsSpec)) foldTwinsUptoCard

/-- THE SECOND FORM's CARD OF 'guiselaw12.FoldRunes'. -/
def foldRunesUptoCard : Claim7 := { stood := { row := foldRunesUptoRow, standIns := [], harness := (true, "10add261cc57a4c684487c957d514973092be5f708a2d96102a21c4dcd5015a0"), looks := false }, kinds := [], alts := [], laidByText := true, laidKinds := [.data, .pinned], laidTests := true, laidLooks := .later }
def FoldRunesUptoCardSaid : Prop := Claim7.holds Tryz.pinned (.plain (OpenSpec.upto foldRunesSpec)) foldRunesUptoCard

/-- THE SECOND FORM's CARD OF 'guiselaw12.FoldJoins'. -/
def foldJoinsUptoCard : Claim7 := { stood := { row := foldJoinsUptoRow, standIns := [], harness := (true, "10add261cc57a4c684487c957d514973092be5f708a2d96102a21c4dcd5015a0"), looks := false }, kinds := [], alts := [], laidByText := true, laidKinds := [.data, .pinned], laidTests := true, laidLooks := .later }
def FoldJoinsUptoCardSaid : Prop := Claim7.holds Tryz.pinned (.plain (OpenSpec.upto foldJoinsSpec)) foldJoinsUptoCard

/-- THE SECOND FORM's CARD OF 'guiselaw12.FoldFolds'. -/
def foldFoldsUptoCard : Claim7 := { stood := { row := foldFoldsUptoRow, standIns := [], harness := (true, "10add261cc57a4c684487c957d514973092be5f708a2d96102a21c4dcd5015a0"), looks := false }, kinds := [], alts := [], laidByText := true, laidKinds := [.data, .pinned], laidTests := true, laidLooks := .later }
def FoldFoldsUptoCardSaid : Prop := Claim7.holds Tryz.pinned (.plain (OpenSpec.upto foldFoldsSpec)) foldFoldsUptoCard

/-- THE SECOND FORM's CARD OF 'guiselaw12.FoldStays'. -/
def foldStaysUptoCard : Claim7 := { stood := { row := foldStaysUptoRow, standIns := [], harness := (true, "10add261cc57a4c684487c957d514973092be5f708a2d96102a21c4dcd5015a0"), looks := false }, kinds := [], alts := [], laidByText := true, laidKinds := [.data, .pinned], laidTests := true, laidLooks := .later }
def FoldStaysUptoCardSaid : Prop := Claim7.holds Tryz.pinned (.plain (OpenSpec.upto foldStaysSpec)) foldStaysUptoCard

/-- THE SECOND FORM's CARD OF 'guiselaw12.FoldNumbers'. -/
def foldNumbersUptoCard : Claim7 := { stood := { row := foldNumbersUptoRow, standIns := [], harness := (true, "10add261cc57a4c684487c957d514973092be5f708a2d96102a21c4dcd5015a0"), looks := false }, kinds := [], alts := [], laidByText := true, laidKinds := [.data, .pinned], laidTests := true, laidLooks := .later }
def FoldNumbersUptoCardSaid : Prop := Claim7.holds Tryz.pinned (.plain (OpenSpec.upto foldNumbersSpec)) foldNumbersUptoCard
end Rows
end Go.Proofs.YtakmapoompffgaaGreatDoor
