/-
  DERIVED. GIVEN WITH THE SEED: THE CARDS: each row of YtblmakgjdenpfaaDoorRows.lean that lists a variable, with what it lists TIED to the program's text (the seventh form; the later family's looks); each row that meets fmt, with fmt's text TOLD by the authors' own Lean function (tested against real Go, not proved from fmt's source: count such statements apart). THE CARD IS WHAT COUNTS. Prove the row's statement (the work); the ties are given (YtblmakgjdenpfaaDoorTie.lean); close each card by the builder's one call (the guide's Derived/Test/ToyasCard.lean, 'card_holds'). Laid BY PROGRAM, IN A SANDBOX (cutbox-door.mjs). By AI agents, Wed Nov 11 2026. No macro, syntax, notation, axiom, sorry.
-/
import Derived.Test.YtblmakgjdenpfaaDoorRows
import GoSem.ClaimSeven
namespace Go.Proofs.YtblmakgjdenpfaaDoor
namespace Rows

/-- THE TIED CARD OF 'guiselaw11.StripSeen'. -/
def stripSeenCard : Claim7 := { stood := { row := stripSeenRow, standIns := [], harness := (true, "700d2bf033ceb2a476e7c6efb2e64e1cdad3c8e8ae68cd903a4f2d8334dea3a8"), looks := false }, kinds := [], alts := [], laidByText := true, laidKinds := [.data, .pinned], laidTests := true, laidLooks := .later }
def StripSeenCardSaid : Prop := Claim7.holds Tryd.pinned (.plain (OpenSpec.ofChange stripSeenSpec)) stripSeenCard

/-- THE TIED CARD OF 'guiselaw11.StripJoins'. -/
def stripJoinsCard : Claim7 := { stood := { row := stripJoinsRow, standIns := [], harness := (true, "700d2bf033ceb2a476e7c6efb2e64e1cdad3c8e8ae68cd903a4f2d8334dea3a8"), looks := false }, kinds := [], alts := [], laidByText := true, laidKinds := [.data, .pinned], laidTests := true, laidLooks := .later }
def StripJoinsCardSaid : Prop := Claim7.holds Tryd.pinned (.plain (OpenSpec.ofChange stripJoinsSpec)) stripJoinsCard

/-- THE TIED CARD OF 'guiselaw11.StripPlaces'. -/
def stripPlacesCard : Claim7 := { stood := { row := stripPlacesRow, standIns := [], harness := (true, "700d2bf033ceb2a476e7c6efb2e64e1cdad3c8e8ae68cd903a4f2d8334dea3a8"), looks := false }, kinds := [], alts := [], laidByText := true, laidKinds := [.data, .pinned], laidTests := true, laidLooks := .later }
def StripPlacesCardSaid : Prop := Claim7.holds Tryd.pinned (.plain (OpenSpec.ofChange stripPlacesSpec)) stripPlacesCard

/-- THE TIED CARD OF 'guiselaw8.MarksSwaps'. -/
def marksSwapsCard : Claim7 := { stood := { row := marksSwapsRow, standIns := [], harness := (true, "700d2bf033ceb2a476e7c6efb2e64e1cdad3c8e8ae68cd903a4f2d8334dea3a8"), looks := false }, kinds := [], alts := [], laidByText := true, laidKinds := [.data, .pinned], laidTests := true, laidLooks := .later }
def MarksSwapsCardSaid : Prop := Claim7.holds Tryd.pinned (.plain (OpenSpec.ofChange marksSwapsSpec)) marksSwapsCard

/-- THE TIED CARD OF 'guiselaw8.MarksOrders'. -/
def marksOrdersCard : Claim7 := { stood := { row := marksOrdersRow, standIns := [], harness := (true, "700d2bf033ceb2a476e7c6efb2e64e1cdad3c8e8ae68cd903a4f2d8334dea3a8"), looks := false }, kinds := [], alts := [], laidByText := true, laidKinds := [.data, .pinned], laidTests := true, laidLooks := .later }
def MarksOrdersCardSaid : Prop := Claim7.holds Tryd.pinned (.plain (OpenSpec.ofChange marksOrdersSpec)) marksOrdersCard

/-- THE TIED CARD OF 'guiselaw8.MarksNumbers'. -/
def marksNumbersCard : Claim7 := { stood := { row := marksNumbersRow, standIns := [], harness := (true, "700d2bf033ceb2a476e7c6efb2e64e1cdad3c8e8ae68cd903a4f2d8334dea3a8"), looks := false }, kinds := [], alts := [], laidByText := true, laidKinds := [.data, .pinned], laidTests := true, laidLooks := .later }
def MarksNumbersCardSaid : Prop := Claim7.holds Tryd.pinned (.plain (OpenSpec.ofChange marksNumbersSpec)) marksNumbersCard

/-- THE SECOND FORM's CARD OF 'guiselaw11.StripSeen'. -/
def stripSeenUptoCard : Claim7 := { stood := { row := stripSeenUptoRow, standIns := [], harness := (true, "700d2bf033ceb2a476e7c6efb2e64e1cdad3c8e8ae68cd903a4f2d8334dea3a8"), looks := false }, kinds := [], alts := [], laidByText := true, laidKinds := [.data, .pinned], laidTests := true, laidLooks := .later }
def StripSeenUptoCardSaid : Prop := Claim7.holds Tryd.pinned (.plain (OpenSpec.upto stripSeenSpec)) stripSeenUptoCard

/-- THE SECOND FORM's CARD OF 'guiselaw11.StripJoins'. -/
def stripJoinsUptoCard : Claim7 := { stood := { row := stripJoinsUptoRow, standIns := [], harness := (true, "700d2bf033ceb2a476e7c6efb2e64e1cdad3c8e8ae68cd903a4f2d8334dea3a8"), looks := false }, kinds := [], alts := [], laidByText := true, laidKinds := [.data, .pinned], laidTests := true, laidLooks := .later }
def StripJoinsUptoCardSaid : Prop := Claim7.holds Tryd.pinned (.plain (OpenSpec.upto stripJoinsSpec)) stripJoinsUptoCard

/-- THE SECOND FORM's CARD OF 'guiselaw11.StripPlaces'. -/
def stripPlacesUptoCard : Claim7 := { stood := { row := stripPlacesUptoRow, standIns := [], harness := (true, "700d2bf033ceb2a476e7c6efb2e64e1cdad3c8e8ae68cd903a4f2d8334dea3a8"), looks := false }, kinds := [], alts := [], laidByText := true, laidKinds := [.data, .pinned], laidTests := true, laidLooks := .later }
def StripPlacesUptoCardSaid : Prop := Claim7.holds Tryd.pinned (.plain (OpenSpec.upto stripPlacesSpec)) stripPlacesUptoCard

/-- THE SECOND FORM's CARD OF 'guiselaw8.MarksSwaps'. -/
def marksSwapsUptoCard : Claim7 := { stood := { row := marksSwapsUptoRow, standIns := [], harness := (true, "700d2bf033ceb2a476e7c6efb2e64e1cdad3c8e8ae68cd903a4f2d8334dea3a8"), looks := false }, kinds := [], alts := [], laidByText := true, laidKinds := [.data, .pinned], laidTests := true, laidLooks := .later }
def MarksSwapsUptoCardSaid : Prop := Claim7.holds Tryd.pinned (.plain (OpenSpec.upto marksSwapsSpec)) marksSwapsUptoCard

/-- THE SECOND FORM's CARD OF 'guiselaw8.MarksOrders'. -/
def marksOrdersUptoCard : Claim7 := { stood := { row := marksOrdersUptoRow, standIns := [], harness := (true, "700d2bf033ceb2a476e7c6efb2e64e1cdad3c8e8ae68cd903a4f2d8334dea3a8"), looks := false }, kinds := [], alts := [], laidByText := true, laidKinds := [.data, .pinned], laidTests := true, laidLooks := .later }
def MarksOrdersUptoCardSaid : Prop := Claim7.holds Tryd.pinned (.plain (OpenSpec.upto marksOrdersSpec)) marksOrdersUptoCard

/-- THE SECOND FORM's CARD OF 'guiselaw8.MarksNumbers'. -/
def marksNumbersUptoCard : Claim7 := { stood := { row := marksNumbersUptoRow, standIns := [], harness := (true, "700d2bf033ceb2a476e7c6efb2e64e1cdad3c8e8ae68cd903a4f2d8334dea3a8"), looks := false }, kinds := [], alts := [], laidByText := true, laidKinds := [.data, .pinned], laidTests := true, laidLooks := .later }
def MarksNumbersUptoCardSaid : Prop := Claim7.holds Tryd.pinned (.plain (OpenSpec.upto marksNumbersSpec)) marksNumbersUptoCard
end Rows
end Go.Proofs.YtblmakgjdenpfaaDoor
