/-
  DERIVED. GIVEN WITH THE SEED: THE CARDS: each row of YtfiaggbgplmmeaaDoorRows.lean that lists a variable, with what it lists TIED to the program's text (the seventh form; the later family's looks); each row that meets fmt, with fmt's text TOLD by the authors' own Lean function (tested against real Go, not proved from fmt's source: count such statements apart). THE CARD IS WHAT COUNTS. Prove the row's statement (the work); the ties are given (YtfiaggbgplmmeaaDoorTie.lean); close each card by the builder's one call (the guide's Derived/Test/ToyasCard.lean, 'card_holds'). Laid BY PROGRAM, IN A SANDBOX (cutbox-door.mjs). By AI agents, Wed Nov 11 2026. No macro, syntax, notation, axiom, sorry.
-/
import Derived.Test.YtfiaggbgplmmeaaDoorRows
import GoSem.ClaimSeven
namespace Go.Proofs.YtfiaggbgplmmeaaDoor
namespace Rows

/-- THE TIED CARD OF 'guiselaw9.OpenRunes'. -/
def openRunesCard : Claim7 := { stood := { row := openRunesRow, standIns := [], harness := (true, "6a90d931ef3f65deda54fbdccbdf1e58d4a5cf5db3dd4b23c81bf67b202bcd1e"), looks := false }, kinds := [], alts := [], laidByText := true, laidKinds := [.data, .pinned], laidTests := true, laidLooks := .later }
def OpenRunesCardSaid : Prop := Claim7.holds Tryd.pinned (.plain (OpenSpec.ofChange openRunesSpec)) openRunesCard

/-- THE TIED CARD OF 'guiselaw10.ShutTwins'. -/
def shutTwinsCard : Claim7 := { stood := { row := shutTwinsRow, standIns := [], harness := (true, "6a90d931ef3f65deda54fbdccbdf1e58d4a5cf5db3dd4b23c81bf67b202bcd1e"), looks := false }, kinds := [], alts := [], laidByText := true, laidKinds := [.data, .pinned], laidTests := true, laidLooks := .later }
def ShutTwinsCardSaid : Prop := Claim7.holds Tryd.pinned (.plain (OpenSpec.ofChange shutTwinsSpec)) shutTwinsCard

/-- THE TIED CARD OF 'guiselaw10.ShutSteps'. -/
def shutStepsCard : Claim7 := { stood := { row := shutStepsRow, standIns := [], harness := (true, "6a90d931ef3f65deda54fbdccbdf1e58d4a5cf5db3dd4b23c81bf67b202bcd1e"), looks := false }, kinds := [], alts := [], laidByText := true, laidKinds := [.data, .pinned], laidTests := true, laidLooks := .later }
def ShutStepsCardSaid : Prop := Claim7.holds Tryd.pinned (.plain (OpenSpec.ofChange shutStepsSpec)) shutStepsCard

/-- THE SECOND FORM's CARD OF 'guiselaw9.OpenRunes'. -/
def openRunesUptoCard : Claim7 := { stood := { row := openRunesUptoRow, standIns := [], harness := (true, "6a90d931ef3f65deda54fbdccbdf1e58d4a5cf5db3dd4b23c81bf67b202bcd1e"), looks := false }, kinds := [], alts := [], laidByText := true, laidKinds := [.data, .pinned], laidTests := true, laidLooks := .later }
def OpenRunesUptoCardSaid : Prop := Claim7.holds Tryd.pinned (.plain (OpenSpec.upto openRunesSpec)) openRunesUptoCard

/-- THE SECOND FORM's CARD OF 'guiselaw10.ShutTwins'. -/
def shutTwinsUptoCard : Claim7 := { stood := { row := shutTwinsUptoRow, standIns := [], harness := (true, "6a90d931ef3f65deda54fbdccbdf1e58d4a5cf5db3dd4b23c81bf67b202bcd1e"), looks := false }, kinds := [], alts := [], laidByText := true, laidKinds := [.data, .pinned], laidTests := true, laidLooks := .later }
def ShutTwinsUptoCardSaid : Prop := Claim7.holds Tryd.pinned (.plain (OpenSpec.upto shutTwinsSpec)) shutTwinsUptoCard

/-- THE SECOND FORM's CARD OF 'guiselaw10.ShutSteps'. -/
def shutStepsUptoCard : Claim7 := { stood := { row := shutStepsUptoRow, standIns := [], harness := (true, "6a90d931ef3f65deda54fbdccbdf1e58d4a5cf5db3dd4b23c81bf67b202bcd1e"), looks := false }, kinds := [], alts := [], laidByText := true, laidKinds := [.data, .pinned], laidTests := true, laidLooks := .later }
def ShutStepsUptoCardSaid : Prop := Claim7.holds Tryd.pinned (.plain (OpenSpec.upto shutStepsSpec)) shutStepsUptoCard
end Rows
end Go.Proofs.YtfiaggbgplmmeaaDoor
