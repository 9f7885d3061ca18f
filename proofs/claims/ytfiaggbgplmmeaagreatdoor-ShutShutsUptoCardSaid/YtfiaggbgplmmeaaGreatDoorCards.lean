/-
  DERIVED. GIVEN WITH THE SEED: THE CARDS: each row of YtfiaggbgplmmeaaGreatDoorRows.lean that lists a variable, with what it lists TIED to the program's text (the seventh form; the later family's looks); each row that meets fmt, with fmt's text TOLD by the authors' own Lean function (tested against real Go, not proved from fmt's source: count such statements apart). THE CARD IS WHAT COUNTS. Prove the row's statement (the work); the ties are given (YtfiaggbgplmmeaaGreatDoorTie.lean); close each card by the builder's one call (the guide's Derived/Test/ToyasCard.lean, 'card_holds'). Laid BY PROGRAM, IN A SANDBOX (cutbox-door.mjs). By AI agents, Wed Nov 11 2026. No macro, syntax, notation, axiom, sorry.
-/
import Derived.Test.YtfiaggbgplmmeaaGreatDoorRows
import GoSem.ClaimSeven
namespace Go.Proofs.YtfiaggbgplmmeaaGreatDoor
namespace Rows

/-- THE TIED CARD OF 'guiselaw9.OpenKept'. -/
def openKeptCard : Claim7 := { stood := { row := openKeptRow, standIns := [], harness := (true, "3105ca7a964e4fc007510f853b21fe2e00510838b3dd7155f4cd52c46b1f90f4"), looks := false }, kinds := [], alts := [], laidByText := true, laidKinds := [.data, .pinned], laidTests := true, laidLooks := .later }
def OpenKeptCardSaid : Prop := Claim7.holds Tryz.pinned (.plain (OpenSpec.ofChange openKeptSpec)) openKeptCard

/-- THE TIED CARD OF 'guiselaw9.OpenNumbers'. -/
def openNumbersCard : Claim7 := { stood := { row := openNumbersRow, standIns := [], harness := (true, "3105ca7a964e4fc007510f853b21fe2e00510838b3dd7155f4cd52c46b1f90f4"), looks := false }, kinds := [], alts := [], laidByText := true, laidKinds := [.data, .pinned], laidTests := true, laidLooks := .later }
def OpenNumbersCardSaid : Prop := Claim7.holds Tryz.pinned (.plain (OpenSpec.ofChange openNumbersSpec)) openNumbersCard

/-- THE TIED CARD OF 'guiselaw9.OpenOpens'. -/
def openOpensCard : Claim7 := { stood := { row := openOpensRow, standIns := [], harness := (true, "3105ca7a964e4fc007510f853b21fe2e00510838b3dd7155f4cd52c46b1f90f4"), looks := false }, kinds := [], alts := [], laidByText := true, laidKinds := [.data, .pinned], laidTests := true, laidLooks := .later }
def OpenOpensCardSaid : Prop := Claim7.holds Tryz.pinned (.plain (OpenSpec.ofChange openOpensSpec)) openOpensCard

/-- THE TIED CARD OF 'guiselaw9.OpenStays'. -/
def openStaysCard : Claim7 := { stood := { row := openStaysRow, standIns := [], harness := (true, "3105ca7a964e4fc007510f853b21fe2e00510838b3dd7155f4cd52c46b1f90f4"), looks := false }, kinds := [], alts := [], laidByText := true, laidKinds := [.data, .pinned], laidTests := true, laidLooks := .later }
def OpenStaysCardSaid : Prop := Claim7.holds Tryz.pinned (.plain (OpenSpec.ofChange openStaysSpec)) openStaysCard

/-- THE TIED CARD OF 'guiselaw9.OpenCuts'. -/
def openCutsCard : Claim7 := { stood := { row := openCutsRow, standIns := [], harness := (true, "3105ca7a964e4fc007510f853b21fe2e00510838b3dd7155f4cd52c46b1f90f4"), looks := false }, kinds := [], alts := [], laidByText := true, laidKinds := [.data, .pinned], laidTests := true, laidLooks := .later }
def OpenCutsCardSaid : Prop := Claim7.holds Tryz.pinned (.plain (OpenSpec.ofChange openCutsSpec)) openCutsCard

/-- THE TIED CARD OF 'guiselaw10.ShutNumbers'. -/
def shutNumbersCard : Claim7 := { stood := { row := shutNumbersRow, standIns := [], harness := (true, "3105ca7a964e4fc007510f853b21fe2e00510838b3dd7155f4cd52c46b1f90f4"), looks := false }, kinds := [], alts := [], laidByText := true, laidKinds := [.data, .pinned], laidTests := true, laidLooks := .later }
def ShutNumbersCardSaid : Prop := Claim7.holds Tryz.pinned (.plain (OpenSpec.ofChange shutNumbersSpec)) shutNumbersCard

/-- THE TIED CARD OF 'guiselaw10.ShutShuts'. -/
def shutShutsCard : Claim7 := { stood := { row := shutShutsRow, standIns := [], harness := (true, "3105ca7a964e4fc007510f853b21fe2e00510838b3dd7155f4cd52c46b1f90f4"), looks := false }, kinds := [], alts := [], laidByText := true, laidKinds := [.data, .pinned], laidTests := true, laidLooks := .later }
def ShutShutsCardSaid : Prop := Claim7.holds Tryz.pinned (.plain (OpenSpec.ofChange shutShutsSpec)) shutShutsCard

/-- THE TIED CARD OF 'guiselaw10.ShutBack'. -/
def shutBackCard : Claim7 := { stood := { row := shutBackRow, standIns := [], harness := (true, "3105ca7a964e4fc007510f853b21fe2e00510838b3dd7155f4cd52c46b1f90f4"), looks := false }, kinds := [], alts := [], laidByText := true, laidKinds := [.data, .pinned], laidTests := true, laidLooks := .later }
def ShutBackCardSaid : Prop := Claim7.holds Tryz.pinned (.plain (OpenSpec.ofChange shutBackSpec)) shutBackCard

/-- THE TIED CARD OF 'guiselaw10.ShutCuts'. -/
def shutCutsCard : Claim7 := { stood := { row := shutCutsRow, standIns := [], harness := (true, "3105ca7a964e4fc007510f853b21fe2e00510838b3dd7155f4cd52c46b1f90f4"), looks := false }, kinds := [], alts := [], laidByText := true, laidKinds := [.data, .pinned], laidTests := true, laidLooks := .later }
def ShutCutsCardSaid : Prop := Claim7.holds Tryz.pinned (.plain (OpenSpec.ofChange shutCutsSpec)) shutCutsCard

/-- THE SECOND FORM's CARD OF 'guiselaw9.OpenKept'. -/
def openKeptUptoCard : Claim7 := { stood := { row := openKeptUptoRow, standIns := [], harness := (true, "3105ca7a964e4fc007510f853b21fe2e00510838b3dd7155f4cd52c46b1f90f4"), looks := false }, kinds := [], alts := [], laidByText := true, laidKinds := [.data, .pinned], laidTests := true, laidLooks := .later }
def OpenKeptUptoCardSaid : Prop := Claim7.holds Tryz.pinned (.plain (OpenSpec.upto openKeptSpec)) openKeptUptoCard

/-- THE SECOND FORM's CARD OF 'guiselaw9.OpenNumbers'. -/
def openNumbersUptoCard : Claim7 := { stood := { row := openNumbersUptoRow, standIns := [], harness := (true, "3105ca7a964e4fc007510f853b21fe2e00510838b3dd7155f4cd52c46b1f90f4"), looks := false }, kinds := [], alts := [], laidByText := true, laidKinds := [.data, .pinned], laidTests := true, laidLooks := .later }
def OpenNumbersUptoCardSaid : Prop := Claim7.holds Tryz.pinned (.plain (OpenSpec.upto openNumbersSpec)) openNumbersUptoCard

/-- THE SECOND FORM's CARD OF 'guiselaw9.OpenOpens'. -/
def openOpensUptoCard : Claim7 := { stood := { row := openOpensUptoRow, standIns := [], harness := (true, "3105ca7a964e4fc007510f853b21fe2e00510838b3dd7155f4cd52c46b1f90f4"), looks := false }, kinds := [], alts := [], laidByText := true, laidKinds := [.data, .pinned], laidTests := true, laidLooks := .later }
def OpenOpensUptoCardSaid : Prop := Claim7.holds Tryz.pinned (.plain (OpenSpec.upto openOpensSpec)) openOpensUptoCard

/-- THE SECOND FORM's CARD OF 'guiselaw9.OpenStays'. -/
def openStaysUptoCard : Claim7 := { stood := { row := openStaysUptoRow, standIns := [], harness := (true, "3105ca7a964e4fc007510f853b21fe2e00510838b3dd7155f4cd52c46b1f90f4"), looks := false }, kinds := [], alts := [], laidByText := true, laidKinds := [.data, .pinned], laidTests := true, laidLooks := .later }
def OpenStaysUptoCardSaid : Prop := Claim7.holds Tryz.pinned (.plain (OpenSpec.upto openStaysSpec)) openStaysUptoCard

/-- THE SECOND FORM's CARD OF 'guiselaw9.OpenCuts'. -/
def openCutsUptoCard : Claim7 := { stood := { row := openCutsUptoRow, standIns := [], harness := (true, "3105ca7a964e4fc007510f853b21fe2e00510838b3dd7155f4cd52c46b1f90f4"), looks := false }, kinds := [], alts := [], laidByText := true, laidKinds := [.data, .pinned], laidTests := true, laidLooks := .later }
def OpenCutsUptoCardSaid : Prop := Claim7.holds Tryz.pinned (.plain (OpenSpec.upto openCutsSpec)) openCutsUptoCard

/-- THE SECOND FORM's CARD OF 'guiselaw10.ShutNumbers'. -/
def shutNumbersUptoCard : Claim7 := { stood := { row := shutNumbersUptoRow, standIns := [], harness := (true, "3105ca7a964e4fc007510f853b21fe2e00510838b3dd7155f4cd52c46b1f90f4"), looks := false }, kinds := [], alts := [], laidByText := true, laidKinds := [.data, .pinned], laidTests := true, laidLooks := .later }
def ShutNumbersUptoCardSaid : Prop := Claim7.holds Tryz.pinned (.plain (OpenSpec.upto shutNumbersSpec)) shutNumbersUptoCard

/-- THE SECOND FORM's CARD OF 'guiselaw10.ShutShuts'. -/
def shutShutsUptoCard : Claim7 := { stood := { row := shutShutsUptoRow, standIns := [], harness := (true, "3105ca7a964e4fc007510f853b21fe2e00510838b3dd7155f4cd52c46b1f90f4"), looks := false }, kinds := [], alts := [], laidByText := true, laidKinds := [.data, .pinned], laidTests := true, laidLooks := .later }
def ShutShutsUptoCardSaid : Prop := Claim7.holds Tryz.pinned (.plain (OpenSpec.upto shutShutsSpec)) shutShutsUptoCard

/-- THE SECOND FORM's CARD OF 'guiselaw10.ShutBack'. -/
def shutBackUptoCard : Claim7 := { stood := { row := shutBackUptoRow, standIns := [], harness := (true, "3105ca7a964e4fc007510f853b21fe2e00510838b3dd7155f4cd52c46b1f90f4"), looks := false }, kinds := [], alts := [], laidByText := true, laidKinds := [.data, .pinned], laidTests := true, laidLooks := .later }
def ShutBackUptoCardSaid : Prop := Claim7.holds Tryz.pinned (.plain (OpenSpec.upto shutBackSpec)) shutBackUptoCard

/-- THE SECOND FORM's CARD OF 'guiselaw10.ShutCuts'. -/
def shutCutsUptoCard : Claim7 := { stood := { row := shutCutsUptoRow, standIns := [], harness := (true, "3105ca7a964e4fc007510f853b21fe2e00510838b3dd7155f4cd52c46b1f90f4"), looks := false }, kinds := [], alts := [], laidByText := true, laidKinds := [.data, .pinned], laidTests := true, laidLooks := .later }
def ShutCutsUptoCardSaid : Prop := Claim7.holds Tryz.pinned (.plain (OpenSpec.upto shutCutsSpec)) shutCutsUptoCard
end Rows
end Go.Proofs.YtfiaggbgplmmeaaGreatDoor
