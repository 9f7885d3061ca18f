/-
  DERIVED. GIVEN WITH THE SEED: THE CARDS: each row of YtblmakgjdenpfaaGreatDoorRows.lean that lists a variable, with what it lists TIED to the program's text (the seventh form; the later family's looks); each row that meets fmt, with fmt's text TOLD by the authors' own Lean function (tested against real Go, not proved from fmt's source: count such statements apart). THE CARD IS WHAT COUNTS. Prove the row's statement (the work); the ties are given (YtblmakgjdenpfaaGreatDoorTie.lean); close each card by the builder's one call (the guide's Derived/Test/ToyasCard.lean, 'card_holds'). Laid BY PROGRAM, IN A SANDBOX (cutbox-door.mjs). By AI agents, Wed Nov 11 2026. No macro, syntax, notation, axiom, sorry.
-/
import Derived.Test.YtblmakgjdenpfaaGreatDoorRows
import GoSem.ClaimSeven
namespace Go.Proofs.YtblmakgjdenpfaaGreatDoor
namespace Rows

/-- THE TIED CARD OF 'guiselaw11.StripOnce'. -/
def stripOnceCard : Claim7 := { stood := { row := stripOnceRow, standIns := [], harness := (true, "c88f1d4d9a2d209d9accd25f7713ff641db7f03cae388ec9200a0c29f4d59afd"), looks := false }, kinds := [], alts := [], laidByText := true, laidKinds := [.data, .pinned], laidTests := true, laidLooks := .later }
def StripOnceCardSaid : Prop := Claim7.holds Tryz.pinned (.plain (OpenSpec.ofChange stripOnceSpec)) stripOnceCard

/-- THE TIED CARD OF 'guiselaw11.StripStrips'. -/
def stripStripsCard : Claim7 := { stood := { row := stripStripsRow, standIns := [], harness := (true, "c88f1d4d9a2d209d9accd25f7713ff641db7f03cae388ec9200a0c29f4d59afd"), looks := false }, kinds := [], alts := [], laidByText := true, laidKinds := [.data, .pinned], laidTests := true, laidLooks := .later }
def StripStripsCardSaid : Prop := Claim7.holds Tryz.pinned (.plain (OpenSpec.ofChange stripStripsSpec)) stripStripsCard

/-- THE TIED CARD OF 'guiselaw11.StripNumbers'. -/
def stripNumbersCard : Claim7 := { stood := { row := stripNumbersRow, standIns := [], harness := (true, "c88f1d4d9a2d209d9accd25f7713ff641db7f03cae388ec9200a0c29f4d59afd"), looks := false }, kinds := [], alts := [], laidByText := true, laidKinds := [.data, .pinned], laidTests := true, laidLooks := .later }
def StripNumbersCardSaid : Prop := Claim7.holds Tryz.pinned (.plain (OpenSpec.ofChange stripNumbersSpec)) stripNumbersCard

/-- THE TIED CARD OF 'guiselaw8.MarksClusters'. -/
def marksClustersCard : Claim7 := { stood := { row := marksClustersRow, standIns := [], harness := (true, "c88f1d4d9a2d209d9accd25f7713ff641db7f03cae388ec9200a0c29f4d59afd"), looks := false }, kinds := [], alts := [], laidByText := true, laidKinds := [.data, .pinned], laidTests := true, laidLooks := .later }
def MarksClustersCardSaid : Prop := Claim7.holds Tryz.pinned (.plain (OpenSpec.ofChange marksClustersSpec)) marksClustersCard

/-- THE TIED CARD OF 'guiselaw8.MarksStays'. -/
def marksStaysCard : Claim7 := { stood := { row := marksStaysRow, standIns := [], harness := (true, "c88f1d4d9a2d209d9accd25f7713ff641db7f03cae388ec9200a0c29f4d59afd"), looks := false }, kinds := [], alts := [], laidByText := true, laidKinds := [.data, .pinned], laidTests := true, laidLooks := .later }
def MarksStaysCardSaid : Prop := Claim7.holds Tryz.pinned (.plain (OpenSpec.ofChange marksStaysSpec)) marksStaysCard

/-- THE SECOND FORM's CARD OF 'guiselaw11.StripOnce'. -/
def stripOnceUptoCard : Claim7 := { stood := { row := stripOnceUptoRow, standIns := [], harness := (true, "c88f1d4d9a2d209d9accd25f7713ff641db7f03cae388ec9200a0c29f4d59afd"), looks := false }, kinds := [], alts := [], laidByText := true, laidKinds := [.data, .pinned], laidTests := true, laidLooks := .later }
def StripOnceUptoCardSaid : Prop := Claim7.holds Tryz.pinned (.plain (OpenSpec.upto stripOnceSpec)) stripOnceUptoCard

/-- THE SECOND FORM's CARD OF 'guiselaw11.StripStrips'. -/
def stripStripsUptoCard : Claim7 := { stood := { row := stripStripsUptoRow, standIns := [], harness := (true, "c88f1d4d9a2d209d9accd25f7713ff641db7f03cae388ec9200a0c29f4d59afd"), looks := false }, kinds := [], alts := [], laidByText := true, laidKinds := [.data, .pinned], laidTests := true, laidLooks := .later }
def StripStripsUptoCardSaid : Prop := Claim7.holds Tryz.pinned (.plain (OpenSpec.upto stripStripsSpec)) stripStripsUptoCard

/-- THE SECOND FORM's CARD OF 'guiselaw11.StripNumbers'. -/
def stripNumbersUptoCard : Claim7 := { stood := { row := stripNumbersUptoRow, standIns := [], harness := (true, "c88f1d4d9a2d209d9accd25f7713ff641db7f03cae388ec9200a0c29f4d59afd"), looks := false }, kinds := [], alts := [], laidByText := true, laidKinds := [.data, .pinned], laidTests := true, laidLooks := .later }
def StripNumbersUptoCardSaid : Prop := Claim7.holds Tryz.pinned (.plain (OpenSpec.upto stripNumbersSpec)) stripNumbersUptoCard

/-- THE SECOND FORM's CARD OF 'guiselaw8.MarksClusters'. -/
def marksClustersUptoCard : Claim7 := { stood := { row := marksClustersUptoRow, standIns := [], harness := (true, "c88f1d4d9a2d209d9accd25f7713ff641db7f03cae388ec9200a0c29f4d59afd"), looks := false }, kinds := [], alts := [], laidByText := true, laidKinds := [.data, .pinned], laidTests := true, laidLooks := .later }
def MarksClustersUptoCardSaid : Prop := Claim7.holds Tryz.pinned (.plain (OpenSpec.upto marksClustersSpec)) marksClustersUptoCard

/-- THE SECOND FORM's CARD OF 'guiselaw8.MarksStays'. -/
def marksStaysUptoCard : Claim7 := { stood := { row := marksStaysUptoRow, standIns := [], harness := (true, "c88f1d4d9a2d209d9accd25f7713ff641db7f03cae388ec9200a0c29f4d59afd"), looks := false }, kinds := [], alts := [], laidByText := true, laidKinds := [.data, .pinned], laidTests := true, laidLooks := .later }
def MarksStaysUptoCardSaid : Prop := Claim7.holds Tryz.pinned (.plain (OpenSpec.upto marksStaysSpec)) marksStaysUptoCard
end Rows
end Go.Proofs.YtblmakgjdenpfaaGreatDoor
