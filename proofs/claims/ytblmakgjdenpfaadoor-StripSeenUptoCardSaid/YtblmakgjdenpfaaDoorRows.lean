/-
  NARROWER THAN 'FOR EVERY INPUT', by the rows' own cells (each row's printed sentence says how): StripSeen: laid · StripJoins: laid · StripPlaces: laid · MarksSwaps: laid · MarksOrders: laid · MarksNumbers: laid.
  DERIVED. THE GIVEN ROWS OF THIS SEAT. 6 by the template 'for every input the law returns true; each argument reads behind the call as it read before'; 0 by the template 'total and deterministic' (their statements: YtblmakgjdenpfaaDoorTotals.lean).
  GIVEN WITH THE SEED: the statements are not yours to turn. If you find one false, say at which input.
  Laid BY PROGRAM, IN A SANDBOX (cutbox-rows.mjs): the forced cells as the released guide's own fill.sh prints them over the translation 912ec274bc56d586… (all of the seat's roots in one cut). By AI agents, Wed Nov 11 2026. No macro, syntax, notation, axiom, sorry.
-/
import Derived.Test.YtblmakgjdenpfaaDoorChecked
import GoSem.PinnedTables
import GoSem.Claim
import GoSem.ClaimJoined
import GoSem.ClaimMapViews
import Derived.JoinedTies
import Derived.KernelRfl
namespace Go.Proofs.YtblmakgjdenpfaaDoor
/- THE CELL 'sum', in the pinned program and in every row, IS THE sha256 OF THE DUMP (.gsa) THAT YtblmakgjdenpfaaDoorProg.lean LOADS. Nothing in Lean hashes anything: it is a label: what it is worth is what the hold of that sum in a sandbox is worth. -/
noncomputable def Tryd.pinned : Pinned := { name := "ytblmakgjdenpfaadoor", sum := "912ec274bc56d586b018f9bc73825f82c1b2da27a2b5c8dbfcccb56b231b84b5", checked := Tryd.checked }
namespace Rows
def none {H : Type} : Left H := { results := [], args := [] }

/- WHAT THE LISTED PACKAGE-LEVEL VARIABLES READ AS WHEN THE CALL BEGINS. Each datum BY PROGRAM (the guide's laid-datum.mjs) off the statement by which the dump's own 'gosem.cut.vars' lays the variable. In a bare row this is a premise. The card (YtblmakgjdenpfaaDoorCards.lean) ties it to the program's text. -/
def laid_unicode_utf8_acceptRanges {H : Type} : DataW H := .agg [.agg [.lit (.int .u8 128), .lit (.int .u8 191)], .agg [.lit (.int .u8 160), .lit (.int .u8 191)], .agg [.lit (.int .u8 128), .lit (.int .u8 159)], .agg [.lit (.int .u8 144), .lit (.int .u8 191)], .agg [.lit (.int .u8 128), .lit (.int .u8 143)], .agg [.lit (.int .u8 0), .lit (.int .u8 0)], .agg [.lit (.int .u8 0), .lit (.int .u8 0)], .agg [.lit (.int .u8 0), .lit (.int .u8 0)], .agg [.lit (.int .u8 0), .lit (.int .u8 0)], .agg [.lit (.int .u8 0), .lit (.int .u8 0)], .agg [.lit (.int .u8 0), .lit (.int .u8 0)], .agg [.lit (.int .u8 0), .lit (.int .u8 0)], .agg [.lit (.int .u8 0), .lit (.int .u8 0)], .agg [.lit (.int .u8 0), .lit (.int .u8 0)], .agg [.lit (.int .u8 0), .lit (.int .u8 0)], .agg [.lit (.int .u8 0), .lit (.int .u8 0)]]
/-- One of Go's own tables, pinned by name: the form's constant. -/
def laid_unicode_utf8_first : DataW Unit := Go.Pinned.utf8First

/-- 'guiselaw11.StripSeen': WHATEVER THE INPUT: true; the input reads as it did. -/
def stripSeenSpec : ChangeSpec := { name := "stripSeen", fn := fun _ => fun
  | [d1, d2, d3] => { results := [.lit (.bool true)], args := [d1, d2, d3] }
  | _ => none }
def stripSeenRow : OpenClaim := { program := "ytblmakgjdenpfaadoor", sum := "912ec274bc56d586b018f9bc73825f82c1b2da27a2b5c8dbfcccb56b231b84b5", func := "guise/guiselaw11.StripSeen", spec := "stripSeen", inPlace := ["internal/bytealg.IndexByteString", "internal/bytealg.IndexString", "internal/abi.NoEscape"], unfollowed := true, recurses := true, named := ["unicode/utf8.first", "unicode/utf8.acceptRanges", "internal/bytealg.MaxLen"], plainKeys := false, apart := false, laid := [("unicode/utf8.acceptRanges", laid_unicode_utf8_acceptRanges), ("unicode/utf8.first", laid_unicode_utf8_first)] }
def StripSeenSaid : Prop := stripSeenRow.holds Tryd.pinned (OpenSpec.ofChange stripSeenSpec)

/-- ITS FALSE NEIGHBOUR: 'it returns false'. Refute it at one input. -/
def stripSeenWrong : ChangeSpec := { name := "stripSeen", fn := fun _ => fun
  | [d1, d2, d3] => { results := [.lit (.bool false)], args := [d1, d2, d3] }
  | _ => none }
def StripSeenWrongFalsely : Prop := stripSeenRow.holds Tryd.pinned (OpenSpec.ofChange stripSeenWrong)

/-- 'guiselaw11.StripJoins': WHATEVER THE INPUT: true; the input reads as it did. -/
def stripJoinsSpec : ChangeSpec := { name := "stripJoins", fn := fun _ => fun
  | [d1, d2, d3] => { results := [.lit (.bool true)], args := [d1, d2, d3] }
  | _ => none }
def stripJoinsRow : OpenClaim := { program := "ytblmakgjdenpfaadoor", sum := "912ec274bc56d586b018f9bc73825f82c1b2da27a2b5c8dbfcccb56b231b84b5", func := "guise/guiselaw11.StripJoins", spec := "stripJoins", inPlace := ["internal/bytealg.IndexByteString", "internal/bytealg.IndexString", "internal/abi.NoEscape"], unfollowed := true, recurses := true, named := ["unicode/utf8.first", "unicode/utf8.acceptRanges", "internal/bytealg.MaxLen"], plainKeys := false, apart := false, laid := [("unicode/utf8.acceptRanges", laid_unicode_utf8_acceptRanges), ("unicode/utf8.first", laid_unicode_utf8_first)] }
def StripJoinsSaid : Prop := stripJoinsRow.holds Tryd.pinned (OpenSpec.ofChange stripJoinsSpec)

/-- ITS FALSE NEIGHBOUR: 'it returns false'. Refute it at one input. -/
def stripJoinsWrong : ChangeSpec := { name := "stripJoins", fn := fun _ => fun
  | [d1, d2, d3] => { results := [.lit (.bool false)], args := [d1, d2, d3] }
  | _ => none }
def StripJoinsWrongFalsely : Prop := stripJoinsRow.holds Tryd.pinned (OpenSpec.ofChange stripJoinsWrong)

/-- 'guiselaw11.StripPlaces': WHATEVER THE INPUT: true; the input reads as it did. -/
def stripPlacesSpec : ChangeSpec := { name := "stripPlaces", fn := fun _ => fun
  | [d1, d2, d3] => { results := [.lit (.bool true)], args := [d1, d2, d3] }
  | _ => none }
def stripPlacesRow : OpenClaim := { program := "ytblmakgjdenpfaadoor", sum := "912ec274bc56d586b018f9bc73825f82c1b2da27a2b5c8dbfcccb56b231b84b5", func := "guise/guiselaw11.StripPlaces", spec := "stripPlaces", inPlace := ["internal/bytealg.IndexByteString", "internal/bytealg.IndexString", "internal/abi.NoEscape"], unfollowed := true, recurses := true, named := ["unicode/utf8.first", "unicode/utf8.acceptRanges", "internal/bytealg.MaxLen"], plainKeys := false, apart := false, laid := [("unicode/utf8.acceptRanges", laid_unicode_utf8_acceptRanges), ("unicode/utf8.first", laid_unicode_utf8_first)] }
def StripPlacesSaid : Prop := stripPlacesRow.holds Tryd.pinned (OpenSpec.ofChange stripPlacesSpec)

/-- ITS FALSE NEIGHBOUR: 'it returns false'. Refute it at one input. -/
def stripPlacesWrong : ChangeSpec := { name := "stripPlaces", fn := fun _ => fun
  | [d1, d2, d3] => { results := [.lit (.bool false)], args := [d1, d2, d3] }
  | _ => none }
def StripPlacesWrongFalsely : Prop := stripPlacesRow.holds Tryd.pinned (OpenSpec.ofChange stripPlacesWrong)

/-- 'guiselaw8.MarksSwaps': WHATEVER THE INPUT: true; the input reads as it did. -/
def marksSwapsSpec : ChangeSpec := { name := "marksSwaps", fn := fun _ => fun
  | [d1, d2, d3] => { results := [.lit (.bool true)], args := [d1, d2, d3] }
  | _ => none }
def marksSwapsRow : OpenClaim := { program := "ytblmakgjdenpfaadoor", sum := "912ec274bc56d586b018f9bc73825f82c1b2da27a2b5c8dbfcccb56b231b84b5", func := "guise/guiselaw8.MarksSwaps", spec := "marksSwaps", inPlace := ["internal/bytealg.IndexByteString", "internal/bytealg.IndexString"], unfollowed := true, recurses := true, named := ["unicode/utf8.first", "unicode/utf8.acceptRanges", "internal/bytealg.MaxLen"], plainKeys := false, apart := false, laid := [("unicode/utf8.acceptRanges", laid_unicode_utf8_acceptRanges), ("unicode/utf8.first", laid_unicode_utf8_first)] }
def MarksSwapsSaid : Prop := marksSwapsRow.holds Tryd.pinned (OpenSpec.ofChange marksSwapsSpec)

/-- ITS FALSE NEIGHBOUR: 'it returns false'. Refute it at one input. -/
def marksSwapsWrong : ChangeSpec := { name := "marksSwaps", fn := fun _ => fun
  | [d1, d2, d3] => { results := [.lit (.bool false)], args := [d1, d2, d3] }
  | _ => none }
def MarksSwapsWrongFalsely : Prop := marksSwapsRow.holds Tryd.pinned (OpenSpec.ofChange marksSwapsWrong)

/-- 'guiselaw8.MarksOrders': WHATEVER THE INPUT: true; the input reads as it did. -/
def marksOrdersSpec : ChangeSpec := { name := "marksOrders", fn := fun _ => fun
  | [d1, d2] => { results := [.lit (.bool true)], args := [d1, d2] }
  | _ => none }
def marksOrdersRow : OpenClaim := { program := "ytblmakgjdenpfaadoor", sum := "912ec274bc56d586b018f9bc73825f82c1b2da27a2b5c8dbfcccb56b231b84b5", func := "guise/guiselaw8.MarksOrders", spec := "marksOrders", inPlace := ["internal/bytealg.IndexByteString", "internal/bytealg.IndexString"], unfollowed := true, recurses := true, named := ["unicode/utf8.first", "unicode/utf8.acceptRanges", "internal/bytealg.MaxLen"], plainKeys := false, apart := false, laid := [("unicode/utf8.acceptRanges", laid_unicode_utf8_acceptRanges), ("unicode/utf8.first", laid_unicode_utf8_first)] }
def MarksOrdersSaid : Prop := marksOrdersRow.holds Tryd.pinned (OpenSpec.ofChange marksOrdersSpec)

/-- ITS FALSE NEIGHBOUR: 'it returns false'. Refute it at one input. -/
def marksOrdersWrong : ChangeSpec := { name := "marksOrders", fn := fun _ => fun
  | [d1, d2] => { results := [.lit (.bool false)], args := [d1, d2] }
  | _ => none }
def MarksOrdersWrongFalsely : Prop := marksOrdersRow.holds Tryd.pinned (OpenSpec.ofChange marksOrdersWrong)

/-- 'guiselaw8.MarksNumbers': WHATEVER THE INPUT: true; the input reads as it did. -/
def marksNumbersSpec : ChangeSpec := { name := "marksNumbers", fn := fun _ => fun
  | [] => { results := [.lit (.bool true)], args := [] }
  | _ => none }
def marksNumbersRow : OpenClaim := { program := "ytblmakgjdenpfaadoor", sum := "912ec274bc56d586b018f9bc73825f82c1b2da27a2b5c8dbfcccb56b231b84b5", func := "guise/guiselaw8.MarksNumbers", spec := "marksNumbers", inPlace := ["internal/bytealg.IndexByteString", "internal/bytealg.IndexString"], unfollowed := true, recurses := true, named := ["unicode/utf8.first", "unicode/utf8.acceptRanges", "internal/bytealg.MaxLen"], plainKeys := false, apart := false, laid := [("unicode/utf8.acceptRanges", laid_unicode_utf8_acceptRanges), ("unicode/utf8.first", laid_unicode_utf8_first)] }
def MarksNumbersSaid : Prop := marksNumbersRow.holds Tryd.pinned (OpenSpec.ofChange marksNumbersSpec)

/-- ITS FALSE NEIGHBOUR: 'it returns false'. Refute it at one input. -/
def marksNumbersWrong : ChangeSpec := { name := "marksNumbers", fn := fun _ => fun
  | [] => { results := [.lit (.bool false)], args := [] }
  | _ => none }
def MarksNumbersWrongFalsely : Prop := marksNumbersRow.holds Tryd.pinned (OpenSpec.ofChange marksNumbersWrong)

/- THE SECOND FORM. 'bulk': how many values and letters a reading holds, each counted each time it is reached (what is shared counts as often as it is met; a slice's spare places count too). A statement '..UptoSaid' is the law's where the arguments, and the package variables that the reading takes, are together of bulk at most 1048576: NARROWER than '..Said'. Prove '..Said' where nothing that the law and all that it calls make is longer than what came in: it says more and counts as full. Else prove '..UptoSaid'. A law counts once. -/
mutual
def uptoBulk {H : Type} : DataW H → Nat
  | .lit (.string bytes) => bytes.length + 1
  | .lit _ => 1
  | .nil => 1
  | .ptr d => uptoBulk d + 1
  | .slice elems spare => uptoBulkAll elems + uptoBulkAll spare + 1
  | .agg parts => uptoBulkAll parts + 1
  | .iface _ d => uptoBulk d + 1
  | .map entries => uptoBulkEntries entries + 1
  | .held _ => 1
def uptoBulkAll {H : Type} : List (DataW H) → Nat
  | [] => 0
  | d :: r => uptoBulk d + uptoBulkAll r
def uptoBulkEntries {H : Type} : List (Lit × DataW H) → Nat
  | [] => 0
  | x :: r => uptoBulkEntry x + uptoBulkEntries r
def uptoBulkEntry {H : Type} : Lit × DataW H → Nat
  | (.string bytes, d) => bytes.length + uptoBulk d + 1
  | (_, d) => uptoBulk d + 1
 end
def uptoSmall : (H : Type) → List (DataW H) → Bool := fun _ ds => decide (uptoBulkAll ds ≤ 1048576)
def OpenSpec.upto (s : _root_.Go.ChangeSpec) : _root_.Go.OpenSpec := { _root_.Go.OpenSpec.ofChange s with cond := some uptoSmall }

/-- 'guiselaw11.StripSeen', WHERE WHAT IT READS IS OF BULK AT MOST 1048576: true; the input reads as it did. -/
def stripSeenUptoRow : OpenClaim := { program := "ytblmakgjdenpfaadoor", sum := "912ec274bc56d586b018f9bc73825f82c1b2da27a2b5c8dbfcccb56b231b84b5", func := "guise/guiselaw11.StripSeen", spec := "stripSeen", inPlace := ["internal/bytealg.IndexByteString", "internal/bytealg.IndexString", "internal/abi.NoEscape"], unfollowed := true, recurses := true, named := ["unicode/utf8.first", "unicode/utf8.acceptRanges", "internal/bytealg.MaxLen"], plainKeys := false, apart := false, laid := [("unicode/utf8.acceptRanges", laid_unicode_utf8_acceptRanges), ("unicode/utf8.first", laid_unicode_utf8_first)], narrowed := true }
def StripSeenUptoSaid : Prop := stripSeenUptoRow.holds Tryd.pinned (OpenSpec.upto stripSeenSpec)

/-- 'guiselaw11.StripJoins', WHERE WHAT IT READS IS OF BULK AT MOST 1048576: true; the input reads as it did. -/
def stripJoinsUptoRow : OpenClaim := { program := "ytblmakgjdenpfaadoor", sum := "912ec274bc56d586b018f9bc73825f82c1b2da27a2b5c8dbfcccb56b231b84b5", func := "guise/guiselaw11.StripJoins", spec := "stripJoins", inPlace := ["internal/bytealg.IndexByteString", "internal/bytealg.IndexString", "internal/abi.NoEscape"], unfollowed := true, recurses := true, named := ["unicode/utf8.first", "unicode/utf8.acceptRanges", "internal/bytealg.MaxLen"], plainKeys := false, apart := false, laid := [("unicode/utf8.acceptRanges", laid_unicode_utf8_acceptRanges), ("unicode/utf8.first", laid_unicode_utf8_first)], narrowed := true }
def StripJoinsUptoSaid : Prop := stripJoinsUptoRow.holds Tryd.pinned (OpenSpec.upto stripJoinsSpec)

/-- 'guiselaw11.StripPlaces', WHERE WHAT IT READS IS OF BULK AT MOST 1048576: true; the input reads as it did. -/
def stripPlacesUptoRow : OpenClaim := { program := "ytblmakgjdenpfaadoor", sum := "912ec274bc56d586b018f9bc73825f82c1b2da27a2b5c8dbfcccb56b231b84b5", func := "guise/guiselaw11.StripPlaces", spec := "stripPlaces", inPlace := ["internal/bytealg.IndexByteString", "internal/bytealg.IndexString", "internal/abi.NoEscape"], unfollowed := true, recurses := true, named := ["unicode/utf8.first", "unicode/utf8.acceptRanges", "internal/bytealg.MaxLen"], plainKeys := false, apart := false, laid := [("unicode/utf8.acceptRanges", laid_unicode_utf8_acceptRanges), ("unicode/utf8.first", laid_unicode_utf8_first)], narrowed := true }
def StripPlacesUptoSaid : Prop := stripPlacesUptoRow.holds Tryd.pinned (OpenSpec.upto stripPlacesSpec)

/-- 'guiselaw8.MarksSwaps', WHERE WHAT IT READS IS OF BULK AT MOST 1048576: true; the input reads as it did. -/
def marksSwapsUptoRow : OpenClaim := { program := "ytblmakgjdenpfaadoor", sum := "912ec274bc56d586b018f9bc73825f82c1b2da27a2b5c8dbfcccb56b231b84b5", func := "guise/guiselaw8.MarksSwaps", spec := "marksSwaps", inPlace := ["internal/bytealg.IndexByteString", "internal/bytealg.IndexString"], unfollowed := true, recurses := true, named := ["unicode/utf8.first", "unicode/utf8.acceptRanges", "internal/bytealg.MaxLen"], plainKeys := false, apart := false, laid := [("unicode/utf8.acceptRanges", laid_unicode_utf8_acceptRanges), ("unicode/utf8.first", laid_unicode_utf8_first)], narrowed := true }
def MarksSwapsUptoSaid : Prop := marksSwapsUptoRow.holds Tryd.pinned (OpenSpec.upto marksSwapsSpec)

/-- 'guiselaw8.MarksOrders', WHERE WHAT IT READS IS OF BULK AT MOST 1048576: true; the input reads as it did. -/
def marksOrdersUptoRow : OpenClaim := { program := "ytblmakgjdenpfaadoor", sum := "912ec274bc56d586b018f9bc73825f82c1b2da27a2b5c8dbfcccb56b231b84b5", func := "guise/guiselaw8.MarksOrders", spec := "marksOrders", inPlace := ["internal/bytealg.IndexByteString", "internal/bytealg.IndexString"], unfollowed := true, recurses := true, named := ["unicode/utf8.first", "unicode/utf8.acceptRanges", "internal/bytealg.MaxLen"], plainKeys := false, apart := false, laid := [("unicode/utf8.acceptRanges", laid_unicode_utf8_acceptRanges), ("unicode/utf8.first", laid_unicode_utf8_first)], narrowed := true }
def MarksOrdersUptoSaid : Prop := marksOrdersUptoRow.holds Tryd.pinned (OpenSpec.upto marksOrdersSpec)

/-- 'guiselaw8.MarksNumbers', WHERE WHAT IT READS IS OF BULK AT MOST 1048576: true; the input reads as it did. -/
def marksNumbersUptoRow : OpenClaim := { program := "ytblmakgjdenpfaadoor", sum := "912ec274bc56d586b018f9bc73825f82c1b2da27a2b5c8dbfcccb56b231b84b5", func := "guise/guiselaw8.MarksNumbers", spec := "marksNumbers", inPlace := ["internal/bytealg.IndexByteString", "internal/bytealg.IndexString"], unfollowed := true, recurses := true, named := ["unicode/utf8.first", "unicode/utf8.acceptRanges", "internal/bytealg.MaxLen"], plainKeys := false, apart := false, laid := [("unicode/utf8.acceptRanges", laid_unicode_utf8_acceptRanges), ("unicode/utf8.first", laid_unicode_utf8_first)], narrowed := true }
def MarksNumbersUptoSaid : Prop := marksNumbersUptoRow.holds Tryd.pinned (OpenSpec.upto marksNumbersSpec)

end Rows
end Go.Proofs.YtblmakgjdenpfaaDoor
