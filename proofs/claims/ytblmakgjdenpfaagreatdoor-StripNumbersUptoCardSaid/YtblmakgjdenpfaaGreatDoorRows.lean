/-
  NARROWER THAN 'FOR EVERY INPUT', by the rows' own cells (each row's printed sentence says how): StripOnce: laid · StripStrips: laid · StripNumbers: laid · MarksClusters: laid · MarksStays: laid.
  DERIVED. THE GIVEN ROWS OF THIS SEAT. 5 by the template 'for every input the law returns true; each argument reads behind the call as it read before'; 0 by the template 'total and deterministic' (their statements: YtblmakgjdenpfaaGreatDoorTotals.lean).
  GIVEN WITH THE SEED: the statements are not yours to turn. If you find one false, say at which input.
  Laid BY PROGRAM, IN A SANDBOX (cutbox-rows.mjs): the forced cells as the released guide's own fill.sh prints them over the translation 8619c2a92b51bd71… (all of the seat's roots in one cut). By AI agents, Wed Nov 11 2026. No macro, syntax, notation, axiom, sorry.
-/
import Derived.Test.YtblmakgjdenpfaaGreatDoorChecked
import GoSem.PinnedTables
import GoSem.Claim
import GoSem.ClaimJoined
import GoSem.ClaimMapViews
import Derived.JoinedTies
import Derived.KernelRfl
namespace Go.Proofs.YtblmakgjdenpfaaGreatDoor
/- THE CELL 'sum', in the pinned program and in every row, IS THE sha256 OF THE DUMP (.gsa) THAT YtblmakgjdenpfaaGreatDoorProg.lean LOADS. Nothing in Lean hashes anything: it is a label: what it is worth is what the hold of that sum in a sandbox is worth. -/
noncomputable def Tryz.pinned : Pinned := { name := "ytblmakgjdenpfaagreatdoor", sum := "8619c2a92b51bd711288edc3b7c824aec9383ff4c71f03e4b39a0e58cee32903", checked := Tryz.checked }
namespace Rows
def none {H : Type} : Left H := { results := [], args := [] }

/- WHAT THE LISTED PACKAGE-LEVEL VARIABLES READ AS WHEN THE CALL BEGINS. Each datum BY PROGRAM (the guide's laid-datum.mjs) off the statement by which the dump's own 'gosem.cut.vars' lays the variable. In a bare row this is a premise. The card (YtblmakgjdenpfaaGreatDoorCards.lean) ties it to the program's text. -/
def laid_unicode_utf8_acceptRanges {H : Type} : DataW H := .agg [.agg [.lit (.int .u8 128), .lit (.int .u8 191)], .agg [.lit (.int .u8 160), .lit (.int .u8 191)], .agg [.lit (.int .u8 128), .lit (.int .u8 159)], .agg [.lit (.int .u8 144), .lit (.int .u8 191)], .agg [.lit (.int .u8 128), .lit (.int .u8 143)], .agg [.lit (.int .u8 0), .lit (.int .u8 0)], .agg [.lit (.int .u8 0), .lit (.int .u8 0)], .agg [.lit (.int .u8 0), .lit (.int .u8 0)], .agg [.lit (.int .u8 0), .lit (.int .u8 0)], .agg [.lit (.int .u8 0), .lit (.int .u8 0)], .agg [.lit (.int .u8 0), .lit (.int .u8 0)], .agg [.lit (.int .u8 0), .lit (.int .u8 0)], .agg [.lit (.int .u8 0), .lit (.int .u8 0)], .agg [.lit (.int .u8 0), .lit (.int .u8 0)], .agg [.lit (.int .u8 0), .lit (.int .u8 0)], .agg [.lit (.int .u8 0), .lit (.int .u8 0)]]
/-- One of Go's own tables, pinned by name: the form's constant. -/
def laid_unicode_utf8_first : DataW Unit := Go.Pinned.utf8First

/-- 'guiselaw11.StripOnce': WHATEVER THE INPUT: true; the input reads as it did. -/
def stripOnceSpec : ChangeSpec := { name := "stripOnce", fn := fun _ => fun
  | [d1, d2] => { results := [.lit (.bool true)], args := [d1, d2] }
  | _ => none }
def stripOnceRow : OpenClaim := { program := "ytblmakgjdenpfaagreatdoor", sum := "8619c2a92b51bd711288edc3b7c824aec9383ff4c71f03e4b39a0e58cee32903", func := "guise/guiselaw11.StripOnce", spec := "stripOnce", inPlace := ["internal/bytealg.IndexByteString", "internal/bytealg.IndexString", "internal/abi.NoEscape"], unfollowed := true, recurses := true, named := ["unicode/utf8.first", "unicode/utf8.acceptRanges", "internal/bytealg.MaxLen"], plainKeys := false, apart := false, laid := [("unicode/utf8.acceptRanges", laid_unicode_utf8_acceptRanges), ("unicode/utf8.first", laid_unicode_utf8_first)] }
def StripOnceSaid : Prop := stripOnceRow.holds Tryz.pinned (OpenSpec.ofChange stripOnceSpec)

/-- ITS FALSE NEIGHBOUR: 'it returns false'. Refute it at one input. -/
def stripOnceWrong : ChangeSpec := { name := "stripOnce", fn := fun _ => fun
  | [d1, d2] => { results := [.lit (.bool false)], args := [d1, d2] }
  | _ => none }
def StripOnceWrongFalsely : Prop := stripOnceRow.holds Tryz.pinned (OpenSpec.ofChange stripOnceWrong)

/-- 'guiselaw11.StripStrips': WHATEVER THE INPUT: true; the input reads as it did. -/
def stripStripsSpec : ChangeSpec := { name := "stripStrips", fn := fun _ => fun
  | [d1, d2, d3, d4] => { results := [.lit (.bool true)], args := [d1, d2, d3, d4] }
  | _ => none }
def stripStripsRow : OpenClaim := { program := "ytblmakgjdenpfaagreatdoor", sum := "8619c2a92b51bd711288edc3b7c824aec9383ff4c71f03e4b39a0e58cee32903", func := "guise/guiselaw11.StripStrips", spec := "stripStrips", inPlace := ["internal/bytealg.IndexByteString", "internal/bytealg.IndexString", "internal/abi.NoEscape"], unfollowed := true, recurses := true, named := ["unicode/utf8.first", "unicode/utf8.acceptRanges", "internal/bytealg.MaxLen"], plainKeys := false, apart := false, laid := [("unicode/utf8.acceptRanges", laid_unicode_utf8_acceptRanges), ("unicode/utf8.first", laid_unicode_utf8_first)] }
def StripStripsSaid : Prop := stripStripsRow.holds Tryz.pinned (OpenSpec.ofChange stripStripsSpec)

/-- ITS FALSE NEIGHBOUR: 'it returns false'. Refute it at one input. -/
def stripStripsWrong : ChangeSpec := { name := "stripStrips", fn := fun _ => fun
  | [d1, d2, d3, d4] => { results := [.lit (.bool false)], args := [d1, d2, d3, d4] }
  | _ => none }
def StripStripsWrongFalsely : Prop := stripStripsRow.holds Tryz.pinned (OpenSpec.ofChange stripStripsWrong)

/-- 'guiselaw11.StripNumbers': WHATEVER THE INPUT: true; the input reads as it did. -/
def stripNumbersSpec : ChangeSpec := { name := "stripNumbers", fn := fun _ => fun
  | [] => { results := [.lit (.bool true)], args := [] }
  | _ => none }
def stripNumbersRow : OpenClaim := { program := "ytblmakgjdenpfaagreatdoor", sum := "8619c2a92b51bd711288edc3b7c824aec9383ff4c71f03e4b39a0e58cee32903", func := "guise/guiselaw11.StripNumbers", spec := "stripNumbers", inPlace := ["internal/bytealg.IndexByteString", "internal/bytealg.IndexString", "internal/abi.NoEscape"], unfollowed := true, recurses := true, named := ["unicode/utf8.first", "unicode/utf8.acceptRanges", "internal/bytealg.MaxLen"], plainKeys := false, apart := false, laid := [("unicode/utf8.acceptRanges", laid_unicode_utf8_acceptRanges), ("unicode/utf8.first", laid_unicode_utf8_first)] }
def StripNumbersSaid : Prop := stripNumbersRow.holds Tryz.pinned (OpenSpec.ofChange stripNumbersSpec)

/-- ITS FALSE NEIGHBOUR: 'it returns false'. Refute it at one input. -/
def stripNumbersWrong : ChangeSpec := { name := "stripNumbers", fn := fun _ => fun
  | [] => { results := [.lit (.bool false)], args := [] }
  | _ => none }
def StripNumbersWrongFalsely : Prop := stripNumbersRow.holds Tryz.pinned (OpenSpec.ofChange stripNumbersWrong)

/-- 'guiselaw8.MarksClusters': WHATEVER THE INPUT: true; the input reads as it did. -/
def marksClustersSpec : ChangeSpec := { name := "marksClusters", fn := fun _ => fun
  | [d1, d2, d3] => { results := [.lit (.bool true)], args := [d1, d2, d3] }
  | _ => none }
def marksClustersRow : OpenClaim := { program := "ytblmakgjdenpfaagreatdoor", sum := "8619c2a92b51bd711288edc3b7c824aec9383ff4c71f03e4b39a0e58cee32903", func := "guise/guiselaw8.MarksClusters", spec := "marksClusters", inPlace := ["internal/bytealg.IndexByteString", "internal/bytealg.IndexString"], unfollowed := true, recurses := true, named := ["unicode/utf8.first", "unicode/utf8.acceptRanges", "internal/bytealg.MaxLen"], plainKeys := false, apart := false, laid := [("unicode/utf8.acceptRanges", laid_unicode_utf8_acceptRanges), ("unicode/utf8.first", laid_unicode_utf8_first)] }
def MarksClustersSaid : Prop := marksClustersRow.holds Tryz.pinned (OpenSpec.ofChange marksClustersSpec)

/-- ITS FALSE NEIGHBOUR: 'it returns false'. Refute it at one input. -/
def marksClustersWrong : ChangeSpec := { name := "marksClusters", fn := fun _ => fun
  | [d1, d2, d3] => { results := [.lit (.bool false)], args := [d1, d2, d3] }
  | _ => none }
def MarksClustersWrongFalsely : Prop := marksClustersRow.holds Tryz.pinned (OpenSpec.ofChange marksClustersWrong)

/-- 'guiselaw8.MarksStays': WHATEVER THE INPUT: true; the input reads as it did. -/
def marksStaysSpec : ChangeSpec := { name := "marksStays", fn := fun _ => fun
  | [d1, d2] => { results := [.lit (.bool true)], args := [d1, d2] }
  | _ => none }
def marksStaysRow : OpenClaim := { program := "ytblmakgjdenpfaagreatdoor", sum := "8619c2a92b51bd711288edc3b7c824aec9383ff4c71f03e4b39a0e58cee32903", func := "guise/guiselaw8.MarksStays", spec := "marksStays", inPlace := ["internal/bytealg.IndexByteString", "internal/bytealg.IndexString"], unfollowed := true, recurses := true, named := ["unicode/utf8.first", "unicode/utf8.acceptRanges", "internal/bytealg.MaxLen"], plainKeys := false, apart := false, laid := [("unicode/utf8.acceptRanges", laid_unicode_utf8_acceptRanges), ("unicode/utf8.first", laid_unicode_utf8_first)] }
def MarksStaysSaid : Prop := marksStaysRow.holds Tryz.pinned (OpenSpec.ofChange marksStaysSpec)

/-- ITS FALSE NEIGHBOUR: 'it returns false'. Refute it at one input. -/
def marksStaysWrong : ChangeSpec := { name := "marksStays", fn := fun _ => fun
  | [d1, d2] => { results := [.lit (.bool false)], args := [d1, d2] }
  | _ => none }
def MarksStaysWrongFalsely : Prop := marksStaysRow.holds Tryz.pinned (OpenSpec.ofChange marksStaysWrong)

/- THE SECOND FORM. 'bulk': how many values and letters a reading holds, each counted each time it is reached (what is shared counts as often as it is met; a slice's spare places count too). A statement '..UptoSaid' is the law's where the arguments, and the package variables that the reading takes, are together of bulk at most 1048576: NARROWER than '..Said'. Prove '..Said' where nothing that the law and all that it calls make is longer than what came in: it says more and counts as full. Else prove '..UptoSaid'. A law counts once. -/
mutual
def uptoBulk {H : Type} : DataW H → Nat
  | .lit (.string bytes) => bytes.length + 1
  | .lit _ => 1
  | .nil => 1
  | .ptr d => uptoBulk d + 1
  | .slice elems spare => uptoBulkAll elems + uptoBulkAll spare + 1
  | .agg parts => uptoBulkAll parts + 1
  | .iface _ d => uptoBulk d + 1
  | .map entries => uptoBulkEntries entries + 1
  | .held _ => 1
def uptoBulkAll {H : Type} : List (DataW H) → Nat
  | [] => 0
  | d :: r => uptoBulk d + uptoBulkAll r
def uptoBulkEntries {H : Type} : List (Lit × DataW H) → Nat
  | [] => 0
  | x :: r => uptoBulkEntry x + uptoBulkEntries r
def uptoBulkEntry {H : Type} : Lit × DataW H → Nat
  | (.string bytes, d) => bytes.length + uptoBulk d + 1
  | (_, d) => uptoBulk d + 1
 end
def uptoSmall : (H : Type) → List (DataW H) → Bool := fun _ ds => decide (uptoBulkAll ds ≤ 1048576)
def OpenSpec.upto (s : _root_.Go.ChangeSpec) : _root_.Go.OpenSpec := { _root_.Go.OpenSpec.ofChange s with cond := some uptoSmall }

/-- 'guiselaw11.StripOnce', WHERE WHAT IT READS IS OF BULK AT MOST 1048576: true; the input reads as it did. -/
def stripOnceUptoRow : OpenClaim := { program := "ytblmakgjdenpfaagreatdoor", sum := "8619c2a92b51bd711288edc3b7c824aec9383ff4c71f03e4b39a0e58cee32903", func := "guise/guiselaw11.StripOnce", spec := "stripOnce", inPlace := ["internal/bytealg.IndexByteString", "internal/bytealg.IndexString", "internal/abi.NoEscape"], unfollowed := true, recurses := true, named := ["unicode/utf8.first", "unicode/utf8.acceptRanges", "internal/bytealg.MaxLen"], plainKeys := false, apart := false, laid := [("unicode/utf8.acceptRanges", laid_unicode_utf8_acceptRanges), ("unicode/utf8.first", laid_unicode_utf8_first)], narrowed := true }
def StripOnceUptoSaid : Prop := stripOnceUptoRow.holds Tryz.pinned (OpenSpec.upto stripOnceSpec)

/-- 'guiselaw11.StripStrips', WHERE WHAT IT READS IS OF BULK AT MOST 1048576: true; the input reads as it did. -/
def stripStripsUptoRow : OpenClaim := { program := "ytblmakgjdenpfaagreatdoor", sum := "8619c2a92b51bd711288edc3b7c824aec9383ff4c71f03e4b39a0e58cee32903", func := "guise/guiselaw11.StripStrips", spec := "stripStrips", inPlace := ["internal/bytealg.IndexByteString", "internal/bytealg.IndexString", "internal/abi.NoEscape"], unfollowed := true, recurses := true, named := ["unicode/utf8.first", "unicode/utf8.acceptRanges", "internal/bytealg.MaxLen"], plainKeys := false, apart := false, laid := [("unicode/utf8.acceptRanges", laid_unicode_utf8_acceptRanges), ("unicode/utf8.first", laid_unicode_utf8_first)], narrowed := true }
def StripStripsUptoSaid : Prop := stripStripsUptoRow.holds Tryz.pinned (OpenSpec.upto stripStripsSpec)

/-- 'guiselaw11.StripNumbers', WHERE WHAT IT READS IS OF BULK AT MOST 1048576: true; the input reads as it did. -/
def stripNumbersUptoRow : OpenClaim := { program := "ytblmakgjdenpfaagreatdoor", sum := "8619c2a92b51bd711288edc3b7c824aec9383ff4c71f03e4b39a0e58cee32903", func := "guise/guiselaw11.StripNumbers", spec := "stripNumbers", inPlace := ["internal/bytealg.IndexByteString", "internal/bytealg.IndexString", "internal/abi.NoEscape"], unfollowed := true, recurses := true, named := ["unicode/utf8.first", "unicode/utf8.acceptRanges", "internal/bytealg.MaxLen"], plainKeys := false, apart := false, laid := [("unicode/utf8.acceptRanges", laid_unicode_utf8_acceptRanges), ("unicode/utf8.first", laid_unicode_utf8_first)], narrowed := true }
def StripNumbersUptoSaid : Prop := stripNumbersUptoRow.holds Tryz.pinned (OpenSpec.upto stripNumbersSpec)

/-- 'guiselaw8.MarksClusters', WHERE WHAT IT READS IS OF BULK AT MOST 1048576: true; the input reads as it did. -/
def marksClustersUptoRow : OpenClaim := { program := "ytblmakgjdenpfaagreatdoor", sum := "8619c2a92b51bd711288edc3b7c824aec9383ff4c71f03e4b39a0e58cee32903", func := "guise/guiselaw8.MarksClusters", spec := "marksClusters", inPlace := ["internal/bytealg.IndexByteString", "internal/bytealg.IndexString"], unfollowed := true, recurses := true, named := ["unicode/utf8.first", "unicode/utf8.acceptRanges", "internal/bytealg.MaxLen"], plainKeys := false, apart := false, laid := [("unicode/utf8.acceptRanges", laid_unicode_utf8_acceptRanges), ("unicode/utf8.first", laid_unicode_utf8_first)], narrowed := true }
def MarksClustersUptoSaid : Prop := marksClustersUptoRow.holds Tryz.pinned (OpenSpec.upto marksClustersSpec)

/-- 'guiselaw8.MarksStays', WHERE WHAT IT READS IS OF BULK AT MOST 1048576: true; the input reads as it did. -/
def marksStaysUptoRow : OpenClaim := { program := "ytblmakgjdenpfaagreatdoor", sum := "8619c2a92b51bd711288edc3b7c824aec9383ff4c71f03e4b39a0e58cee32903", func := "guise/guiselaw8.MarksStays", spec := "marksStays", inPlace := ["internal/bytealg.IndexByteString", "internal/bytealg.IndexString"], unfollowed := true, recurses := true, named := ["unicode/utf8.first", "unicode/utf8.acceptRanges", "internal/bytealg.MaxLen"], plainKeys := false, apart := false, laid := [("unicode/utf8.acceptRanges", laid_unicode_utf8_acceptRanges), ("unicode/utf8.first", laid_unicode_utf8_first)], narrowed := true }
def MarksStaysUptoSaid : Prop := marksStaysUptoRow.holds Tryz.pinned (OpenSpec.upto marksStaysSpec)

end Rows
end Go.Proofs.YtblmakgjdenpfaaGreatDoor
