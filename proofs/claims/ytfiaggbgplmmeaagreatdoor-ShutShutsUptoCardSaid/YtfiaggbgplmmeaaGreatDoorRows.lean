/-
  NARROWER THAN 'FOR EVERY INPUT', by the rows' own cells (each row's printed sentence says how): OpenKept: laid · OpenNumbers: laid · OpenOpens: laid · OpenStays: laid · OpenCuts: laid · ShutNumbers: laid · ShutShuts: laid · ShutBack: laid · ShutCuts: laid.
  DERIVED. THE GIVEN ROWS OF THIS SEAT. 9 by the template 'for every input the law returns true; each argument reads behind the call as it read before'; 0 by the template 'total and deterministic' (their statements: YtfiaggbgplmmeaaGreatDoorTotals.lean).
  GIVEN WITH THE SEED: the statements are not yours to turn. If you find one false, say at which input.
  Laid BY PROGRAM, IN A SANDBOX (cutbox-rows.mjs): the forced cells as the released guide's own fill.sh prints them over the translation f9e6dba103f6e31c… (all of the seat's roots in one cut). By AI agents, Wed Nov 11 2026. No macro, syntax, notation, axiom, sorry.
-/
import Derived.Test.YtfiaggbgplmmeaaGreatDoorChecked
import GoSem.PinnedTables
import GoSem.Claim
import GoSem.ClaimJoined
import GoSem.ClaimMapViews
import Derived.JoinedTies
import Derived.KernelRfl
namespace Go.Proofs.YtfiaggbgplmmeaaGreatDoor
/- THE CELL 'sum', in the pinned program and in every row, IS THE sha256 OF THE DUMP (.gsa) THAT YtfiaggbgplmmeaaGreatDoorProg.lean LOADS. Nothing in Lean hashes anything: it is a label: what it is worth is what the hold of that sum in a sandbox is worth. -/
noncomputable def Tryz.pinned : Pinned := { name := "ytfiaggbgplmmeaagreatdoor", sum := "f9e6dba103f6e31ce70a3bf86c4efdac6945ba2ec8b450354dae4d7386ceee71", checked := Tryz.checked }
namespace Rows
def none {H : Type} : Left H := { results := [], args := [] }

/- WHAT THE LISTED PACKAGE-LEVEL VARIABLES READ AS WHEN THE CALL BEGINS. Each datum BY PROGRAM (the guide's laid-datum.mjs) off the statement by which the dump's own 'gosem.cut.vars' lays the variable. In a bare row this is a premise. The card (YtfiaggbgplmmeaaGreatDoorCards.lean) ties it to the program's text. -/
def laid_unicode_utf8_acceptRanges {H : Type} : DataW H := .agg [.agg [.lit (.int .u8 128), .lit (.int .u8 191)], .agg [.lit (.int .u8 160), .lit (.int .u8 191)], .agg [.lit (.int .u8 128), .lit (.int .u8 159)], .agg [.lit (.int .u8 144), .lit (.int .u8 191)], .agg [.lit (.int .u8 128), .lit (.int .u8 143)], .agg [.lit (.int .u8 0), .lit (.int .u8 0)], .agg [.lit (.int .u8 0), .lit (.int .u8 0)], .agg [.lit (.int .u8 0), .lit (.int .u8 0)], .agg [.lit (.int .u8 0), .lit (.int .u8 0)], .agg [.lit (.int .u8 0), .lit (.int .u8 0)], .agg [.lit (.int .u8 0), .lit (.int .u8 0)], .agg [.lit (.int .u8 0), .lit (.int .u8 0)], .agg [.lit (.int .u8 0), .lit (.int .u8 0)], .agg [.lit (.int .u8 0), .lit (.int .u8 0)], .agg [.lit (.int .u8 0), .lit (.int .u8 0)], .agg [.lit (.int .u8 0), .lit (.int .u8 0)]]
/-- One of Go's own tables, pinned by name: the form's constant. -/
def laid_unicode_utf8_first : DataW Unit := Go.Pinned.utf8First

/-- 'guiselaw9.OpenKept': WHATEVER THE INPUT: true; the input reads as it did. -/
def openKeptSpec : ChangeSpec := { name := "openKept", fn := fun _ => fun
  | [d1, d2] => { results := [.lit (.bool true)], args := [d1, d2] }
  | _ => none }
def openKeptRow : OpenClaim := { program := "ytfiaggbgplmmeaagreatdoor", sum := "f9e6dba103f6e31ce70a3bf86c4efdac6945ba2ec8b450354dae4d7386ceee71", func := "guise/guiselaw9.OpenKept", spec := "openKept", inPlace := ["internal/bytealg.IndexByteString", "internal/bytealg.IndexString"], unfollowed := true, recurses := true, named := ["unicode/utf8.first", "unicode/utf8.acceptRanges", "internal/bytealg.MaxLen"], plainKeys := false, apart := false, laid := [("unicode/utf8.acceptRanges", laid_unicode_utf8_acceptRanges), ("unicode/utf8.first", laid_unicode_utf8_first)] }
def OpenKeptSaid : Prop := openKeptRow.holds Tryz.pinned (OpenSpec.ofChange openKeptSpec)

/-- ITS FALSE NEIGHBOUR: 'it returns false'. Refute it at one input. -/
def openKeptWrong : ChangeSpec := { name := "openKept", fn := fun _ => fun
  | [d1, d2] => { results := [.lit (.bool false)], args := [d1, d2] }
  | _ => none }
def OpenKeptWrongFalsely : Prop := openKeptRow.holds Tryz.pinned (OpenSpec.ofChange openKeptWrong)

/-- 'guiselaw9.OpenNumbers': WHATEVER THE INPUT: true; the input reads as it did. -/
def openNumbersSpec : ChangeSpec := { name := "openNumbers", fn := fun _ => fun
  | [] => { results := [.lit (.bool true)], args := [] }
  | _ => none }
def openNumbersRow : OpenClaim := { program := "ytfiaggbgplmmeaagreatdoor", sum := "f9e6dba103f6e31ce70a3bf86c4efdac6945ba2ec8b450354dae4d7386ceee71", func := "guise/guiselaw9.OpenNumbers", spec := "openNumbers", inPlace := ["internal/bytealg.IndexByteString", "internal/bytealg.IndexString"], unfollowed := true, recurses := true, named := ["unicode/utf8.first", "unicode/utf8.acceptRanges", "internal/bytealg.MaxLen"], plainKeys := false, apart := false, laid := [("unicode/utf8.acceptRanges", laid_unicode_utf8_acceptRanges), ("unicode/utf8.first", laid_unicode_utf8_first)] }
def OpenNumbersSaid : Prop := openNumbersRow.holds Tryz.pinned (OpenSpec.ofChange openNumbersSpec)

/-- ITS FALSE NEIGHBOUR: 'it returns false'. Refute it at one input. -/
def openNumbersWrong : ChangeSpec := { name := "openNumbers", fn := fun _ => fun
  | [] => { results := [.lit (.bool false)], args := [] }
  | _ => none }
def OpenNumbersWrongFalsely : Prop := openNumbersRow.holds Tryz.pinned (OpenSpec.ofChange openNumbersWrong)

/-- 'guiselaw9.OpenOpens': WHATEVER THE INPUT: true; the input reads as it did. -/
def openOpensSpec : ChangeSpec := { name := "openOpens", fn := fun _ => fun
  | [d1, d2, d3] => { results := [.lit (.bool true)], args := [d1, d2, d3] }
  | _ => none }
def openOpensRow : OpenClaim := { program := "ytfiaggbgplmmeaagreatdoor", sum := "f9e6dba103f6e31ce70a3bf86c4efdac6945ba2ec8b450354dae4d7386ceee71", func := "guise/guiselaw9.OpenOpens", spec := "openOpens", inPlace := ["internal/bytealg.IndexByteString", "internal/bytealg.IndexString"], unfollowed := true, recurses := true, named := ["unicode/utf8.first", "unicode/utf8.acceptRanges", "internal/bytealg.MaxLen"], plainKeys := false, apart := false, laid := [("unicode/utf8.acceptRanges", laid_unicode_utf8_acceptRanges), ("unicode/utf8.first", laid_unicode_utf8_first)] }
def OpenOpensSaid : Prop := openOpensRow.holds Tryz.pinned (OpenSpec.ofChange openOpensSpec)

/-- ITS FALSE NEIGHBOUR: 'it returns false'. Refute it at one input. -/
def openOpensWrong : ChangeSpec := { name := "openOpens", fn := fun _ => fun
  | [d1, d2, d3] => { results := [.lit (.bool false)], args := [d1, d2, d3] }
  | _ => none }
def OpenOpensWrongFalsely : Prop := openOpensRow.holds Tryz.pinned (OpenSpec.ofChange openOpensWrong)

/-- 'guiselaw9.OpenStays': WHATEVER THE INPUT: true; the input reads as it did. -/
def openStaysSpec : ChangeSpec := { name := "openStays", fn := fun _ => fun
  | [d1, d2] => { results := [.lit (.bool true)], args := [d1, d2] }
  | _ => none }
def openStaysRow : OpenClaim := { program := "ytfiaggbgplmmeaagreatdoor", sum := "f9e6dba103f6e31ce70a3bf86c4efdac6945ba2ec8b450354dae4d7386ceee71", func := "guise/guiselaw9.OpenStays", spec := "openStays", inPlace := ["internal/bytealg.IndexByteString", "internal/bytealg.IndexString"], unfollowed := true, recurses := true, named := ["unicode/utf8.first", "unicode/utf8.acceptRanges", "internal/bytealg.MaxLen"], plainKeys := false, apart := false, laid := [("unicode/utf8.acceptRanges", laid_unicode_utf8_acceptRanges), ("unicode/utf8.first", laid_unicode_utf8_first)] }
def OpenStaysSaid : Prop := openStaysRow.holds Tryz.pinned (OpenSpec.ofChange openStaysSpec)

/-- ITS FALSE NEIGHBOUR: 'it returns false'. Refute it at one input. -/
def openStaysWrong : ChangeSpec := { name := "openStays", fn := fun _ => fun
  | [d1, d2] => { results := [.lit (.bool false)], args := [d1, d2] }
  | _ => none }
def OpenStaysWrongFalsely : Prop := openStaysRow.holds Tryz.pinned (OpenSpec.ofChange openStaysWrong)

/-- 'guiselaw9.OpenCuts': WHATEVER THE INPUT: true; the input reads as it did. -/
def openCutsSpec : ChangeSpec := { name := "openCuts", fn := fun _ => fun
  | [d1, d2, d3] => { results := [.lit (.bool true)], args := [d1, d2, d3] }
  | _ => none }
def openCutsRow : OpenClaim := { program := "ytfiaggbgplmmeaagreatdoor", sum := "f9e6dba103f6e31ce70a3bf86c4efdac6945ba2ec8b450354dae4d7386ceee71", func := "guise/guiselaw9.OpenCuts", spec := "openCuts", inPlace := ["internal/bytealg.IndexByteString", "internal/bytealg.IndexString"], unfollowed := true, recurses := true, named := ["unicode/utf8.first", "unicode/utf8.acceptRanges", "internal/bytealg.MaxLen"], plainKeys := false, apart := false, laid := [("unicode/utf8.acceptRanges", laid_unicode_utf8_acceptRanges), ("unicode/utf8.first", laid_unicode_utf8_first)] }
def OpenCutsSaid : Prop := openCutsRow.holds Tryz.pinned (OpenSpec.ofChange openCutsSpec)

/-- ITS FALSE NEIGHBOUR: 'it returns false'. Refute it at one input. -/
def openCutsWrong : ChangeSpec := { name := "openCuts", fn := fun _ => fun
  | [d1, d2, d3] => { results := [.lit (.bool false)], args := [d1, d2, d3] }
  | _ => none }
def OpenCutsWrongFalsely : Prop := openCutsRow.holds Tryz.pinned (OpenSpec.ofChange openCutsWrong)

/-- 'guiselaw10.ShutNumbers': WHATEVER THE INPUT: true; the input reads as it did. -/
def shutNumbersSpec : ChangeSpec := { name := "shutNumbers", fn := fun _ => fun
  | [] => { results := [.lit (.bool true)], args := [] }
  | _ => none }
def shutNumbersRow : OpenClaim := { program := "ytfiaggbgplmmeaagreatdoor", sum := "f9e6dba103f6e31ce70a3bf86c4efdac6945ba2ec8b450354dae4d7386ceee71", func := "guise/guiselaw10.ShutNumbers", spec := "shutNumbers", inPlace := ["internal/bytealg.IndexByteString", "internal/bytealg.IndexString"], unfollowed := true, recurses := true, named := ["unicode/utf8.first", "unicode/utf8.acceptRanges", "internal/bytealg.MaxLen"], plainKeys := false, apart := false, laid := [("unicode/utf8.acceptRanges", laid_unicode_utf8_acceptRanges), ("unicode/utf8.first", laid_unicode_utf8_first)] }
def ShutNumbersSaid : Prop := shutNumbersRow.holds Tryz.pinned (OpenSpec.ofChange shutNumbersSpec)

/-- ITS FALSE NEIGHBOUR: 'it returns false'. Refute it at one input. -/
def shutNumbersWrong : ChangeSpec := { name := "shutNumbers", fn := fun _ => fun
  | [] => { results := [.lit (.bool false)], args := [] }
  | _ => none }
def ShutNumbersWrongFalsely : Prop := shutNumbersRow.holds Tryz.pinned (OpenSpec.ofChange shutNumbersWrong)

/-- 'guiselaw10.ShutShuts': WHATEVER THE INPUT: true; the input reads as it did. -/
def shutShutsSpec : ChangeSpec := { name := "shutShuts", fn := fun _ => fun
  | [d1, d2] => { results := [.lit (.bool true)], args := [d1, d2] }
  | _ => none }
def shutShutsRow : OpenClaim := { program := "ytfiaggbgplmmeaagreatdoor", sum := "f9e6dba103f6e31ce70a3bf86c4efdac6945ba2ec8b450354dae4d7386ceee71", func := "guise/guiselaw10.ShutShuts", spec := "shutShuts", inPlace := ["internal/bytealg.IndexByteString", "internal/bytealg.IndexString"], unfollowed := true, recurses := true, named := ["unicode/utf8.first", "unicode/utf8.acceptRanges", "internal/bytealg.MaxLen"], plainKeys := false, apart := false, laid := [("unicode/utf8.acceptRanges", laid_unicode_utf8_acceptRanges), ("unicode/utf8.first", laid_unicode_utf8_first)] }
def ShutShutsSaid : Prop := shutShutsRow.holds Tryz.pinned (OpenSpec.ofChange shutShutsSpec)

/-- ITS FALSE NEIGHBOUR: 'it returns false'. Refute it at one input. -/
def shutShutsWrong : ChangeSpec := { name := "shutShuts", fn := fun _ => fun
  | [d1, d2] => { results := [.lit (.bool false)], args := [d1, d2] }
  | _ => none }
def ShutShutsWrongFalsely : Prop := shutShutsRow.holds Tryz.pinned (OpenSpec.ofChange shutShutsWrong)

/-- 'guiselaw10.ShutBack': WHATEVER THE INPUT: true; the input reads as it did. -/
def shutBackSpec : ChangeSpec := { name := "shutBack", fn := fun _ => fun
  | [d1, d2] => { results := [.lit (.bool true)], args := [d1, d2] }
  | _ => none }
def shutBackRow : OpenClaim := { program := "ytfiaggbgplmmeaagreatdoor", sum := "f9e6dba103f6e31ce70a3bf86c4efdac6945ba2ec8b450354dae4d7386ceee71", func := "guise/guiselaw10.ShutBack", spec := "shutBack", inPlace := ["internal/bytealg.IndexByteString", "internal/bytealg.IndexString"], unfollowed := true, recurses := true, named := ["unicode/utf8.first", "unicode/utf8.acceptRanges", "internal/bytealg.MaxLen"], plainKeys := false, apart := false, laid := [("unicode/utf8.acceptRanges", laid_unicode_utf8_acceptRanges), ("unicode/utf8.first", laid_unicode_utf8_first)] }
def ShutBackSaid : Prop := shutBackRow.holds Tryz.pinned (OpenSpec.ofChange shutBackSpec)

/-- ITS FALSE NEIGHBOUR: 'it returns false'. Refute it at one input. -/
def shutBackWrong : ChangeSpec := { name := "shutBack", fn := fun _ => fun
  | [d1, d2] => { results := [.lit (.bool false)], args := [d1, d2] }
  | _ => none }
def ShutBackWrongFalsely : Prop := shutBackRow.holds Tryz.pinned (OpenSpec.ofChange shutBackWrong)

/-- 'guiselaw10.ShutCuts': WHATEVER THE INPUT: true; the input reads as it did. -/
def shutCutsSpec : ChangeSpec := { name := "shutCuts", fn := fun _ => fun
  | [d1, d2, d3] => { results := [.lit (.bool true)], args := [d1, d2, d3] }
  | _ => none }
def shutCutsRow : OpenClaim := { program := "ytfiaggbgplmmeaagreatdoor", sum := "f9e6dba103f6e31ce70a3bf86c4efdac6945ba2ec8b450354dae4d7386ceee71", func := "guise/guiselaw10.ShutCuts", spec := "shutCuts", inPlace := ["internal/bytealg.IndexByteString", "internal/bytealg.IndexString"], unfollowed := true, recurses := true, named := ["unicode/utf8.first", "unicode/utf8.acceptRanges", "internal/bytealg.MaxLen"], plainKeys := false, apart := false, laid := [("unicode/utf8.acceptRanges", laid_unicode_utf8_acceptRanges), ("unicode/utf8.first", laid_unicode_utf8_first)] }
def ShutCutsSaid : Prop := shutCutsRow.holds Tryz.pinned (OpenSpec.ofChange shutCutsSpec)

/-- ITS FALSE NEIGHBOUR: 'it returns false'. Refute it at one input. -/
def shutCutsWrong : ChangeSpec := { name := "shutCuts", fn := fun _ => fun
  | [d1, d2, d3] => { results := [.lit (.bool false)], args := [d1, d2, d3] }
  | _ => none }
def ShutCutsWrongFalsely : Prop := shutCutsRow.holds Tryz.pinned (OpenSpec.ofChange shutCutsWrong)

/- THE SECOND FORM. 'bulk': how many values and letters a reading holds, each counted each time it is reached (what is shared counts as often as it is met; a slice's spare places count too). A statement '..UptoSaid' is the law's where the arguments, and the package variables that the reading takes, are together of bulk at most 1048576: NARROWER than '..Said'. Prove '..Said' where nothing that the law and all that it calls make is longer than what came in: it says more and counts as full. Else prove '..UptoSaid'. A law counts once. -/
mutual
def uptoBulk {H : Type} : DataW H → Nat
  | .lit (.string bytes) => bytes.length + 1
  | .lit _ => 1
  | .nil => 1
  | .ptr d => uptoBulk d + 1
  | .slice elems spare => uptoBulkAll elems + uptoBulkAll spare + 1
  | .agg parts => uptoBulkAll parts + 1
  | .iface _ d => uptoBulk d + 1
  | .map entries => uptoBulkEntries entries + 1
  | .held _ => 1
def uptoBulkAll {H : Type} : List (DataW H) → Nat
  | [] => 0
  | d :: r => uptoBulk d + uptoBulkAll r
def uptoBulkEntries {H : Type} : List (Lit × DataW H) → Nat
  | [] => 0
  | x :: r => uptoBulkEntry x + uptoBulkEntries r
def uptoBulkEntry {H : Type} : Lit × DataW H → Nat
  | (.string bytes, d) => bytes.length + uptoBulk d + 1
  | (_, d) => uptoBulk d + 1
 end
def uptoSmall : (H : Type) → List (DataW H) → Bool := fun _ ds => decide (uptoBulkAll ds ≤ 1048576)
def OpenSpec.upto (s : _root_.Go.ChangeSpec) : _root_.Go.OpenSpec := { _root_.Go.OpenSpec.ofChange s with cond := some uptoSmall }

/-- 'guiselaw9.OpenKept', WHERE WHAT IT READS IS OF BULK AT MOST 1048576: true; the input reads as it did. -/
def openKeptUptoRow : OpenClaim := { program := "ytfiaggbgplmmeaagreatdoor", sum := "f9e6dba103f6e31ce70a3bf86c4efdac6945ba2ec8b450354dae4d7386ceee71", func := "guise/guiselaw9.OpenKept", spec := "openKept", inPlace := ["internal/bytealg.IndexByteString", "internal/bytealg.IndexString"], unfollowed := true, recurses := true, named := ["unicode/utf8.first", "unicode/utf8.acceptRanges", "internal/bytealg.MaxLen"], plainKeys := false, apart := false, laid := [("unicode/utf8.acceptRanges", laid_unicode_utf8_acceptRanges), ("unicode/utf8.first", laid_unicode_utf8_first)], narrowed := true }
def OpenKeptUptoSaid : Prop := openKeptUptoRow.holds Tryz.pinned (OpenSpec.upto openKeptSpec)

/-- 'guiselaw9.OpenNumbers', WHERE WHAT IT READS IS OF BULK AT MOST 1048576: true; the input reads as it did. -/
def openNumbersUptoRow : OpenClaim := { program := "ytfiaggbgplmmeaagreatdoor", sum := "f9e6dba103f6e31ce70a3bf86c4efdac6945ba2ec8b450354dae4d7386ceee71", func := "guise/guiselaw9.OpenNumbers", spec := "openNumbers", inPlace := ["internal/bytealg.IndexByteString", "internal/bytealg.IndexString"], unfollowed := true, recurses := true, named := ["unicode/utf8.first", "unicode/utf8.acceptRanges", "internal/bytealg.MaxLen"], plainKeys := false, apart := false, laid := [("unicode/utf8.acceptRanges", laid_unicode_utf8_acceptRanges), ("unicode/utf8.first", laid_unicode_utf8_first)], narrowed := true }
def OpenNumbersUptoSaid : Prop := openNumbersUptoRow.holds Tryz.pinned (OpenSpec.upto openNumbersSpec)

/-- 'guiselaw9.OpenOpens', WHERE WHAT IT READS IS OF BULK AT MOST 1048576: true; the input reads as it did. -/
def openOpensUptoRow : OpenClaim := { program := "ytfiaggbgplmmeaagreatdoor", sum := "f9e6dba103f6e31ce70a3bf86c4efdac6945ba2ec8b450354dae4d7386ceee71", func := "guise/guiselaw9.OpenOpens", spec := "openOpens", inPlace := ["internal/bytealg.IndexByteString", "internal/bytealg.IndexString"], unfollowed := true, recurses := true, named := ["unicode/utf8.first", "unicode/utf8.acceptRanges", "internal/bytealg.MaxLen"], plainKeys := false, apart := false, laid := [("unicode/utf8.acceptRanges", laid_unicode_utf8_acceptRanges), ("unicode/utf8.first", laid_unicode_utf8_first)], narrowed := true }
def OpenOpensUptoSaid : Prop := openOpensUptoRow.holds Tryz.pinned (OpenSpec.upto openOpensSpec)

/-- 'guiselaw9.OpenStays', WHERE WHAT IT READS IS OF BULK AT MOST 1048576: true; the input reads as it did. -/
def openStaysUptoRow : OpenClaim := { program := "ytfiaggbgplmmeaagreatdoor", sum := "f9e6dba103f6e31ce70a3bf86c4efdac6945ba2ec8b450354dae4d7386ceee71", func := "guise/guiselaw9.OpenStays", spec := "openStays", inPlace := ["internal/bytealg.IndexByteString", "internal/bytealg.IndexString"], unfollowed := true, recurses := true, named := ["unicode/utf8.first", "unicode/utf8.acceptRanges", "internal/bytealg.MaxLen"], plainKeys := false, apart := false, laid := [("unicode/utf8.acceptRanges", laid_unicode_utf8_acceptRanges), ("unicode/utf8.first", laid_unicode_utf8_first)], narrowed := true }
def OpenStaysUptoSaid : Prop := openStaysUptoRow.holds Tryz.pinned (OpenSpec.upto openStaysSpec)

/-- 'guiselaw9.OpenCuts', WHERE WHAT IT READS IS OF BULK AT MOST 1048576: true; the input reads as it did. -/
def openCutsUptoRow : OpenClaim := { program := "ytfiaggbgplmmeaagreatdoor", sum := "f9e6dba103f6e31ce70a3bf86c4efdac6945ba2ec8b450354dae4d7386ceee71", func := "guise/guiselaw9.OpenCuts", spec := "openCuts", inPlace := ["internal/bytealg.IndexByteString", "internal/bytealg.IndexString"], unfollowed := true, recurses := true, named := ["unicode/utf8.first", "unicode/utf8.acceptRanges", "internal/bytealg.MaxLen"], plainKeys := false, apart := false, laid := [("unicode/utf8.acceptRanges", laid_unicode_utf8_acceptRanges), ("unicode/utf8.first", laid_unicode_utf8_first)], narrowed := true }
def OpenCutsUptoSaid : Prop := openCutsUptoRow.holds Tryz.pinned (OpenSpec.upto openCutsSpec)

/-- 'guiselaw10.ShutNumbers', WHERE WHAT IT READS IS OF BULK AT MOST 1048576: true; the input reads as it did. -/
def shutNumbersUptoRow : OpenClaim := { program := "ytfiaggbgplmmeaagreatdoor", sum := "f9e6dba103f6e31ce70a3bf86c4efdac6945ba2ec8b450354dae4d7386ceee71", func := "guise/guiselaw10.ShutNumbers", spec := "shutNumbers", inPlace := ["internal/bytealg.IndexByteString", "internal/bytealg.IndexString"], unfollowed := true, recurses := true, named := ["unicode/utf8.first", "unicode/utf8.acceptRanges", "internal/bytealg.MaxLen"], plainKeys := false, apart := false, laid := [("unicode/utf8.acceptRanges", laid_unicode_utf8_acceptRanges), ("unicode/utf8.first", laid_unicode_utf8_first)], narrowed := true }
def ShutNumbersUptoSaid : Prop := shutNumbersUptoRow.holds Tryz.pinned (OpenSpec.upto shutNumbersSpec)

/-- 'guiselaw10.ShutShuts', WHERE WHAT IT READS IS OF BULK AT MOST 1048576: true; the input reads as it did. -/
def shutShutsUptoRow : OpenClaim := { program := "ytfiaggbgplmmeaagreatdoor", sum := "f9e6dba103f6e31ce70a3bf86c4efdac6945ba2ec8b450354dae4d7386ceee71", func := "guise/guiselaw10.ShutShuts", spec := "shutShuts", inPlace := ["internal/bytealg.IndexByteString", "internal/bytealg.IndexString"], unfollowed := true, recurses := true, named := ["unicode/utf8.first", "unicode/utf8.acceptRanges", "internal/bytealg.MaxLen"], plainKeys := false, apart := false, laid := [("unicode/utf8.acceptRanges", laid_unicode_utf8_acceptRanges), ("unicode/utf8.first", laid_unicode_utf8_first)], narrowed := true }
def ShutShutsUptoSaid : Prop := shutShutsUptoRow.holds Tryz.pinned (OpenSpec.upto shutShutsSpec)

/-- 'guiselaw10.ShutBack', WHERE WHAT IT READS IS OF BULK AT MOST 1048576: true; the input reads as it did. -/
def shutBackUptoRow : OpenClaim := { program := "ytfiaggbgplmmeaagreatdoor", sum := "f9e6dba103f6e31ce70a3bf86c4efdac6945ba2ec8b450354dae4d7386ceee71", func := "guise/guiselaw10.ShutBack", spec := "shutBack", inPlace := ["internal/bytealg.IndexByteString", "internal/bytealg.IndexString"], unfollowed := true, recurses := true, named := ["unicode/utf8.first", "unicode/utf8.acceptRanges", "internal/bytealg.MaxLen"], plainKeys := false, apart := false, laid := [("unicode/utf8.acceptRanges", laid_unicode_utf8_acceptRanges), ("unicode/utf8.first", laid_unicode_utf8_first)], narrowed := true }
def ShutBackUptoSaid : Prop := shutBackUptoRow.holds Tryz.pinned (OpenSpec.upto shutBackSpec)

/-- 'guiselaw10.ShutCuts', WHERE WHAT IT READS IS OF BULK AT MOST 1048576: true; the input reads as it did. -/
def shutCutsUptoRow : OpenClaim := { program := "ytfiaggbgplmmeaagreatdoor", sum := "f9e6dba103f6e31ce70a3bf86c4efdac6945ba2ec8b450354dae4d7386ceee71", func := "guise/guiselaw10.ShutCuts", spec := "shutCuts", inPlace := ["internal/bytealg.IndexByteString", "internal/bytealg.IndexString"], unfollowed := true, recurses := true, named := ["unicode/utf8.first", "unicode/utf8.acceptRanges", "internal/bytealg.MaxLen"], plainKeys := false, apart := false, laid := [("unicode/utf8.acceptRanges", laid_unicode_utf8_acceptRanges), ("unicode/utf8.first", laid_unicode_utf8_first)], narrowed := true }
def ShutCutsUptoSaid : Prop := shutCutsUptoRow.holds Tryz.pinned (OpenSpec.upto shutCutsSpec)

end Rows
end Go.Proofs.YtfiaggbgplmmeaaGreatDoor
