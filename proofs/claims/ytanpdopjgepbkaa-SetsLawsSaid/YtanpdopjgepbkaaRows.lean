/-
  No cell of these rows narrows 'for every input' (looked for: loops, veiled, ifaces, maps, wideKeys, modest, calm, conditions, laid).
  DERIVED. THE GIVEN ROWS OF THIS SEAT. 11 by the template 'for every input the law returns true; each argument reads behind the call as it read before'; 0 by the template 'total and deterministic' (their statements: YtanpdopjgepbkaaTotals.lean).
  GIVEN WITH THE SEED: the statements are not yours to turn. If you find one false, say at which input.
  Laid BY PROGRAM, IN A SANDBOX (cutbox-rows.mjs): the forced cells as the released guide's own fill.sh prints them over the translation 9494b9f5a6a982de… (all of the seat's roots in one cut). By AI agents, Wed Nov 11 2026. No macro, syntax, notation, axiom, sorry.
-/
import Derived.Test.YtanpdopjgepbkaaChecked
import GoSem.Claim
import GoSem.ClaimJoined
import GoSem.ClaimMapViews
import Derived.JoinedTies
import Derived.KernelRfl
namespace Go.Proofs.Ytanpdopjgepbkaa
/- THE CELL 'sum', in the pinned program and in every row, IS THE sha256 OF THE DUMP (.gsa) THAT YtanpdopjgepbkaaProg.lean LOADS. Nothing in Lean hashes anything: it is a label: what it is worth is what the hold of that sum in a sandbox is worth. -/
noncomputable def Try.pinned : Pinned := { name := "ytanpdopjgepbkaa", sum := "9494b9f5a6a982de69b6f6aab0048fa0a493c150ebe2bc7a3e186aebb9004e5d", checked := Try.checked }
namespace Rows
def none {H : Type} : Left H := { results := [], args := [] }

/-- 'guiselaw3.SetsOf': WHATEVER THE INPUT: true; the input reads as it did. -/
def setsOfSpec : ChangeSpec := { name := "setsOf", fn := fun _ => fun
  | [d1, d2] => { results := [.lit (.bool true)], args := [d1, d2] }
  | _ => none }
def setsOfRow : OpenClaim := { program := "ytanpdopjgepbkaa", sum := "9494b9f5a6a982de69b6f6aab0048fa0a493c150ebe2bc7a3e186aebb9004e5d", func := "guise/guiselaw3.SetsOf", spec := "setsOf", unfollowed := true, recurses := true, apart := false }
def SetsOfSaid : Prop := setsOfRow.holds Try.pinned (OpenSpec.ofChange setsOfSpec)

/-- ITS FALSE NEIGHBOUR: 'it returns false'. Refute it at one input. -/
def setsOfWrong : ChangeSpec := { name := "setsOf", fn := fun _ => fun
  | [d1, d2] => { results := [.lit (.bool false)], args := [d1, d2] }
  | _ => none }
def SetsOfWrongFalsely : Prop := setsOfRow.holds Try.pinned (OpenSpec.ofChange setsOfWrong)

/-- 'guiselaw3.SetsKept': WHATEVER THE INPUT: true; the input reads as it did. -/
def setsKeptSpec : ChangeSpec := { name := "setsKept", fn := fun _ => fun
  | [d] => { results := [.lit (.bool true)], args := [d] }
  | _ => none }
def setsKeptRow : OpenClaim := { program := "ytanpdopjgepbkaa", sum := "9494b9f5a6a982de69b6f6aab0048fa0a493c150ebe2bc7a3e186aebb9004e5d", func := "guise/guiselaw3.SetsKept", spec := "setsKept", unfollowed := true, recurses := true, apart := false }
def SetsKeptSaid : Prop := setsKeptRow.holds Try.pinned (OpenSpec.ofChange setsKeptSpec)

/-- ITS FALSE NEIGHBOUR: 'it returns false'. Refute it at one input. -/
def setsKeptWrong : ChangeSpec := { name := "setsKept", fn := fun _ => fun
  | [d] => { results := [.lit (.bool false)], args := [d] }
  | _ => none }
def SetsKeptWrongFalsely : Prop := setsKeptRow.holds Try.pinned (OpenSpec.ofChange setsKeptWrong)

/-- 'guiselaw3.SetsFrom': WHATEVER THE INPUT: true; the input reads as it did. -/
def setsFromSpec : ChangeSpec := { name := "setsFrom", fn := fun _ => fun
  | [d] => { results := [.lit (.bool true)], args := [d] }
  | _ => none }
def setsFromRow : OpenClaim := { program := "ytanpdopjgepbkaa", sum := "9494b9f5a6a982de69b6f6aab0048fa0a493c150ebe2bc7a3e186aebb9004e5d", func := "guise/guiselaw3.SetsFrom", spec := "setsFrom", unfollowed := true, recurses := true, apart := false }
def SetsFromSaid : Prop := setsFromRow.holds Try.pinned (OpenSpec.ofChange setsFromSpec)

/-- ITS FALSE NEIGHBOUR: 'it returns false'. Refute it at one input. -/
def setsFromWrong : ChangeSpec := { name := "setsFrom", fn := fun _ => fun
  | [d] => { results := [.lit (.bool false)], args := [d] }
  | _ => none }
def SetsFromWrongFalsely : Prop := setsFromRow.holds Try.pinned (OpenSpec.ofChange setsFromWrong)

/-- 'guiselaw3.SetsRight': WHATEVER THE INPUT: true; the input reads as it did. -/
def setsRightSpec : ChangeSpec := { name := "setsRight", fn := fun _ => fun
  | [d] => { results := [.lit (.bool true)], args := [d] }
  | _ => none }
def setsRightRow : OpenClaim := { program := "ytanpdopjgepbkaa", sum := "9494b9f5a6a982de69b6f6aab0048fa0a493c150ebe2bc7a3e186aebb9004e5d", func := "guise/guiselaw3.SetsRight", spec := "setsRight", unfollowed := true, recurses := true, apart := false }
def SetsRightSaid : Prop := setsRightRow.holds Try.pinned (OpenSpec.ofChange setsRightSpec)

/-- ITS FALSE NEIGHBOUR: 'it returns false'. Refute it at one input. -/
def setsRightWrong : ChangeSpec := { name := "setsRight", fn := fun _ => fun
  | [d] => { results := [.lit (.bool false)], args := [d] }
  | _ => none }
def SetsRightWrongFalsely : Prop := setsRightRow.holds Try.pinned (OpenSpec.ofChange setsRightWrong)

/-- 'guiselaw3.SetsText': WHATEVER THE INPUT: true; the input reads as it did. -/
def setsTextSpec : ChangeSpec := { name := "setsText", fn := fun _ => fun
  | [d] => { results := [.lit (.bool true)], args := [d] }
  | _ => none }
def setsTextRow : OpenClaim := { program := "ytanpdopjgepbkaa", sum := "9494b9f5a6a982de69b6f6aab0048fa0a493c150ebe2bc7a3e186aebb9004e5d", func := "guise/guiselaw3.SetsText", spec := "setsText", unfollowed := true, recurses := true, apart := false }
def SetsTextSaid : Prop := setsTextRow.holds Try.pinned (OpenSpec.ofChange setsTextSpec)

/-- ITS FALSE NEIGHBOUR: 'it returns false'. Refute it at one input. -/
def setsTextWrong : ChangeSpec := { name := "setsText", fn := fun _ => fun
  | [d] => { results := [.lit (.bool false)], args := [d] }
  | _ => none }
def SetsTextWrongFalsely : Prop := setsTextRow.holds Try.pinned (OpenSpec.ofChange setsTextWrong)

/-- 'guiselaw3.SetsAsks': WHATEVER THE INPUT: true; the input reads as it did. -/
def setsAsksSpec : ChangeSpec := { name := "setsAsks", fn := fun _ => fun
  | [d1, d2, d3] => { results := [.lit (.bool true)], args := [d1, d2, d3] }
  | _ => none }
def setsAsksRow : OpenClaim := { program := "ytanpdopjgepbkaa", sum := "9494b9f5a6a982de69b6f6aab0048fa0a493c150ebe2bc7a3e186aebb9004e5d", func := "guise/guiselaw3.SetsAsks", spec := "setsAsks", unfollowed := true, recurses := true, apart := false }
def SetsAsksSaid : Prop := setsAsksRow.holds Try.pinned (OpenSpec.ofChange setsAsksSpec)

/-- ITS FALSE NEIGHBOUR: 'it returns false'. Refute it at one input. -/
def setsAsksWrong : ChangeSpec := { name := "setsAsks", fn := fun _ => fun
  | [d1, d2, d3] => { results := [.lit (.bool false)], args := [d1, d2, d3] }
  | _ => none }
def SetsAsksWrongFalsely : Prop := setsAsksRow.holds Try.pinned (OpenSpec.ofChange setsAsksWrong)

/-- 'guiselaw3.SetsRanks': WHATEVER THE INPUT: true; the input reads as it did. -/
def setsRanksSpec : ChangeSpec := { name := "setsRanks", fn := fun _ => fun
  | [d1, d2] => { results := [.lit (.bool true)], args := [d1, d2] }
  | _ => none }
def setsRanksRow : OpenClaim := { program := "ytanpdopjgepbkaa", sum := "9494b9f5a6a982de69b6f6aab0048fa0a493c150ebe2bc7a3e186aebb9004e5d", func := "guise/guiselaw3.SetsRanks", spec := "setsRanks", unfollowed := true, recurses := true, apart := false }
def SetsRanksSaid : Prop := setsRanksRow.holds Try.pinned (OpenSpec.ofChange setsRanksSpec)

/-- ITS FALSE NEIGHBOUR: 'it returns false'. Refute it at one input. -/
def setsRanksWrong : ChangeSpec := { name := "setsRanks", fn := fun _ => fun
  | [d1, d2] => { results := [.lit (.bool false)], args := [d1, d2] }
  | _ => none }
def SetsRanksWrongFalsely : Prop := setsRanksRow.holds Try.pinned (OpenSpec.ofChange setsRanksWrong)

/-- 'guiselaw3.SetsAll': WHATEVER THE INPUT: true; the input reads as it did. -/
def setsAllSpec : ChangeSpec := { name := "setsAll", fn := fun _ => fun
  | [d1, d2] => { results := [.lit (.bool true)], args := [d1, d2] }
  | _ => none }
def setsAllRow : OpenClaim := { program := "ytanpdopjgepbkaa", sum := "9494b9f5a6a982de69b6f6aab0048fa0a493c150ebe2bc7a3e186aebb9004e5d", func := "guise/guiselaw3.SetsAll", spec := "setsAll", unfollowed := true, recurses := true, apart := false }
def SetsAllSaid : Prop := setsAllRow.holds Try.pinned (OpenSpec.ofChange setsAllSpec)

/-- ITS FALSE NEIGHBOUR: 'it returns false'. Refute it at one input. -/
def setsAllWrong : ChangeSpec := { name := "setsAll", fn := fun _ => fun
  | [d1, d2] => { results := [.lit (.bool false)], args := [d1, d2] }
  | _ => none }
def SetsAllWrongFalsely : Prop := setsAllRow.holds Try.pinned (OpenSpec.ofChange setsAllWrong)

/-- 'guiselaw3.SetsMember': WHATEVER THE INPUT: true; the input reads as it did. -/
def setsMemberSpec : ChangeSpec := { name := "setsMember", fn := fun _ => fun
  | [d1, d2, d3] => { results := [.lit (.bool true)], args := [d1, d2, d3] }
  | _ => none }
def setsMemberRow : OpenClaim := { program := "ytanpdopjgepbkaa", sum := "9494b9f5a6a982de69b6f6aab0048fa0a493c150ebe2bc7a3e186aebb9004e5d", func := "guise/guiselaw3.SetsMember", spec := "setsMember", unfollowed := true, recurses := true, apart := false }
def SetsMemberSaid : Prop := setsMemberRow.holds Try.pinned (OpenSpec.ofChange setsMemberSpec)

/-- ITS FALSE NEIGHBOUR: 'it returns false'. Refute it at one input. -/
def setsMemberWrong : ChangeSpec := { name := "setsMember", fn := fun _ => fun
  | [d1, d2, d3] => { results := [.lit (.bool false)], args := [d1, d2, d3] }
  | _ => none }
def SetsMemberWrongFalsely : Prop := setsMemberRow.holds Try.pinned (OpenSpec.ofChange setsMemberWrong)

/-- 'guiselaw3.SetsTwo': WHATEVER THE INPUT: true; the input reads as it did. -/
def setsTwoSpec : ChangeSpec := { name := "setsTwo", fn := fun _ => fun
  | [d1, d2] => { results := [.lit (.bool true)], args := [d1, d2] }
  | _ => none }
def setsTwoRow : OpenClaim := { program := "ytanpdopjgepbkaa", sum := "9494b9f5a6a982de69b6f6aab0048fa0a493c150ebe2bc7a3e186aebb9004e5d", func := "guise/guiselaw3.SetsTwo", spec := "setsTwo", unfollowed := true, recurses := true, apart := false }
def SetsTwoSaid : Prop := setsTwoRow.holds Try.pinned (OpenSpec.ofChange setsTwoSpec)

/-- ITS FALSE NEIGHBOUR: 'it returns false'. Refute it at one input. -/
def setsTwoWrong : ChangeSpec := { name := "setsTwo", fn := fun _ => fun
  | [d1, d2] => { results := [.lit (.bool false)], args := [d1, d2] }
  | _ => none }
def SetsTwoWrongFalsely : Prop := setsTwoRow.holds Try.pinned (OpenSpec.ofChange setsTwoWrong)

/-- 'guiselaw3.SetsLaws': WHATEVER THE INPUT: true; the input reads as it did. -/
def setsLawsSpec : ChangeSpec := { name := "setsLaws", fn := fun _ => fun
  | [d1, d2, d3] => { results := [.lit (.bool true)], args := [d1, d2, d3] }
  | _ => none }
def setsLawsRow : OpenClaim := { program := "ytanpdopjgepbkaa", sum := "9494b9f5a6a982de69b6f6aab0048fa0a493c150ebe2bc7a3e186aebb9004e5d", func := "guise/guiselaw3.SetsLaws", spec := "setsLaws", unfollowed := true, recurses := true, apart := false }
def SetsLawsSaid : Prop := setsLawsRow.holds Try.pinned (OpenSpec.ofChange setsLawsSpec)

/-- ITS FALSE NEIGHBOUR: 'it returns false'. Refute it at one input. -/
def setsLawsWrong : ChangeSpec := { name := "setsLaws", fn := fun _ => fun
  | [d1, d2, d3] => { results := [.lit (.bool false)], args := [d1, d2, d3] }
  | _ => none }
def SetsLawsWrongFalsely : Prop := setsLawsRow.holds Try.pinned (OpenSpec.ofChange setsLawsWrong)

/- THE SECOND FORM. 'bulk': how many values and letters a reading holds, each counted each time it is reached (what is shared counts as often as it is met; a slice's spare places count too). A statement '..UptoSaid' is the law's where the arguments, and the package variables that the reading takes, are together of bulk at most 1048576: NARROWER than '..Said'. Prove '..Said' where nothing that the law and all that it calls make is longer than what came in: it says more and counts as full. Else prove '..UptoSaid'. A law counts once. -/
mutual
def uptoBulk {H : Type} : DataW H → Nat
  | .lit (.string bytes) => bytes.length + 1
  | .lit _ => 1
  | .nil => 1
  | .ptr d => uptoBulk d + 1
  | .slice elems spare => uptoBulkAll elems + uptoBulkAll spare + 1
  | .agg parts => uptoBulkAll parts + 1
  | .iface _ d => uptoBulk d + 1
  | .map entries => uptoBulkEntries entries + 1
  | .held _ => 1
def uptoBulkAll {H : Type} : List (DataW H) → Nat
  | [] => 0
  | d :: r => uptoBulk d + uptoBulkAll r
def uptoBulkEntries {H : Type} : List (Lit × DataW H) → Nat
  | [] => 0
  | x :: r => uptoBulkEntry x + uptoBulkEntries r
def uptoBulkEntry {H : Type} : Lit × DataW H → Nat
  | (.string bytes, d) => bytes.length + uptoBulk d + 1
  | (_, d) => uptoBulk d + 1
 end
def uptoSmall : (H : Type) → List (DataW H) → Bool := fun _ ds => decide (uptoBulkAll ds ≤ 1048576)
def OpenSpec.upto (s : _root_.Go.ChangeSpec) : _root_.Go.OpenSpec := { _root_.Go.OpenSpec.ofChange s with cond := some uptoSmall }

/-- 'guiselaw3.SetsOf', WHERE WHAT IT READS IS OF BULK AT MOST 1048576: true; the input reads as it did. -/
def setsOfUptoRow : OpenClaim := { program := "ytanpdopjgepbkaa", sum := "9494b9f5a6a982de69b6f6aab0048fa0a493c150ebe2bc7a3e186aebb9004e5d", func := "guise/guiselaw3.SetsOf", spec := "setsOf", unfollowed := true, recurses := true, apart := false, narrowed := true }
def SetsOfUptoSaid : Prop := setsOfUptoRow.holds Try.pinned (OpenSpec.upto setsOfSpec)

/-- 'guiselaw3.SetsKept', WHERE WHAT IT READS IS OF BULK AT MOST 1048576: true; the input reads as it did. -/
def setsKeptUptoRow : OpenClaim := { program := "ytanpdopjgepbkaa", sum := "9494b9f5a6a982de69b6f6aab0048fa0a493c150ebe2bc7a3e186aebb9004e5d", func := "guise/guiselaw3.SetsKept", spec := "setsKept", unfollowed := true, recurses := true, apart := false, narrowed := true }
def SetsKeptUptoSaid : Prop := setsKeptUptoRow.holds Try.pinned (OpenSpec.upto setsKeptSpec)

/-- 'guiselaw3.SetsFrom', WHERE WHAT IT READS IS OF BULK AT MOST 1048576: true; the input reads as it did. -/
def setsFromUptoRow : OpenClaim := { program := "ytanpdopjgepbkaa", sum := "9494b9f5a6a982de69b6f6aab0048fa0a493c150ebe2bc7a3e186aebb9004e5d", func := "guise/guiselaw3.SetsFrom", spec := "setsFrom", unfollowed := true, recurses := true, apart := false, narrowed := true }
def SetsFromUptoSaid : Prop := setsFromUptoRow.holds Try.pinned (OpenSpec.upto setsFromSpec)

/-- 'guiselaw3.SetsRight', WHERE WHAT IT READS IS OF BULK AT MOST 1048576: true; the input reads as it did. -/
def setsRightUptoRow : OpenClaim := { program := "ytanpdopjgepbkaa", sum := "9494b9f5a6a982de69b6f6aab0048fa0a493c150ebe2bc7a3e186aebb9004e5d", func := "guise/guiselaw3.SetsRight", spec := "setsRight", unfollowed := true, recurses := true, apart := false, narrowed := true }
def SetsRightUptoSaid : Prop := setsRightUptoRow.holds Try.pinned (OpenSpec.upto setsRightSpec)

/-- 'guiselaw3.SetsText', WHERE WHAT IT READS IS OF BULK AT MOST 1048576: true; the input reads as it did. -/
def setsTextUptoRow : OpenClaim := { program := "ytanpdopjgepbkaa", sum := "9494b9f5a6a982de69b6f6aab0048fa0a493c150ebe2bc7a3e186aebb9004e5d", func := "guise/guiselaw3.SetsText", spec := "setsText", unfollowed := true, recurses := true, apart := false, narrowed := true }
def SetsTextUptoSaid : Prop := setsTextUptoRow.holds Try.pinned (OpenSpec.upto setsTextSpec)

/-- 'guiselaw3.SetsAsks', WHERE WHAT IT READS IS OF BULK AT MOST 1048576: true; the input reads as it did. -/
def setsAsksUptoRow : OpenClaim := { program := "ytanpdopjgepbkaa", sum := "9494b9f5a6a982de69b6f6aab0048fa0a493c150ebe2bc7a3e186aebb9004e5d", func := "guise/guiselaw3.SetsAsks", spec := "setsAsks", unfollowed := true, recurses := true, apart := false, narrowed := true }
def SetsAsksUptoSaid : Prop := setsAsksUptoRow.holds Try.pinned (OpenSpec.upto setsAsksSpec)

/-- 'guiselaw3.SetsRanks', WHERE WHAT IT READS IS OF BULK AT MOST 1048576: true; the input reads as it did. -/
def setsRanksUptoRow : OpenClaim := { program := "ytanpdopjgepbkaa", sum := "9494b9f5a6a982de69b6f6aab0048fa0a493c150ebe2bc7a3e186aebb9004e5d", func := "guise/guiselaw3.SetsRanks", spec := "setsRanks", unfollowed := true, recurses := true, apart := false, narrowed := true }
def SetsRanksUptoSaid : Prop := setsRanksUptoRow.holds Try.pinned (OpenSpec.upto setsRanksSpec)

/-- 'guiselaw3.SetsAll', WHERE WHAT IT READS IS OF BULK AT MOST 1048576: true; the input reads as it did. -/
def setsAllUptoRow : OpenClaim := { program := "ytanpdopjgepbkaa", sum := "9494b9f5a6a982de69b6f6aab0048fa0a493c150ebe2bc7a3e186aebb9004e5d", func := "guise/guiselaw3.SetsAll", spec := "setsAll", unfollowed := true, recurses := true, apart := false, narrowed := true }
def SetsAllUptoSaid : Prop := setsAllUptoRow.holds Try.pinned (OpenSpec.upto setsAllSpec)

/-- 'guiselaw3.SetsMember', WHERE WHAT IT READS IS OF BULK AT MOST 1048576: true; the input reads as it did. -/
def setsMemberUptoRow : OpenClaim := { program := "ytanpdopjgepbkaa", sum := "9494b9f5a6a982de69b6f6aab0048fa0a493c150ebe2bc7a3e186aebb9004e5d", func := "guise/guiselaw3.SetsMember", spec := "setsMember", unfollowed := true, recurses := true, apart := false, narrowed := true }
def SetsMemberUptoSaid : Prop := setsMemberUptoRow.holds Try.pinned (OpenSpec.upto setsMemberSpec)

/-- 'guiselaw3.SetsTwo', WHERE WHAT IT READS IS OF BULK AT MOST 1048576: true; the input reads as it did. -/
def setsTwoUptoRow : OpenClaim := { program := "ytanpdopjgepbkaa", sum := "9494b9f5a6a982de69b6f6aab0048fa0a493c150ebe2bc7a3e186aebb9004e5d", func := "guise/guiselaw3.SetsTwo", spec := "setsTwo", unfollowed := true, recurses := true, apart := false, narrowed := true }
def SetsTwoUptoSaid : Prop := setsTwoUptoRow.holds Try.pinned (OpenSpec.upto setsTwoSpec)

/-- 'guiselaw3.SetsLaws', WHERE WHAT IT READS IS OF BULK AT MOST 1048576: true; the input reads as it did. -/
def setsLawsUptoRow : OpenClaim := { program := "ytanpdopjgepbkaa", sum := "9494b9f5a6a982de69b6f6aab0048fa0a493c150ebe2bc7a3e186aebb9004e5d", func := "guise/guiselaw3.SetsLaws", spec := "setsLaws", unfollowed := true, recurses := true, apart := false, narrowed := true }
def SetsLawsUptoSaid : Prop := setsLawsUptoRow.holds Try.pinned (OpenSpec.upto setsLawsSpec)

end Rows
end Go.Proofs.Ytanpdopjgepbkaa
