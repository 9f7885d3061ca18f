/-
  No cell of these rows narrows 'for every input' (looked for: loops, veiled, ifaces, maps, wideKeys, modest, calm, conditions, laid).
  DERIVED. THE GIVEN ROWS OF THIS SEAT. 8 by the template 'for every input the law returns true; each argument reads behind the call as it read before'; 0 by the template 'total and deterministic' (their statements: YtmfpkgcphlilmaaTotals.lean).
  GIVEN WITH THE SEED: the statements are not yours to turn. If you find one false, say at which input.
  Laid BY PROGRAM, IN A SANDBOX (cutbox-rows.mjs): the forced cells as the released guide's own fill.sh prints them over the translation d328a8199f17a6f1… (all of the seat's roots in one cut). By AI agents, Wed Nov 11 2026. No macro, syntax, notation, axiom, sorry.
-/
import Derived.Test.YtmfpkgcphlilmaaChecked
import GoSem.Claim
import GoSem.ClaimJoined
import GoSem.ClaimMapViews
import Derived.JoinedTies
import Derived.KernelRfl
namespace Go.Proofs.Ytmfpkgcphlilmaa
/- THE CELL 'sum', in the pinned program and in every row, IS THE sha256 OF THE DUMP (.gsa) THAT YtmfpkgcphlilmaaProg.lean LOADS. Nothing in Lean hashes anything: it is a label: what it is worth is what the hold of that sum in a sandbox is worth. -/
noncomputable def Try.pinned : Pinned := { name := "ytmfpkgcphlilmaa", sum := "d328a8199f17a6f141d41d07b24b0eb769fae1722570044ba2137c203fe2d881", checked := Try.checked }
namespace Rows
def none {H : Type} : Left H := { results := [], args := [] }

/-- 'guiselaw17.BootNames': WHATEVER THE INPUT: true; the input reads as it did. -/
def bootNamesSpec : ChangeSpec := { name := "bootNames", fn := fun _ => fun
  | [] => { results := [.lit (.bool true)], args := [] }
  | _ => none }
def bootNamesRow : OpenClaim := { program := "ytmfpkgcphlilmaa", sum := "d328a8199f17a6f141d41d07b24b0eb769fae1722570044ba2137c203fe2d881", func := "guise/guiselaw17.BootNames", spec := "bootNames", inPlace := ["internal/bytealg.IndexByteString", "internal/bytealg.IndexString", "slices.overlaps[int]", "slices.overlaps[rune]"], unfollowed := true, recurses := true, named := ["internal/bytealg.MaxLen"], apart := false }
def BootNamesSaid : Prop := bootNamesRow.holds Try.pinned (OpenSpec.ofChange bootNamesSpec)

/-- ITS FALSE NEIGHBOUR: 'it returns false'. Refute it at one input. -/
def bootNamesWrong : ChangeSpec := { name := "bootNames", fn := fun _ => fun
  | [] => { results := [.lit (.bool false)], args := [] }
  | _ => none }
def BootNamesWrongFalsely : Prop := bootNamesRow.holds Try.pinned (OpenSpec.ofChange bootNamesWrong)

/-- 'guiselaw17.BootRight': WHATEVER THE INPUT: true; the input reads as it did. -/
def bootRightSpec : ChangeSpec := { name := "bootRight", fn := fun _ => fun
  | [d] => { results := [.lit (.bool true)], args := [d] }
  | _ => none }
def bootRightRow : OpenClaim := { program := "ytmfpkgcphlilmaa", sum := "d328a8199f17a6f141d41d07b24b0eb769fae1722570044ba2137c203fe2d881", func := "guise/guiselaw17.BootRight", spec := "bootRight", inPlace := ["internal/bytealg.IndexByteString", "internal/bytealg.IndexString", "slices.overlaps[int]", "slices.overlaps[rune]"], unfollowed := true, recurses := true, named := ["internal/bytealg.MaxLen"], apart := false }
def BootRightSaid : Prop := bootRightRow.holds Try.pinned (OpenSpec.ofChange bootRightSpec)

/-- ITS FALSE NEIGHBOUR: 'it returns false'. Refute it at one input. -/
def bootRightWrong : ChangeSpec := { name := "bootRight", fn := fun _ => fun
  | [d] => { results := [.lit (.bool false)], args := [d] }
  | _ => none }
def BootRightWrongFalsely : Prop := bootRightRow.holds Try.pinned (OpenSpec.ofChange bootRightWrong)

/-- 'guiselaw17.BootEncodes': WHATEVER THE INPUT: true; the input reads as it did. -/
def bootEncodesSpec : ChangeSpec := { name := "bootEncodes", fn := fun _ => fun
  | [d1, d2] => { results := [.lit (.bool true)], args := [d1, d2] }
  | _ => none }
def bootEncodesRow : OpenClaim := { program := "ytmfpkgcphlilmaa", sum := "d328a8199f17a6f141d41d07b24b0eb769fae1722570044ba2137c203fe2d881", func := "guise/guiselaw17.BootEncodes", spec := "bootEncodes", inPlace := ["internal/bytealg.IndexByteString", "internal/bytealg.IndexString", "slices.overlaps[int]", "slices.overlaps[rune]"], unfollowed := true, recurses := true, named := ["internal/bytealg.MaxLen"], apart := false }
def BootEncodesSaid : Prop := bootEncodesRow.holds Try.pinned (OpenSpec.ofChange bootEncodesSpec)

/-- ITS FALSE NEIGHBOUR: 'it returns false'. Refute it at one input. -/
def bootEncodesWrong : ChangeSpec := { name := "bootEncodes", fn := fun _ => fun
  | [d1, d2] => { results := [.lit (.bool false)], args := [d1, d2] }
  | _ => none }
def BootEncodesWrongFalsely : Prop := bootEncodesRow.holds Try.pinned (OpenSpec.ofChange bootEncodesWrong)

/-- 'guiselaw17.BootDecodes': WHATEVER THE INPUT: true; the input reads as it did. -/
def bootDecodesSpec : ChangeSpec := { name := "bootDecodes", fn := fun _ => fun
  | [d1, d2] => { results := [.lit (.bool true)], args := [d1, d2] }
  | _ => none }
def bootDecodesRow : OpenClaim := { program := "ytmfpkgcphlilmaa", sum := "d328a8199f17a6f141d41d07b24b0eb769fae1722570044ba2137c203fe2d881", func := "guise/guiselaw17.BootDecodes", spec := "bootDecodes", inPlace := ["internal/bytealg.IndexByteString", "internal/bytealg.IndexString", "slices.overlaps[rune]", "slices.overlaps[int]"], unfollowed := true, recurses := true, named := ["internal/bytealg.MaxLen"], apart := false }
def BootDecodesSaid : Prop := bootDecodesRow.holds Try.pinned (OpenSpec.ofChange bootDecodesSpec)

/-- ITS FALSE NEIGHBOUR: 'it returns false'. Refute it at one input. -/
def bootDecodesWrong : ChangeSpec := { name := "bootDecodes", fn := fun _ => fun
  | [d1, d2] => { results := [.lit (.bool false)], args := [d1, d2] }
  | _ => none }
def BootDecodesWrongFalsely : Prop := bootDecodesRow.holds Try.pinned (OpenSpec.ofChange bootDecodesWrong)

/-- 'guiselaw17.BootBack': WHATEVER THE INPUT: true; the input reads as it did. -/
def bootBackSpec : ChangeSpec := { name := "bootBack", fn := fun _ => fun
  | [d1, d2] => { results := [.lit (.bool true)], args := [d1, d2] }
  | _ => none }
def bootBackRow : OpenClaim := { program := "ytmfpkgcphlilmaa", sum := "d328a8199f17a6f141d41d07b24b0eb769fae1722570044ba2137c203fe2d881", func := "guise/guiselaw17.BootBack", spec := "bootBack", inPlace := ["internal/bytealg.IndexByteString", "internal/bytealg.IndexString", "slices.overlaps[int]", "slices.overlaps[rune]"], unfollowed := true, recurses := true, named := ["internal/bytealg.MaxLen"], apart := false }
def BootBackSaid : Prop := bootBackRow.holds Try.pinned (OpenSpec.ofChange bootBackSpec)

/-- ITS FALSE NEIGHBOUR: 'it returns false'. Refute it at one input. -/
def bootBackWrong : ChangeSpec := { name := "bootBack", fn := fun _ => fun
  | [d1, d2] => { results := [.lit (.bool false)], args := [d1, d2] }
  | _ => none }
def BootBackWrongFalsely : Prop := bootBackRow.holds Try.pinned (OpenSpec.ofChange bootBackWrong)

/-- 'guiselaw17.BootApart': WHATEVER THE INPUT: true; the input reads as it did. -/
def bootApartSpec : ChangeSpec := { name := "bootApart", fn := fun _ => fun
  | [d1, d2, d3] => { results := [.lit (.bool true)], args := [d1, d2, d3] }
  | _ => none }
def bootApartRow : OpenClaim := { program := "ytmfpkgcphlilmaa", sum := "d328a8199f17a6f141d41d07b24b0eb769fae1722570044ba2137c203fe2d881", func := "guise/guiselaw17.BootApart", spec := "bootApart", inPlace := ["internal/bytealg.IndexByteString", "internal/bytealg.IndexString", "slices.overlaps[int]", "slices.overlaps[rune]"], unfollowed := true, recurses := true, named := ["internal/bytealg.MaxLen"], apart := false }
def BootApartSaid : Prop := bootApartRow.holds Try.pinned (OpenSpec.ofChange bootApartSpec)

/-- ITS FALSE NEIGHBOUR: 'it returns false'. Refute it at one input. -/
def bootApartWrong : ChangeSpec := { name := "bootApart", fn := fun _ => fun
  | [d1, d2, d3] => { results := [.lit (.bool false)], args := [d1, d2, d3] }
  | _ => none }
def BootApartWrongFalsely : Prop := bootApartRow.holds Try.pinned (OpenSpec.ofChange bootApartWrong)

/-- 'guiselaw17.BootLong': WHATEVER THE INPUT: true; the input reads as it did. -/
def bootLongSpec : ChangeSpec := { name := "bootLong", fn := fun _ => fun
  | [d1, d2, d3] => { results := [.lit (.bool true)], args := [d1, d2, d3] }
  | _ => none }
def bootLongRow : OpenClaim := { program := "ytmfpkgcphlilmaa", sum := "d328a8199f17a6f141d41d07b24b0eb769fae1722570044ba2137c203fe2d881", func := "guise/guiselaw17.BootLong", spec := "bootLong", inPlace := ["internal/bytealg.IndexByteString", "internal/bytealg.IndexString", "slices.overlaps[int]", "slices.overlaps[rune]"], unfollowed := true, recurses := true, named := ["internal/bytealg.MaxLen"], apart := false }
def BootLongSaid : Prop := bootLongRow.holds Try.pinned (OpenSpec.ofChange bootLongSpec)

/-- ITS FALSE NEIGHBOUR: 'it returns false'. Refute it at one input. -/
def bootLongWrong : ChangeSpec := { name := "bootLong", fn := fun _ => fun
  | [d1, d2, d3] => { results := [.lit (.bool false)], args := [d1, d2, d3] }
  | _ => none }
def BootLongWrongFalsely : Prop := bootLongRow.holds Try.pinned (OpenSpec.ofChange bootLongWrong)

/-- 'guiselaw17.BootForth': WHATEVER THE INPUT: true; the input reads as it did. -/
def bootForthSpec : ChangeSpec := { name := "bootForth", fn := fun _ => fun
  | [d1, d2] => { results := [.lit (.bool true)], args := [d1, d2] }
  | _ => none }
def bootForthRow : OpenClaim := { program := "ytmfpkgcphlilmaa", sum := "d328a8199f17a6f141d41d07b24b0eb769fae1722570044ba2137c203fe2d881", func := "guise/guiselaw17.BootForth", spec := "bootForth", inPlace := ["internal/bytealg.IndexByteString", "internal/bytealg.IndexString", "slices.overlaps[rune]", "slices.overlaps[int]"], unfollowed := true, recurses := true, named := ["internal/bytealg.MaxLen"], apart := false }
def BootForthSaid : Prop := bootForthRow.holds Try.pinned (OpenSpec.ofChange bootForthSpec)

/-- ITS FALSE NEIGHBOUR: 'it returns false'. Refute it at one input. -/
def bootForthWrong : ChangeSpec := { name := "bootForth", fn := fun _ => fun
  | [d1, d2] => { results := [.lit (.bool false)], args := [d1, d2] }
  | _ => none }
def BootForthWrongFalsely : Prop := bootForthRow.holds Try.pinned (OpenSpec.ofChange bootForthWrong)

/- THE SECOND FORM. 'bulk': how many values and letters a reading holds, each counted each time it is reached (what is shared counts as often as it is met; a slice's spare places count too). A statement '..UptoSaid' is the law's where the arguments, and the package variables that the reading takes, are together of bulk at most 1048576: NARROWER than '..Said'. Prove '..Said' where nothing that the law and all that it calls make is longer than what came in: it says more and counts as full. Else prove '..UptoSaid'. A law counts once. -/
mutual
def uptoBulk {H : Type} : DataW H → Nat
  | .lit (.string bytes) => bytes.length + 1
  | .lit _ => 1
  | .nil => 1
  | .ptr d => uptoBulk d + 1
  | .slice elems spare => uptoBulkAll elems + uptoBulkAll spare + 1
  | .agg parts => uptoBulkAll parts + 1
  | .iface _ d => uptoBulk d + 1
  | .map entries => uptoBulkEntries entries + 1
  | .held _ => 1
def uptoBulkAll {H : Type} : List (DataW H) → Nat
  | [] => 0
  | d :: r => uptoBulk d + uptoBulkAll r
def uptoBulkEntries {H : Type} : List (Lit × DataW H) → Nat
  | [] => 0
  | x :: r => uptoBulkEntry x + uptoBulkEntries r
def uptoBulkEntry {H : Type} : Lit × DataW H → Nat
  | (.string bytes, d) => bytes.length + uptoBulk d + 1
  | (_, d) => uptoBulk d + 1
 end
def uptoSmall : (H : Type) → List (DataW H) → Bool := fun _ ds => decide (uptoBulkAll ds ≤ 1048576)
def OpenSpec.upto (s : _root_.Go.ChangeSpec) : _root_.Go.OpenSpec := { _root_.Go.OpenSpec.ofChange s with cond := some uptoSmall }

/-- 'guiselaw17.BootNames', WHERE WHAT IT READS IS OF BULK AT MOST 1048576: true; the input reads as it did. -/
def bootNamesUptoRow : OpenClaim := { program := "ytmfpkgcphlilmaa", sum := "d328a8199f17a6f141d41d07b24b0eb769fae1722570044ba2137c203fe2d881", func := "guise/guiselaw17.BootNames", spec := "bootNames", inPlace := ["internal/bytealg.IndexByteString", "internal/bytealg.IndexString", "slices.overlaps[int]", "slices.overlaps[rune]"], unfollowed := true, recurses := true, named := ["internal/bytealg.MaxLen"], apart := false, narrowed := true }
def BootNamesUptoSaid : Prop := bootNamesUptoRow.holds Try.pinned (OpenSpec.upto bootNamesSpec)

/-- 'guiselaw17.BootRight', WHERE WHAT IT READS IS OF BULK AT MOST 1048576: true; the input reads as it did. -/
def bootRightUptoRow : OpenClaim := { program := "ytmfpkgcphlilmaa", sum := "d328a8199f17a6f141d41d07b24b0eb769fae1722570044ba2137c203fe2d881", func := "guise/guiselaw17.BootRight", spec := "bootRight", inPlace := ["internal/bytealg.IndexByteString", "internal/bytealg.IndexString", "slices.overlaps[int]", "slices.overlaps[rune]"], unfollowed := true, recurses := true, named := ["internal/bytealg.MaxLen"], apart := false, narrowed := true }
def BootRightUptoSaid : Prop := bootRightUptoRow.holds Try.pinned (OpenSpec.upto bootRightSpec)

/-- 'guiselaw17.BootEncodes', WHERE WHAT IT READS IS OF BULK AT MOST 1048576: true; the input reads as it did. -/
def bootEncodesUptoRow : OpenClaim := { program := "ytmfpkgcphlilmaa", sum := "d328a8199f17a6f141d41d07b24b0eb769fae1722570044ba2137c203fe2d881", func := "guise/guiselaw17.BootEncodes", spec := "bootEncodes", inPlace := ["internal/bytealg.IndexByteString", "internal/bytealg.IndexString", "slices.overlaps[int]", "slices.overlaps[rune]"], unfollowed := true, recurses := true, named := ["internal/bytealg.MaxLen"], apart := false, narrowed := true }
def BootEncodesUptoSaid : Prop := bootEncodesUptoRow.holds Try.pinned (OpenSpec.upto bootEncodesSpec)

/-- 'guiselaw17.BootDecodes', WHERE WHAT IT READS IS OF BULK AT MOST 1048576: true; the input reads as it did. -/
def bootDecodesUptoRow : OpenClaim := { program := "ytmfpkgcphlilmaa", sum := "d328a8199f17a6f141d41d07b24b0eb769fae1722570044ba2137c203fe2d881", func := "guise/guiselaw17.BootDecodes", spec := "bootDecodes", inPlace := ["internal/bytealg.IndexByteString", "internal/bytealg.IndexString", "slices.overlaps[rune]", "slices.overlaps[int]"], unfollowed := true, recurses := true, named := ["internal/bytealg.MaxLen"], apart := false, narrowed := true }
def BootDecodesUptoSaid : Prop := bootDecodesUptoRow.holds Try.pinned (OpenSpec.upto bootDecodesSpec)

/-- 'guiselaw17.BootBack', WHERE WHAT IT READS IS OF BULK AT MOST 1048576: true; the input reads as it did. -/
def bootBackUptoRow : OpenClaim := { program := "ytmfpkgcphlilmaa", sum := "d328a8199f17a6f141d41d07b24b0eb769fae1722570044ba2137c203fe2d881", func := "guise/guiselaw17.BootBack", spec := "bootBack", inPlace := ["internal/bytealg.IndexByteString", "internal/bytealg.IndexString", "slices.overlaps[int]", "slices.overlaps[rune]"], unfollowed := true, recurses := true, named := ["internal/bytealg.MaxLen"], apart := false, narrowed := true }
def BootBackUptoSaid : Prop := bootBackUptoRow.holds Try.pinned (OpenSpec.upto bootBackSpec)

/-- 'guiselaw17.BootApart', WHERE WHAT IT READS IS OF BULK AT MOST 1048576: true; the input reads as it did. -/
def bootApartUptoRow : OpenClaim := { program := "ytmfpkgcphlilmaa", sum := "d328a8199f17a6f141d41d07b24b0eb769fae1722570044ba2137c203fe2d881", func := "guise/guiselaw17.BootApart", spec := "bootApart", inPlace := ["internal/bytealg.IndexByteString", "internal/bytealg.IndexString", "slices.overlaps[int]", "slices.overlaps[rune]"], unfollowed := true, recurses := true, named := ["internal/bytealg.MaxLen"], apart := false, narrowed := true }
def BootApartUptoSaid : Prop := bootApartUptoRow.holds Try.pinned (OpenSpec.upto bootApartSpec)

/-- 'guiselaw17.BootLong', WHERE WHAT IT READS IS OF BULK AT MOST 1048576: true; the input reads as it did. -/
def bootLongUptoRow : OpenClaim := { program := "ytmfpkgcphlilmaa", sum := "d328a8199f17a6f141d41d07b24b0eb769fae1722570044ba2137c203fe2d881", func := "guise/guiselaw17.BootLong", spec := "bootLong", inPlace := ["internal/bytealg.IndexByteString", "internal/bytealg.IndexString", "slices.overlaps[int]", "slices.overlaps[rune]"], unfollowed := true, recurses := true, named := ["internal/bytealg.MaxLen"], apart := false, narrowed := true }
def BootLongUptoSaid : Prop := bootLongUptoRow.holds Try.pinned (OpenSpec.upto bootLongSpec)

/-- 'guiselaw17.BootForth', WHERE WHAT IT READS IS OF BULK AT MOST 1048576: true; the input reads as it did. -/
def bootForthUptoRow : OpenClaim := { program := "ytmfpkgcphlilmaa", sum := "d328a8199f17a6f141d41d07b24b0eb769fae1722570044ba2137c203fe2d881", func := "guise/guiselaw17.BootForth", spec := "bootForth", inPlace := ["internal/bytealg.IndexByteString", "internal/bytealg.IndexString", "slices.overlaps[rune]", "slices.overlaps[int]"], unfollowed := true, recurses := true, named := ["internal/bytealg.MaxLen"], apart := false, narrowed := true }
def BootForthUptoSaid : Prop := bootForthUptoRow.holds Try.pinned (OpenSpec.upto bootForthSpec)

end Rows
end Go.Proofs.Ytmfpkgcphlilmaa
