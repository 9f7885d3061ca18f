/- The library's search of a plain rune in a text keeps the contract 'idxRX'. -/
import Derived.Test.YtmfpkgcphlilmaaBA
import Derived.Shelf.Strings.Runes
import Derived.ProofKit
set_option linter.unusedVariables false
set_option linter.unusedSimpArgs false
namespace Go.Proofs.Ytmfpkgcphlilmaa.AM
open Go Go.Shelf Go.RowKit Go.Lib

def idxRen : Ren where
  f := fun n => match n with
    | 119 => 27 | 137 => 62 | 152 => 71 | 217 => 76 | 224 => 79 | 225 => 80 | 266 => 83 | _ => 0
  t := fun n => match n with
    | 0 => 0 | 3 => 3 | 4 => 4 | 5 => 5 | 9 => 9 | 21 => 21 | 46 => 96 | _ => 0
  g := fun n => n

theorem idxLays : Lays.n152 Try.prog idxRen where
  mixed := by kernel_rfl
  f119 := Try.func27.trans (by kernel_rfl)
  f137 := Try.func62.trans (by kernel_rfl)
  f152 := Try.func71.trans (by kernel_rfl)
  f217 := Try.func76.trans (by kernel_rfl)
  f224 := Try.func79.trans (by kernel_rfl)
  f225 := Try.func80.trans (by kernel_rfl)
  f266 := Try.func83.trans (by kernel_rfl)
  t0 := Try.underlying0
  a0 := fun w => by kernel_rfl
  z0 := fun w => by kernel_rfl
  v0 := fun w => by kernel_rfl
  t3 := Try.underlying3
  a3 := fun w => by kernel_rfl
  z3 := fun w => by kernel_rfl
  v3 := fun w => by kernel_rfl
  t4 := Try.underlying4
  a4 := fun w => by kernel_rfl
  z4 := fun w => by kernel_rfl
  v4 := fun w => by kernel_rfl
  t5 := Try.underlying5
  a5 := fun w => by kernel_rfl
  z5 := fun w => by kernel_rfl
  v5 := fun w => by kernel_rfl
  t9 := Try.underlying9
  a9 := fun w => by kernel_rfl
  z9 := fun w => by kernel_rfl
  v9 := fun w => by kernel_rfl
  t21 := Try.underlying21
  a21 := fun w => by kernel_rfl
  z21 := fun w => by kernel_rfl
  v21 := fun w => by kernel_rfl
  t46 := Try.underlying96
  a46 := fun w => by kernel_rfl
  z46 := fun w => by kernel_rfl
  v46 := fun w => by kernel_rfl

theorem find_index (l : List UInt8) (c : UInt8) : (match l.findIdx? (· == c) with | some i => (i : Int) | none => -1) = Lib.indexByte l c := by
  induction l with
  | nil => rfl
  | cons b l ih =>
    simp only [List.findIdx?_cons, Lib.indexByte]
    by_cases h : (b == c) = true
    · simp [h]
    · simp only [h, Bool.false_eq_true, if_false]
      rw [← ih]
      cases hl : l.findIdx? (· == c) with
      | none => simp
      | some i =>
        simp only [Option.map_some]
        have e : ((i : Int) == -1) = false := by rw [beq_eq_false_iff_ne]; omega
        simp only [e, Bool.false_eq_true, if_false]
        show ((i + 1 : Nat) : Int) = (i : Int) + 1
        omega

theorem find_range (s : ByteArray) (c : UInt8) : (List.range s.size).find? (fun i => s[i]! == c) = s.data.toList.findIdx? (· == c) := by
  rw [List.findIdx?_eq_fst_find?_zipIdx]
  have : s.data.toList.zipIdx = (List.range s.size).map fun i => (s[i]!, i) := by
    apply List.ext_getElem
    · simp only [List.length_zipIdx, List.length_map, List.length_range, Array.length_toList]
      rfl
    · intro i h1 h2
      have hi : i < s.size := by
        rw [List.length_map, List.length_range] at h2
        exact h2
      simp only [List.getElem_zipIdx, List.getElem_map, List.getElem_range, Nat.zero_add, Prod.mk.injEq, and_true]
      rw [getElem!_pos s i hi]
      rfl
  rw [this, List.find?_map]
  simp only [Function.comp_def]
  cases (List.range s.size).find? (fun i => s[i]! == c) <;> rfl

theorem idxR_ok (B : Nat) : ∀ args h v h', idxRX args h = some (v, h') → FnOk Try.prog 71 ∧
    ∀ ρ w argsC n, B ≤ w.heap.size → HRel Try.prog B ρ h w → VRels ρ args argsC.toList → CallsIn Fence.wide n Try.prog 71 argsC w (CallPost Try.prog B ρ h w v h') := by
  intro args h v h' hx
  refine ⟨⟨Try.f71, Try.func71, by decide, rfl⟩, fun ρ w argsC n hB hh ha => ?_⟩
  obtain ⟨L⟩ := argsC
  change VRels ρ args L at ha
  unfold idxRX at hx
  split at hx
  · rename_i s r
    split at hx
    · rename_i hc
      injection hx with hx
      injection hx with hv hh'
      subst hh'
      cases ha with
      | cons hs ha2 =>
        cases ha2 with
        | cons hr hnil =>
          cases hnil
          cases hs
          cases hr
          have hcon := Any.strings_IndexRune_ascii idxLays s r w hc.1 hc.2
          refine (callsIn_wide (n := n)).2 (hcon.mono fun e w' he => ?_)
          obtain ⟨rfl, rfl⟩ := he
          refine ⟨_, ρ, rfl, hh, Trans.refl ρ h _, ?_⟩
          rw [← hv, find_range]
          rw [← find_index]
          exact .int _ _
    · cases hx
  · cases hx

end Go.Proofs.Ytmfpkgcphlilmaa.AM
