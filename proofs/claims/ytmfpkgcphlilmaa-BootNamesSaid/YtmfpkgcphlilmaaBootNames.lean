/- The closed law BootNames holds: the program is lifted into a machine of its own whose run the kernel computes; each step of that run is proved to be the program's. No condition. -/
import Derived.Test.YtmfpkgcphlilmaaRows
import Derived.Test.YtmfpkgcphlilmaaAmE
namespace Go.Proofs.Ytmfpkgcphlilmaa
open Go.ChangeShapes Go.WideShapes Go.ChangeAt Go.RowKit

theorem Try.own : ownKnob Try.prog.godebug = none := by kernel_rfl
theorem Try.laidOut : laidOutB Try.prog = true := by kernel_rfl
theorem Try.mixed : Try.prog.follows .mixedOrders = true := by kernel_rfl

set_option maxRecDepth 100000 in
theorem bootNames_run : ((AM.runN (AM.autoPrg Try.prog) 200).1 3 [] ⟨Try.prog.globals.size, .e⟩).map (·.1) = some (.bool true) := by kernel_rfl

set_option maxRecDepth 100000 in
theorem bootNames_lifted (os : Os) (started : os.Started) (H : Type) (enc : TypeId × Value → H) :
    ReturnsInHanded {} Try.checked os 3 .any (Rows.bootNamesSpec.pre6 enc Try.prog Try.f3 Rows.bootNamesRow.domain false) (Rows.bootNamesSpec.post enc Try.prog Try.f3 false true false false) := by
  refine returnsInHanded_of_change (C := Try.checked) Try.own started (by kernel_rfl) Try.func3
    (ChangeSpec.witness6 (enc := enc) (C := Try.checked) false ⟨#[], #[], []⟩ 8 (by kernel_rfl) (by kernel_rfl) (by kernel_rfl) (by kernel_rfl)) ?_
  intro W base args ds gs before hval0 hW hcnd _
  have hW' := hW
  obtain ⟨p, q, hA0, hV, rfl, hfz, hnd⟩ := hW
  have hA : DataW.TrodAll enc Try.prog W 0 (fun _ => true) true Try.f3.params.toList args.toList ds p := hA0
  rw [Try.params3] at hA
  obtain ⟨hargs, rfl, rfl⟩ := trodAll_nil hA
  obtain ⟨rfl, rfl⟩ := trodVars_none hV
  have hargs' : args = #[] := by simpa using hargs
  subst hargs'
  clear hA0 hval0
  simp only [List.append_nil] at hW'
  refine (AM.calls_of_run Try.mixed (AM.autoPrg_ok _ _) bootNames_run (AM.hrel_empty _ _ _) .nil (fun b o h => by simp only [AM.AH.get, AM.Tr.get] at h; split at h <;> cases h)).mono fun e W' ⟨he, hb⟩ => ?_
  subst he
  exact ⟨_, rfl, ⟨_, _, _, [], [], [], hW', trodAll_mk1 (shut_bool Try.underlying4 true), rfl, rfl, hb.frame _, fun h => by cases h⟩⟩

theorem bootNames_holds : Rows.BootNamesSaid :=
  OpenClaim.holds_of_wide 3 Try.f3 rfl rfl rfl rfl rfl rfl rfl ⟨rfl, rfl, rfl, rfl, rfl⟩ rfl rfl rfl rfl rfl (by kernel_rfl) Try.func3 (by kernel_rfl)
    (of_decide_eq_true (by kernel_rfl)) (by unfold Func.isWrapper; first | (rw [if_pos (by decide +kernel)]; kernel_rfl) | (rw [if_neg (by decide +kernel)]; exact ⟨rfl, rfl⟩))
    (fun os started H enc _ => bootNames_lifted os started H enc)

#print axioms bootNames_holds

end Go.Proofs.Ytmfpkgcphlilmaa
