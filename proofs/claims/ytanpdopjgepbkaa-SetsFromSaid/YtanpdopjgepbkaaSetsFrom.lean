/- The law SetsFrom holds: of any numbers, taken as numbers of four kinds, From refuses or makes the set that the document says. No condition. -/
import Derived.Test.YtanpdopjgepbkaaRows
import Derived.Test.YtanpdopjgepbkaaFromRun
import Derived.Test.YtanpdopjgepbkaaPsOk
set_option linter.unusedVariables false
namespace Go.Proofs.Ytanpdopjgepbkaa
open Go Go.ChangeShapes Go.WideShapes Go.ChangeAt Go.RowKit

set_option maxRecDepth 100000 in
theorem setsFrom_lifted (os : Os) (started : os.Started) (H : Type) (enc : TypeId × Value → H) :
    ReturnsInHanded {} Try.checked os 5 .any (Rows.setsFromSpec.pre6 enc Try.prog Try.f5 Rows.setsFromRow.domain false) (Rows.setsFromSpec.post enc Try.prog Try.f5 false true false false) := by
  refine returnsInHanded_of_change_sized (C := Try.checked) Try.own started (by kernel_rfl) Try.func5
    (ChangeSpec.witness6 (enc := enc) (C := Try.checked) false ⟨#[], #[.slice none 0 0], []⟩ 8 (by kernel_rfl) (by kernel_rfl) (by kernel_rfl) (by kernel_rfl)) ?_
  intro W base args ds gs before hval0 hW hcnd hsz _
  have hW' := hW
  obtain ⟨p, q, hA0, hV, rfl, hfz, hnd⟩ := hW
  have hA : DataW.TrodAll enc Try.prog W 0 (fun _ => true) true Try.f5.params.toList args.toList ds p := hA0
  have hval : ∀ (j : Nat) t v, Try.f5.params[j]? = some t → args[j]? = some v → Value.okWide Try.prog W .any base t v := hval0
  rw [Try.params5] at hA hval
  obtain ⟨v0, d0, rfl, rfl, t0⟩ := trodAll_one hA
  obtain ⟨rfl, rfl⟩ := trodVars_none hV
  simp only [List.append_nil] at hW'
  have hwt : ∀ (j : Nat) t d, [47][j]? = some t → [d0][j]? = some d → (d.weights Try.prog t).all (· ≤ reachBytes) = true := fun j t d ht hd => List.all_eq_true.2 fun x hx => List.all_eq_true.1 hsz x (by
    rw [Try.params5]
    simp only [List.append_nil]
    exact DataW.weights_mem_each (j := j) ht hd x hx)
  have hlt : ∀ x ∈ p, x.block < W.heap.size := fun x hx => by simpa using hW'.lt x (by simpa using hx)
  have k0 := t0
  obtain ⟨l0, hl0, hb0, mk0⟩ := AM.ints_arg Try.underlying47 Try.underlying3 (by kernel_rfl) (hval 0 47 v0 rfl rfl) t0 (hwt 0 47 d0 rfl rfl) (by kernel_rfl)
  obtain ⟨s0, ρ0, h0, hh0, ex0, kp0, hr0, hv0, hro0⟩ := mk0 _ _ (AM.hrel_empty _ _ _) (fun b o h => by simp only [AM.AH.get, AM.Tr.get] at h; split at h <;> cases h)
  refine (AM.calls_of_wpc Try.mixed (ps_ok _) (AM.setsFrom_run l0 s0 h0 hr0 (by omega) hb0) hh0 (.cons hv0 .nil) hro0).mono fun e W' ⟨he, hb⟩ => ?_
  subst he
  exact ⟨_, rfl, ⟨_, _, _, [], _, [], hW', trodAll_mk1 (shut_bool Try.underlying4 true), trodAll_mk1 (Below.trod Try.laidOut (by kernel_rfl) (of_decide_eq_true (by kernel_rfl)) k0 hb hlt), rfl, hb.frame _, fun h => by cases h⟩⟩

theorem setsFrom_holds : Rows.SetsFromSaid :=
  OpenClaim.holds_of_wide 5 Try.f5 rfl rfl rfl rfl rfl rfl rfl ⟨rfl, rfl, rfl, rfl, rfl⟩ rfl rfl rfl rfl rfl (by kernel_rfl) Try.func5 (by kernel_rfl)
    (of_decide_eq_true (by kernel_rfl)) (by unfold Func.isWrapper; first | (rw [if_pos (by decide +kernel)]; kernel_rfl) | (rw [if_neg (by decide +kernel)]; exact ⟨rfl, rfl⟩))
    (fun os started H enc _ => setsFrom_lifted os started H enc)

#print axioms setsFrom_holds

end Go.Proofs.Ytanpdopjgepbkaa
