/- The law BootRight holds: Encode and Decode refuse parameters if and only if the document does. No condition. -/
import Derived.Test.YtmfpkgcphlilmaaRows
import Derived.Test.YtmfpkgcphlilmaaRunR
import Derived.Test.YtmfpkgcphlilmaaPXok
import Derived.Test.YtmfpkgcphlilmaaBpArg
set_option linter.unusedVariables false
namespace Go.Proofs.Ytmfpkgcphlilmaa
open Go Go.ChangeShapes Go.WideShapes Go.ChangeAt Go.RowKit

set_option maxRecDepth 100000 in
theorem bootRight_lifted (os : Os) (started : os.Started) (H : Type) (enc : TypeId × Value → H) :
    ReturnsInHanded {} Try.checked os 4 .any (Rows.bootRightSpec.pre6 enc Try.prog Try.f4 Rows.bootRightRow.domain false) (Rows.bootRightSpec.post enc Try.prog Try.f4 false true false false) := by
  refine returnsInHanded_of_change_sized (C := Try.checked) Try.own started (by kernel_rfl) Try.func4
    (ChangeSpec.witness6 (enc := enc) (C := Try.checked) false ⟨#[], #[.agg #[.int .i64 0, .int .i64 0, .int .i64 0, .int .i64 0, .int .i64 0, .int .i64 0, .int .i32 0]], []⟩ 8 (by kernel_rfl) (by kernel_rfl) (by kernel_rfl) (by kernel_rfl)) ?_
  intro W base args ds gs before hval0 hW hcnd hsz _
  have hW' := hW
  obtain ⟨p, q, hA0, hV, rfl, hfz, hnd⟩ := hW
  have hA : DataW.TrodAll enc Try.prog W 0 (fun _ => true) true Try.f4.params.toList args.toList ds p := hA0
  have hval : ∀ (j : Nat) t v, Try.f4.params[j]? = some t → args[j]? = some v → Value.okWide Try.prog W .any base t v := hval0
  rw [Try.params4] at hA hval
  obtain ⟨v0, d0, rfl, rfl, t0⟩ := trodAll_one hA
  obtain ⟨rfl, rfl⟩ := trodVars_none hV
  simp only [List.append_nil] at hW'
  have hwt : ∀ (j : Nat) t d, [26][j]? = some t → [d0][j]? = some d → (d.weights Try.prog t).all (· ≤ reachBytes) = true := fun j t d ht hd => List.all_eq_true.2 fun x hx => List.all_eq_true.1 hsz x (by
    rw [Try.params4]
    simp only [List.append_nil]
    exact DataW.weights_mem_each (j := j) ht hd x hx)
  have hlt : ∀ x ∈ p, x.block < W.heap.size := fun x hx => by simpa using hW'.lt x (by simpa using hx)
  have k0 := t0
  obtain ⟨a00, a01, a02, a03, a04, a05, a06, rfl, hb0, hf0⟩ := AM.bp_arg0 Try.underlying26 (by kernel_rfl) (by kernel_rfl) Try.underlying3 (by kernel_rfl) Try.underlying21 (by kernel_rfl) (hval 0 26 v0 rfl rfl) t0
  refine (AM.calls_of_wpc Try.mixed (px_ok _) (AM.bootRight_run a00 a01 a02 a03 a04 a05 a06 _ hb0 hf0) (AM.hrel_empty _ _ _) (.cons (AM.bp_rel _ _ _ _ _ _ _ _) .nil) (fun b o h => by simp only [AM.AH.get, AM.Tr.get] at h; split at h <;> cases h)).mono fun e W' ⟨he, hb⟩ => ?_
  subst he
  exact ⟨_, rfl, ⟨_, _, _, [], _, [], hW', trodAll_mk1 (shut_bool Try.underlying4 true), trodAll_mk1 (Below.trod Try.laidOut (by kernel_rfl) (of_decide_eq_true (by kernel_rfl)) k0 hb hlt), rfl, hb.frame _, fun h => by cases h⟩⟩

theorem bootRight_holds : Rows.BootRightSaid :=
  OpenClaim.holds_of_wide 4 Try.f4 rfl rfl rfl rfl rfl rfl rfl ⟨rfl, rfl, rfl, rfl, rfl⟩ rfl rfl rfl rfl rfl (by kernel_rfl) Try.func4 (by kernel_rfl)
    (of_decide_eq_true (by kernel_rfl)) (by unfold Func.isWrapper; first | (rw [if_pos (by decide +kernel)]; kernel_rfl) | (rw [if_neg (by decide +kernel)]; exact ⟨rfl, rfl⟩))
    (fun os started H enc _ => bootRight_lifted os started H enc)

#print axioms bootRight_holds

end Go.Proofs.Ytmfpkgcphlilmaa
