/- The law BootDecodes holds: Decode answers what the document says, at any parameters and any bytes. No condition. -/
import Derived.Test.YtmfpkgcphlilmaaRows
import Derived.Test.YtmfpkgcphlilmaaRunD
import Derived.Test.YtmfpkgcphlilmaaPXok
import Derived.Test.YtmfpkgcphlilmaaBpArg
import Derived.ChangeMaps5
set_option linter.unusedVariables false
namespace Go.Proofs.Ytmfpkgcphlilmaa
open Go Go.ChangeShapes Go.WideShapes Go.ChangeAt Go.RowKit Go.ChangeMaps

set_option maxRecDepth 100000 in
theorem bootDecodes_lifted (os : Os) (started : os.Started) (H : Type) (enc : TypeId × Value → H) :
    ReturnsInHanded {} Try.checked os 6 .any (Rows.bootDecodesSpec.pre6 enc Try.prog Try.f6 Rows.bootDecodesRow.domain false) (Rows.bootDecodesSpec.post enc Try.prog Try.f6 false true false false) := by
  refine returnsInHanded_of_change_sized (C := Try.checked) Try.own started (by kernel_rfl) Try.func6
    (ChangeSpec.witness6 (enc := enc) (C := Try.checked) false ⟨#[], #[.agg #[.int .i64 0, .int .i64 0, .int .i64 0, .int .i64 0, .int .i64 0, .int .i64 0, .int .i32 0], .string ⟨#[]⟩], []⟩ 8 (by kernel_rfl) (by kernel_rfl) (by kernel_rfl) (by kernel_rfl)) ?_
  intro W base args ds gs before hval0 hW hcnd hsz _
  have hW' := hW
  obtain ⟨p, q, hA0, hV, rfl, hfz, hnd⟩ := hW
  have hA : DataW.TrodAll enc Try.prog W 0 (fun _ => true) true Try.f6.params.toList args.toList ds p := hA0
  have hval : ∀ (j : Nat) t v, Try.f6.params[j]? = some t → args[j]? = some v → Value.okWide Try.prog W .any base t v := hval0
  rw [Try.params6] at hA hval
  obtain ⟨v0, v1, d0, d1, p0, p1, rfl, rfl, rfl, t0, t1⟩ := trodAll_two hA
  obtain ⟨rfl, rfl⟩ := trodVars_none hV
  simp only [List.append_nil] at hW'
  have hwt : ∀ (j : Nat) t d, [26, 9][j]? = some t → [d0, d1][j]? = some d → (d.weights Try.prog t).all (· ≤ reachBytes) = true := fun j t d ht hd => List.all_eq_true.2 fun x hx => List.all_eq_true.1 hsz x (by
    rw [Try.params6]
    simp only [List.append_nil]
    exact DataW.weights_mem_each (j := j) ht hd x hx)
  have hlt : ∀ x ∈ p0 ++ p1, x.block < W.heap.size := fun x hx => by simpa using hW'.lt x (by simpa using hx)
  have k0 := t0
  obtain ⟨a00, a01, a02, a03, a04, a05, a06, rfl, hb0, hf0⟩ := AM.bp_arg0 Try.underlying26 (by kernel_rfl) (by kernel_rfl) Try.underlying3 (by kernel_rfl) Try.underlying21 (by kernel_rfl) (hval 0 26 v0 rfl rfl) t0
  have k1 := t1
  obtain ⟨x1, rfl, rfl, rfl, hx1⟩ := open_string Try.underlying9 (hval 1 9 v1 rfl rfl) t1
  have hn1 : x1.size ≤ reachBytes := by
    have := hwt 1 9 _ rfl rfl
    simpa [DataW.weights] using this
  refine (AM.calls_of_wpc Try.mixed (px_ok _) (AM.bootDecodes_run a00 a01 a02 a03 a04 a05 a06 x1 _ hb0 hf0 hn1) (AM.hrel_empty _ _ _) (.cons (AM.bp_rel _ _ _ _ _ _ _ _) (.cons (.string _) .nil)) (fun b o h => by simp only [AM.AH.get, AM.Tr.get] at h; split at h <;> cases h)).mono fun e W' ⟨he, hb⟩ => ?_
  subst he
  exact ⟨_, rfl, ⟨_, _, _, [], _, [], hW', trodAll_mk1 (shut_bool Try.underlying4 true), trodAll_mk2 (Below.trod Try.laidOut (by kernel_rfl) (of_decide_eq_true (by kernel_rfl)) k0 hb (fun x hx => hlt x (by simp [hx]))) (Below.trod Try.laidOut (by kernel_rfl) (of_decide_eq_true (by kernel_rfl)) k1 hb (fun x hx => by cases hx)), rfl, hb.frame _, fun h => by cases h⟩⟩

theorem bootDecodes_holds : Rows.BootDecodesSaid :=
  OpenClaim.holds_of_wide 6 Try.f6 rfl rfl rfl rfl rfl rfl rfl ⟨rfl, rfl, rfl, rfl, rfl⟩ rfl rfl rfl rfl rfl (by kernel_rfl) Try.func6 (by kernel_rfl)
    (of_decide_eq_true (by kernel_rfl)) (by unfold Func.isWrapper; first | (rw [if_pos (by decide +kernel)]; kernel_rfl) | (rw [if_neg (by decide +kernel)]; exact ⟨rfl, rfl⟩))
    (fun os started H enc _ => bootDecodes_lifted os started H enc)

#print axioms bootDecodes_holds

end Go.Proofs.Ytmfpkgcphlilmaa
