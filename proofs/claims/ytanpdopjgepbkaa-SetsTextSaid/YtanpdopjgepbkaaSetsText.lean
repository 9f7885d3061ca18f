/- The law SetsText holds: of any text, the set of the runes of its first hundred spots is what the document says. No condition. -/
import Derived.Test.YtanpdopjgepbkaaRows
import Derived.Test.YtanpdopjgepbkaaTextB
import Derived.Test.YtanpdopjgepbkaaPsOk
import Derived.ChangeMaps5
set_option linter.unusedVariables false
namespace Go.Proofs.Ytanpdopjgepbkaa
open Go Go.ChangeShapes Go.WideShapes Go.ChangeAt Go.RowKit Go.ChangeMaps

set_option maxRecDepth 100000 in
theorem setsText_lifted (os : Os) (started : os.Started) (H : Type) (enc : TypeId × Value → H) :
    ReturnsInHanded {} Try.checked os 7 .any (Rows.setsTextSpec.pre6 enc Try.prog Try.f7 Rows.setsTextRow.domain false) (Rows.setsTextSpec.post enc Try.prog Try.f7 false true false false) := by
  refine returnsInHanded_of_change_sized (C := Try.checked) Try.own started (by kernel_rfl) Try.func7
    (ChangeSpec.witness6 (enc := enc) (C := Try.checked) false ⟨#[], #[.string ⟨#[]⟩], []⟩ 8 (by kernel_rfl) (by kernel_rfl) (by kernel_rfl) (by kernel_rfl)) ?_
  intro W base args ds gs before hval0 hW hcnd hsz _
  have hW' := hW
  obtain ⟨p, q, hA0, hV, rfl, hfz, hnd⟩ := hW
  have hA : DataW.TrodAll enc Try.prog W 0 (fun _ => true) true Try.f7.params.toList args.toList ds p := hA0
  have hval : ∀ (j : Nat) t v, Try.f7.params[j]? = some t → args[j]? = some v → Value.okWide Try.prog W .any base t v := hval0
  rw [Try.params7] at hA hval
  obtain ⟨v0, d0, rfl, rfl, t0⟩ := trodAll_one hA
  obtain ⟨rfl, rfl⟩ := trodVars_none hV
  simp only [List.append_nil] at hW'
  have hwt : ∀ (j : Nat) t d, [9][j]? = some t → [d0][j]? = some d → (d.weights Try.prog t).all (· ≤ reachBytes) = true := fun j t d ht hd => List.all_eq_true.2 fun x hx => List.all_eq_true.1 hsz x (by
    rw [Try.params7]
    simp only [List.append_nil]
    exact DataW.weights_mem_each (j := j) ht hd x hx)
  have hlt : ∀ x ∈ p, x.block < W.heap.size := fun x hx => by simpa using hW'.lt x (by simpa using hx)
  have k0 := t0
  obtain ⟨x0, rfl, rfl, rfl, hx0⟩ := open_string Try.underlying9 (hval 0 9 v0 rfl rfl) t0
  have hn0 : x0.size ≤ reachBytes := by
    have := hwt 0 9 _ rfl rfl
    simpa [DataW.weights] using this
  refine (AM.calls_of_wpc Try.mixed (ps_ok _) (AM.setsText_run x0 _ hn0) (AM.hrel_empty _ _ _) (.cons (.string _) .nil) (fun b o h => by simp only [AM.AH.get, AM.Tr.get] at h; split at h <;> cases h)).mono fun e W' ⟨he, hb⟩ => ?_
  subst he
  exact ⟨_, rfl, ⟨_, _, _, [], _, [], hW', trodAll_mk1 (shut_bool Try.underlying4 true), trodAll_mk1 (Below.trod Try.laidOut (by kernel_rfl) (of_decide_eq_true (by kernel_rfl)) k0 hb (fun x hx => by cases hx)), rfl, hb.frame _, fun h => by cases h⟩⟩

theorem setsText_holds : Rows.SetsTextSaid :=
  OpenClaim.holds_of_wide 7 Try.f7 rfl rfl rfl rfl rfl rfl rfl ⟨rfl, rfl, rfl, rfl, rfl⟩ rfl rfl rfl rfl rfl (by kernel_rfl) Try.func7 (by kernel_rfl)
    (of_decide_eq_true (by kernel_rfl)) (by unfold Func.isWrapper; first | (rw [if_pos (by decide +kernel)]; kernel_rfl) | (rw [if_neg (by decide +kernel)]; exact ⟨rfl, rfl⟩))
    (fun os started H enc _ => setsText_lifted os started H enc)

#print axioms setsText_holds

end Go.Proofs.Ytanpdopjgepbkaa
