/- The law SetsAll holds: any set's runes are handed out rising and falling, left early, and again. No condition. -/
import Derived.Test.YtanpdopjgepbkaaRows
import Derived.Test.YtanpdopjgepbkaaAllE
import Derived.Test.YtanpdopjgepbkaaSX
set_option linter.unusedVariables false
namespace Go.Proofs.Ytanpdopjgepbkaa
open Go Go.ChangeShapes Go.WideShapes Go.ChangeAt Go.RowKit

set_option maxRecDepth 100000 in
theorem setsAll_lifted (os : Os) (started : os.Started) (H : Type) (enc : TypeId × Value → H) :
    ReturnsInHanded {} Try.checked os 10 .any (Rows.setsAllSpec.pre6 enc Try.prog Try.f10 Rows.setsAllRow.domain false) (Rows.setsAllSpec.post enc Try.prog Try.f10 false true false false) := by
  refine returnsInHanded_of_change_sized (C := Try.checked) Try.own started (by kernel_rfl) Try.func10
    (ChangeSpec.witness6 (enc := enc) (C := Try.checked) false ⟨#[], #[.slice none 0 0, .int .i64 0], []⟩ 8 (by kernel_rfl) (by kernel_rfl) (by kernel_rfl) (by kernel_rfl)) ?_
  intro W base args ds gs before hval0 hW hcnd hsz _
  have hW' := hW
  obtain ⟨p, q, hA0, hV, rfl, hfz, hnd⟩ := hW
  have hA : DataW.TrodAll enc Try.prog W 0 (fun _ => true) true Try.f10.params.toList args.toList ds p := hA0
  have hval : ∀ (j : Nat) t v, Try.f10.params[j]? = some t → args[j]? = some v → Value.okWide Try.prog W .any base t v := hval0
  rw [Try.params10] at hA hval
  obtain ⟨v0, v1, d0, d1, p0, p1, rfl, rfl, rfl, t0, t1⟩ := trodAll_two hA
  obtain ⟨rfl, rfl⟩ := trodVars_none hV
  simp only [List.append_nil] at hW'
  have hwt : ∀ (j : Nat) t d, [22, 3][j]? = some t → [d0, d1][j]? = some d → (d.weights Try.prog t).all (· ≤ reachBytes) = true := fun j t d ht hd => List.all_eq_true.2 fun x hx => List.all_eq_true.1 hsz x (by
    rw [Try.params10]
    simp only [List.append_nil]
    exact DataW.weights_mem_each (j := j) ht hd x hx)
  have hlt : ∀ x ∈ p0 ++ p1, x.block < W.heap.size := fun x hx => by simpa using hW'.lt x (by simpa using hx)
  have k0 := t0
  obtain ⟨l0, hl0, hb0, mk0⟩ := AM.pairs_arg Try.underlying22 Try.underlying31 (by kernel_rfl) rfl rfl (by kernel_rfl) (by kernel_rfl) Try.underlying21 Try.underlying21 (hval 0 22 v0 rfl rfl) t0 (hwt 0 22 d0 rfl rfl) (by kernel_rfl)
  have k1 := t1
  obtain ⟨n1, rfl, rfl, rfl, hw1⟩ := open_int Try.underlying3 (hval 1 3 v1 rfl rfl) t1
  have hn1 := AM.has_i64 hw1
  obtain ⟨s0, ρ0, h0, hh0, ex0, kp0, hr0, hv0, hro0⟩ := mk0 _ _ (AM.hrel_empty _ _ _) (fun b o h => by simp only [AM.AH.get, AM.Tr.get] at h; split at h <;> cases h)
  refine (AM.calls_of_wpc Try.mixed (ps_ok _) (AM.setsAll_run l0 s0 n1 h0 hr0 (by omega) hb0 hn1.1 hn1.2) hh0 (.cons hv0 (.cons (.int _ _) .nil)) hro0).mono fun e W' ⟨he, hb⟩ => ?_
  subst he
  exact ⟨_, rfl, ⟨_, _, _, [], _, [], hW', trodAll_mk1 (shut_bool Try.underlying4 true), trodAll_mk2 (Below.trod Try.laidOut (by kernel_rfl) (of_decide_eq_true (by kernel_rfl)) k0 hb (fun x hx => hlt x (by simp [hx]))) (Below.trod Try.laidOut (by kernel_rfl) (of_decide_eq_true (by kernel_rfl)) k1 hb (fun x hx => by cases hx)), rfl, hb.frame _, fun h => by cases h⟩⟩

theorem setsAll_holds : Rows.SetsAllSaid :=
  OpenClaim.holds_of_wide 10 Try.f10 rfl rfl rfl rfl rfl rfl rfl ⟨rfl, rfl, rfl, rfl, rfl⟩ rfl rfl rfl rfl rfl (by kernel_rfl) Try.func10 (by kernel_rfl)
    (of_decide_eq_true (by kernel_rfl)) (by unfold Func.isWrapper; first | (rw [if_pos (by decide +kernel)]; kernel_rfl) | (rw [if_neg (by decide +kernel)]; exact ⟨rfl, rfl⟩))
    (fun os started H enc _ => setsAll_lifted os started H enc)

#print axioms setsAll_holds

end Go.Proofs.Ytanpdopjgepbkaa
