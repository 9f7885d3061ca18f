/- The law SetsLaws holds: what holds of any three sets: the laws of union, meet, minus and not, sizes, the fewest spans again. No condition. -/
import Derived.Test.YtanpdopjgepbkaaRows
import Derived.Test.YtanpdopjgepbkaaLawsB
import Derived.Test.YtanpdopjgepbkaaSX
set_option linter.unusedVariables false
namespace Go.Proofs.Ytanpdopjgepbkaa
open Go Go.ChangeShapes Go.WideShapes Go.ChangeAt Go.RowKit

set_option maxRecDepth 100000 in
theorem setsLaws_lifted (os : Os) (started : os.Started) (H : Type) (enc : TypeId × Value → H) :
    ReturnsInHanded {} Try.checked os 13 .any (Rows.setsLawsSpec.pre6 enc Try.prog Try.f13 Rows.setsLawsRow.domain false) (Rows.setsLawsSpec.post enc Try.prog Try.f13 false true false false) := by
  refine returnsInHanded_of_change_sized (C := Try.checked) Try.own started (by kernel_rfl) Try.func13
    (ChangeSpec.witness6 (enc := enc) (C := Try.checked) false ⟨#[], #[.slice none 0 0, .slice none 0 0, .slice none 0 0], []⟩ 8 (by kernel_rfl) (by kernel_rfl) (by kernel_rfl) (by kernel_rfl)) ?_
  intro W base args ds gs before hval0 hW hcnd hsz _
  have hW' := hW
  obtain ⟨p, q, hA0, hV, rfl, hfz, hnd⟩ := hW
  have hA : DataW.TrodAll enc Try.prog W 0 (fun _ => true) true Try.f13.params.toList args.toList ds p := hA0
  have hval : ∀ (j : Nat) t v, Try.f13.params[j]? = some t → args[j]? = some v → Value.okWide Try.prog W .any base t v := hval0
  rw [Try.params13] at hA hval
  obtain ⟨v0, v1, v2, d0, d1, d2, p0, p1, p2, rfl, rfl, rfl, t0, t1, t2⟩ := trodAll_three hA
  obtain ⟨rfl, rfl⟩ := trodVars_none hV
  simp only [List.append_nil] at hW'
  have hwt : ∀ (j : Nat) t d, [22, 22, 22][j]? = some t → [d0, d1, d2][j]? = some d → (d.weights Try.prog t).all (· ≤ reachBytes) = true := fun j t d ht hd => List.all_eq_true.2 fun x hx => List.all_eq_true.1 hsz x (by
    rw [Try.params13]
    simp only [List.append_nil]
    exact DataW.weights_mem_each (j := j) ht hd x hx)
  have hlt : ∀ x ∈ p0 ++ p1 ++ p2, x.block < W.heap.size := fun x hx => by simpa using hW'.lt x (by simpa using hx)
  have k0 := t0
  obtain ⟨l0, hl0, hb0, mk0⟩ := AM.pairs_arg Try.underlying22 Try.underlying31 (by kernel_rfl) rfl rfl (by kernel_rfl) (by kernel_rfl) Try.underlying21 Try.underlying21 (hval 0 22 v0 rfl rfl) t0 (hwt 0 22 d0 rfl rfl) (by kernel_rfl)
  have k1 := t1
  obtain ⟨l1, hl1, hb1, mk1⟩ := AM.pairs_arg Try.underlying22 Try.underlying31 (by kernel_rfl) rfl rfl (by kernel_rfl) (by kernel_rfl) Try.underlying21 Try.underlying21 (hval 1 22 v1 rfl rfl) t1 (hwt 1 22 d1 rfl rfl) (by kernel_rfl)
  have k2 := t2
  obtain ⟨l2, hl2, hb2, mk2⟩ := AM.pairs_arg Try.underlying22 Try.underlying31 (by kernel_rfl) rfl rfl (by kernel_rfl) (by kernel_rfl) Try.underlying21 Try.underlying21 (hval 2 22 v2 rfl rfl) t2 (hwt 2 22 d2 rfl rfl) (by kernel_rfl)
  obtain ⟨s0, ρ0, h0, hh0, ex0, kp0, hr0, hv0, hro0⟩ := mk0 _ _ (AM.hrel_empty _ _ _) (fun b o h => by simp only [AM.AH.get, AM.Tr.get] at h; split at h <;> cases h)
  obtain ⟨s1, ρ1, h1, hh1, ex1, kp1, hr1, hv1, hro1⟩ := mk1 _ _ hh0 hro0
  have hr0 := hr0.kp kp1
  have hv0 := hv0.mono ex1
  obtain ⟨s2, ρ2, h2, hh2, ex2, kp2, hr2, hv2, hro2⟩ := mk2 _ _ hh1 hro1
  have hr0 := hr0.kp kp2
  have hv0 := hv0.mono ex2
  have hr1 := hr1.kp kp2
  have hv1 := hv1.mono ex2
  refine (AM.calls_of_wpc Try.mixed (ps_ok _) (AM.setsLaws_run l0 s0 l1 s1 l2 s2 h2 hr0 (by omega) hb0 hr1 (by omega) hb1 hr2 (by omega) hb2) hh2 (.cons hv0 (.cons hv1 (.cons hv2 .nil))) hro2).mono fun e W' ⟨he, hb⟩ => ?_
  subst he
  exact ⟨_, rfl, ⟨_, _, _, [], _, [], hW', trodAll_mk1 (shut_bool Try.underlying4 true), trodAll_mk3 (Below.trod Try.laidOut (by kernel_rfl) (of_decide_eq_true (by kernel_rfl)) k0 hb (fun x hx => hlt x (by simp [hx]))) (Below.trod Try.laidOut (by kernel_rfl) (of_decide_eq_true (by kernel_rfl)) k1 hb (fun x hx => hlt x (by simp [hx]))) (Below.trod Try.laidOut (by kernel_rfl) (of_decide_eq_true (by kernel_rfl)) k2 hb (fun x hx => hlt x (by simp [hx]))), rfl, hb.frame _, fun h => by cases h⟩⟩

theorem setsLaws_holds : Rows.SetsLawsSaid :=
  OpenClaim.holds_of_wide 13 Try.f13 rfl rfl rfl rfl rfl rfl rfl ⟨rfl, rfl, rfl, rfl, rfl⟩ rfl rfl rfl rfl rfl (by kernel_rfl) Try.func13 (by kernel_rfl)
    (of_decide_eq_true (by kernel_rfl)) (by unfold Func.isWrapper; first | (rw [if_pos (by decide +kernel)]; kernel_rfl) | (rw [if_neg (by decide +kernel)]; exact ⟨rfl, rfl⟩))
    (fun os started H enc _ => setsLaws_lifted os started H enc)

#print axioms setsLaws_holds

end Go.Proofs.Ytanpdopjgepbkaa
