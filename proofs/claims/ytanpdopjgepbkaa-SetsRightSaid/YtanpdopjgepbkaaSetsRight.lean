/- The law SetsRight holds: of any list the program and the document's answer tell the same first row that may not stand in a table's list, and the list and the room behind it stay as they are. No condition. -/
import Derived.Test.YtanpdopjgepbkaaRows
import Derived.Test.YtanpdopjgepbkaaSlD
import Derived.Test.YtanpdopjgepbkaaAmExt
set_option linter.unusedVariables false
namespace Go.Proofs.Ytanpdopjgepbkaa
open Go Go.ChangeShapes Go.WideShapes Go.ChangeAt Go.RowKit

theorem Try.own : ownKnob Try.prog.godebug = none := by kernel_rfl
theorem Try.laidOut : laidOutB Try.prog = true := by kernel_rfl
theorem Try.mixed : Try.prog.follows .mixedOrders = true := by kernel_rfl

set_option maxRecDepth 100000 in
theorem alive_run : ((AM.runN (AM.autoPrg Try.prog) 200).1 14 [] ⟨Try.prog.globals.size, .e⟩).map (·.1) = some (.bool true) := by kernel_rfl

theorem ps_ok (B : Nat) : AM.PrgOk Try.prog B AM.PS where
  fn := fun f lf h => (AM.autoPrg_ok Try.prog B).fn f lf (by unfold AM.PS at h; rw [AM.withExt_fn] at h; exact h)
  ext := fun f g hg args h v h' hx => by
    unfold AM.PS at hg
    rw [AM.withExt_ext] at hg
    unfold AM.extS at hg
    split at hg
    · rename_i hf
      subst hf
      injection hg with hg
      subst hg
      unfold AM.aliveX at hx
      split at hx
      · rename_i ha
        injection hx with hx
        injection hx with h1 h2
        subst h1 h2
        have : args = [] := by simpa using ha
        subst this
        exact AM.closed_ext Try.mixed alive_run h
      · cases hx
    · cases hg

set_option maxRecDepth 100000 in
theorem setsRight_lifted (os : Os) (started : os.Started) (H : Type) (enc : TypeId × Value → H) :
    ReturnsInHanded {} Try.checked os 6 .any (Rows.setsRightSpec.pre6 enc Try.prog Try.f6 Rows.setsRightRow.domain false) (Rows.setsRightSpec.post enc Try.prog Try.f6 false true false false) := by
  refine returnsInHanded_of_change_sized (C := Try.checked) Try.own started (by kernel_rfl) Try.func6
    (ChangeSpec.witness6 (enc := enc) (C := Try.checked) false ⟨#[], #[.slice none 0 0], []⟩ 8 (by kernel_rfl) (by kernel_rfl) (by kernel_rfl) (by kernel_rfl)) ?_
  intro W base args ds gs before hval0 hW hcnd hsz _
  have hW' := hW
  obtain ⟨p, q, hA0, hV, rfl, hfz, hnd⟩ := hW
  have hA : DataW.TrodAll enc Try.prog W 0 (fun _ => true) true Try.f6.params.toList args.toList ds p := hA0
  have hval : ∀ (j : Nat) t v, Try.f6.params[j]? = some t → args[j]? = some v → Value.okWide Try.prog W .any base t v := hval0
  rw [Try.params6] at hA hval
  obtain ⟨v0, d0, rfl, rfl, h0⟩ := trodAll_one hA
  obtain ⟨rfl, rfl⟩ := trodVars_none hV
  simp only [List.append_nil] at hW'
  have hwt : (d0.weights Try.prog 22).all (· ≤ reachBytes) = true := List.all_eq_true.2 fun x hx => List.all_eq_true.1 hsz x (by
    rw [Try.params6]
    exact DataW.weights_mem_each (j := 0) rfl rfl x hx)
  obtain ⟨l, hl, hb, mk⟩ := AM.pairs_arg Try.underlying22 Try.underlying31 (by kernel_rfl) rfl rfl (by kernel_rfl) (by kernel_rfl) Try.underlying21 Try.underlying21 (hval 0 22 v0 rfl rfl) h0 hwt (by kernel_rfl)
  obtain ⟨s, ρ, h, hh, _, _, hr, hv, hro⟩ := mk _ _ (AM.hrel_empty _ _ _) (fun b o h => by simp only [AM.AH.get, AM.Tr.get] at h; split at h <;> cases h)
  have hlt : ∀ x ∈ p, x.block < W.heap.size := fun x hx => by simpa using hW'.lt x hx
  refine (AM.calls_of_wpc Try.mixed (ps_ok _) (AM.setsRight_run l s h hr (by omega) hb) hh (.cons hv .nil) hro).mono fun e W' ⟨he, hb⟩ => ?_
  subst he
  refine ⟨_, rfl, ⟨_, _, _, [], p, [], hW', trodAll_mk1 (shut_bool Try.underlying4 true), trodAll_mk1 (Below.trod Try.laidOut (by kernel_rfl) (of_decide_eq_true (by kernel_rfl)) h0 hb hlt), rfl, hb.frame _, fun h => by cases h⟩⟩

theorem setsRight_holds : Rows.SetsRightSaid :=
  OpenClaim.holds_of_wide 6 Try.f6 rfl rfl rfl rfl rfl rfl rfl ⟨rfl, rfl, rfl, rfl, rfl⟩ rfl rfl rfl rfl rfl (by kernel_rfl) Try.func6 (by kernel_rfl)
    (of_decide_eq_true (by kernel_rfl)) (by unfold Func.isWrapper; first | (rw [if_pos (by decide +kernel)]; kernel_rfl) | (rw [if_neg (by decide +kernel)]; exact ⟨rfl, rfl⟩))
    (fun os started H enc _ => setsRight_lifted os started H enc)

#print axioms setsRight_holds

end Go.Proofs.Ytanpdopjgepbkaa
