/- The program with its contracts: each is kept. -/
import Derived.Test.YtanpdopjgepbkaaSortX
import Derived.ProofKit
set_option linter.unusedVariables false
namespace Go.Proofs.Ytanpdopjgepbkaa
open Go Go.ChangeShapes Go.WideShapes Go.ChangeAt Go.RowKit

theorem Try.own : ownKnob Try.prog.godebug = none := by kernel_rfl
theorem Try.laidOut : laidOutB Try.prog = true := by kernel_rfl
theorem Try.mixed : Try.prog.follows .mixedOrders = true := by kernel_rfl

set_option maxRecDepth 100000 in
theorem alive_run : ((AM.runN (AM.autoPrg Try.prog) 200).1 14 [] ⟨Try.prog.globals.size, .e⟩).map (·.1) = some (.bool true) := by kernel_rfl

theorem ps_ok (B : Nat) : AM.PrgOk Try.prog B AM.PS where
  fn := fun f lf h => (AM.autoPrg_ok Try.prog B).fn f lf (by unfold AM.PS at h; rw [AM.withExt_fn] at h; exact h)
  ext := fun f g hg args h v h' hx => by
    unfold AM.PS at hg
    rw [AM.withExt_ext] at hg
    unfold AM.extS at hg
    split at hg
    · rename_i hf
      subst hf
      injection hg with hg
      subst hg
      unfold AM.aliveX at hx
      split at hx
      · rename_i ha
        injection hx with hx
        injection hx with h1 h2
        subst h1 h2
        have : args = [] := by simpa using ha
        subst this
        exact AM.closed_ext Try.mixed alive_run h
      · cases hx
    · split at hg
      · rename_i hf
        subst hf
        injection hg with hg
        subst hg
        exact AM.sort_ok B args h v h' hx
      · cases hg

end Go.Proofs.Ytanpdopjgepbkaa
