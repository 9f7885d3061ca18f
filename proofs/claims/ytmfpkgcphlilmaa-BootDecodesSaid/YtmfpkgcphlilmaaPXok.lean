/- The program with its contracts: each is kept. -/
import Derived.Test.YtmfpkgcphlilmaaInsO
import Derived.Test.YtmfpkgcphlilmaaInsP
import Derived.Test.YtmfpkgcphlilmaaIdxR
set_option linter.unusedVariables false
namespace Go.Proofs.Ytmfpkgcphlilmaa
open Go Go.ChangeShapes Go.WideShapes Go.ChangeAt Go.RowKit

theorem Try.own : ownKnob Try.prog.godebug = none := by kernel_rfl
theorem Try.laidOut : laidOutB Try.prog = true := by kernel_rfl
theorem Try.mixed : Try.prog.follows .mixedOrders = true := by kernel_rfl

set_option maxRecDepth 100000 in
theorem alive_run : ((AM.runN (AM.autoPrg Try.prog) 200).1 11 [] ⟨Try.prog.globals.size, .e⟩).map (·.1) = some (.bool true) := by kernel_rfl

theorem px_ok (B : Nat) : AM.PrgOk Try.prog B AM.PX where
  fn := fun f lf h => (AM.autoPrg_ok Try.prog B).fn f lf (by unfold AM.PX at h; rw [AM.withExt_fn] at h; exact h)
  ext := fun f g hg args h v h' hx => by
    unfold AM.PX at hg
    rw [AM.withExt_ext] at hg
    unfold AM.extB at hg
    split at hg
    · rename_i hf
      subst hf
      injection hg with hg
      subst hg
      unfold AM.aliveX at hx
      split at hx
      · rename_i ha
        injection hx with hx
        injection hx with h1 h2
        subst h1 h2
        have : args = [] := by simpa using ha
        subst this
        exact AM.closed_ext Try.mixed alive_run h
      · cases hx
    · split at hg
      · rename_i hf
        subst hf
        injection hg with hg
        subst hg
        exact AM.ins_ok AM.insC36 rfl B args h v h' hx
      · split at hg
        · rename_i hf
          subst hf
          injection hg with hg
          subst hg
          exact AM.ins_ok AM.insC41 rfl B args h v h' hx
        · split at hg
          · rename_i hf
            subst hf
            injection hg with hg
            subst hg
            exact AM.idxR_ok B args h v h' hx
          · cases hg

end Go.Proofs.Ytmfpkgcphlilmaa
