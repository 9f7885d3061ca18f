/-
  From a run of the machine's to a call of the program's, as a row asks it.
-/
import Derived.Test.YtanpdopjgepbkaaAmCode5
import Derived.Test.YtanpdopjgepbkaaAmHints
import Derived.ProofKit
set_option linter.unusedVariables false
set_option linter.unusedSimpArgs false
namespace Go.Proofs.Ytanpdopjgepbkaa.AM
open Go Go.RowKit

/-- A run over arguments that are only read: it ends, and below the heap's size at its start nothing has turned. -/
theorem calls_of_run {P : Program} (hm : P.follows .mixedOrders = true) {p : Prg} {w : World} (hp : PrgOk P w.heap.size p) {k : Nat} {f : FuncId} {args : List Value} {h : AH} {b : Bool}
    (hx : ((runN p k).1 f args h).map (·.1) = some (.bool b)) {ρ : Rho} {argsC : Array Value} (hh : HRel P w.heap.size ρ h w) (ha : VRels ρ args argsC.toList) (hro : ∀ b o, h.get b = some o → o.ro = true) :
    Calls P f argsC w fun e w' => e = .returned (.bool b) ∧ Below w.heap.size w w' := by
  obtain ⟨⟨v, h'⟩, h1, h2⟩ := Option.map_eq_some_iff.1 hx
  simp only at h2
  subst h2
  refine ((callsIn_wide (n := 0)).1 (run_sound hm hp h1 (Nat.le_refl _) hh ha 0)).mono fun e w' he => ?_
  obtain ⟨u, ρ', rfl, g1, g2, g3⟩ := he
  cases g3
  refine ⟨rfl, g2.os, g2.tape, g2.output, g2.size, fun c hc => g2.keep c hc fun ⟨b1, o, δ, N, k1, k2, _⟩ => ?_⟩
  rw [hro b1 o k1] at k2
  cases k2

/-- The program's variables, of which nothing is told. -/
def varsRho (P : Program) : Rho := (List.range P.globals.size).map fun g => (g, 0, 0)

theorem hrel_empty (P : Program) (B : Nat) (w : World) : HRel P B (varsRho P) ⟨P.globals.size, .e⟩ w where
  len := by simp [varsRho]
  live := fun b o h => by simp only [AH.get, Tr.get] at h; split at h <;> cases h
  glob := fun g hg => ⟨0, by simp [varsRho, hg]⟩
  inj := fun b b' o o' c δ N c' δ' N' h => by simp only [AH.get, Tr.get] at h; split at h <;> cases h

/-- Lifted functions alone. -/
theorem autoPrg_ok (P : Program) (B : Nat) : PrgOk P B (autoPrg P) where
  fn := fun f lf h => by
    obtain ⟨⟨hs, lf'⟩, h1, h2⟩ := Option.map_eq_some_iff.1 h
    simp only at h2
    subst h2
    unfold autoLift at h1
    split at h1
    · rename_i fn hf
      obtain ⟨l, h3, h4⟩ := Option.map_eq_some_iff.1 h1
      injection h4 with h4 h5
      subst h4 h5
      exact ⟨fn, _, hf, h3⟩
    · cases h1
  ext := fun f g h => by cases h

end Go.Proofs.Ytanpdopjgepbkaa.AM
