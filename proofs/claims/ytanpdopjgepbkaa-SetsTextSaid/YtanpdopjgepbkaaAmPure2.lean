/-
  Operations whose value hangs on their operands alone, one by one.
-/
import Derived.Test.YtanpdopjgepbkaaAmPure
set_option linter.unusedVariables false
set_option linter.unusedSimpArgs false
namespace Go.Proofs.Ytanpdopjgepbkaa.AM
open Go

variable {P : Program} {ρ : Rho} {lm : Nat → Option Nat} {fr : Fr} {ev : Operand → Value} {w : World}

theorem runV {s : Sem Value} {u : Value} (h : s.run P w = .ok u w) : (do pure (Next.value (← s)) : Sem Next).run P w = .ok (.value u) w := by
  simp only [Sem.run_bind, h, Result.andThen_ok]; rfl

theorem p_pick (hr : OpdRel P ρ lm fr ev) {c a b : Operand} {c' a' b' : Opd} (hc : liftOpd P c = some c') (ha : liftOpd P a = some a') (hb : liftOpd P b = some b') {v : Value}
    (hv : (POp.pick c' a' b').ev fr = some v) : ∃ u, (asBool (ev c)).run P w = .ok u w ∧ VRelF ρ lm v (if u = true then ev a else ev b) := by
  simp only [POp.ev] at hv
  split at hv
  · rename_i t ht
    have h1 := hr c c' hc
    rw [ht] at h1
    rw [h1.bool]
    simp only [Option.some.injEq] at hv
    subst hv
    refine ⟨t, by simp [asBool], ?_⟩
    cases t
    · exact hr b b' hb
    · exact hr a a' ha
  · cases hv

theorem intBin_flat {op : BinOp} {k : IntKind} {x y : Int} {v : Value} (h : intBin op k x y = some v) : flat0 v = true := by
  cases op <;> simp only [intBin] at h <;> (try split at h) <;> simp at h <;> subst h <;> rfl
theorem strBin_flat {op : BinOp} {x y : ByteArray} {v : Value} (h : strBin op x y = some v) : flat0 v = true := by
  cases op <;> simp only [strBin] at h <;> (try split at h) <;> simp at h <;> subst h <;> rfl
theorem shiftBin_flat {op : BinOp} {k : IntKind} {x y : Int} {v : Value} (h : shiftBin op k x y = some v) : flat0 v = true := by
  unfold shiftBin at h
  split at h
  · cases h
  · cases op <;> simp at h <;> subst h <;> rfl

theorem p_bin (hr : OpdRel P ρ lm fr ev) {op : BinOp} {x y : Operand} {x' y' : Opd} (hx : liftOpd P x = some x') (hy : liftOpd P y = some y') (t : TypeId) {v : Value}
    (hv : (POp.bin op x' y').ev fr = some v) : ∃ u, (do eqGuard op t x y (ev x) (ev y); binOp op t (ev x) (ev y) : Sem Value).run P w = .ok u w ∧ VRelF ρ lm v u := by
  simp only [POp.ev] at hv
  have h1 := hr x x' hx
  have h2 := hr y y' hy
  unfold binA at hv
  split at hv
  · rename_i k a k' b e1 e2
    rw [e1] at h1; rw [e2] at h2
    rw [h1.int, h2.int]
    have hg : (eqGuard op t x y (.int k a) (.int k' b)).run P w = .ok () w := by cases op <;> simp [eqGuard]
    split at hv
    · exact ⟨v, by simp only [Sem.run_bind, hg, Result.andThen_ok]; exact run_shiftBin (.inl rfl) hv t, .inl (.flat0 (shiftBin_flat hv))⟩
    · exact ⟨v, by simp only [Sem.run_bind, hg, Result.andThen_ok]; exact run_shiftBin (.inr rfl) hv t, .inl (.flat0 (shiftBin_flat hv))⟩
    · split at hv
      · rename_i hk
        subst hk
        exact ⟨v, by simp only [Sem.run_bind, hg, Result.andThen_ok]; exact run_intBin hv t, .inl (.flat0 (intBin_flat hv))⟩
      · cases hv
  · rename_i a b e1 e2
    rw [e1] at h1; rw [e2] at h2
    rw [h1.string, h2.string]
    have hg : (eqGuard op t x y (.string a) (.string b)).run P w = .ok () w := by cases op <;> simp [eqGuard]
    exact ⟨v, by simp only [Sem.run_bind, hg, Result.andThen_ok]; exact run_strBin hv t, .inl (.flat0 (strBin_flat hv))⟩
  · cases hv

theorem VRelF.pany {q : Option Addr} {u : Value} (h : VRelF ρ lm (.pointer q) u) : ∃ a, u = .pointer a := by
  cases q with
  | none => exact ⟨_, h.pnil⟩
  | some q => obtain ⟨_, e, _⟩ := h.psome; exact ⟨_, e⟩
theorem VRelF.sany {q : Option Addr} {n e : Nat} {u : Value} (h : VRelF ρ lm (.slice q n e) u) : ∃ a n c, u = .slice a n c := by
  cases q with
  | none => exact ⟨_, _, _, h.snil.1⟩
  | some q => obtain ⟨_, _, e⟩ := h.ssome; exact ⟨_, _, _, e⟩
theorem VRelF.many {q : Option Nat} {u : Value} (h : VRelF ρ lm (.map q) u) : ∃ a, u = .map a := by
  cases q with
  | none => exact ⟨_, h.mnil⟩
  | some q => obtain ⟨_, _, _, e, _⟩ := h.msome; exact ⟨_, e⟩

theorem eqNil_shape {k : EqK} {p q u v : Value} {b : Bool} (hb : eqNil k p q = some b) (h1 : VRelF ρ lm p u) (h2 : VRelF ρ lm q v) :
    (∃ a b, u = .bool a ∧ v = .bool b) ∨ (∃ a b, u = .pointer a ∧ v = .pointer b) ∨ (∃ a n c a' n' c', u = .slice a n c ∧ v = .slice a' n' c') ∨ (∃ a b, u = .map a ∧ v = .map b) ∨
      ((u = .nilFunc ∨ ∃ f a b, u = .func f a b) ∧ (v = .nilFunc ∨ ∃ f a b, v = .func f a b)) := by
  unfold eqNil at hb
  split at hb
  · exact .inl ⟨_, _, h1.bool, h2.bool⟩
  · obtain ⟨_, e⟩ := h2.pany; exact .inr (.inl ⟨_, _, h1.pnil, e⟩)
  · obtain ⟨_, e, _⟩ := h1.psome; exact .inr (.inl ⟨_, _, e, h2.pnil⟩)
  · obtain ⟨_, _, _, e⟩ := h2.sany; exact .inr (.inr (.inl ⟨_, _, _, _, _, _, h1.snil.1, e⟩))
  · obtain ⟨_, _, e⟩ := h1.ssome; exact .inr (.inr (.inl ⟨_, _, _, _, _, _, e, h2.snil.1⟩))
  · obtain ⟨_, e⟩ := h2.many; exact .inr (.inr (.inr (.inl ⟨_, _, h1.mnil, e⟩)))
  · obtain ⟨_, _, _, e, _⟩ := h1.msome; exact .inr (.inr (.inr (.inl ⟨_, _, e, h2.mnil⟩)))
  · have g1 := h1.vrel (by simp) (by simp); have g2 := h2.vrel (by simp) (by simp)
    refine .inr (.inr (.inr (.inr ⟨?_, ?_⟩)))
    · cases g1 <;> exact .inr ⟨_, _, _, rfl⟩
    · cases g2; exact .inl rfl
  · have g1 := h1.vrel (by simp) (by simp); have g2 := h2.vrel (by simp) (by simp)
    refine .inr (.inr (.inr (.inr ⟨?_, ?_⟩)))
    · cases g1; exact .inl rfl
    · cases g2 <;> exact .inr ⟨_, _, _, rfl⟩
  · have g1 := h1.vrel (by simp) (by simp); have g2 := h2.vrel (by simp) (by simp)
    refine .inr (.inr (.inr (.inr ⟨?_, ?_⟩)))
    · cases g1; exact .inl rfl
    · cases g2; exact .inl rfl
  · cases hb

theorem p_eqk (hr : OpdRel P ρ lm fr ev) {neq : Bool} {k : EqK} {x y : Operand} {x' y' : Opd} (hx : liftOpd P x = some x') (hy : liftOpd P y = some y') {t : TypeId} {d : TypeDesc}
    (ht : P.underlying t = some d) (hd : eqKOf d = some k) {v : Value} (hv : (POp.eqk neq k x' y').ev fr = some v) :
    ∃ u, (do eqGuard (if neq then .neq else .eql) t x y (ev x) (ev y); binOp (if neq then .neq else .eql) t (ev x) (ev y) : Sem Value).run P w = .ok u w ∧ VRelF ρ lm v u := by
  simp only [POp.ev] at hv
  obtain ⟨b, hb, rfl⟩ := Option.map_eq_some_iff.1 hv
  have h1 := hr x x' hx
  have h2 := hr y y' hy
  have he := run_eqNil (w := w) ht hd h1 h2 hb
  refine ⟨_, ?_, .inl (.bool _)⟩
  have shape := eqNil_shape hb h1 h2
  clear h1 h2
  rcases shape with ⟨a, c, e1, e2⟩ | ⟨a, c, e1, e2⟩ | ⟨a, n, c, a', n', c', e1, e2⟩ | ⟨a, c, e1, e2⟩ | ⟨h1, h2⟩
  · rw [e1, e2] at he ⊢; cases neq <;> simp [eqGuard, binOp, he]
  · rw [e1, e2] at he ⊢; cases neq <;> simp [eqGuard, binOp, he]
  · rw [e1, e2] at he ⊢; cases neq <;> simp [eqGuard, binOp, he]
  · rw [e1, e2] at he ⊢; cases neq <;> simp [eqGuard, binOp, he]
  · rcases h1 with e1 | ⟨_, _, _, e1⟩ <;> rcases h2 with e2 | ⟨_, _, _, e2⟩ <;> rw [e1, e2] at he ⊢ <;> cases neq <;> simp [eqGuard, binOp, he]

theorem p_eqA (hr : OpdRel P ρ lm fr ev) {neq : Bool} {ks : List FK} {x y : Operand} {x' y' : Opd} (hx : liftOpd P x = some x') (hy : liftOpd P y = some y') {t : TypeId} {fs : Array Field}
    (ht : P.underlying t = some (.struct fs)) (hf : flatFields P fs.toList 0 = some ks) (hg : P.eqGuardType P.depth t = false) (hp : P.stoodInHeld t = false) {v : Value}
    (hv : (POp.eqA neq ks x' y').ev fr = some v) :
    ∃ u, (do eqGuard (if neq then .neq else .eql) t x y (ev x) (ev y); binOp (if neq then .neq else .eql) t (ev x) (ev y) : Sem Value).run P w = .ok u w ∧ VRelF ρ lm v u := by
  simp only [POp.ev] at hv
  have h1 := hr x x' hx
  have h2 := hr y y' hy
  split at hv
  · rename_i xs ys e1 e2
    rw [e1] at h1; rw [e2] at h2
    obtain ⟨b, hb, rfl⟩ := Option.map_eq_some_iff.1 hv
    obtain ⟨xs', e3, s1, r1⟩ := h1.agg
    obtain ⟨ys', e4, s2, r2⟩ := h2.agg
    rw [e3, e4]
    have he : (Op.equal t (.agg xs') (.agg ys')).run P w = .ok b w := run_eqStruct 9998 ht hp hf s1 s2 r1 r2 hb
    refine ⟨_, ?_, .inl (.bool _)⟩
    cases neq <;> simp [eqGuard, hg, binOp, he]
  · cases hv

end Go.Proofs.Ytanpdopjgepbkaa.AM
