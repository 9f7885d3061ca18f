/-
  Code: the whole walk; functions; rounds; the program.
-/
import Derived.Test.YtanpdopjgepbkaaAmCode2
set_option linter.unusedVariables false
set_option linter.unusedSimpArgs false
namespace Go.Proofs.Ytanpdopjgepbkaa.AM
open Go

variable {P : Program} {B nt : Nat} {E : Ent} {D : List Nat} {ρ : Rho} {lm : Nat → Option Nat} {fr : Fr} {m : Mem} {a : Act} {w : World} {g : Nat → Value}
variable {call : CallF} {yld : YieldF}

theorem exec_bad {r : Option Nat} {k : Nat} {c : Code} : ExecOk P B nt E call yld r (execC call yld k .bad) c := by
  intro D ρ lm fr m a w ex fr' m' hx
  simp only [execC] at hx
  cases hx

theorem exec_sound (hm : P.follows .mixedOrders = true) (hcs : CallSound P B call) (hys : YieldSound P B yld) (k : Nat) (hs : Hints) (r : Option Nat) :
    ∀ (c : Code) (lc : LCode), liftC P nt hs c = some lc → (r = none ∨ lc.noR = true) → ExecOk P B nt E call yld r (execC call yld k lc) c := by
  intro c
  induction c with
  | skip =>
    intro lc hl _
    simp only [liftC] at hl
    injection hl with hl
    subst hl
    intro D ρ lm fr m a w ex fr' m' hx s n Q hq
    simp only [execC] at hx
    injection hx with hx
    injection hx with h1 hx
    injection hx with h2 h3
    subst h1 h2 h3
    exact wpIn_skip (hq D ρ lm a w s fun _ => rfl)
  | region id ops draw =>
    intro lc hl _
    simp only [liftC] at hl
    split at hl
    · rename_i c hc
      injection hl with hl
      subst hl
      exact exec_region hm hcs hys hc
    · injection hl with hl
      subst hl
      exact exec_bad
  | seq x y ihx ihy =>
    intro lc hl hr
    simp only [liftC] at hl
    split at hl
    · rename_i lx ly hlx hly
      injection hl with hl
      subst hl
      have hrx : r = none ∨ lx.noR = true := hr.imp_right fun h => (by simp only [LCode.noR, Bool.and_eq_true] at h; exact h.1)
      have hry : r = none ∨ ly.noR = true := hr.imp_right fun h => (by simp only [LCode.noR, Bool.and_eq_true] at h; exact h.2)
      intro D ρ lm fr m a w ex fr' m' hx s n Q hq
      simp only [execC] at hx
      refine wpIn_seq ?_
      cases hfx : execC call yld k lx fr m with
      | none => rw [hfx] at hx; cases hx
      | some t =>
        obtain ⟨ex1, fr1, m1⟩ := t
        rw [hfx] at hx
        refine ihx lx hlx hrx D ρ lm fr m a w ex1 fr1 m1 hfx s n _ fun D' ρ' lm' a' w' s' hD => ?_
        cases ex1 with
        | norm => exact ihy ly hly hry D' ρ' lm' fr1 m1 a' w' ex fr' m' hx s' n Q fun D2 ρ2 lm2 a2 w2 s2 hD2 => hq D2 ρ2 lm2 a2 w2 s2 fun h => (hD2 h).trans (hD h)
        | exit id =>
          injection hx with hx
          injection hx with h1 hx
          injection hx with h2 h3
          subst h1 h2 h3
          exact hq D' ρ' lm' a' w' s' hD
        | ret =>
          injection hx with hx
          injection hx with h1 hx
          injection hx with h2 h3
          subst h1 h2 h3
          exact hq D' ρ' lm' a' w' s' hD
    · cases hl
  | cond c x y ihx ihy =>
    intro lc hl hr
    simp only [liftC] at hl
    split at hl
    · rename_i c' lx ly hc hlx hly
      injection hl with hl
      subst hl
      have hrx : r = none ∨ lx.noR = true := hr.imp_right fun h => (by simp only [LCode.noR, Bool.and_eq_true] at h; exact h.1)
      have hry : r = none ∨ ly.noR = true := hr.imp_right fun h => (by simp only [LCode.noR, Bool.and_eq_true] at h; exact h.2)
      intro D ρ lm fr m a w ex fr' m' hx s n Q hq
      simp only [execC] at hx
      split at hx
      · rename_i t ht
        have hv := (opdRel_act s) c c' hc
        rw [ht] at hv
        have hv2 := hv.vrel (by simp) (by simp)
        have hev : a.eval c = .bool t := by
          generalize hu : a.eval c = u at hv2
          cases hv2
          rfl
        refine wpIn_cond hev ?_
        cases t with
        | true => exact ihx lx hlx hrx D ρ lm fr m a w ex fr' m' (by simpa using hx) s n Q hq
        | false => exact ihy ly hly hry D ρ lm fr m a w ex fr' m' (by simpa using hx) s n Q hq
      · cases hx
    · injection hl with hl
      subst hl
      exact exec_bad
  | block id x ih =>
    intro lc hl hr
    simp only [liftC] at hl
    obtain ⟨lx, hlx, hl⟩ := Option.map_eq_some_iff.1 hl
    subst hl
    have hrx : r = none ∨ lx.noR = true := hr.imp_right fun h => (by simpa only [LCode.noR] using h)
    intro D ρ lm fr m a w ex fr' m' hx s n Q hq
    simp only [execC] at hx
    refine wpIn_block ?_
    cases hfx : execC call yld k lx fr m with
    | none => rw [hfx] at hx; cases hx
    | some t =>
      obtain ⟨ex1, fr1, m1⟩ := t
      rw [hfx] at hx
      refine ih lx hlx hrx D ρ lm fr m a w ex1 fr1 m1 hfx s n _ fun D' ρ' lm' a' w' s' hD => ?_
      cases ex1 with
      | norm =>
        injection hx with hx
        injection hx with h1 hx
        injection hx with h2 h3
        subst h1 h2 h3
        exact hq D' ρ' lm' a' w' s' hD
      | exit i =>
        simp only at hx
        by_cases hi : i = id
        · rw [if_pos hi] at hx
          injection hx with hx
          injection hx with h1 hx
          injection hx with h2 h3
          subst h1 h2 h3
          show (if i = id then _ else _)
          rw [if_pos hi]
          exact hq D' ρ' lm' a' w' s' hD
        · rw [if_neg hi] at hx
          injection hx with hx
          injection hx with h1 hx
          injection hx with h2 h3
          subst h1 h2 h3
          show (if i = id then _ else _)
          rw [if_neg hi]
          exact hq D' ρ' lm' a' w' s' hD
      | ret =>
        injection hx with hx
        injection hx with h1 hx
        injection hx with h2 h3
        subst h1 h2 h3
        exact hq D' ρ' lm' a' w' s' hD
  | loop x ih =>
    intro lc hl hr
    simp only [liftC] at hl
    obtain ⟨lx, hlx, hl⟩ := Option.map_eq_some_iff.1 hl
    subst hl
    have hrx : r = none ∨ lx.noR = true := hr.imp_right fun h => (by simpa only [LCode.noR] using h)
    intro D ρ lm fr m a w ex fr' m' hx s n Q hq
    simp only [execC] at hx
    refine wpIn_loop_fuel (j := k) (fun j a w => ∃ D1 ρ1 lm1 fr1 m1, loopN j (execC call yld k lx) fr1 m1 = some (ex, fr', m') ∧ SR P B nt E D1 ρ1 lm1 (fget fr1) m1 a w ∧ (r.isSome = true → D1 = D)) ?_ ?_ ⟨D, ρ, lm, fr, m, hx, s, fun _ => rfl⟩
    · rintro a w ⟨D1, ρ1, lm1, fr1, m1, h, _⟩
      simp only [loopN] at h
      cases h
    · rintro j a w ⟨D1, ρ1, lm1, fr1, m1, h, s1, hD1⟩
      simp only [loopN] at h
      cases hfx : execC call yld k lx fr1 m1 with
      | none => rw [hfx] at h; cases h
      | some t =>
        obtain ⟨ex2, fr2, m2⟩ := t
        rw [hfx] at h
        refine ih lx hlx hrx D1 ρ1 lm1 fr1 m1 a w ex2 fr2 m2 hfx s1 n _ fun D' ρ' lm' a' w' s' hD => ?_
        cases ex2 with
        | norm => exact ⟨D', ρ', lm', fr2, m2, h, s', fun hh => (hD hh).trans (hD1 hh)⟩
        | exit i =>
          injection h with h
          injection h with h1 h
          injection h with h2 h3
          subst h1 h2 h3
          exact hq D' ρ' lm' a' w' s' fun hh => (hD hh).trans (hD1 hh)
        | ret =>
          injection h with h
          injection h with h1 h
          injection h with h2 h3
          subst h1 h2 h3
          exact hq D' ρ' lm' a' w' s' fun hh => (hD hh).trans (hD1 hh)
  | exit id =>
    intro lc hl _
    simp only [liftC] at hl
    injection hl with hl
    subst hl
    intro D ρ lm fr m a w ex fr' m' hx s n Q hq
    simp only [execC] at hx
    injection hx with hx
    injection hx with h1 hx
    injection hx with h2 h3
    subst h1 h2 h3
    exact wpIn_exit (hq D ρ lm a w s fun _ => rfl)
  | ret =>
    intro lc hl _
    simp only [liftC] at hl
    injection hl with hl
    subst hl
    intro D ρ lm fr m a w ex fr' m' hx s n Q hq
    simp only [execC] at hx
    injection hx with hx
    injection hx with h1 hx
    injection hx with h2 h3
    subst h1 h2 h3
    exact wpIn_ret (hq D ρ lm a w s fun _ => rfl)
  | rangeFunc f ps as body ih1 ih2 =>
    intro lc hl hr
    simp only [liftC] at hl
    split at hl
    · rename_i f' as' body' hf has hbody
      split at hl
      · rename_i hc
        injection hl with hl
        subst hl
        simp only [Bool.and_eq_true] at hc
        have hr' : r = none := hr.resolve_right (by simp [LCode.noR])
        subst hr'
        refine exec_range hcs hf has hbody (fun s hs => ?_) hc.1.2 hc.2
        have := Array.all_eq_true_iff_forall_mem.1 hc.1.1 s (Array.mem_toList_iff.1 hs)
        simpa using this
      · injection hl with hl
        subst hl
        exact exec_bad
    · injection hl with hl
      subst hl
      exact exec_bad
  | label l =>
    intro lc hl _
    simp only [liftC] at hl
    injection hl with hl
    subst hl
    intro D ρ lm fr m a w ex fr' m' hx s n Q hq
    simp only [execC] at hx
    injection hx with hx
    injection hx with h1 hx
    injection hx with h2 h3
    subst h1 h2 h3
    exact wpIn_label (hq D ρ lm a w s fun _ => rfl)
  | scope x ih =>
    intro lc hl hr
    simp only [liftC] at hl
    intro D ρ lm fr m a w ex fr' m' hx s n Q hq
    refine wpIn_scopeA (ih lc hl hr D ρ lm fr m a w ex fr' m' hx s n _ fun D' ρ' lm' a' w' s' hD => ?_)
    have := hq D' ρ' lm' a' w' s' hD
    cases ex <;> exact this
  | _ =>
    intro lc hl _
    simp only [liftC] at hl
    injection hl with hl
    subst hl
    exact exec_bad

end Go.Proofs.Ytanpdopjgepbkaa.AM
