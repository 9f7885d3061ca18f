/-
  The machine without fuel: 'callO', 'execO': the limits of the fuelled runs; their equations.
-/
import Derived.Test.YtanpdopjgepbkaaAmRow
set_option linter.unusedVariables false
set_option linter.unusedSimpArgs false
namespace Go.Proofs.Ytanpdopjgepbkaa.AM
open Go

/-! ### 1. More fuel, the same answer -/

def LeC (c c' : CallF) : Prop := ∀ f args h r, c f args h = some r → c' f args h = some r
def LeF (f f' : CodeF) : Prop := ∀ fr m r, f fr m = some r → f' fr m = some r

theorem LeF.refl (f : CodeF) : LeF f f := fun _ _ _ h => h

section
variable {call call' : CallF} {yld yld' : YieldF}

theorem EOp.ev_mono (hc : LeC call call') (hy : LeC yld yld') {o : EOp} {fr : Fr} {m : Mem} {r : Value × Mem} (h : o.ev call yld fr m = some r) : o.ev call' yld' fr m = some r := by
  cases o
  case call f xs =>
    simp only [EOp.ev] at h ⊢
    split at h
    · rename_i hk
      obtain ⟨x, h1, h2⟩ := Option.map_eq_some_iff.1 h
      rw [if_pos hk, hc _ _ _ _ h1, Option.map_some, h2]
    · cases h
  case callv f xs =>
    simp only [EOp.ev] at h ⊢
    split at h
    · rename_i hk
      rw [if_pos hk]
      split at h
      · rename_i g a b e
        obtain ⟨x, h1, h2⟩ := Option.map_eq_some_iff.1 h
        try simp only [e]
        rw [hc _ _ _ _ h1, Option.map_some, h2]
      · rename_i l a b e
        try simp only [e]
        split at h
        · rename_i hs
          obtain ⟨x, h1, h2⟩ := Option.map_eq_some_iff.1 h
          rw [if_pos hs, hy _ _ _ _ h1, Option.map_some, h2]
        · cases h
      · cases h
    · cases h
  all_goals exact h

theorem LInstr.step_mono (hc : LeC call call') (hy : LeC yld yld') {i : LInstr} {fr : Fr} {m : Mem} {r : Value × Mem} (h : i.step call yld fr m = some r) : i.step call' yld' fr m = some r := by
  unfold LInstr.step at h ⊢
  split at h
  · rename_i hw
    unfold LInstr.ev at h ⊢
    cases hop : i.op with
    | p o => rw [hop] at h; exact h
    | r o => rw [hop] at h; exact h
    | e o => rw [hop] at h; exact EOp.ev_mono hc hy h
  · exact h
  · cases h

theorem runOps_mono (hc : LeC call call') (hy : LeC yld yld') : ∀ {ops : List LInstr} {fr : Fr} {m : Mem} {r : Fr × Mem}, runOps call yld ops fr m = some r →
    runOps call' yld' ops fr m = some r ∧ trace call' yld' ops fr m = trace call yld ops fr m
  | [], fr, m, r, h => ⟨h, rfl⟩
  | i :: l, fr, m, r, h => by
    simp only [runOps] at h ⊢
    cases hs : i.step call yld fr m with
    | none => rw [hs] at h; cases h
    | some t =>
      obtain ⟨v, m'⟩ := t
      rw [hs] at h
      have hs' := LInstr.step_mono hc hy hs
      obtain ⟨h1, h2⟩ := runOps_mono hc hy h
      rw [hs']
      exact ⟨h1, by simp only [trace, hs, hs', h2]⟩

theorem runRegion_mono (hc : LeC call call') (hy : LeC yld yld') (ops : List LInstr) (keep : List Nat) (chk : List (Nat × Nat)) : LeF (runRegion call yld ops keep chk) (runRegion call' yld' ops keep chk) := by
  intro fr m r h
  unfold runRegion at h ⊢
  cases hs : runOps call yld ops fr m with
  | none => rw [hs] at h; cases h
  | some t =>
    obtain ⟨fr', m'⟩ := t
    rw [hs] at h
    obtain ⟨h1, h2⟩ := runOps_mono hc hy hs
    rw [h1, h2]
    exact h

theorem runRange_mono (hc : LeC call call') (f : Value) (ps : List Nat) (asg body : LCode) : LeF (runRange call f ps asg body) (runRange call' f ps asg body) := by
  intro fr m r h
  unfold runRange at h ⊢
  split at h
  · rename_i g first captured
    try simp only
    split at h
    · rename_i v h' hcall
      rw [hc _ _ _ _ hcall]
      exact h
    · cases h
  · cases h

theorem loopN_mono : ∀ {k k' : Nat} {f f' : CodeF}, k ≤ k' → LeF f f' → LeF (loopN k f) (loopN k' f')
  | 0, _, _, _, _, _ => fun fr m r h => by simp only [loopN] at h; cases h
  | k + 1, 0, _, _, hk, _ => by omega
  | k + 1, k' + 1, f, f', hk, hf => fun fr m r h => by
    simp only [loopN] at h ⊢
    cases hs : f fr m with
    | none => rw [hs] at h; cases h
    | some t =>
      obtain ⟨ex, fr', m'⟩ := t
      rw [hs] at h
      rw [hf _ _ _ hs]
      cases ex with
      | norm => exact loopN_mono (by omega) hf _ _ _ h
      | exit i => exact h
      | ret => exact h

theorem execC_mono (hc : LeC call call') (hy : LeC yld yld') {k k' : Nat} (hk : k ≤ k') : ∀ c : LCode, LeF (execC call yld k c) (execC call' yld' k' c)
  | .skip => fun fr m r h => h
  | .region ops keep chk => runRegion_mono hc hy ops keep chk
  | .seq a b => fun fr m r h => by
    simp only [execC] at h ⊢
    cases hs : execC call yld k a fr m with
    | none => rw [hs] at h; cases h
    | some t =>
      obtain ⟨ex, fr', m'⟩ := t
      rw [hs] at h
      rw [execC_mono hc hy hk a _ _ _ hs]
      cases ex with
      | norm => exact execC_mono hc hy hk b _ _ _ h
      | exit i => exact h
      | ret => exact h
  | .cond c a b => fun fr m r h => by
    simp only [execC] at h ⊢
    split at h
    · rename_i t ht
      cases t with
      | true => exact execC_mono hc hy hk a _ _ _ h
      | false => exact execC_mono hc hy hk b _ _ _ h
    · cases h
  | .block id a => fun fr m r h => by
    simp only [execC] at h ⊢
    cases hs : execC call yld k a fr m with
    | none => rw [hs] at h; cases h
    | some t =>
      rw [hs] at h
      rw [execC_mono hc hy hk a _ _ _ hs]
      exact h
  | .loop a => loopN_mono hk (execC_mono hc hy hk a)
  | .exit id => fun fr m r h => h
  | .ret => fun fr m r h => h
  | .rangeF f ps asg body => fun fr m r h => runRange_mono hc _ ps asg body _ _ _ h
  | .bad => fun fr m r h => h

theorem callBody_mono (hc : LeC call call') (hy : LeC yld yld') {k k' : Nat} (hk : k ≤ k') (lf : LFunc) {args : List Value} {h : AH} {r : Value × AH} (hr : callBody call yld k lf args h = some r) : callBody call' yld' k' lf args h = some r := by
  unfold callBody at hr ⊢
  split at hr
  · rename_i hl
    rw [if_pos hl]
    cases hs : execC call yld k lf.body (argFr 0 args) { lc := [], h } with
    | none => rw [hs] at hr; cases hr
    | some t =>
      rw [hs] at hr
      rw [execC_mono hc hy hk _ _ _ _ hs]
      exact hr
  · cases hr

theorem yieldBody_mono (hc : LeC call call') (hy : LeC yld yld') {k k' : Nat} (hk : k ≤ k') : LeC (yieldBody call yld k) (yieldBody call' yld' k') := by
  intro l args h r hr
  unfold yieldBody at hr ⊢
  split at hr
  · rename_i rc hget
    try simp only
    split at hr
    · rename_i hl
      rw [if_pos hl]
      cases hs : execC call yld k rc.assign ((rc.params.zip args).reverse ++ rc.fr) { lc := [], h } with
      | none => rw [hs] at hr; cases hr
      | some t =>
        obtain ⟨ex, fr1, m1⟩ := t
        rw [hs] at hr
        rw [execC_mono hc hy hk _ _ _ _ hs]
        cases ex with
        | norm =>
          simp only at hr ⊢
          split at hr
          · rename_i r1 hget1
            split at hr
            · rename_i hst
              try simp only [hst]
              cases hs2 : execC call yld k rc.body fr1 { m1 with h := m1.h.set l (.loop { r1 with state := .busy }) } with
              | none => rw [hs2] at hr; cases hr
              | some t2 =>
                rw [hs2] at hr
                rw [execC_mono hc hy hk _ _ _ _ hs2]
                exact hr
            · cases hr
          · cases hr
        | exit i => exact hr
        | ret => exact hr
    · cases hr
  · cases hr
end

theorem runN_step (p : Prg) : ∀ k, LeC (runN p k).1 (runN p (k + 1)).1 ∧ LeC (runN p k).2 (runN p (k + 1)).2
  | 0 => ⟨(fun f args h r hr => by cases hr), (fun f args h r hr => by cases hr)⟩
  | k + 1 => by
    obtain ⟨h1, h2⟩ := runN_step p k
    refine ⟨fun f args h r hr => ?_, yieldBody_mono h1 h2 (by omega)⟩
    simp only [runN] at hr ⊢
    split at hr
    · exact hr
    · split at hr
      · exact callBody_mono h1 h2 (by omega) _ hr
      · cases hr

theorem runN_mono (p : Prg) {k k' : Nat} (hk : k ≤ k') : LeC (runN p k).1 (runN p k').1 ∧ LeC (runN p k).2 (runN p k').2 := by
  induction hk with
  | refl => exact ⟨fun _ _ _ _ h => h, fun _ _ _ _ h => h⟩
  | step _ ih => exact ⟨fun f args h r hr => (runN_step p _).1 _ _ _ _ (ih.1 _ _ _ _ hr), fun f args h r hr => (runN_step p _).2 _ _ _ _ (ih.2 _ _ _ _ hr)⟩

/-! ### 2. Limits -/

open Classical in
noncomputable def lim {α : Type} (f : Nat → Option α) : Option α := if h : ∃ r k, f k = some r then some (Classical.choose h) else none

def Rising {α : Type} (f : Nat → Option α) : Prop := ∀ k k' r, k ≤ k' → f k = some r → f k' = some r

theorem lim_iff {α : Type} {f : Nat → Option α} (hf : Rising f) {r : α} : lim f = some r ↔ ∃ k, f k = some r := by
  unfold lim
  constructor
  · intro h
    split at h
    · rename_i he
      injection h with h
      subst h
      exact Classical.choose_spec he
    · cases h
  · rintro ⟨k, hk⟩
    have he : ∃ r k, f k = some r := ⟨r, k, hk⟩
    rw [dif_pos he]
    obtain ⟨k', hk'⟩ := Classical.choose_spec he
    have h1 := hf _ _ _ (Nat.le_max_left k k') hk
    have h2 := hf _ _ _ (Nat.le_max_right k k') hk'
    rw [h1] at h2
    injection h2 with h2
    rw [← h2]

noncomputable def callO (p : Prg) : CallF := fun f args h => lim fun k => (runN p k).1 f args h
noncomputable def yieldO (p : Prg) : YieldF := fun l args h => lim fun k => (runN p k).2 l args h
noncomputable def execO (p : Prg) (c : LCode) : CodeF := fun fr m => lim fun k => execC (runN p k).1 (runN p k).2 k c fr m

theorem call_rising (p : Prg) (f : FuncId) (args : List Value) (h : AH) : Rising fun k => (runN p k).1 f args h := fun k k' r hk hr => (runN_mono p hk).1 _ _ _ _ hr
theorem yield_rising (p : Prg) (l : Nat) (args : List Value) (h : AH) : Rising fun k => (runN p k).2 l args h := fun k k' r hk hr => (runN_mono p hk).2 _ _ _ _ hr
theorem exec_rising (p : Prg) (c : LCode) (fr : Fr) (m : Mem) : Rising fun k => execC (runN p k).1 (runN p k).2 k c fr m := fun k k' r hk hr => execC_mono (runN_mono p hk).1 (runN_mono p hk).2 hk c _ _ _ hr

theorem callO_iff {p : Prg} {f : FuncId} {args : List Value} {h : AH} {r : Value × AH} : callO p f args h = some r ↔ ∃ k, (runN p k).1 f args h = some r := lim_iff (call_rising p f args h)
theorem yieldO_iff {p : Prg} {l : Nat} {args : List Value} {h : AH} {r : Value × AH} : yieldO p l args h = some r ↔ ∃ k, (runN p k).2 l args h = some r := lim_iff (yield_rising p l args h)
theorem execO_iff {p : Prg} {c : LCode} {fr : Fr} {m : Mem} {r : Ex × Fr × Mem} : execO p c fr m = some r ↔ ∃ k, execC (runN p k).1 (runN p k).2 k c fr m = some r := lim_iff (exec_rising p c fr m)

theorem le_callO (p : Prg) (k : Nat) : LeC (runN p k).1 (callO p) := fun f args h r hr => callO_iff.2 ⟨k, hr⟩
theorem le_yieldO (p : Prg) (k : Nat) : LeC (runN p k).2 (yieldO p) := fun f args h r hr => yieldO_iff.2 ⟨k, hr⟩

/-! ### 3. What the limit does some fuel does -/

theorem ev_fin {p : Prg} {o : EOp} {fr : Fr} {m : Mem} {r : Value × Mem} (h : o.ev (callO p) (yieldO p) fr m = some r) : ∃ k, o.ev (runN p k).1 (runN p k).2 fr m = some r := by
  cases o
  case call f xs =>
    simp only [EOp.ev] at h ⊢
    split at h
    · rename_i hk
      obtain ⟨x, h1, h2⟩ := Option.map_eq_some_iff.1 h
      obtain ⟨k, hk1⟩ := callO_iff.1 h1
      exact ⟨k, by rw [if_pos hk, hk1, Option.map_some, h2]⟩
    · cases h
  case callv f xs =>
    simp only [EOp.ev] at h ⊢
    split at h
    · rename_i hk
      split at h
      · rename_i g a b e
        obtain ⟨x, h1, h2⟩ := Option.map_eq_some_iff.1 h
        obtain ⟨k, hk1⟩ := callO_iff.1 h1
        exact ⟨k, by rw [if_pos hk]; (try simp only [e]); rw [hk1, Option.map_some, h2]⟩
      · rename_i l a b e
        split at h
        · rename_i hs
          obtain ⟨x, h1, h2⟩ := Option.map_eq_some_iff.1 h
          obtain ⟨k, hk1⟩ := yieldO_iff.1 h1
          exact ⟨k, by rw [if_pos hk]; (try simp only [e]); rw [if_pos hs, hk1, Option.map_some, h2]⟩
        · cases h
      · cases h
    · cases h
  all_goals exact ⟨0, h⟩

theorem step_fin {p : Prg} {i : LInstr} {fr : Fr} {m : Mem} {r : Value × Mem} (h : i.step (callO p) (yieldO p) fr m = some r) : ∃ k, i.step (runN p k).1 (runN p k).2 fr m = some r := by
  unfold LInstr.step at h ⊢
  split at h
  · rename_i hw
    unfold LInstr.ev at h ⊢
    cases hop : i.op with
    | p o => rw [hop] at h; exact ⟨0, h⟩
    | r o => rw [hop] at h; exact ⟨0, h⟩
    | e o => rw [hop] at h; exact ev_fin h
  · exact ⟨0, h⟩
  · cases h

theorem ops_fin {p : Prg} : ∀ {ops : List LInstr} {fr : Fr} {m : Mem} {r : Fr × Mem}, runOps (callO p) (yieldO p) ops fr m = some r → ∃ k, runOps (runN p k).1 (runN p k).2 ops fr m = some r
  | [], fr, m, r, h => ⟨0, h⟩
  | i :: l, fr, m, r, h => by
    simp only [runOps] at h
    cases hs : i.step (callO p) (yieldO p) fr m with
    | none => rw [hs] at h; cases h
    | some t =>
      obtain ⟨v, m'⟩ := t
      rw [hs] at h
      obtain ⟨k1, h1⟩ := step_fin hs
      obtain ⟨k2, h2⟩ := ops_fin h
      refine ⟨max k1 k2, ?_⟩
      have l1 := runN_mono p (Nat.le_max_left k1 k2)
      have l2 := runN_mono p (Nat.le_max_right k1 k2)
      simp only [runOps, LInstr.step_mono l1.1 l1.2 h1]
      exact (runOps_mono l2.1 l2.2 h2).1

theorem region_fin {p : Prg} {ops : List LInstr} {keep : List Nat} {chk : List (Nat × Nat)} {fr : Fr} {m : Mem} {r : Ex × Fr × Mem} (h : runRegion (callO p) (yieldO p) ops keep chk fr m = some r) :
    ∃ k, runRegion (runN p k).1 (runN p k).2 ops keep chk fr m = some r := by
  unfold runRegion at h ⊢
  cases hs : runOps (callO p) (yieldO p) ops fr m with
  | none => rw [hs] at h; cases h
  | some t =>
    rw [hs] at h
    obtain ⟨k, hk⟩ := ops_fin hs
    refine ⟨k, ?_⟩
    have := (runOps_mono (le_callO p k) (le_yieldO p k) hk).2
    rw [this] at h
    rw [hk]
    exact h

theorem range_fin {p : Prg} {f : Value} {ps : List Nat} {asg body : LCode} {fr : Fr} {m : Mem} {r : Ex × Fr × Mem} (h : runRange (callO p) f ps asg body fr m = some r) :
    ∃ k, runRange (runN p k).1 f ps asg body fr m = some r := by
  unfold runRange at h ⊢
  split at h
  · rename_i g first captured
    try simp only
    split at h
    · rename_i v h' hcall
      obtain ⟨k, hk⟩ := callO_iff.1 hcall
      exact ⟨k, by rw [hk]; exact h⟩
    · cases h
  · cases h

/-! ### 4. The equations -/

theorem opt_ext {α : Type} {x y : Option α} (h : ∀ r, x = some r ↔ y = some r) : x = y := by
  cases hx : x with
  | none =>
    cases hy : y with
    | none => rfl
    | some r => have := (h r).2 hy; rw [hx] at this; cases this
  | some r => exact ((h r).1 hx).symm

variable {p : Prg}

theorem execO_skip {fr : Fr} {m : Mem} : execO p .skip fr m = some (.norm, fr, m) := execO_iff.2 ⟨0, rfl⟩
theorem execO_exit {id : Nat} {fr : Fr} {m : Mem} : execO p (.exit id) fr m = some (.exit id, fr, m) := execO_iff.2 ⟨0, rfl⟩
theorem execO_ret {fr : Fr} {m : Mem} : execO p .ret fr m = some (.ret, fr, m) := execO_iff.2 ⟨0, rfl⟩

theorem execO_region {ops : List LInstr} {keep : List Nat} {chk : List (Nat × Nat)} {fr : Fr} {m : Mem} : execO p (.region ops keep chk) fr m = runRegion (callO p) (yieldO p) ops keep chk fr m :=
  opt_ext fun r => execO_iff.trans ⟨fun ⟨k, hk⟩ => runRegion_mono (le_callO p k) (le_yieldO p k) _ _ _ _ _ _ hk, fun h => region_fin h⟩

theorem execO_rangeF {f : Opd} {ps : List Nat} {asg body : LCode} {fr : Fr} {m : Mem} : execO p (.rangeF f ps asg body) fr m = runRange (callO p) (opd fr f) ps asg body fr m :=
  opt_ext fun r => execO_iff.trans ⟨fun ⟨k, hk⟩ => runRange_mono (le_callO p k) _ _ _ _ _ _ _ hk, fun h => range_fin h⟩

theorem execO_cond {c : Opd} {a b : LCode} {fr : Fr} {m : Mem} {t : Bool} (h : opd fr c = .bool t) : execO p (.cond c a b) fr m = if t = true then execO p a fr m else execO p b fr m :=
  opt_ext fun r => execO_iff.trans (by
    simp only [execC, h]
    cases t
    · simpa using execO_iff.symm
    · simpa using execO_iff.symm)

/-- On behind a code that has ended. -/
def andThen (x : Option (Ex × Fr × Mem)) (f : CodeF) : Option (Ex × Fr × Mem) :=
  match x with
  | some (.norm, fr, m) => f fr m
  | r => r

theorem andThen_norm {fr : Fr} {m : Mem} {f : CodeF} : andThen (some (.norm, fr, m)) f = f fr m := rfl
theorem andThen_exit {i : Nat} {fr : Fr} {m : Mem} {f : CodeF} : andThen (some (.exit i, fr, m)) f = some (.exit i, fr, m) := rfl
theorem andThen_ret {fr : Fr} {m : Mem} {f : CodeF} : andThen (some (.ret, fr, m)) f = some (.ret, fr, m) := rfl

theorem andThen_iff {x : Option (Ex × Fr × Mem)} {f : CodeF} {r : Ex × Fr × Mem} : andThen x f = some r ↔ ∃ t, x = some t ∧ andThen (some t) f = some r := by
  cases x with
  | none => exact ⟨(fun h => by cases h), (fun ⟨t, h, _⟩ => by cases h)⟩
  | some t => exact ⟨fun h => ⟨t, rfl, h⟩, (fun ⟨t', h, h'⟩ => by injection h with h; subst h; exact h')⟩

theorem execO_seq {a b : LCode} {fr : Fr} {m : Mem} : execO p (.seq a b) fr m = andThen (execO p a fr m) (execO p b) :=
  opt_ext fun r => execO_iff.trans (by
    rw [andThen_iff]
    constructor
    · rintro ⟨k, hk⟩
      simp only [execC] at hk
      cases hs : execC (runN p k).1 (runN p k).2 k a fr m with
      | none => rw [hs] at hk; cases hk
      | some t =>
        rw [hs] at hk
        refine ⟨t, execO_iff.2 ⟨k, hs⟩, ?_⟩
        obtain ⟨ex, fr', m'⟩ := t
        cases ex with
        | norm => exact execO_iff.2 ⟨k, hk⟩
        | exit i => exact hk
        | ret => exact hk
    · rintro ⟨t, h1, h2⟩
      obtain ⟨k1, hk1⟩ := execO_iff.1 h1
      obtain ⟨ex, fr', m'⟩ := t
      cases ex with
      | norm =>
        obtain ⟨k2, hk2⟩ := execO_iff.1 h2
        refine ⟨max k1 k2, ?_⟩
        simp only [execC, exec_rising p a fr m k1 _ _ (Nat.le_max_left k1 k2) hk1]
        exact exec_rising p b fr' m' k2 _ _ (Nat.le_max_right k1 k2) hk2
      | exit i => exact ⟨k1, by simp only [execC, hk1]; exact h2⟩
      | ret => exact ⟨k1, by simp only [execC, hk1]; exact h2⟩)

theorem execO_loop {a : LCode} {fr : Fr} {m : Mem} : execO p (.loop a) fr m = andThen (execO p a fr m) (execO p (.loop a)) :=
  opt_ext fun r => execO_iff.trans (by
    rw [andThen_iff]
    constructor
    · rintro ⟨k, hk⟩
      simp only [execC] at hk
      cases k with
      | zero => simp only [loopN] at hk; cases hk
      | succ j =>
        simp only [loopN] at hk
        cases hs : execC (runN p (j + 1)).1 (runN p (j + 1)).2 (j + 1) a fr m with
        | none => rw [hs] at hk; cases hk
        | some t =>
          rw [hs] at hk
          refine ⟨t, execO_iff.2 ⟨j + 1, hs⟩, ?_⟩
          obtain ⟨ex, fr', m'⟩ := t
          cases ex with
          | norm => exact execO_iff.2 ⟨j + 1, loopN_mono (by omega) (LeF.refl _) _ _ _ hk⟩
          | exit i => exact hk
          | ret => exact hk
    · rintro ⟨t, h1, h2⟩
      obtain ⟨k1, hk1⟩ := execO_iff.1 h1
      obtain ⟨ex, fr', m'⟩ := t
      cases ex with
      | norm =>
        obtain ⟨k2, hk2⟩ := execO_iff.1 h2
        refine ⟨max k1 k2 + 1, ?_⟩
        simp only [execC, loopN, exec_rising p a fr m k1 _ _ (show k1 ≤ max k1 k2 + 1 by omega) hk1]
        have hmono := runN_mono p (show k2 ≤ max k1 k2 + 1 by omega)
        exact loopN_mono (by omega) (execC_mono hmono.1 hmono.2 (by omega) a) _ _ _ hk2
      | exit i => exact ⟨k1 + 1, by simp only [execC, loopN, exec_rising p a fr m k1 _ _ (Nat.le_succ k1) hk1]; exact h2⟩
      | ret => exact ⟨k1 + 1, by simp only [execC, loopN, exec_rising p a fr m k1 _ _ (Nat.le_succ k1) hk1]; exact h2⟩)

def catchEx (id : Nat) (x : Option (Ex × Fr × Mem)) : Option (Ex × Fr × Mem) :=
  match x with
  | some (.exit i, fr, m) => if i = id then some (.norm, fr, m) else some (.exit i, fr, m)
  | r => r

theorem catchEx_norm {id : Nat} {fr : Fr} {m : Mem} : catchEx id (some (.norm, fr, m)) = some (.norm, fr, m) := rfl
theorem catchEx_ret {id : Nat} {fr : Fr} {m : Mem} : catchEx id (some (.ret, fr, m)) = some (.ret, fr, m) := rfl
theorem catchEx_exit {id i : Nat} {fr : Fr} {m : Mem} : catchEx id (some (.exit i, fr, m)) = if i = id then some (.norm, fr, m) else some (.exit i, fr, m) := rfl

theorem execO_block {id : Nat} {a : LCode} {fr : Fr} {m : Mem} : execO p (.block id a) fr m = catchEx id (execO p a fr m) :=
  opt_ext fun r => execO_iff.trans (by
    have key : ∀ k, execC (runN p k).1 (runN p k).2 k (.block id a) fr m = catchEx id (execC (runN p k).1 (runN p k).2 k a fr m) := fun k => rfl
    simp only [key]
    constructor
    · rintro ⟨k, hk⟩
      cases hs : execC (runN p k).1 (runN p k).2 k a fr m with
      | none => rw [hs] at hk; cases hk
      | some t => rw [hs] at hk; rw [execO_iff.2 ⟨k, hs⟩]; exact hk
    · intro h
      cases hs : execO p a fr m with
      | none => rw [hs] at h; cases h
      | some t =>
        rw [hs] at h
        obtain ⟨k, hk⟩ := execO_iff.1 hs
        exact ⟨k, by rw [hk]; exact h⟩)

/-- What a function hands back. -/
def giveBack (rs : List LRes) (x : Option (Ex × Fr × Mem)) : Option (Value × AH) :=
  match x with
  | some (.exit _, _, _) => none
  | some (_, fr, m) => (retV fr m rs).map fun v => (v, m.h)
  | none => none

theorem giveBack_norm {rs : List LRes} {fr : Fr} {m : Mem} : giveBack rs (some (.norm, fr, m)) = (retV fr m rs).map fun v => (v, m.h) := rfl
theorem giveBack_ret {rs : List LRes} {fr : Fr} {m : Mem} : giveBack rs (some (.ret, fr, m)) = (retV fr m rs).map fun v => (v, m.h) := rfl

theorem callO_ext {f : FuncId} {args : List Value} {h : AH} {g : List Value → AH → Option (Value × AH)} (hg : p.ext f = some g) : callO p f args h = g args h :=
  opt_ext fun r => callO_iff.trans ⟨(fun ⟨k, hk⟩ => by
    cases k with
    | zero => cases hk
    | succ k => simpa only [runN, hg] using hk), fun hr => ⟨1, by simpa only [runN, hg] using hr⟩⟩

theorem callO_fn {f : FuncId} {args : List Value} {h : AH} {lf : LFunc} (he : p.ext f = none) (hf : p.fn f = some lf) (hn : args.length = lf.nargs) :
    callO p f args h = giveBack lf.results (execO p lf.body (argFr 0 args) { lc := [], h }) :=
  opt_ext fun r => callO_iff.trans (by
    have key : ∀ k, (runN p (k + 1)).1 f args h = giveBack lf.results (execC (runN p k).1 (runN p k).2 k lf.body (argFr 0 args) { lc := [], h }) := fun k => by
      simp only [runN, he, hf, callBody, hn, if_true]
      rfl
    constructor
    · rintro ⟨k, hk⟩
      cases k with
      | zero => cases hk
      | succ k =>
        rw [key] at hk
        cases hs : execC (runN p k).1 (runN p k).2 k lf.body (argFr 0 args) { lc := [], h } with
        | none => rw [hs] at hk; cases hk
        | some t => rw [hs] at hk; rw [execO_iff.2 ⟨k, hs⟩]; exact hk
    · intro hr
      cases hs : execO p lf.body (argFr 0 args) { lc := [], h } with
      | none => rw [hs] at hr; cases hr
      | some t =>
        rw [hs] at hr
        obtain ⟨k, hk⟩ := execO_iff.1 hs
        exact ⟨k + 1, by rw [key, hk]; exact hr⟩)

end Go.Proofs.Ytanpdopjgepbkaa.AM
