/- Parts of the proof of MarksOrders: its lemmas, joined. -/
import Derived.Test.YtblmakgjdenpfaaDoorMO2
import Derived.ProofKit
import Derived.Deep.SlicePairs
import Derived.SizedLaws
import Derived.Test.YtblmakgjdenpfaaDoorProg
import GoSem.Core.Utf8
import Derived.Laws.Strings
import Derived.Test.YtblmakgjdenpfaaDoorRows
import Derived.Deep.Slices
set_option linter.unusedVariables false
set_option linter.unusedSimpArgs false
set_option linter.unusedSectionVars false
namespace Go.Proofs.YtblmakgjdenpfaaDoor.AM
open Go Go.RowKit
theorem calls_of_run {P : Program} (hm : P.follows .mixedOrders = true) {p : Prg} {w : World} (hp : PrgOk P w.heap.size p) {k : Nat} {f : FuncId} {args : List Value} {h : AH} {b : Bool}
    (hx : ((runN p k).1 f args h).map (·.1) = some (.bool b)) {ρ : Rho} {argsC : Array Value} (hh : HRel P w.heap.size ρ h w) (ha : VRels ρ args argsC.toList) (hro : ∀ b o, h.get b = some o → o.ro = true) :
    Calls P f argsC w fun e w' => e = .returned (.bool b) ∧ Below w.heap.size w w' := by
  obtain ⟨⟨v, h'⟩, h1, h2⟩ := Option.map_eq_some_iff.1 hx
  simp only at h2
  subst h2
  refine ((callsIn_wide (n := 0)).1 (run_sound hm hp h1 (Nat.le_refl _) hh ha 0)).mono fun e w' he => ?_
  obtain ⟨u, ρ', rfl, g1, g2, g3⟩ := he
  cases g3
  refine ⟨rfl, g2.os, g2.tape, g2.output, g2.size, fun c hc => g2.keep c hc fun ⟨b1, o, δ, N, k1, k2, _⟩ => ?_⟩
  rw [hro b1 o k1] at k2
  cases k2
theorem autoPrg_ok (P : Program) (B : Nat) : PrgOk P B (autoPrg P) where
  fn := fun f lf h => by
    obtain ⟨⟨hs, lf'⟩, h1, h2⟩ := Option.map_eq_some_iff.1 h
    simp only at h2
    subst h2
    unfold autoLift at h1
    split at h1
    · rename_i fn hf
      obtain ⟨l, h3, h4⟩ := Option.map_eq_some_iff.1 h1
      injection h4 with h4 h5
      subst h4 h5
      exact ⟨fn, _, hf, h3⟩
    · cases h1
  ext := fun f g h => by cases h
end Go.Proofs.YtblmakgjdenpfaaDoor.AM
namespace Go.Proofs.YtblmakgjdenpfaaDoor.AM
open Go
def LeC (c c' : CallF) : Prop := ∀ f args h r, c f args h = some r → c' f args h = some r
def LeF (f f' : CodeF) : Prop := ∀ fr m r, f fr m = some r → f' fr m = some r
theorem LeF.refl (f : CodeF) : LeF f f := fun _ _ _ h => h
section
variable {call call' : CallF} {yld yld' : YieldF}
theorem EOp.ev_mono (hc : LeC call call') (hy : LeC yld yld') {o : EOp} {fr : Fr} {m : Mem} {r : Value × Mem} (h : o.ev call yld fr m = some r) : o.ev call' yld' fr m = some r := by
  cases o
  case call f xs =>
    simp only [EOp.ev] at h ⊢
    split at h
    · rename_i hk
      obtain ⟨x, h1, h2⟩ := Option.map_eq_some_iff.1 h
      rw [if_pos hk, hc _ _ _ _ h1, Option.map_some, h2]
    · cases h
  case callv f xs =>
    simp only [EOp.ev] at h ⊢
    split at h
    · rename_i hk
      rw [if_pos hk]
      split at h
      · rename_i g a b e
        obtain ⟨x, h1, h2⟩ := Option.map_eq_some_iff.1 h
        try simp only [e]
        rw [hc _ _ _ _ h1, Option.map_some, h2]
      · rename_i l a b e
        try simp only [e]
        split at h
        · rename_i hs
          obtain ⟨x, h1, h2⟩ := Option.map_eq_some_iff.1 h
          rw [if_pos hs, hy _ _ _ _ h1, Option.map_some, h2]
        · cases h
      · cases h
    · cases h
  all_goals exact h
theorem LInstr.step_mono (hc : LeC call call') (hy : LeC yld yld') {i : LInstr} {fr : Fr} {m : Mem} {r : Value × Mem} (h : i.step call yld fr m = some r) : i.step call' yld' fr m = some r := by
  unfold LInstr.step at h ⊢
  split at h
  · rename_i hw
    unfold LInstr.ev at h ⊢
    cases hop : i.op with
    | p o => rw [hop] at h; exact h
    | r o => rw [hop] at h; exact h
    | e o => rw [hop] at h; exact EOp.ev_mono hc hy h
  · exact h
  · cases h
theorem runOps_mono (hc : LeC call call') (hy : LeC yld yld') : ∀ {ops : List LInstr} {fr : Fr} {m : Mem} {r : Fr × Mem}, runOps call yld ops fr m = some r →
    runOps call' yld' ops fr m = some r ∧ trace call' yld' ops fr m = trace call yld ops fr m
  | [], fr, m, r, h => ⟨h, rfl⟩
  | i :: l, fr, m, r, h => by
    simp only [runOps] at h ⊢
    cases hs : i.step call yld fr m with
    | none => rw [hs] at h; cases h
    | some t =>
      obtain ⟨v, m'⟩ := t
      rw [hs] at h
      have hs' := LInstr.step_mono hc hy hs
      obtain ⟨h1, h2⟩ := runOps_mono hc hy h
      rw [hs']
      exact ⟨h1, by simp only [trace, hs, hs', h2]⟩
theorem runRegion_mono (hc : LeC call call') (hy : LeC yld yld') (ops : List LInstr) (keep : List Nat) (chk : List (Nat × Nat)) : LeF (runRegion call yld ops keep chk) (runRegion call' yld' ops keep chk) := by
  intro fr m r h
  unfold runRegion at h ⊢
  cases hs : runOps call yld ops fr m with
  | none => rw [hs] at h; cases h
  | some t =>
    obtain ⟨fr', m'⟩ := t
    rw [hs] at h
    obtain ⟨h1, h2⟩ := runOps_mono hc hy hs
    rw [h1, h2]
    exact h
theorem runRange_mono (hc : LeC call call') (f : Value) (ps : List Nat) (asg body : LCode) : LeF (runRange call f ps asg body) (runRange call' f ps asg body) := by
  intro fr m r h
  unfold runRange at h ⊢
  split at h
  · rename_i g first captured
    try simp only
    split at h
    · rename_i v h' hcall
      rw [hc _ _ _ _ hcall]
      exact h
    · cases h
  · cases h
theorem loopN_mono : ∀ {k k' : Nat} {f f' : CodeF}, k ≤ k' → LeF f f' → LeF (loopN k f) (loopN k' f')
  | 0, _, _, _, _, _ => fun fr m r h => by simp only [loopN] at h; cases h
  | k + 1, 0, _, _, hk, _ => by omega
  | k + 1, k' + 1, f, f', hk, hf => fun fr m r h => by
    simp only [loopN] at h ⊢
    cases hs : f fr m with
    | none => rw [hs] at h; cases h
    | some t =>
      obtain ⟨ex, fr', m'⟩ := t
      rw [hs] at h
      rw [hf _ _ _ hs]
      cases ex with
      | norm => exact loopN_mono (by omega) hf _ _ _ h
      | exit i => exact h
      | ret => exact h
theorem execC_mono (hc : LeC call call') (hy : LeC yld yld') {k k' : Nat} (hk : k ≤ k') : ∀ c : LCode, LeF (execC call yld k c) (execC call' yld' k' c)
  | .skip => fun fr m r h => h
  | .region ops keep chk => runRegion_mono hc hy ops keep chk
  | .seq a b => fun fr m r h => by
    simp only [execC] at h ⊢
    cases hs : execC call yld k a fr m with
    | none => rw [hs] at h; cases h
    | some t =>
      obtain ⟨ex, fr', m'⟩ := t
      rw [hs] at h
      rw [execC_mono hc hy hk a _ _ _ hs]
      cases ex with
      | norm => exact execC_mono hc hy hk b _ _ _ h
      | exit i => exact h
      | ret => exact h
  | .cond c a b => fun fr m r h => by
    simp only [execC] at h ⊢
    split at h
    · rename_i t ht
      cases t with
      | true => exact execC_mono hc hy hk a _ _ _ h
      | false => exact execC_mono hc hy hk b _ _ _ h
    · cases h
  | .block id a => fun fr m r h => by
    simp only [execC] at h ⊢
    cases hs : execC call yld k a fr m with
    | none => rw [hs] at h; cases h
    | some t =>
      rw [hs] at h
      rw [execC_mono hc hy hk a _ _ _ hs]
      exact h
  | .loop a => loopN_mono hk (execC_mono hc hy hk a)
  | .exit id => fun fr m r h => h
  | .ret => fun fr m r h => h
  | .rangeF f ps asg body => fun fr m r h => runRange_mono hc _ ps asg body _ _ _ h
  | .bad => fun fr m r h => h
theorem callBody_mono (hc : LeC call call') (hy : LeC yld yld') {k k' : Nat} (hk : k ≤ k') (lf : LFunc) {args : List Value} {h : AH} {r : Value × AH} (hr : callBody call yld k lf args h = some r) : callBody call' yld' k' lf args h = some r := by
  unfold callBody at hr ⊢
  split at hr
  · rename_i hl
    rw [if_pos hl]
    cases hs : execC call yld k lf.body (argFr 0 args) { lc := [], h } with
    | none => rw [hs] at hr; cases hr
    | some t =>
      rw [hs] at hr
      rw [execC_mono hc hy hk _ _ _ _ hs]
      exact hr
  · cases hr
theorem yieldBody_mono (hc : LeC call call') (hy : LeC yld yld') {k k' : Nat} (hk : k ≤ k') : LeC (yieldBody call yld k) (yieldBody call' yld' k') := by
  intro l args h r hr
  unfold yieldBody at hr ⊢
  split at hr
  · rename_i rc hget
    try simp only
    split at hr
    · rename_i hl
      rw [if_pos hl]
      cases hs : execC call yld k rc.assign ((rc.params.zip args).reverse ++ rc.fr) { lc := [], h } with
      | none => rw [hs] at hr; cases hr
      | some t =>
        obtain ⟨ex, fr1, m1⟩ := t
        rw [hs] at hr
        rw [execC_mono hc hy hk _ _ _ _ hs]
        cases ex with
        | norm =>
          simp only at hr ⊢
          split at hr
          · rename_i r1 hget1
            split at hr
            · rename_i hst
              try simp only [hst]
              cases hs2 : execC call yld k rc.body fr1 { m1 with h := m1.h.set l (.loop { r1 with state := .busy }) } with
              | none => rw [hs2] at hr; cases hr
              | some t2 =>
                rw [hs2] at hr
                rw [execC_mono hc hy hk _ _ _ _ hs2]
                exact hr
            · cases hr
          · cases hr
        | exit i => exact hr
        | ret => exact hr
    · cases hr
  · cases hr
end
theorem runN_step (p : Prg) : ∀ k, LeC (runN p k).1 (runN p (k + 1)).1 ∧ LeC (runN p k).2 (runN p (k + 1)).2
  | 0 => ⟨(fun f args h r hr => by cases hr), (fun f args h r hr => by cases hr)⟩
  | k + 1 => by
    obtain ⟨h1, h2⟩ := runN_step p k
    refine ⟨fun f args h r hr => ?_, yieldBody_mono h1 h2 (by omega)⟩
    simp only [runN] at hr ⊢
    split at hr
    · exact hr
    · split at hr
      · exact callBody_mono h1 h2 (by omega) _ hr
      · cases hr
theorem runN_mono (p : Prg) {k k' : Nat} (hk : k ≤ k') : LeC (runN p k).1 (runN p k').1 ∧ LeC (runN p k).2 (runN p k').2 := by
  induction hk with
  | refl => exact ⟨fun _ _ _ _ h => h, fun _ _ _ _ h => h⟩
  | step _ ih => exact ⟨fun f args h r hr => (runN_step p _).1 _ _ _ _ (ih.1 _ _ _ _ hr), fun f args h r hr => (runN_step p _).2 _ _ _ _ (ih.2 _ _ _ _ hr)⟩
open Classical in
noncomputable def lim {α : Type} (f : Nat → Option α) : Option α := if h : ∃ r k, f k = some r then some (Classical.choose h) else none
def Rising {α : Type} (f : Nat → Option α) : Prop := ∀ k k' r, k ≤ k' → f k = some r → f k' = some r
theorem lim_iff {α : Type} {f : Nat → Option α} (hf : Rising f) {r : α} : lim f = some r ↔ ∃ k, f k = some r := by
  unfold lim
  constructor
  · intro h
    split at h
    · rename_i he
      injection h with h
      subst h
      exact Classical.choose_spec he
    · cases h
  · rintro ⟨k, hk⟩
    have he : ∃ r k, f k = some r := ⟨r, k, hk⟩
    rw [dif_pos he]
    obtain ⟨k', hk'⟩ := Classical.choose_spec he
    have h1 := hf _ _ _ (Nat.le_max_left k k') hk
    have h2 := hf _ _ _ (Nat.le_max_right k k') hk'
    rw [h1] at h2
    injection h2 with h2
    rw [← h2]
noncomputable def callO (p : Prg) : CallF := fun f args h => lim fun k => (runN p k).1 f args h
noncomputable def yieldO (p : Prg) : YieldF := fun l args h => lim fun k => (runN p k).2 l args h
noncomputable def execO (p : Prg) (c : LCode) : CodeF := fun fr m => lim fun k => execC (runN p k).1 (runN p k).2 k c fr m
theorem call_rising (p : Prg) (f : FuncId) (args : List Value) (h : AH) : Rising fun k => (runN p k).1 f args h := fun k k' r hk hr => (runN_mono p hk).1 _ _ _ _ hr
theorem yield_rising (p : Prg) (l : Nat) (args : List Value) (h : AH) : Rising fun k => (runN p k).2 l args h := fun k k' r hk hr => (runN_mono p hk).2 _ _ _ _ hr
theorem exec_rising (p : Prg) (c : LCode) (fr : Fr) (m : Mem) : Rising fun k => execC (runN p k).1 (runN p k).2 k c fr m := fun k k' r hk hr => execC_mono (runN_mono p hk).1 (runN_mono p hk).2 hk c _ _ _ hr
theorem callO_iff {p : Prg} {f : FuncId} {args : List Value} {h : AH} {r : Value × AH} : callO p f args h = some r ↔ ∃ k, (runN p k).1 f args h = some r := lim_iff (call_rising p f args h)
theorem yieldO_iff {p : Prg} {l : Nat} {args : List Value} {h : AH} {r : Value × AH} : yieldO p l args h = some r ↔ ∃ k, (runN p k).2 l args h = some r := lim_iff (yield_rising p l args h)
theorem execO_iff {p : Prg} {c : LCode} {fr : Fr} {m : Mem} {r : Ex × Fr × Mem} : execO p c fr m = some r ↔ ∃ k, execC (runN p k).1 (runN p k).2 k c fr m = some r := lim_iff (exec_rising p c fr m)
theorem le_callO (p : Prg) (k : Nat) : LeC (runN p k).1 (callO p) := fun f args h r hr => callO_iff.2 ⟨k, hr⟩
theorem le_yieldO (p : Prg) (k : Nat) : LeC (runN p k).2 (yieldO p) := fun f args h r hr => yieldO_iff.2 ⟨k, hr⟩
theorem ev_fin {p : Prg} {o : EOp} {fr : Fr} {m : Mem} {r : Value × Mem} (h : o.ev (callO p) (yieldO p) fr m = some r) : ∃ k, o.ev (runN p k).1 (runN p k).2 fr m = some r := by
  cases o
  case call f xs =>
    simp only [EOp.ev] at h ⊢
    split at h
    · rename_i hk
      obtain ⟨x, h1, h2⟩ := Option.map_eq_some_iff.1 h
      obtain ⟨k, hk1⟩ := callO_iff.1 h1
      exact ⟨k, by rw [if_pos hk, hk1, Option.map_some, h2]⟩
    · cases h
  case callv f xs =>
    simp only [EOp.ev] at h ⊢
    split at h
    · rename_i hk
      split at h
      · rename_i g a b e
        obtain ⟨x, h1, h2⟩ := Option.map_eq_some_iff.1 h
        obtain ⟨k, hk1⟩ := callO_iff.1 h1
        exact ⟨k, by rw [if_pos hk]; (try simp only [e]); rw [hk1, Option.map_some, h2]⟩
      · rename_i l a b e
        split at h
        · rename_i hs
          obtain ⟨x, h1, h2⟩ := Option.map_eq_some_iff.1 h
          obtain ⟨k, hk1⟩ := yieldO_iff.1 h1
          exact ⟨k, by rw [if_pos hk]; (try simp only [e]); rw [if_pos hs, hk1, Option.map_some, h2]⟩
        · cases h
      · cases h
    · cases h
  all_goals exact ⟨0, h⟩
theorem step_fin {p : Prg} {i : LInstr} {fr : Fr} {m : Mem} {r : Value × Mem} (h : i.step (callO p) (yieldO p) fr m = some r) : ∃ k, i.step (runN p k).1 (runN p k).2 fr m = some r := by
  unfold LInstr.step at h ⊢
  split at h
  · rename_i hw
    unfold LInstr.ev at h ⊢
    cases hop : i.op with
    | p o => rw [hop] at h; exact ⟨0, h⟩
    | r o => rw [hop] at h; exact ⟨0, h⟩
    | e o => rw [hop] at h; exact ev_fin h
  · exact ⟨0, h⟩
  · cases h
theorem ops_fin {p : Prg} : ∀ {ops : List LInstr} {fr : Fr} {m : Mem} {r : Fr × Mem}, runOps (callO p) (yieldO p) ops fr m = some r → ∃ k, runOps (runN p k).1 (runN p k).2 ops fr m = some r
  | [], fr, m, r, h => ⟨0, h⟩
  | i :: l, fr, m, r, h => by
    simp only [runOps] at h
    cases hs : i.step (callO p) (yieldO p) fr m with
    | none => rw [hs] at h; cases h
    | some t =>
      obtain ⟨v, m'⟩ := t
      rw [hs] at h
      obtain ⟨k1, h1⟩ := step_fin hs
      obtain ⟨k2, h2⟩ := ops_fin h
      refine ⟨max k1 k2, ?_⟩
      have l1 := runN_mono p (Nat.le_max_left k1 k2)
      have l2 := runN_mono p (Nat.le_max_right k1 k2)
      simp only [runOps, LInstr.step_mono l1.1 l1.2 h1]
      exact (runOps_mono l2.1 l2.2 h2).1
theorem region_fin {p : Prg} {ops : List LInstr} {keep : List Nat} {chk : List (Nat × Nat)} {fr : Fr} {m : Mem} {r : Ex × Fr × Mem} (h : runRegion (callO p) (yieldO p) ops keep chk fr m = some r) :
    ∃ k, runRegion (runN p k).1 (runN p k).2 ops keep chk fr m = some r := by
  unfold runRegion at h ⊢
  cases hs : runOps (callO p) (yieldO p) ops fr m with
  | none => rw [hs] at h; cases h
  | some t =>
    rw [hs] at h
    obtain ⟨k, hk⟩ := ops_fin hs
    refine ⟨k, ?_⟩
    have := (runOps_mono (le_callO p k) (le_yieldO p k) hk).2
    rw [this] at h
    rw [hk]
    exact h
theorem opt_ext {α : Type} {x y : Option α} (h : ∀ r, x = some r ↔ y = some r) : x = y := by
  cases hx : x with
  | none =>
    cases hy : y with
    | none => rfl
    | some r => have := (h r).2 hy; rw [hx] at this; cases this
  | some r => exact ((h r).1 hx).symm
variable {p : Prg}
theorem execO_skip {fr : Fr} {m : Mem} : execO p .skip fr m = some (.norm, fr, m) := execO_iff.2 ⟨0, rfl⟩
theorem execO_exit {id : Nat} {fr : Fr} {m : Mem} : execO p (.exit id) fr m = some (.exit id, fr, m) := execO_iff.2 ⟨0, rfl⟩
theorem execO_ret {fr : Fr} {m : Mem} : execO p .ret fr m = some (.ret, fr, m) := execO_iff.2 ⟨0, rfl⟩
theorem execO_region {ops : List LInstr} {keep : List Nat} {chk : List (Nat × Nat)} {fr : Fr} {m : Mem} : execO p (.region ops keep chk) fr m = runRegion (callO p) (yieldO p) ops keep chk fr m :=
  opt_ext fun r => execO_iff.trans ⟨fun ⟨k, hk⟩ => runRegion_mono (le_callO p k) (le_yieldO p k) _ _ _ _ _ _ hk, fun h => region_fin h⟩
theorem execO_cond {c : Opd} {a b : LCode} {fr : Fr} {m : Mem} {t : Bool} (h : opd fr c = .bool t) : execO p (.cond c a b) fr m = if t = true then execO p a fr m else execO p b fr m :=
  opt_ext fun r => execO_iff.trans (by
    simp only [execC, h]
    cases t
    · simpa using execO_iff.symm
    · simpa using execO_iff.symm)
def andThen (x : Option (Ex × Fr × Mem)) (f : CodeF) : Option (Ex × Fr × Mem) :=
  match x with
  | some (.norm, fr, m) => f fr m
  | r => r
theorem andThen_norm {fr : Fr} {m : Mem} {f : CodeF} : andThen (some (.norm, fr, m)) f = f fr m := rfl
theorem andThen_exit {i : Nat} {fr : Fr} {m : Mem} {f : CodeF} : andThen (some (.exit i, fr, m)) f = some (.exit i, fr, m) := rfl
theorem andThen_ret {fr : Fr} {m : Mem} {f : CodeF} : andThen (some (.ret, fr, m)) f = some (.ret, fr, m) := rfl
theorem andThen_iff {x : Option (Ex × Fr × Mem)} {f : CodeF} {r : Ex × Fr × Mem} : andThen x f = some r ↔ ∃ t, x = some t ∧ andThen (some t) f = some r := by
  cases x with
  | none => exact ⟨(fun h => by cases h), (fun ⟨t, h, _⟩ => by cases h)⟩
  | some t => exact ⟨fun h => ⟨t, rfl, h⟩, (fun ⟨t', h, h'⟩ => by injection h with h; subst h; exact h')⟩
theorem execO_seq {a b : LCode} {fr : Fr} {m : Mem} : execO p (.seq a b) fr m = andThen (execO p a fr m) (execO p b) :=
  opt_ext fun r => execO_iff.trans (by
    rw [andThen_iff]
    constructor
    · rintro ⟨k, hk⟩
      simp only [execC] at hk
      cases hs : execC (runN p k).1 (runN p k).2 k a fr m with
      | none => rw [hs] at hk; cases hk
      | some t =>
        rw [hs] at hk
        refine ⟨t, execO_iff.2 ⟨k, hs⟩, ?_⟩
        obtain ⟨ex, fr', m'⟩ := t
        cases ex with
        | norm => exact execO_iff.2 ⟨k, hk⟩
        | exit i => exact hk
        | ret => exact hk
    · rintro ⟨t, h1, h2⟩
      obtain ⟨k1, hk1⟩ := execO_iff.1 h1
      obtain ⟨ex, fr', m'⟩ := t
      cases ex with
      | norm =>
        obtain ⟨k2, hk2⟩ := execO_iff.1 h2
        refine ⟨max k1 k2, ?_⟩
        simp only [execC, exec_rising p a fr m k1 _ _ (Nat.le_max_left k1 k2) hk1]
        exact exec_rising p b fr' m' k2 _ _ (Nat.le_max_right k1 k2) hk2
      | exit i => exact ⟨k1, by simp only [execC, hk1]; exact h2⟩
      | ret => exact ⟨k1, by simp only [execC, hk1]; exact h2⟩)
theorem execO_loop {a : LCode} {fr : Fr} {m : Mem} : execO p (.loop a) fr m = andThen (execO p a fr m) (execO p (.loop a)) :=
  opt_ext fun r => execO_iff.trans (by
    rw [andThen_iff]
    constructor
    · rintro ⟨k, hk⟩
      simp only [execC] at hk
      cases k with
      | zero => simp only [loopN] at hk; cases hk
      | succ j =>
        simp only [loopN] at hk
        cases hs : execC (runN p (j + 1)).1 (runN p (j + 1)).2 (j + 1) a fr m with
        | none => rw [hs] at hk; cases hk
        | some t =>
          rw [hs] at hk
          refine ⟨t, execO_iff.2 ⟨j + 1, hs⟩, ?_⟩
          obtain ⟨ex, fr', m'⟩ := t
          cases ex with
          | norm => exact execO_iff.2 ⟨j + 1, loopN_mono (by omega) (LeF.refl _) _ _ _ hk⟩
          | exit i => exact hk
          | ret => exact hk
    · rintro ⟨t, h1, h2⟩
      obtain ⟨k1, hk1⟩ := execO_iff.1 h1
      obtain ⟨ex, fr', m'⟩ := t
      cases ex with
      | norm =>
        obtain ⟨k2, hk2⟩ := execO_iff.1 h2
        refine ⟨max k1 k2 + 1, ?_⟩
        simp only [execC, loopN, exec_rising p a fr m k1 _ _ (show k1 ≤ max k1 k2 + 1 by omega) hk1]
        have hmono := runN_mono p (show k2 ≤ max k1 k2 + 1 by omega)
        exact loopN_mono (by omega) (execC_mono hmono.1 hmono.2 (by omega) a) _ _ _ hk2
      | exit i => exact ⟨k1 + 1, by simp only [execC, loopN, exec_rising p a fr m k1 _ _ (Nat.le_succ k1) hk1]; exact h2⟩
      | ret => exact ⟨k1 + 1, by simp only [execC, loopN, exec_rising p a fr m k1 _ _ (Nat.le_succ k1) hk1]; exact h2⟩)
def catchEx (id : Nat) (x : Option (Ex × Fr × Mem)) : Option (Ex × Fr × Mem) :=
  match x with
  | some (.exit i, fr, m) => if i = id then some (.norm, fr, m) else some (.exit i, fr, m)
  | r => r
theorem catchEx_norm {id : Nat} {fr : Fr} {m : Mem} : catchEx id (some (.norm, fr, m)) = some (.norm, fr, m) := rfl
theorem catchEx_ret {id : Nat} {fr : Fr} {m : Mem} : catchEx id (some (.ret, fr, m)) = some (.ret, fr, m) := rfl
theorem catchEx_exit {id i : Nat} {fr : Fr} {m : Mem} : catchEx id (some (.exit i, fr, m)) = if i = id then some (.norm, fr, m) else some (.exit i, fr, m) := rfl
theorem execO_block {id : Nat} {a : LCode} {fr : Fr} {m : Mem} : execO p (.block id a) fr m = catchEx id (execO p a fr m) :=
  opt_ext fun r => execO_iff.trans (by
    have key : ∀ k, execC (runN p k).1 (runN p k).2 k (.block id a) fr m = catchEx id (execC (runN p k).1 (runN p k).2 k a fr m) := fun k => rfl
    simp only [key]
    constructor
    · rintro ⟨k, hk⟩
      cases hs : execC (runN p k).1 (runN p k).2 k a fr m with
      | none => rw [hs] at hk; cases hk
      | some t => rw [hs] at hk; rw [execO_iff.2 ⟨k, hs⟩]; exact hk
    · intro h
      cases hs : execO p a fr m with
      | none => rw [hs] at h; cases h
      | some t =>
        rw [hs] at h
        obtain ⟨k, hk⟩ := execO_iff.1 hs
        exact ⟨k, by rw [hk]; exact h⟩)
def giveBack (rs : List LRes) (x : Option (Ex × Fr × Mem)) : Option (Value × AH) :=
  match x with
  | some (.exit _, _, _) => none
  | some (_, fr, m) => (retV fr m rs).map fun v => (v, m.h)
  | none => none
theorem giveBack_norm {rs : List LRes} {fr : Fr} {m : Mem} : giveBack rs (some (.norm, fr, m)) = (retV fr m rs).map fun v => (v, m.h) := rfl
theorem giveBack_ret {rs : List LRes} {fr : Fr} {m : Mem} : giveBack rs (some (.ret, fr, m)) = (retV fr m rs).map fun v => (v, m.h) := rfl
theorem callO_fn {f : FuncId} {args : List Value} {h : AH} {lf : LFunc} (he : p.ext f = none) (hf : p.fn f = some lf) (hn : args.length = lf.nargs) :
    callO p f args h = giveBack lf.results (execO p lf.body (argFr 0 args) { lc := [], h }) :=
  opt_ext fun r => callO_iff.trans (by
    have key : ∀ k, (runN p (k + 1)).1 f args h = giveBack lf.results (execC (runN p k).1 (runN p k).2 k lf.body (argFr 0 args) { lc := [], h }) := fun k => by
      simp only [runN, he, hf, callBody, hn, if_true]
      rfl
    constructor
    · rintro ⟨k, hk⟩
      cases k with
      | zero => cases hk
      | succ k =>
        rw [key] at hk
        cases hs : execC (runN p k).1 (runN p k).2 k lf.body (argFr 0 args) { lc := [], h } with
        | none => rw [hs] at hk; cases hk
        | some t => rw [hs] at hk; rw [execO_iff.2 ⟨k, hs⟩]; exact hk
    · intro hr
      cases hs : execO p lf.body (argFr 0 args) { lc := [], h } with
      | none => rw [hs] at hr; cases hr
      | some t =>
        rw [hs] at hr
        obtain ⟨k, hk⟩ := execO_iff.1 hs
        exact ⟨k + 1, by rw [key, hk]; exact hr⟩)
end Go.Proofs.YtblmakgjdenpfaaDoor.AM
namespace Go.Proofs.YtblmakgjdenpfaaDoor.AM
open Go
abbrev Lc := List (Nat × AObj)
abbrev Post := Ex → Fr → Lc → AH → Prop
structure Wp (p : Prg) (c : LCode) (fr : Fr) (lc : Lc) (h : AH) (Q : Post) : Prop where
  out : ∃ ex fr' lc' h', execO p c fr ⟨lc, h⟩ = some (ex, fr', ⟨lc', h'⟩) ∧ Q ex fr' lc' h'
structure WpC (p : Prg) (f : FuncId) (args : List Value) (h : AH) (Q : Value → AH → Prop) : Prop where
  out : ∃ v h', callO p f args h = some (v, h') ∧ Q v h'
structure thenQ (p : Prg) (b : LCode) (Q : Post) (ex : Ex) (fr : Fr) (lc : Lc) (h : AH) : Prop where
  out : match ex with
    | .norm => Wp p b fr lc h Q
    | ex => Q ex fr lc h
structure blockQ (id : Nat) (Q : Post) (ex : Ex) (fr : Fr) (lc : Lc) (h : AH) : Prop where
  out : match ex with
    | .exit i => if i = id then Q .norm fr lc h else Q (.exit i) fr lc h
    | ex => Q ex fr lc h
structure loopQ (K : Fr → Lc → AH → Prop) (Q : Post) (ex : Ex) (fr : Fr) (lc : Lc) (h : AH) : Prop where
  out : match ex with
    | .norm => K fr lc h
    | ex => Q ex fr lc h
structure retQ (rs : List LRes) (Q : Value → AH → Prop) (ex : Ex) (fr : Fr) (lc : Lc) (h : AH) : Prop where
  out : match ex with
    | .exit _ => False
    | _ => ∃ v, retV fr ⟨lc, h⟩ rs = some v ∧ Q v h
variable {p : Prg} {fr : Fr} {lc : Lc} {h : AH} {Q : Post}
theorem wp_skip (hq : Q .norm fr lc h) : Wp p .skip fr lc h Q := ⟨_, _, _, _, execO_skip, hq⟩
theorem wp_exit {id : Nat} (hq : Q (.exit id) fr lc h) : Wp p (.exit id) fr lc h Q := ⟨_, _, _, _, execO_exit, hq⟩
theorem wp_ret (hq : Q .ret fr lc h) : Wp p .ret fr lc h Q := ⟨_, _, _, _, execO_ret, hq⟩
theorem wp_seq {a b : LCode} (hq : Wp p a fr lc h (thenQ p b Q)) : Wp p (.seq a b) fr lc h Q := by
  obtain ⟨ex, fr', lc', h', h1, h2⟩ := hq
  cases ex with
  | norm =>
    obtain ⟨ex, fr2, lc2, h2', h3, h4⟩ := h2.out
    exact ⟨ex, fr2, lc2, h2', by rw [execO_seq, h1, andThen_norm, h3], h4⟩
  | exit i => exact ⟨_, _, _, _, by rw [execO_seq, h1, andThen_exit], h2.out⟩
  | ret => exact ⟨_, _, _, _, by rw [execO_seq, h1, andThen_ret], h2.out⟩
theorem wp_block {id : Nat} {a : LCode} (hq : Wp p a fr lc h (blockQ id Q)) : Wp p (.block id a) fr lc h Q := by
  obtain ⟨ex, fr', lc', h', h1, h2⟩ := hq
  cases ex with
  | norm => exact ⟨_, _, _, _, by rw [execO_block, h1, catchEx_norm], h2.out⟩
  | exit i =>
    have h2 := h2.out
    simp only at h2
    by_cases hi : i = id
    · rw [if_pos hi] at h2
      exact ⟨_, _, _, _, by rw [execO_block, h1, catchEx_exit, if_pos hi], h2⟩
    · rw [if_neg hi] at h2
      exact ⟨_, _, _, _, by rw [execO_block, h1, catchEx_exit, if_neg hi], h2⟩
  | ret => exact ⟨_, _, _, _, by rw [execO_block, h1, catchEx_ret], h2.out⟩
theorem wp_cond_t {c : Opd} {a b : LCode} (hc : opd fr c = .bool true) (hq : Wp p a fr lc h Q) : Wp p (.cond c a b) fr lc h Q := by
  obtain ⟨ex, fr', lc', h', h1, h2⟩ := hq
  exact ⟨_, _, _, _, by rw [execO_cond hc, if_pos rfl, h1], h2⟩
theorem wp_cond_f {c : Opd} {a b : LCode} (hc : opd fr c = .bool false) (hq : Wp p b fr lc h Q) : Wp p (.cond c a b) fr lc h Q := by
  obtain ⟨ex, fr', lc', h', h1, h2⟩ := hq
  exact ⟨_, _, _, _, by rw [execO_cond hc, if_neg (by decide), h1], h2⟩
theorem wp_mono {c : LCode} {Q' : Post} (hq : Wp p c fr lc h Q) (hm : ∀ ex fr lc h, Q ex fr lc h → Q' ex fr lc h) : Wp p c fr lc h Q' :=
  let ⟨ex, fr', lc', h', h1, h2⟩ := hq
  ⟨ex, fr', lc', h', h1, hm _ _ _ _ h2⟩
theorem wp_loop {a : LCode} (I : Nat → Fr → Lc → AH → Prop) (n : Nat) (h0 : I n fr lc h)
    (hs : ∀ n fr lc h, I n fr lc h → Wp p a fr lc h (loopQ (fun fr lc h => ∃ n', n' < n ∧ I n' fr lc h) Q)) : Wp p (.loop a) fr lc h Q := by
  induction n using Nat.strongRecOn generalizing fr lc h with
  | ind n ih =>
    obtain ⟨ex, fr', lc', h', h1, h2⟩ := hs n fr lc h h0
    cases ex with
    | norm =>
      obtain ⟨n', hn, hI⟩ := h2.out
      obtain ⟨ex, fr2, lc2, h2', h3, h4⟩ := ih n' hn hI
      exact ⟨_, _, _, _, by rw [execO_loop, h1, andThen_norm, h3], h4⟩
    | exit i => exact ⟨_, _, _, _, by rw [execO_loop, h1, andThen_exit], h2.out⟩
    | ret => exact ⟨_, _, _, _, by rw [execO_loop, h1, andThen_ret], h2.out⟩
theorem thenQ_norm {b : LCode} (hq : Wp p b fr lc h Q) : thenQ p b Q .norm fr lc h := ⟨hq⟩
theorem thenQ_ret {b : LCode} (hq : Q .ret fr lc h) : thenQ p b Q .ret fr lc h := ⟨hq⟩
theorem thenQ_exit {b : LCode} {i : Nat} (hq : Q (.exit i) fr lc h) : thenQ p b Q (.exit i) fr lc h := ⟨hq⟩
theorem blockQ_norm {id : Nat} (hq : Q .norm fr lc h) : blockQ id Q .norm fr lc h := ⟨hq⟩
theorem blockQ_ret {id : Nat} (hq : Q .ret fr lc h) : blockQ id Q .ret fr lc h := ⟨hq⟩
theorem blockQ_same {id : Nat} (hq : Q .norm fr lc h) : blockQ id Q (.exit id) fr lc h := ⟨by simpa only [if_true] using hq⟩
theorem blockQ_ne {id i : Nat} (hi : (i == id) = false) (hq : Q (.exit i) fr lc h) : blockQ id Q (.exit i) fr lc h := by
  have : ¬ i = id := by simpa using hi
  exact ⟨by simpa only [if_neg this] using hq⟩
theorem loopQ_norm {K : Fr → Lc → AH → Prop} (hq : K fr lc h) : loopQ K Q .norm fr lc h := ⟨hq⟩
theorem loopQ_ret {K : Fr → Lc → AH → Prop} (hq : Q .ret fr lc h) : loopQ K Q .ret fr lc h := ⟨hq⟩
theorem loopQ_exit {K : Fr → Lc → AH → Prop} {i : Nat} (hq : Q (.exit i) fr lc h) : loopQ K Q (.exit i) fr lc h := ⟨hq⟩
theorem retQ_ret {rs : List LRes} {C : Value → AH → Prop} {v : Value} (hv : retV fr ⟨lc, h⟩ rs = some v) (hq : C v h) : retQ rs C .ret fr lc h := ⟨⟨v, hv, hq⟩⟩
theorem retQ_norm {rs : List LRes} {C : Value → AH → Prop} {v : Value} (hv : retV fr ⟨lc, h⟩ rs = some v) (hq : C v h) : retQ rs C .norm fr lc h := ⟨⟨v, hv, hq⟩⟩
theorem WpC.mono {f : FuncId} {args : List Value} {C C' : Value → AH → Prop} (hq : WpC p f args h C) (hm : ∀ v h', C v h' → C' v h') : WpC p f args h C' :=
  let ⟨v, h', h1, h2⟩ := hq
  ⟨v, h', h1, hm _ _ h2⟩
theorem wpc_of {f : FuncId} {args : List Value} {C : Value → AH → Prop} {v : Value} {h' : AH} (hc : callO p f args h = some (v, h')) (hq : C v h') : WpC p f args h C := ⟨v, h', hc, hq⟩
theorem WpC.eqn {f : FuncId} {args : List Value} {v : Value} {h' : AH} (hq : WpC p f args h fun v' h1 => v' = v ∧ h1 = h') : callO p f args h = some (v, h') := by
  obtain ⟨v', h1, e, rfl, rfl⟩ := hq
  exact e
theorem wpc_fn {f : FuncId} {args : List Value} {C : Value → AH → Prop} {lf : LFunc} (he : p.ext f = none) (hf : p.fn f = some lf) (hn : args.length = lf.nargs)
    (hq : Wp p lf.body (argFr 0 args) [] h (retQ lf.results C)) : WpC p f args h C := by
  obtain ⟨ex, fr', lc', h', h1, h2⟩ := hq
  have hc := callO_fn (h := h) he hf hn
  rw [h1] at hc
  cases ex with
  | norm =>
    obtain ⟨v, h3, h4⟩ := h2.out
    exact ⟨v, h', by rw [hc, giveBack_norm, h3]; rfl, h4⟩
  | exit i => exact h2.out.elim
  | ret =>
    obtain ⟨v, h3, h4⟩ := h2.out
    exact ⟨v, h', by rw [hc, giveBack_ret, h3]; rfl, h4⟩
def chkT (ops : List LInstr) (chk : List (Nat × Nat)) (tr : List (Fr × Mem)) : Prop := chk.all (chk1 ops tr) = true
structure WpR (p : Prg) (T : List (Fr × Mem) → Prop) (keep : List Nat) (rest : List LInstr) (fr : Fr) (lc : Lc) (h : AH) (tr : List (Fr × Mem)) (Q : Fr → Lc → AH → Prop) : Prop where
  out : ∃ fr1 lc1 h1 fr2, runOps (callO p) (yieldO p) rest fr ⟨lc, h⟩ = some (fr1, ⟨lc1, h1⟩) ∧ T (tr.reverse ++ trace (callO p) (yieldO p) rest fr ⟨lc, h⟩) ∧ keepFr fr1 keep = some fr2 ∧ Q fr2 (keepLc fr1 lc1 keep) h1
variable {T : List (Fr × Mem) → Prop} {keep : List Nat} {r : List LInstr} {tr : List (Fr × Mem)} {K : Fr → Lc → AH → Prop} {d : Nat} {v : Value}
theorem wp_region {ops : List LInstr} {chk : List (Nat × Nat)} (hq : WpR p (chkT ops chk) keep ops fr lc h [] (Q .norm)) : Wp p (.region ops keep chk) fr lc h Q := by
  obtain ⟨fr1, lc1, h1, fr2, e1, e2, e3, e4⟩ := hq
  refine ⟨_, _, _, _, ?_, e4⟩
  rw [execO_region]
  unfold runRegion
  rw [e1]
  simp only [chkT, List.reverse_nil, List.nil_append] at e2
  simp only [e2, if_true, e3]
def T0 : List (Fr × Mem) → Prop := fun _ => True
theorem wp_region0 {ops : List LInstr} (hq : WpR p T0 keep ops fr lc h [] (Q .norm)) : Wp p (.region ops keep []) fr lc h Q := by
  obtain ⟨fr1, lc1, h1, fr2, e1, e2, e3, e4⟩ := hq
  exact wp_region ⟨fr1, lc1, h1, fr2, e1, rfl, e3, e4⟩
theorem wpr_drop {x : Fr × Mem} (hq : WpR p T0 keep r fr lc h [] K) : WpR p T0 keep r fr lc h (x :: tr) K := by
  obtain ⟨fr1, lc1, h1, fr2, e1, e2, e3, e4⟩ := hq
  exact ⟨fr1, lc1, h1, fr2, e1, trivial, e3, e4⟩
theorem wpr_nil {fr2 : Fr} {lc2 : Lc} (hT : T ((fr, ⟨lc, h⟩) :: tr).reverse) (hk : keepFr fr keep = some fr2) (hl : keepLc fr lc keep = lc2) (hq : K fr2 lc2 h) : WpR p T keep [] fr lc h tr K :=
  ⟨fr, lc, h, fr2, rfl, by simpa [trace] using hT, hk, by rw [hl]; exact hq⟩
theorem chkT_nil {ops : List LInstr} {tr : List (Fr × Mem)} : chkT ops [] tr := rfl
theorem wpr_step {i : LInstr} {lc' : Lc} {h' : AH} (hv : i.step (callO p) (yieldO p) fr ⟨lc, h⟩ = some (v, ⟨lc', h'⟩)) (hq : WpR p T keep r (pushD fr i.dst v) lc' h' ((fr, ⟨lc, h⟩) :: tr) K) :
    WpR p T keep (i :: r) fr lc h tr K := by
  obtain ⟨fr1, lc1, h1, fr2, e1, e2, e3, e4⟩ := hq
  refine ⟨fr1, lc1, h1, fr2, by simp only [runOps, hv, e1], ?_, e3, e4⟩
  simpa only [trace, hv, List.reverse_cons, List.append_assoc, List.singleton_append] using e2
theorem wpr_p {o : POp} (hv : o.ev fr = some v) (hq : WpR p T keep r ((d, v) :: fr) lc h ((fr, ⟨lc, h⟩) :: tr) K) : WpR p T keep (⟨some d, .p o, none⟩ :: r) fr lc h tr K :=
  wpr_step (v := v) (by simp only [LInstr.step, wantedA, LInstr.ev, hv, Option.map_some]) hq
theorem wpr_r {o : ROp} (hv : o.ev fr ⟨lc, h⟩ = some v) (hq : WpR p T keep r ((d, v) :: fr) lc h ((fr, ⟨lc, h⟩) :: tr) K) : WpR p T keep (⟨some d, .r o, none⟩ :: r) fr lc h tr K :=
  wpr_step (v := v) (by simp only [LInstr.step, wantedA, LInstr.ev, hv, Option.map_some]) hq
theorem wpr_e {o : EOp} {lc' : Lc} {h' : AH} (hv : o.ev (callO p) (yieldO p) fr ⟨lc, h⟩ = some (v, ⟨lc', h'⟩)) (hq : WpR p T keep r ((d, v) :: fr) lc' h' ((fr, ⟨lc, h⟩) :: tr) K) :
    WpR p T keep (⟨some d, .e o, none⟩ :: r) fr lc h tr K :=
  wpr_step (v := v) (by simp only [LInstr.step, wantedA, LInstr.ev, hv]) hq
theorem wpr_e0 {o : EOp} {lc' : Lc} {h' : AH} (hv : o.ev (callO p) (yieldO p) fr ⟨lc, h⟩ = some (v, ⟨lc', h'⟩)) (hq : WpR p T keep r fr lc' h' ((fr, ⟨lc, h⟩) :: tr) K) :
    WpR p T keep (⟨none, .e o, none⟩ :: r) fr lc h tr K :=
  wpr_step (v := v) (by simp only [LInstr.step, wantedA, LInstr.ev, hv]) hq
theorem wpr_call {f : FuncId} {xs : List Opd} {asx : List Value} (ha : opds fr xs = asx) (hok : asx.all okV = true) (hq : WpC p f asx h fun v h' => WpR p T keep r ((d, v) :: fr) lc h' ((fr, ⟨lc, h⟩) :: tr) K) :
    WpR p T keep (⟨some d, .e (.call f xs), none⟩ :: r) fr lc h tr K := by
  obtain ⟨v, h', h1, h2⟩ := hq
  exact wpr_e (by simp only [EOp.ev, ha, hok, if_true, h1, Option.map_some]) h2
theorem wpr_call0 {f : FuncId} {xs : List Opd} {asx : List Value} (ha : opds fr xs = asx) (hok : asx.all okV = true) (hq : WpC p f asx h fun v h' => WpR p T keep r fr lc h' ((fr, ⟨lc, h⟩) :: tr) K) :
    WpR p T keep (⟨none, .e (.call f xs), none⟩ :: r) fr lc h tr K := by
  obtain ⟨v, h', h1, h2⟩ := hq
  exact wpr_e0 (by simp only [EOp.ev, ha, hok, if_true, h1, Option.map_some]; rfl) h2
theorem wpr_callv {f : Opd} {g : FuncId} {a b : Array Value} {xs : List Opd} {asx : List Value} (hf : opd fr f = .func (.func g) a b) (ha : opds fr xs = asx) (hok : asx.all okV = true)
    (hq : WpC p g (a.toList ++ asx ++ b.toList) h fun v h' => WpR p T keep r ((d, v) :: fr) lc h' ((fr, ⟨lc, h⟩) :: tr) K) :
    WpR p T keep (⟨some d, .e (.callv f xs), none⟩ :: r) fr lc h tr K := by
  obtain ⟨v, h', h1, h2⟩ := hq
  exact wpr_e (by simp only [EOp.ev, ha, hok, if_true, hf, h1, Option.map_some]) h2
def argsR (fr : Fr) (xs : List Opd) : Option (List Value) := if (opds fr xs).all okV = true then some (opds fr xs) else none
theorem wpr_callA {f : FuncId} {xs : List Opd} {asx : List Value} (ha : argsR fr xs = some asx) (hq : WpC p f asx h fun v h' => WpR p T keep r ((d, v) :: fr) lc h' ((fr, ⟨lc, h⟩) :: tr) K) :
    WpR p T keep (⟨some d, .e (.call f xs), none⟩ :: r) fr lc h tr K := by
  unfold argsR at ha
  split at ha
  · rename_i hok
    injection ha with ha
    exact wpr_call ha (by rw [← ha]; exact hok) hq
  · cases ha
theorem wpr_callA0 {f : FuncId} {xs : List Opd} {asx : List Value} (ha : argsR fr xs = some asx) (hq : WpC p f asx h fun v h' => WpR p T keep r fr lc h' ((fr, ⟨lc, h⟩) :: tr) K) :
    WpR p T keep (⟨none, .e (.call f xs), none⟩ :: r) fr lc h tr K := by
  unfold argsR at ha
  split at ha
  · rename_i hok
    injection ha with ha
    exact wpr_call0 ha (by rw [← ha]; exact hok) hq
  · cases ha
def keepR (fr : Fr) (lc : Lc) (keep : List Nat) : Option (Fr × Lc) := match keepFr fr keep with
  | some f => some (f, keepLc fr lc keep)
  | none => none
theorem wpr_end0 {fr2 : Fr} {lc2 : Lc} (hk : keepR fr lc keep = some (fr2, lc2)) (hq : K fr2 lc2 h) : WpR p T0 keep [] fr lc h tr K := by
  unfold keepR at hk
  split at hk
  · rename_i f hf
    injection hk with hk
    injection hk with e1 e2
    subst e1 e2
    exact wpr_nil trivial hf rfl hq
  · cases hk
theorem wpr_end {fr2 : Fr} {lc2 : Lc} (hk : keepR fr lc keep = some (fr2, lc2)) (hT : T ((fr, ⟨lc, h⟩) :: tr).reverse) (hq : K fr2 lc2 h) : WpR p T keep [] fr lc h tr K := by
  unfold keepR at hk
  split at hk
  · rename_i f hf
    injection hk with hk
    injection hk with e1 e2
    subst e1 e2
    exact wpr_nil hT hf rfl hq
  · cases hk
theorem wpr_run {dd : Option Nat} {op : LOp} {g : Nat} {b : Bool} (hg : fget fr g = .bool b) (hq : WpR p T keep (⟨dd, op, none⟩ :: r) fr lc h tr K) : WpR p T keep (⟨dd, op, some (g, b)⟩ :: r) fr lc h tr K := by
  obtain ⟨fr1, lc1, h1, fr2, e1, e2, e3, e4⟩ := hq
  have hs : LInstr.step (callO p) (yieldO p) ⟨dd, op, some (g, b)⟩ fr ⟨lc, h⟩ = LInstr.step (callO p) (yieldO p) ⟨dd, op, none⟩ fr ⟨lc, h⟩ := by
    simp only [LInstr.step, wantedA, hg, beq_self_eq_true, LInstr.ev]
  refine ⟨fr1, lc1, h1, fr2, ?_, ?_, e3, e4⟩
  · simp only [runOps, hs] at e1 ⊢; exact e1
  · simp only [trace, hs] at e2 ⊢; exact e2
theorem wpr_pass {op : LOp} {g : Nat} {b t : Bool} (hg : fget fr g = .bool t) (ht : (t == b) = false) (hq : WpR p T keep r ((d, skV) :: fr) lc h ((fr, ⟨lc, h⟩) :: tr) K) :
    WpR p T keep (⟨some d, op, some (g, b)⟩ :: r) fr lc h tr K :=
  wpr_step (v := skV) (by simp only [LInstr.step, wantedA, hg, ht]) hq
theorem wpr_passS {op : LOp} {g : Nat} {b : Bool} (hg : fget fr g = .chan none) (hq : WpR p T keep r ((d, skV) :: fr) lc h ((fr, ⟨lc, h⟩) :: tr) K) :
    WpR p T keep (⟨some d, op, some (g, b)⟩ :: r) fr lc h tr K :=
  wpr_step (v := skV) (by simp only [LInstr.step, wantedA, hg]) hq
theorem wpr_pass0 {op : LOp} {g : Nat} {b t : Bool} (hg : fget fr g = .bool t) (ht : (t == b) = false) (hq : WpR p T keep r fr lc h ((fr, ⟨lc, h⟩) :: tr) K) :
    WpR p T keep (⟨none, op, some (g, b)⟩ :: r) fr lc h tr K :=
  wpr_step (v := skV) (by simp only [LInstr.step, wantedA, hg, ht]) hq
theorem wpr_pass0S {op : LOp} {g : Nat} {b : Bool} (hg : fget fr g = .chan none) (hq : WpR p T keep r fr lc h ((fr, ⟨lc, h⟩) :: tr) K) :
    WpR p T keep (⟨none, op, some (g, b)⟩ :: r) fr lc h tr K :=
  wpr_step (v := skV) (by simp only [LInstr.step, wantedA, hg]) hq
theorem wpr_fork {c : Prop} {hd : Decidable c} (h1 : c → WpR p T keep r ((d, .bool true) :: fr) lc h tr K) (h2 : ¬ c → WpR p T keep r ((d, .bool false) :: fr) lc h tr K) :
    WpR p T keep r ((d, .bool (decide c)) :: fr) lc h tr K := by
  by_cases hc : c
  · simpa [hc] using h1 hc
  · simpa [hc] using h2 hc
theorem wpr_forkN {c : Prop} {hd : Decidable c} (h1 : c → WpR p T keep r ((d, .bool false) :: fr) lc h tr K) (h2 : ¬ c → WpR p T keep r ((d, .bool true) :: fr) lc h tr K) :
    WpR p T keep r ((d, .bool (!decide c)) :: fr) lc h tr K := by
  by_cases hc : c
  · simpa [hc] using h1 hc
  · simpa [hc] using h2 hc
end Go.Proofs.YtblmakgjdenpfaaDoor.AM
namespace Go.Proofs.YtblmakgjdenpfaaDoor.AM
open Go
def lenP : Value → Option Value
  | .slice _ n _ => some (.int .i64 n)
  | _ => none
def iaddrP (e : Nat) : Value → Value → Option Value
  | .slice (some a) n _, .int _ j => if 0 ≤ j ∧ j < n ∧ a.spot.isNone then some (.pointer (some (ptrOff a (j.toNat * e)))) else none
  | _, _ => none
theorem ev_mv {fr : Fr} {x : Opd} : (POp.mv x).ev fr = some (opd fr x) := rfl
theorem ev_bin {fr : Fr} {o : BinOp} {x y : Opd} : (POp.bin o x y).ev fr = binA o (opd fr x) (opd fr y) := rfl
theorem ev_un {fr : Fr} {o : UnOp} {x : Opd} : (POp.un o x).ev fr = unA o (opd fr x) := rfl
theorem ev_mm {fr : Fr} {b : Bool} {xs : List Opd} : (POp.mm b xs).ev fr = mmA b (opds fr xs) := rfl
theorem ev_len {fr : Fr} {x : Opd} : (POp.len x).ev fr = lenP (opd fr x) := rfl
theorem binA_add {k k' : IntKind} {a b : Int} : binA .add (.int k a) (.int k' b) = if k = k' then some (.int k (k.wrap (a + b))) else none := rfl
theorem binA_sub {k k' : IntKind} {a b : Int} : binA .sub (.int k a) (.int k' b) = if k = k' then some (.int k (k.wrap (a - b))) else none := rfl
theorem binA_mul {k k' : IntKind} {a b : Int} : binA .mul (.int k a) (.int k' b) = if k = k' then some (.int k (k.wrap (a * b))) else none := rfl
theorem binA_lss {k k' : IntKind} {a b : Int} : binA .lss (.int k a) (.int k' b) = if k = k' then some (.bool (decide (a < b))) else none := rfl
theorem binA_leq {k k' : IntKind} {a b : Int} : binA .leq (.int k a) (.int k' b) = if k = k' then some (.bool (decide (a ≤ b))) else none := rfl
theorem binA_gtr {k k' : IntKind} {a b : Int} : binA .gtr (.int k a) (.int k' b) = if k = k' then some (.bool (decide (b < a))) else none := rfl
theorem binA_geq {k k' : IntKind} {a b : Int} : binA .geq (.int k a) (.int k' b) = if k = k' then some (.bool (decide (b ≤ a))) else none := rfl
theorem binA_eql {k k' : IntKind} {a b : Int} : binA .eql (.int k a) (.int k' b) = if k = k' then some (.bool (decide (a = b))) else none := by
  have : (a == b) = decide (a = b) := rfl
  simp only [binA, intBin, this]
theorem binA_neq {k k' : IntKind} {a b : Int} : binA .neq (.int k a) (.int k' b) = if k = k' then some (.bool (!decide (a = b))) else none := by
  have : (a != b) = !decide (a = b) := rfl
  simp only [binA, intBin, this]
theorem unA_not {b : Bool} : unA .not (.bool b) = some (.bool (!b)) := rfl
theorem unA_neg {k : IntKind} {n : Int} : unA .neg (.int k n) = some (.int k (k.wrap (0 - n))) := rfl
theorem ev_conv {fr : Fr} {k : IntKind} {x : Opd} : (POp.conv k x).ev fr = match opd fr x with | .int _ n => some (.int k (k.wrap n)) | _ => none := rfl
theorem ev_pick {fr : Fr} {c a b : Opd} : (POp.pick c a b).ev fr = match opd fr c with | .bool t => some (if t then opd fr a else opd fr b) | _ => none := rfl
theorem ev_ext {fr : Fr} {i : Nat} {x : Opd} : (POp.ext i x).ev fr = match opd fr x with | .tuple vs => vs[i]? | _ => none := rfl
theorem wrap_i64 {x : Int} (h1 : -9223372036854775808 ≤ x) (h2 : x < 9223372036854775808) : IntKind.i64.wrap x = x := by
  show (if (true && decide (x % 18446744073709551616 ≥ 9223372036854775808)) = true then x % 18446744073709551616 - 18446744073709551616 else x % 18446744073709551616) = x
  simp only [Bool.true_and, decide_eq_true_eq]
  split <;> omega
theorem wrap_i32 {x : Int} (h1 : -2147483648 ≤ x) (h2 : x < 2147483648) : IntKind.i32.wrap x = x := by
  show (if (true && decide (x % 4294967296 ≥ 2147483648)) = true then x % 4294967296 - 4294967296 else x % 4294967296) = x
  simp only [Bool.true_and, decide_eq_true_eq]
  split <;> omega
theorem mm2_max {k k' : IntKind} {x y : Int} : mmA true [.int k x, .int k' y] = some (.int k (max x y)) := by
  simp only [mmA, List.foldlM, mm2, if_true]
  show some _ = _
  congr 2
  by_cases h : y > x
  · rw [if_pos h]; omega
  · rw [if_neg h]; omega
theorem mm2_min {k k' : IntKind} {x y : Int} : mmA false [.int k x, .int k' y] = some (.int k (min x y)) := by
  simp only [mmA, List.foldlM, mm2]
  show some _ = _
  congr 2
  by_cases h : y < x
  · rw [if_neg (by decide), if_pos h]; omega
  · rw [if_neg (by decide), if_neg h]; omega
inductive Sl where
  | nil
  | at (b o n : Nat)
def Sl.val (e : Nat) : Sl → Value
  | .nil => .slice none 0 0
  | .at b o n => .slice (some ⟨b, o, none⟩) n e
def Sl.len : Sl → Nat
  | .nil => 0
  | .at _ _ n => n
def Sl.blk : Sl → Option Nat
  | .nil => none
  | .at b _ _ => some b
def Sl.adr (e : Nat) : Sl → Nat → Addr
  | .nil, _ => ⟨0, 0, none⟩
  | .at b o _, i => ⟨b, o + i * e, none⟩
def Sl.take : Sl → Nat → Sl
  | .nil, _ => .nil
  | .at b o _, k => .at b o k
def Sl.drop (e : Nat) : Sl → Nat → Sl
  | .nil, _ => .nil
  | .at b o n, k => .at b (o + k * e) (n - k)
theorem Sl.isLoc_val {e : Nat} {s : Sl} : isLoc (s.val e) = false := by cases s <;> rfl
theorem Sl.cellOk_val {e : Nat} {s : Sl} : cellOk (s.val e) = true := by cases s <;> rfl
theorem Sl.vcells_val {e : Nat} {s : Sl} : vcells (s.val e) = [s.val e] := by cases s <;> rfl
theorem Sl.settle_val {e : Nat} {s : Sl} {k : Nat} : settle1 k (s.val e) = some (s.val e) := by cases s <;> rfl
theorem Sl.lenP_val {e : Nat} {s : Sl} : lenP (s.val e) = some (.int .i64 s.len) := by cases s <;> rfl
theorem Sl.lenV_val {e : Nat} {s : Sl} : lenV (s.val e) = some s.len := by cases s <;> rfl
theorem Sl.vsame_val {e : Nat} {s : Sl} : vsame (s.val e) (s.val e) = true := by cases s <;> simp [Sl.val, vsame, vsame1, vsame0]
theorem Sl.iaddr_val {e : Nat} {s : Sl} {k : IntKind} {j : Int} (h0 : 0 ≤ j) (h1 : j < s.len) : iaddrP e (s.val e) (.int k j) = some (.pointer (some (s.adr e j.toNat))) := by
  cases s with
  | nil => simp [Sl.len] at h1; omega
  | «at» b o n => simp only [Sl.len] at h1; simp [Sl.val, iaddrP, Sl.adr, ptrOff, h0, h1]
theorem ev_iaddr {fr : Fr} {e : Nat} {x i : Opd} : (POp.iaddr e x i).ev fr = iaddrP e (opd fr x) (opd fr i) := rfl
theorem Sl.spot_adr {e : Nat} {s : Sl} {i : Nat} : (s.adr e i).spot = none := by cases s <;> rfl
def Reads (h : AH) (e : Nat) (s : Sl) (xss : List (List Value)) : Prop :=
  s.len = xss.length ∧ (∀ x ∈ xss, x.length = e) ∧ match s with
  | .nil => True
  | .at b o n => n = 0 ∨ ∃ ro pre post, h.get b = some (.cells ro (pre ++ xss.flatten ++ post)) ∧ pre.length = o
def Own (h : AH) (e : Nat) (s : Sl) (xss : List (List Value)) : Prop :=
  s.len = xss.length ∧ (∀ x ∈ xss, x.length = e) ∧ match s with
  | .nil => True
  | .at b o _ => ∃ pre, h.get b = some (.cells false (pre ++ xss.flatten)) ∧ pre.length = o
theorem Own.reads {h : AH} {e : Nat} {s : Sl} {xss : List (List Value)} (ho : Own h e s xss) : Reads h e s xss := by
  refine ⟨ho.1, ho.2.1, ?_⟩
  have := ho.2.2
  cases s with
  | nil => trivial
  | «at» b o n => obtain ⟨pre, h1, h2⟩ := this; exact .inr ⟨false, pre, [], by rw [h1, List.append_nil], h2⟩
def Kp (h0 h : AH) : Prop := h0.n ≤ h.n ∧ ∀ b, b < h0.n → h.get b = h0.get b
theorem Kp.refl (h : AH) : Kp h h := ⟨Nat.le_refl _, fun _ _ => rfl⟩
theorem Kp.trans {h0 h1 h2 : AH} (a : Kp h0 h1) (b : Kp h1 h2) : Kp h0 h2 := ⟨Nat.le_trans a.1 b.1, fun i hi => (b.2 i (Nat.lt_of_lt_of_le hi a.1)).trans (a.2 i hi)⟩
theorem Kp.get {h0 h : AH} (k : Kp h0 h) {b : Nat} {o : AObj} (hb : h0.get b = some o) : h.get b = some o := (k.2 b (AH.get_lt hb)).trans hb
theorem Reads.kp {h0 h : AH} {e : Nat} {s : Sl} {xss : List (List Value)} (r : Reads h0 e s xss) (k : Kp h0 h) : Reads h e s xss := by
  refine ⟨r.1, r.2.1, ?_⟩
  have := r.2.2
  cases s with
  | nil => trivial
  | «at» b o n => exact this.imp id fun ⟨ro, pre, post, h1, h2⟩ => ⟨ro, pre, post, k.get h1, h2⟩
theorem flatten_len {e : Nat} {xss : List (List Value)} (h : ∀ x ∈ xss, x.length = e) : xss.flatten.length = xss.length * e := by
  induction xss with
  | nil => simp
  | cons x r ih =>
    have h1 := h x (by simp)
    have h2 := ih fun y hy => h y (by simp [hy])
    simp only [List.flatten_cons, List.length_append, List.length_cons, h1, h2]
    rw [Nat.add_mul]; omega
theorem flatten_part {e : Nat} : ∀ {xss : List (List Value)}, (∀ x ∈ xss, x.length = e) → ∀ (i : Nat) (hi : i < xss.length) (post : List Value), ((xss.flatten ++ post).drop (i * e)).take e = xss[i]
  | [], _, i, hi, _ => by simp at hi
  | x :: r, h, 0, hi, post => by
    have h1 := h x (by simp)
    simp only [Nat.zero_mul, List.drop_zero, List.flatten_cons, List.append_assoc, List.getElem_cons_zero]
    rw [← h1, List.take_left]
  | x :: r, h, i + 1, hi, post => by
    have h1 := h x (by simp)
    have h2 := flatten_part (xss := r) (e := e) (fun y hy => h y (List.mem_cons_of_mem _ hy)) i (by simpa using hi) post
    simp only [List.flatten_cons, List.append_assoc, List.getElem_cons_succ]
    rw [show (i + 1) * e = x.length + i * e by rw [h1, Nat.add_mul]; omega, List.drop_length_add_append, h2]
theorem rd_reads {lc : Lc} {h : AH} {e : Nat} {s : Sl} {xss : List (List Value)} (r : Reads h e s xss) {i : Nat} (hi : i < xss.length) : Mem.rd ⟨lc, h⟩ (s.adr e i) e = some xss[i] := by
  obtain ⟨h1, h2, h3⟩ := r
  cases s with
  | nil => simp [Sl.len] at h1; omega
  | «at» b o n =>
    simp only [Sl.len] at h1
    obtain ⟨ro, pre, post, h4, h5⟩ := h3.resolve_left (by omega)
    show Mem.rd ⟨lc, h⟩ ⟨b, o + i * e, none⟩ e = _
    simp only [Mem.rd, Mem.obj, h4]
    have hl := flatten_len h2
    have hie : i * e + e ≤ xss.length * e := by
      have : (i + 1) * e ≤ xss.length * e := Nat.mul_le_mul_right e hi
      rw [Nat.add_mul] at this; omega
    rw [if_pos (by simp only [List.length_append, hl, h5]; omega)]
    rw [← flatten_part h2 i hi post, ← h5, List.append_assoc, List.drop_length_add_append]
theorem rd_cell {lc : Lc} {h : AH} {e : Nat} {s : Sl} {xss : List (List Value)} (r : Reads h e s xss) {i f : Nat} (hi : i < xss.length) (hf : f < (xss[i]).length) : Mem.rd ⟨lc, h⟩ (ptrOff (s.adr e i) f) 1 = some [(xss[i])[f]] := by
  have hr := rd_reads (lc := lc) r hi
  have hel := r.2.1 xss[i] (List.getElem_mem hi)
  have hsp := Sl.spot_adr (e := e) (s := s) (i := i)
  simp only [Mem.rd, Mem.obj, ptrOff, hsp] at hr ⊢
  split at hr
  · rename_i ro xs hg
    split at hr
    · rename_i hle
      injection hr with hr
      rw [if_pos (by omega)]
      congr 1
      rw [← List.drop_drop]
      have : (xs.drop (s.adr e i).off)[f]? = (xss[i])[f]? := by rw [← hr, List.getElem?_take_of_lt (by omega)]
      rw [List.getElem?_eq_getElem hf] at this
      obtain ⟨hlt, hge⟩ := List.getElem?_eq_some_iff.1 this
      rw [List.drop_eq_getElem_cons hlt, hge, List.take_succ_cons, List.take_zero]
    · cases hr
  · cases hr
theorem ptrOff_mk {b o n : Nat} {sp : Option Nat} : ptrOff ⟨b, o, sp⟩ n = ⟨b, o + n, sp⟩ := rfl
theorem loc_mk {b o : Nat} : loc b o = ⟨b, o, some 1⟩ := rfl
theorem ev_faddr {fr : Fr} {off : Nat} {x : Opd} : (POp.faddr off x).ev fr = match opd fr x with | .pointer (some a) => some (.pointer (some (ptrOff a off))) | _ => none := rfl
theorem ev_fld {fr : Fr} {off : Nat} {n : Option Nat} {x : Opd} : (POp.fld off n x).ev fr = match opd fr x with | .agg cs => partA cs.toList off n | _ => none := rfl
theorem partA_one {cs : List Value} {off : Nat} : partA cs off none = cs[off]? := rfl
theorem partA_more {cs : List Value} {off n : Nat} : partA cs off (some n) = if off + n ≤ cs.length then some (.agg ((cs.drop off).take n).toArray) else none := rfl
theorem ev_load1 {fr : Fr} {m : Mem} {x : Opd} : (ROp.load none x).ev fr m = match opd fr x with | .pointer (some a) => (match m.rd a 1 with | some [v] => some v | _ => none) | _ => none := rfl
theorem ev_loadn {fr : Fr} {m : Mem} {n : Nat} {x : Opd} : (ROp.load (some n) x).ev fr m = match opd fr x with | .pointer (some a) => (m.rd a n).map fun l => .agg l.toArray | _ => none := rfl
theorem rd_loc {lc : Lc} {h : AH} {b o k n : Nat} : Mem.rd ⟨lc, h⟩ ⟨b, o, some k⟩ n = match lget lc b with | some (.cells _ xs) => if o + n ≤ xs.length then some ((xs.drop o).take n) else none | _ => none := rfl
theorem rd_heap {lc : Lc} {h : AH} {b o n : Nat} : Mem.rd ⟨lc, h⟩ ⟨b, o, none⟩ n = match h.get b with | some (.cells _ xs) => if o + n ≤ xs.length then some ((xs.drop o).take n) else none | _ => none := rfl
theorem wr_loc {lc : Lc} {h : AH} {b o k : Nat} {vs : List Value} : Mem.wr ⟨lc, h⟩ ⟨b, o, some k⟩ vs = match lget lc b with | some (.cells false xs) => if o + vs.length ≤ xs.length then some ⟨(b, .cells false (setAll xs o vs)) :: lc, h⟩ else none | _ => none := rfl
theorem wr_heap {lc : Lc} {h : AH} {b o : Nat} {vs : List Value} : Mem.wr ⟨lc, h⟩ ⟨b, o, none⟩ vs = match h.get b with | some (.cells false xs) => if o + vs.length ≤ xs.length then some ⟨lc, h.set b (.cells false (setAll xs o vs))⟩ else none | _ => none := rfl
theorem vcells_agg {cs : Array Value} : vcells (.agg cs) = cs.toList := rfl
theorem vcells_int {k : IntKind} {n : Int} : vcells (.int k n) = [.int k n] := rfl
theorem vcells_bool {b : Bool} : vcells (.bool b) = [.bool b] := rfl
theorem vcells_str {s : ByteArray} : vcells (.string s) = [.string s] := rfl
theorem vcells_ptr {a : Option Addr} : vcells (.pointer a) = [.pointer a] := rfl
theorem vcells_slice {a : Option Addr} {n k : Nat} : vcells (.slice a n k) = [.slice a n k] := rfl
theorem cellOk_int {k : IntKind} {n : Int} : cellOk (.int k n) = true := rfl
theorem cellOk_bool {b : Bool} : cellOk (.bool b) = true := rfl
theorem cellOk_str {s : ByteArray} : cellOk (.string s) = true := rfl
theorem cellOk_ptr {b o : Nat} : cellOk (.pointer (some ⟨b, o, none⟩)) = true := rfl
theorem cellOk_ptr0 : cellOk (.pointer none) = true := rfl
theorem cellOk_slice0 {n k : Nat} : cellOk (.slice none n k) = true := rfl
theorem newLoc_mk {lc : Lc} {h : AH} {t : Nat} {o : AObj} : Mem.newLoc ⟨lc, h⟩ t o = match lget lc (2 * t + 1) with | none => some ⟨(2 * t + 1, o) :: lc, h⟩ | some _ => none := rfl
section
variable {c : CallF} {y : YieldF} {fr : Fr} {m : Mem} {lc : Lc} {h : AH}
theorem ev_newL {t : Nat} {z : List Value} : (EOp.newL t z).ev c y fr m = (m.newLoc t (.cells false z)).map fun m' => (.pointer (some (loc (2 * t + 1) 0)), m') := rfl
theorem ev_newH {z : List Value} : (EOp.newH z).ev c y fr ⟨lc, h⟩ = some (.pointer (some ⟨h.n, 0, none⟩), ⟨lc, h.push (.cells false z)⟩) := rfl
theorem ev_boxL {t n : Nat} {x : Opd} : (EOp.boxL t n x).ev c y fr m = if (vcells (opd fr x)).length = n ∧ (vcells (opd fr x)).all cellOk = true then
      (m.newLoc t (.cells false (vcells (opd fr x)))).map fun m' => (.pointer (some (loc (2 * t + 1) 0)), m') else none := rfl
theorem ev_boxH {n : Nat} {x : Opd} : (EOp.boxH n x).ev c y fr ⟨lc, h⟩ = if (vcells (opd fr x)).length = n ∧ (vcells (opd fr x)).all cellOk = true then
      some (.pointer (some ⟨h.n, 0, none⟩), ⟨lc, h.push (.cells false (vcells (opd fr x)))⟩) else none := rfl
theorem ev_litL {t n e : Nat} {z : List Value} {ps : List (Nat × Nat × Opd)} : (EOp.litL t n e z ps).ev c y fr m = match fillA (litCells n z) (evParts fr ps) with
    | some cs => (m.newLoc t (.cells false cs)).map fun m' => (.slice (some (loc (2 * t + 1) 0)) n e, m')
    | none => none := rfl
theorem ev_litH {n e : Nat} {z : List Value} {ps : List (Nat × Nat × Opd)} : (EOp.litH n e z ps).ev c y fr ⟨lc, h⟩ = match fillA (litCells n z) (evParts fr ps) with
    | some cs => some (.slice (some ⟨h.n, 0, none⟩) n e, ⟨lc, h.push (.cells false cs)⟩)
    | none => none := rfl
theorem ev_store {n : Nat} {a x : Opd} : (EOp.store n a x).ev c y fr m = match opd fr a with
    | .pointer (some p) => if (vcells (opd fr x)).length = n ∧ (vcells (opd fr x)).all cellOk = true then (m.wr p (vcells (opd fr x))).map fun m' => (undef, m') else none
    | _ => none := rfl
theorem ev_eqA {neq : Bool} {ks : List FK} {x z : Opd} : (POp.eqA neq ks x z).ev fr = match opd fr x, opd fr z with
    | .agg xs, .agg ys => (eqCells ks xs.toList ys.toList).map fun b => .bool (if neq then !b else b)
    | _, _ => none := rfl
theorem eqCells_two {k : IntKind} {a b a' b' : Int} : eqCells [.int, .int] [.int k a, .int k b] [.int k a', .int k b'] = some (decide (a = a' ∧ b = b')) := by
  simp only [eqCells, if_true]
  by_cases h1 : a = a'
  · subst h1
    by_cases h2 : b = b'
    · subst h2; simp
    · simp [h2]
  · simp [h1]
theorem beqTT : (true == true) = true := rfl
theorem beqTF : (true == false) = false := rfl
theorem beqFT : (false == true) = false := rfl
theorem beqFF : (false == false) = true := rfl
theorem ev_eqk {neq : Bool} {k : EqK} {x z : Opd} : (POp.eqk neq k x z).ev fr = (eqNil k (opd fr x) (opd fr z)).map fun b => .bool (if neq then !b else b) := rfl
theorem ev_nilck {x : Opd} : (POp.nilck x).ev fr = match opd fr x with
    | .pointer (some a) => some (.pointer (some a))
    | .func f a b => (match f with | .func _ => some (.func f a b) | .yield _ => some (.func f a b) | _ => none)
    | _ => none := rfl
theorem ev_build {z : List Value} {ps : List (Nat × Nat × Opd)} : (POp.build z ps).ev fr = (fillA z (evParts fr ps)).map fun cs => .agg cs.toArray := rfl
end
theorem evParts_nil {fr : Fr} : evParts fr [] = [] := rfl
theorem evParts_cons {fr : Fr} {a b : Nat} {x : Opd} {r : List (Nat × Nat × Opd)} : evParts fr ((a, b, x) :: r) = (a, b, opd fr x) :: evParts fr r := rfl
theorem opds_nil {fr : Fr} : opds fr [] = [] := rfl
theorem opds_cons {fr : Fr} {x : Opd} {r : List Opd} : opds fr (x :: r) = opd fr x :: opds fr r := rfl
theorem opd_s {fr : Fr} {n : Nat} : opd fr (.s n) = fget fr n := rfl
theorem opd_c {fr : Fr} {v : Value} : opd fr (.c v) = v := rfl
theorem litCells_mk {n : Nat} {z : List Value} : litCells n z = (List.replicate n z).flatten := rfl
theorem vsame_int {k : IntKind} {n : Int} : vsame (.int k n) (.int k n) = true := by simp [vsame, vsame1, vsame0]
theorem vsame_bool {b : Bool} : vsame (.bool b) (.bool b) = true := by simp [vsame, vsame1, vsame0]
theorem vsame_ptr {a : Option Addr} : vsame (.pointer a) (.pointer a) = true := by simp [vsame, vsame1, vsame0]
theorem vsame_agg {xs : Array Value} (h : vsameL xs.toList xs.toList = true) : vsame (.agg xs) (.agg xs) = true := h
theorem vsame_tuple {xs : Array Value} : vsame (.tuple xs) (.tuple xs) = vsameT xs.toList xs.toList := rfl
theorem vsameT_nil : vsameT [] [] = true := rfl
theorem vsameT_cons {x y : Value} {xs ys : List Value} : vsameT (x :: xs) (y :: ys) = (vsame1 x y && vsameT xs ys) := rfl
theorem vsame1_int {k : IntKind} {n : Int} : vsame1 (.int k n) (.int k n) = true := by simp [vsame1, vsame0]
theorem vsame1_bool {b : Bool} : vsame1 (.bool b) (.bool b) = true := by simp [vsame1, vsame0]
theorem vsame1_ptr {a : Option Addr} : vsame1 (.pointer a) (.pointer a) = true := by simp [vsame1, vsame0]
theorem vsame1_agg {xs ys : Array Value} : vsame1 (.agg xs) (.agg ys) = vsameL xs.toList ys.toList := rfl
theorem bytes_beq_self (s : ByteArray) : (s == s) = true := by obtain ⟨s⟩ := s; show (s == s) = true; simp
theorem vsame1_str {s : ByteArray} : vsame1 (.string s) (.string s) = true := by simp [vsame1, vsame0, bytes_beq_self]
theorem vsame_str {s : ByteArray} : vsame (.string s) (.string s) = true := by simp [vsame, vsame1, vsame0, bytes_beq_self]
theorem Sl.vsame1_val {e : Nat} {s : Sl} : vsame1 (s.val e) (s.val e) = true := by cases s <;> simp [Sl.val, vsame1, vsame0]
theorem vsameL_int {k : IntKind} {n : Int} {r r' : List Value} : vsameL (.int k n :: r) (.int k n :: r') = vsameL r r' := by simp [vsameL, vsame0]
theorem vsameL_nil : vsameL [] [] = true := rfl
def slHi (e : Nat) (v w : Value) : Option Value := (POp.sl e (.c v) none (some (.c w)) none).ev []
def slLo (e : Nat) (v w : Value) : Option Value := (POp.sl e (.c v) (some (.c w)) none none).ev []
theorem ev_slHi {fr : Fr} {e : Nat} {x c : Opd} : (POp.sl e x none (some c) none).ev fr = slHi e (opd fr x) (opd fr c) := rfl
theorem ev_slLo {fr : Fr} {e : Nat} {x c : Opd} : (POp.sl e x (some c) none none).ev fr = slLo e (opd fr x) (opd fr c) := rfl
theorem Sl.slHi_val {e : Nat} {s : Sl} {k : IntKind} {j : Int} (h0 : 0 ≤ j) (h1 : j ≤ s.len) : slHi e (s.val e) (.int k j) = some ((s.take j.toNat).val e) := by
  cases s with
  | nil =>
    have hj : j = 0 := by simp only [Sl.len] at h1; omega
    subst hj
    rfl
  | «at» b o n =>
    simp only [Sl.len] at h1
    simp only [slHi, POp.ev, opd, Sl.val, optInt, asNat, Sl.take, ptrOff]
    rw [if_pos ⟨by omega, by omega, by omega, by omega, trivial, rfl⟩]
    simp
theorem Sl.slLo_val {e : Nat} {s : Sl} {k : IntKind} {j : Int} (h0 : 0 ≤ j) (h1 : j ≤ s.len) : slLo e (s.val e) (.int k j) = some ((s.drop e j.toNat).val e) := by
  cases s with
  | nil =>
    have hj : j = 0 := by simp only [Sl.len] at h1; omega
    subst hj
    rfl
  | «at» b o n =>
    simp only [Sl.len] at h1
    simp only [slLo, POp.ev, opd, Sl.val, optInt, asNat, Sl.drop, ptrOff]
    rw [if_pos ⟨by omega, by omega, by omega, by omega, trivial, rfl⟩]
    simp
theorem Reads.take {h : AH} {e : Nat} {s : Sl} {xss : List (List Value)} (r : Reads h e s xss) {k : Nat} (hk : k ≤ xss.length) : Reads h e (s.take k) (xss.take k) := by
  obtain ⟨h1, h2, h3⟩ := r
  cases s with
  | nil =>
    have hx : xss = [] := List.eq_nil_of_length_eq_zero (by simpa [Sl.len] using h1.symm)
    subst hx
    simp [Reads, Sl.take, Sl.len]
  | «at» b o n =>
    simp only [Sl.len] at h1
    refine ⟨by simp only [Sl.take, Sl.len, List.length_take]; omega, fun x hx => h2 x (List.mem_of_mem_take hx), ?_⟩
    rcases Nat.eq_zero_or_pos k with hk0 | hk0
    · exact .inl hk0
    obtain ⟨ro, pre, post, h4, h5⟩ := h3.resolve_left (by omega)
    refine .inr ⟨ro, pre, (xss.drop k).flatten ++ post, ?_, h5⟩
    rw [h4]
    have := congrArg List.flatten (List.take_append_drop k xss)
    rw [List.flatten_append] at this
    rw [← this]
    simp only [List.append_assoc]
theorem Reads.drop {h : AH} {e : Nat} {s : Sl} {xss : List (List Value)} (r : Reads h e s xss) {k : Nat} (hk : k ≤ xss.length) : Reads h e (s.drop e k) (xss.drop k) := by
  obtain ⟨h1, h2, h3⟩ := r
  cases s with
  | nil =>
    have hx : xss = [] := List.eq_nil_of_length_eq_zero (by simpa [Sl.len] using h1.symm)
    subst hx
    simp [Reads, Sl.drop, Sl.len]
  | «at» b o n =>
    simp only [Sl.len] at h1
    refine ⟨by simp only [Sl.drop, Sl.len, List.length_drop]; omega, fun x hx => h2 x (List.mem_of_mem_drop hx), ?_⟩
    rcases Nat.eq_zero_or_pos (n - k) with hk0 | hk0
    · exact .inl hk0
    obtain ⟨ro, pre, post, h4, h5⟩ := h3.resolve_left (by omega)
    refine .inr ⟨ro, pre ++ (xss.take k).flatten, post, ?_, ?_⟩
    · rw [h4]
      have := congrArg List.flatten (List.take_append_drop k xss)
      rw [List.flatten_append] at this
      rw [← this]
      simp only [List.append_assoc]
    · rw [List.length_append, h5, flatten_len (fun x hx => h2 x (List.mem_of_mem_take hx)), List.length_take, Nat.min_eq_left hk]
theorem rdSlice_reads {lc : Lc} {h : AH} {e : Nat} {s : Sl} {xss : List (List Value)} (r : Reads h e s xss) : rdSlice ⟨lc, h⟩ e (s.val e) = some xss.flatten := by
  obtain ⟨h1, h2, h3⟩ := r
  cases s with
  | nil =>
    have hx : xss = [] := List.eq_nil_of_length_eq_zero (by simpa [Sl.len] using h1.symm)
    subst hx
    rfl
  | «at» b o n =>
    simp only [Sl.len] at h1
    have hl := flatten_len h2
    show (if n = 0 then some [] else Mem.rd ⟨lc, h⟩ ⟨b, o, none⟩ (n * e)) = _
    rcases Nat.eq_zero_or_pos n with hk0 | hk0
    · have hx : xss = [] := List.eq_nil_of_length_eq_zero (by omega)
      subst hx
      rw [if_pos hk0]; rfl
    obtain ⟨ro, pre, post, h4, h5⟩ := h3.resolve_left (by omega)
    rw [if_neg (by omega), rd_heap, h4]
    simp only [List.length_append, hl, h5, h1]
    rw [if_pos (by omega), ← h5, List.append_assoc, List.drop_left, ← hl, List.take_left]
theorem isLoc_int {k : IntKind} {n : Int} : isLoc (.int k n) = false := rfl
theorem settle_int {k : IntKind} {n : Int} {i : Nat} : settle1 i (.int k n) = some (.int k n) := rfl
theorem isLoc_bool {b : Bool} : isLoc (.bool b) = false := rfl
theorem settle_bool {b : Bool} {i : Nat} : settle1 i (.bool b) = some (.bool b) := rfl
theorem isLoc_str {x : ByteArray} : isLoc (.string x) = false := rfl
theorem settle_str {x : ByteArray} {i : Nat} : settle1 i (.string x) = some (.string x) := rfl
theorem isLoc_ptr {b o : Nat} : isLoc (.pointer (some ⟨b, o, none⟩)) = false := rfl
theorem settle_ptr {b o : Nat} {i : Nat} : settle1 i (.pointer (some ⟨b, o, none⟩)) = some (.pointer (some ⟨b, o, none⟩)) := rfl
theorem isLoc_ptr0 : isLoc (.pointer none) = false := rfl
theorem settle_ptr0 {i : Nat} : settle1 i (.pointer none) = some (.pointer none) := rfl
theorem isLoc_slice0 {n k : Nat} : isLoc (.slice none n k) = false := rfl
theorem settle_slice0 {n k : Nat} {i : Nat} : settle1 i (.slice none n k) = some (.slice none n k) := rfl
theorem isLoc_agg {x : Array Value} : isLoc (.agg x) = false := rfl
theorem settle_agg {x : Array Value} {i : Nat} : settle1 i (.agg x) = some (.agg x) := rfl
theorem isLoc_tuple {x : Array Value} : isLoc (.tuple x) = false := rfl
theorem settle_tuple {x : Array Value} {i : Nat} : settle1 i (.tuple x) = some (.tuple x) := rfl
theorem isLoc_func {f : Fn} {x y : Array Value} : isLoc (.func f x y) = false := rfl
theorem settle_func {f : Fn} {x y : Array Value} {i : Nat} : settle1 i (.func f x y) = some (.func f x y) := rfl
theorem isLoc_nilF : isLoc (.nilFunc) = false := rfl
theorem settle_nilF {i : Nat} : settle1 i (.nilFunc) = some (.nilFunc) := rfl
theorem isLoc_map {m : Option Nat} : isLoc (.map m) = false := rfl
theorem settle_map {m : Option Nat} {i : Nat} : settle1 i (.map m) = some (.map m) := rfl
theorem isLoc_iface {t : TypeId} {v : Value} : isLoc (.iface t v) = false := rfl
theorem settle_iface {t : TypeId} {v : Value} {i : Nat} : settle1 i (.iface t v) = some (.iface t v) := rfl
theorem isLoc_nilI : isLoc (.nilIface) = false := rfl
theorem settle_nilI {i : Nat} : settle1 i (.nilIface) = some (.nilIface) := rfl
theorem isLoc_chan {m : Option Nat} : isLoc (.chan m) = false := rfl
theorem settle_chan {m : Option Nat} {i : Nat} : settle1 i (.chan m) = some (.chan m) := rfl
theorem settle_loc {i b o : Nat} : settle1 i (.pointer (some ⟨b, o, some 1⟩)) = if (b = 2 * i + 1 ∨ b = 2 * i) ∧ o = 0 then some (.pointer (some ⟨2 * i, 0, some 1⟩)) else none := rfl
theorem settle_sl1 {i b o n k : Nat} : settle1 i (.slice (some ⟨b, o, none⟩) n k) = some (.slice (some ⟨b, o, none⟩) n k) := rfl
theorem isLoc_sl1 {b o n k : Nat} : isLoc (.slice (some ⟨b, o, none⟩) n k) = false := rfl
theorem okV_eq {v : Value} : okV v = !isLoc v := rfl
attribute [push_cast] isLoc_int settle_int isLoc_bool settle_bool isLoc_str settle_str isLoc_ptr settle_ptr isLoc_ptr0 settle_ptr0 isLoc_slice0 settle_slice0 isLoc_agg settle_agg isLoc_tuple settle_tuple isLoc_func settle_func isLoc_nilF settle_nilF isLoc_map settle_map isLoc_iface settle_iface isLoc_nilI settle_nilI isLoc_chan settle_chan settle_loc settle_sl1 isLoc_sl1 okV_eq
def lc1 (lc : Lc) (i : Nat) (v : Value) (r : Lc) : Lc :=
  match v with
  | .pointer (some a) => match a.spot, lget lc a.block with
    | some _, some o => (2 * i, o) :: r
    | _, _ => r
  | _ => r
theorem keepLc_cons {fr : Fr} {lc : Lc} {i : Nat} {r : List Nat} : keepLc fr lc (i :: r) = lc1 lc i (fget fr i) (keepLc fr lc r) := rfl
theorem keepLc_nil {fr : Fr} {lc : Lc} : keepLc fr lc [] = [] := rfl
theorem lc1_val {lc : Lc} {i e : Nat} {s : Sl} {r : Lc} : lc1 lc i (s.val e) r = r := by cases s <;> rfl
theorem lc1_loc {lc : Lc} {i b o k : Nat} {r : Lc} : lc1 lc i (.pointer (some ⟨b, o, some k⟩)) r = match lget lc b with | some x => (2 * i, x) :: r | none => r := by
  simp only [lc1]
  cases lget lc b <;> rfl
theorem lc1_int {k : IntKind} {n : Int} {lc : Lc} {i : Nat} {r : Lc} : lc1 lc i (.int k n) r = r := rfl
theorem lc1_bool {b : Bool} {lc : Lc} {i : Nat} {r : Lc} : lc1 lc i (.bool b) r = r := rfl
theorem lc1_str {x : ByteArray} {lc : Lc} {i : Nat} {r : Lc} : lc1 lc i (.string x) r = r := rfl
theorem lc1_ptr {b o : Nat} {lc : Lc} {i : Nat} {r : Lc} : lc1 lc i (.pointer (some ⟨b, o, none⟩)) r = r := rfl
theorem lc1_ptr0 {lc : Lc} {i : Nat} {r : Lc} : lc1 lc i (.pointer none) r = r := rfl
theorem lc1_slice {a : Option Addr} {n k : Nat} {lc : Lc} {i : Nat} {r : Lc} : lc1 lc i (.slice a n k) r = r := rfl
theorem lc1_agg {x : Array Value} {lc : Lc} {i : Nat} {r : Lc} : lc1 lc i (.agg x) r = r := rfl
theorem lc1_tuple {x : Array Value} {lc : Lc} {i : Nat} {r : Lc} : lc1 lc i (.tuple x) r = r := rfl
theorem lc1_func {f : Fn} {x y : Array Value} {lc : Lc} {i : Nat} {r : Lc} : lc1 lc i (.func f x y) r = r := rfl
theorem lc1_nilF {lc : Lc} {i : Nat} {r : Lc} : lc1 lc i (.nilFunc) r = r := rfl
theorem lc1_map {m : Option Nat} {lc : Lc} {i : Nat} {r : Lc} : lc1 lc i (.map m) r = r := rfl
theorem lc1_iface {t : TypeId} {v : Value} {lc : Lc} {i : Nat} {r : Lc} : lc1 lc i (.iface t v) r = r := rfl
theorem lc1_nilI {lc : Lc} {i : Nat} {r : Lc} : lc1 lc i (.nilIface) r = r := rfl
theorem lc1_chan {m : Option Nat} {lc : Lc} {i : Nat} {r : Lc} : lc1 lc i (.chan m) r = r := rfl
attribute [push_cast] argsR keepR keepLc_cons keepLc_nil lc1_val lc1_loc lc1_int lc1_bool lc1_str lc1_ptr lc1_ptr0 lc1_slice lc1_agg lc1_tuple lc1_func lc1_nilF lc1_map lc1_iface lc1_nilI lc1_chan
attribute [push_cast] ev_eqk eqNil Option.isNone_none Option.isNone_some beqTT beqTF beqFT beqFF ev_nilck List.getElem?_toArray List.getElem_toArray List.getElem_cons_zero List.getElem_cons_succ decide_true decide_false ev_slHi ev_slLo Sl.slHi_val Sl.slLo_val ev_iaddr ev_eqA eqCells_two Int.toNat_natCast rdSlice lenV Sl.lenV_val
attribute [push_cast] ev_mv ev_bin ev_un ev_mm ev_len ev_conv ev_pick ev_ext opd_s opd_c opds_nil opds_cons List.map_cons List.map_nil fget Nat.one_ne_zero Nat.zero_ne_one eq_self if_true if_false
  Bool.false_eq_true binA_add binA_sub binA_mul binA_lss binA_leq binA_gtr binA_geq binA_eql binA_neq unA_not unA_neg mm2_max mm2_min wrap_i64 wrap_i32 Sl.lenP_val Bool.not_true
  Bool.not_false Bool.not_not Sl.iaddr_val ptrOff_mk loc_mk ev_faddr ev_fld partA_one partA_more ev_load1 ev_loadn rd_loc rd_heap wr_loc wr_heap vcells_agg vcells_int vcells_bool
  vcells_str vcells_ptr vcells_slice cellOk_int cellOk_bool cellOk_str cellOk_ptr cellOk_ptr0 cellOk_slice0 Sl.vcells_val Sl.cellOk_val newLoc_mk ev_newL ev_newH ev_boxL ev_boxH
  ev_litL ev_litH ev_store ev_build litCells_mk fillA evParts_nil evParts_cons lget setAll Option.map_some List.length_cons List.length_nil List.all_cons List.all_nil Bool.and_true Bool.and_self
  and_self and_true true_and Nat.zero_add Nat.add_zero Nat.le_refl List.drop_succ_cons List.drop_zero List.take_succ_cons List.take_zero List.set_cons_zero List.set_cons_succ
  List.getElem?_cons_zero List.getElem?_cons_succ List.replicate_succ List.replicate_zero List.flatten_cons List.flatten_nil List.append_nil List.nil_append List.cons_append
  List.toList_toArray keepFr Option.isSome_some Option.isSome_none or_true true_or Sl.settle_val Sl.isLoc_val retV resAll resA chkT chk1 wantedA
  List.reverse_cons List.reverse_nil vsame_int vsame_bool vsame_ptr vsame_agg vsameL_int vsameL_nil Sl.vsame_val vsame_tuple vsameT_nil vsameT_cons vsame1_int vsame1_bool vsame1_ptr vsame1_agg vsame1_str vsame_str Sl.vsame1_val
end Go.Proofs.YtblmakgjdenpfaaDoor.AM
namespace Go.Proofs.YtblmakgjdenpfaaDoor.AM
open Go
theorem rd_map {α : Type} {f : α → List Value} {l : List α} {lc : Lc} {h : AH} {e : Nat} {s : Sl} (r : Reads h e s (l.map f)) {i : Nat} (hi : i < l.length) : Mem.rd ⟨lc, h⟩ (s.adr e i) e = some (f l[i]) := by
  have := rd_reads (lc := lc) r (i := i) (by simpa using hi)
  simpa using this
theorem rd_mapc {α : Type} {f : α → List Value} {l : List α} {lc : Lc} {h : AH} {e : Nat} {s : Sl} (r : Reads h e s (l.map f)) {i k : Nat} (hi : i < l.length) (hk : k < e) :
    Mem.rd ⟨lc, h⟩ (ptrOff (s.adr e i) k) 1 = some (((f l[i]).drop k).take 1) := by
  have hl : (f l[i]).length = e := r.2.1 _ (List.mem_map.2 ⟨l[i], List.getElem_mem hi, rfl⟩)
  have := rd_cell (lc := lc) r (i := i) (f := k) (by simpa using hi) (by simpa [hl] using hk)
  rw [this]
  simp only [List.getElem_map]
  rw [List.drop_eq_getElem_cons (by omega), List.take_succ_cons, List.take_zero]
theorem Reads.len {α : Type} {f : α → List Value} {l : List α} {h : AH} {e : Nat} {s : Sl} (r : Reads h e s (l.map f)) : s.len = l.length := by simpa using r.1
theorem setAll_eq : ∀ (vs pre old post : List Value), vs.length = old.length → setAll (pre ++ old ++ post) pre.length vs = pre ++ vs ++ post
  | [], pre, [], post, _ => by simp [setAll]
  | v :: vs, pre, o :: old, post, h => by
    have h' : vs.length = old.length := by simpa using h
    simp only [setAll, List.append_assoc, List.cons_append]
    rw [List.set_append_right _ _ (Nat.le_refl _), Nat.sub_self, List.set_cons_zero]
    have := setAll_eq vs (pre ++ [v]) old post h'
    simp only [List.length_append, List.length_singleton, List.append_assoc, List.singleton_append] at this
    exact this
  | [], _, _ :: _, _, h => by simp at h
  | _ :: _, _, [], _, h => by simp at h
theorem flatten_split {e : Nat} {xss : List (List Value)} (h : ∀ x ∈ xss, x.length = e) {i : Nat} (hi : i < xss.length) :
    xss.flatten = (xss.take i).flatten ++ xss[i] ++ (xss.drop (i + 1)).flatten ∧ (xss.take i).flatten.length = i * e := by
  constructor
  · have hx : xss = xss.take i ++ xss[i] :: xss.drop (i + 1) := by rw [← List.drop_eq_getElem_cons hi, List.take_append_drop]
    have := congrArg List.flatten hx
    simp only [List.flatten_append, List.flatten_cons] at this
    rw [this]
    simp only [List.append_assoc]
  · rw [flatten_len (fun x hx => h x (List.mem_of_mem_take hx)), List.length_take, Nat.min_eq_left (by omega)]
theorem set_flatten {e : Nat} {xss : List (List Value)} (h : ∀ x ∈ xss, x.length = e) {i : Nat} (hi : i < xss.length) {vs : List Value} :
    (xss.set i vs).flatten = (xss.take i).flatten ++ vs ++ (xss.drop (i + 1)).flatten := by
  rw [List.set_eq_take_append_cons_drop, if_pos hi]
  simp
theorem own_set {h : AH} {e : Nat} {s : Sl} {xss : List (List Value)} (ho : Own h e s xss) {i : Nat} (hi : i < xss.length) {vs : List Value} (hv : vs.length = e) :
    ∃ h', (∀ lc, Mem.wr ⟨lc, h⟩ (s.adr e i) vs = some ⟨lc, h'⟩) ∧ Own h' e s (xss.set i vs) ∧ h'.n = h.n ∧ ∀ b, s.blk ≠ some b → h'.get b = h.get b := by
  obtain ⟨h1, h2, h3⟩ := ho
  cases s with
  | nil => simp [Sl.len] at h1; omega
  | «at» b o n =>
    obtain ⟨pre, h4, h5⟩ := h3
    obtain ⟨f1, f2⟩ := flatten_split h2 hi
    have hl := flatten_len h2
    have hie : i * e + e ≤ xss.length * e := by
      have : (i + 1) * e ≤ xss.length * e := Nat.mul_le_mul_right e hi
      rw [Nat.add_mul] at this; omega
    refine ⟨h.set b (.cells false (pre ++ (xss.set i vs).flatten)), fun lc => ?_, ⟨by simpa using h1, ?_, pre, AH.get_set_same _ (AH.get_lt h4), h5⟩, rfl, fun b' hb => AH.get_set_ne _ (fun e => hb (by rw [e]; rfl))⟩
    · show Mem.wr ⟨lc, h⟩ ⟨b, o + i * e, none⟩ vs = _
      rw [wr_heap, h4]
      simp only [List.length_append, hl, h5]
      rw [if_pos (by omega), set_flatten h2 hi, f1]
      have hel : (xss[i]).length = e := h2 _ (List.getElem_mem hi)
      have := setAll_eq vs (pre ++ (xss.take i).flatten) xss[i] (xss.drop (i + 1)).flatten (by omega)
      simp only [List.length_append, f2, h5, List.append_assoc] at this
      simp only [List.append_assoc, this]
    · intro x hx
      rcases List.mem_or_eq_of_mem_set hx with h' | h'
      · exact h2 x h'
      · rw [h', hv]
theorem own_append {h : AH} {e by' : Nat} {s : Sl} {xss yss : List (List Value)} (ho : Own h e s xss) {y : Value} {lc : Lc} {k : Nat} (hk : lenV y = some k) (hy : rdSlice ⟨lc, h⟩ e y = some yss.flatten)
    (hyl : yss.length = k) (hye : ∀ x ∈ yss, x.length = e) (k0 : 0 < k) (he : 0 < e) (hb : 0 < by') (hn : (xss.length + k) * by' ≤ 140737488355328) :
    ∃ s' h', appendA e by' ⟨lc, h⟩ (s.val e) y = some (s'.val e, ⟨lc, h'⟩) ∧ Own h' e s' (xss ++ yss) ∧ s'.blk = some h.n ∧ h'.n = h.n + 1 ∧ ∀ b, b < h.n → s.blk ≠ some b → h'.get b = h.get b := by
  obtain ⟨h1, h2, h3⟩ := ho
  have hyf : yss.flatten.length = k * e := by rw [flatten_len hye, hyl]
  have hall : ∀ x ∈ xss ++ yss, x.length = e := fun x hx => (List.mem_append.1 hx).elim (h2 x) (hye x)
  cases s with
  | nil =>
    have hx : xss = [] := List.eq_nil_of_length_eq_zero (by simpa [Sl.len] using h1.symm)
    subst hx
    simp only [List.length_nil, Nat.zero_add] at hn
    refine ⟨.at h.n 0 k, h.push (.cells false yss.flatten), ?_, ⟨by simp [Sl.len, hyl], hall, [], by simpa using AH.get_push_same h _, rfl⟩, rfl, rfl, fun b hb' _ => AH.get_push_ne _ (by omega)⟩
    simp only [appendA, hk, hy, hyf, if_true, Sl.val]
    rw [if_neg (by omega), if_pos ⟨hn, hb, he⟩]
  | «at» b o n =>
    obtain ⟨pre, h4, h5⟩ := h3
    simp only [Sl.len] at h1
    subst h1
    have hl := flatten_len h2
    have hbn := AH.get_lt h4
    refine ⟨.at h.n 0 (xss.length + k), (h.kill b).push (.cells false (xss.flatten ++ yss.flatten)), ?_, ⟨by simp [Sl.len, hyl], hall, [], by simpa using AH.get_push_same (h.kill b) _, rfl⟩, rfl, rfl, fun b' hb' hne => ?_⟩
    · simp only [appendA, hk, hy, hyf, if_true, Sl.val]
      rw [if_neg (by omega)]
      simp only [h4]
      rw [if_pos ⟨by simp only [List.length_append, hl, h5], hn, hb, he, trivial⟩, ← h5, List.drop_left]
    · rw [AH.get_push_ne _ (by simpa using Nat.ne_of_lt hb'), AH.get_kill_ne (fun e => hne (by rw [e]; rfl))]
structure FOwn (h0 h : AH) (e : Nat) (s : Sl) (xss : List (List Value)) : Prop where
  own : Own h e s xss
  kp : Kp h0 h
  new : ∀ b, s.blk = some b → h0.n ≤ b
theorem FOwn.reads {h0 h : AH} {e : Nat} {s : Sl} {xss : List (List Value)} (f : FOwn h0 h e s xss) : Reads h e s xss := f.own.reads
theorem FOwn.nil {h0 h : AH} {e : Nat} (k : Kp h0 h) : FOwn h0 h e .nil [] := ⟨⟨rfl, by simp, trivial⟩, k, fun b hb => by cases hb⟩
theorem FOwn.set {h0 h : AH} {e : Nat} {s : Sl} {xss : List (List Value)} (f : FOwn h0 h e s xss) {i : Nat} (hi : i < xss.length) {vs : List Value} (hv : vs.length = e) :
    ∃ h', (∀ lc, Mem.wr ⟨lc, h⟩ (s.adr e i) vs = some ⟨lc, h'⟩) ∧ FOwn h0 h' e s (xss.set i vs) := by
  obtain ⟨h', a, b, c, d⟩ := own_set f.own hi hv
  exact ⟨h', a, b, ⟨by rw [c]; exact f.kp.1, fun b' hb => (d b' (fun e => by have := f.new _ e; omega)).trans (f.kp.2 b' hb)⟩, f.new⟩
theorem FOwn.append {h0 h : AH} {e by' : Nat} {s : Sl} {xss yss : List (List Value)} (f : FOwn h0 h e s xss) {y : Value} {lc : Lc} {k : Nat} (hk : lenV y = some k) (hy : rdSlice ⟨lc, h⟩ e y = some yss.flatten)
    (hyl : yss.length = k) (hye : ∀ x ∈ yss, x.length = e) (k0 : 0 < k) (he : 0 < e) (hb : 0 < by') (hn : (xss.length + k) * by' ≤ 140737488355328) :
    ∃ s' h', appendA e by' ⟨lc, h⟩ (s.val e) y = some (s'.val e, ⟨lc, h'⟩) ∧ FOwn h0 h' e s' (xss ++ yss) := by
  obtain ⟨s', h', a, b, c, d, g⟩ := own_append f.own hk hy hyl hye k0 he hb hn
  exact ⟨s', h', a, b, ⟨by have := f.kp.1; omega, fun b' hb => (g b' (by have := f.kp.1; omega) (fun e => by have := f.new _ e; omega)).trans (f.kp.2 b' hb)⟩, fun b' hb => by
    rw [c] at hb; injection hb with hb; have := f.kp.1; omega⟩
theorem FOwn.make {h0 h : AH} {e : Nat} (k : Kp h0 h) {n : Nat} {z : List Value} (hz : z.length = e) : FOwn h0 (h.push (.cells false (litCells n z))) e (.at h.n 0 n) (List.replicate n z) where
  own := ⟨by rw [List.length_replicate]; rfl, fun x hx => by rw [(List.mem_replicate.1 hx).2]; exact hz, [], by simpa only [litCells, List.nil_append] using AH.get_push_same h _, rfl⟩
  kp := ⟨by have := k.1; simp; omega, fun b hb => (AH.get_push_ne _ (by have := k.1; omega)).trans (k.2 b hb)⟩
  new := fun b hb => by injection hb with hb; have := k.1; omega
variable {p : Prg} {fr : Fr} {lc : Lc} {h h0 : AH}
variable {T : List (Fr × Mem) → Prop} {keep : List Nat} {r : List LInstr} {tr : List (Fr × Mem)} {K : Fr → Lc → AH → Prop} {d : Nat} {v : Value}
theorem own_copy {h : AH} {e : Nat} {s : Sl} {xss yss : List (List Value)} (ho : Own h e s xss) (hy : ∀ x ∈ yss, x.length = e) (hl : yss.length ≤ xss.length) (h0 : 0 < yss.length) :
    ∃ h', (∀ lc, ∃ b o, s = .at b o xss.length ∧ Mem.wr ⟨lc, h⟩ ⟨b, o, none⟩ yss.flatten = some ⟨lc, h'⟩) ∧ Own h' e s (yss ++ xss.drop yss.length) ∧ h'.n = h.n ∧ ∀ b, s.blk ≠ some b → h'.get b = h.get b := by
  obtain ⟨h1, h2, h3⟩ := ho
  cases s with
  | nil => simp [Sl.len] at h1; omega
  | «at» b o n =>
    obtain ⟨pre, h4, h5⟩ := h3
    simp only [Sl.len] at h1
    subst h1
    have hlx := flatten_len h2
    have hly := flatten_len hy
    have hle : yss.length * e ≤ xss.length * e := Nat.mul_le_mul_right e hl
    refine ⟨h.set b (.cells false (pre ++ (yss ++ xss.drop yss.length).flatten)), fun lc => ⟨b, o, rfl, ?_⟩, ⟨?_, ?_, pre, AH.get_set_same _ (AH.get_lt h4), h5⟩, rfl, fun b' hb => AH.get_set_ne _ (fun e => hb (by rw [e]; rfl))⟩
    · rw [wr_heap, h4]
      simp only [List.length_append, hlx, hly, h5]
      rw [if_pos (by omega)]
      have hx := congrArg List.flatten (List.take_append_drop yss.length xss)
      rw [List.flatten_append] at hx
      have ht : (xss.take yss.length).flatten.length = yss.length * e := by
        rw [flatten_len (fun x hx => h2 x (List.mem_of_mem_take hx)), List.length_take, Nat.min_eq_left hl]
      have := setAll_eq yss.flatten pre (xss.take yss.length).flatten (xss.drop yss.length).flatten (by omega)
      rw [List.append_assoc, hx, h5] at this
      rw [this, List.flatten_append, List.append_assoc]
    · simp only [Sl.len, List.length_append, List.length_drop]; omega
    · intro x hx
      rcases List.mem_append.1 hx with h' | h'
      · exact hy x h'
      · exact h2 x (List.mem_of_mem_drop h')
theorem FOwn.copy {h0 h : AH} {e : Nat} {s : Sl} {xss yss : List (List Value)} (f : FOwn h0 h e s xss) (hy : ∀ x ∈ yss, x.length = e) (hl : yss.length ≤ xss.length) (hp : 0 < yss.length) :
    ∃ h', (∀ lc, ∃ b o, s = .at b o xss.length ∧ Mem.wr ⟨lc, h⟩ ⟨b, o, none⟩ yss.flatten = some ⟨lc, h'⟩) ∧ FOwn h0 h' e s (yss ++ xss.drop yss.length) := by
  obtain ⟨h', a, b, c, d⟩ := own_copy f.own hy hl hp
  exact ⟨h', a, b, ⟨by rw [c]; exact f.kp.1, fun b' hb => (d b' (fun e => by have := f.new _ e; omega)).trans (f.kp.2 b' hb)⟩, f.new⟩
theorem own_set1 {h : AH} {e : Nat} {s : Sl} {xss : List (List Value)} (ho : Own h e s xss) {i k : Nat} (hi : i < xss.length) (hk : k < e) (v : Value) :
    ∃ h', (∀ lc, Mem.wr ⟨lc, h⟩ (ptrOff (s.adr e i) k) [v] = some ⟨lc, h'⟩) ∧ Own h' e s (xss.set i ((xss[i]).set k v)) ∧ h'.n = h.n ∧ ∀ b, s.blk ≠ some b → h'.get b = h.get b := by
  have hel : (xss[i]).length = e := ho.2.1 _ (List.getElem_mem hi)
  obtain ⟨h', a, b, c, d⟩ := own_set ho hi (vs := (xss[i]).set k v) (by simpa using hel)
  refine ⟨h', fun lc => ?_, b, c, d⟩
  have ha := a lc
  obtain ⟨h1, h2, h3⟩ := ho
  cases s with
  | nil => simp [Sl.len] at h1; omega
  | «at» bb o n =>
    obtain ⟨pre, h4, h5⟩ := h3
    obtain ⟨f1, f2⟩ := flatten_split h2 hi
    have hl := flatten_len h2
    have hie : i * e + e ≤ xss.length * e := by
      have : (i + 1) * e ≤ xss.length * e := Nat.mul_le_mul_right e hi
      rw [Nat.add_mul] at this; omega
    have ha' : Mem.wr ⟨lc, h⟩ ⟨bb, o + i * e, none⟩ ((xss[i]).set k v) = some ⟨lc, h'⟩ := ha
    show Mem.wr ⟨lc, h⟩ ⟨bb, o + i * e + k, none⟩ [v] = _
    rw [wr_heap, h4] at ha' ⊢
    simp only [List.length_append, hl, h5, List.length_set, hel, List.length_singleton] at ha' ⊢
    rw [if_pos (by omega)] at ha' ⊢
    rw [← ha']
    congr 4
    have hx : (xss[i]).take k ++ ((xss[i])[k] :: (xss[i]).drop (k + 1)) = xss[i] := by
      rw [← List.drop_eq_getElem_cons (by omega), List.take_append_drop]
    have s1 := setAll_eq [v] (pre ++ (xss.take i).flatten ++ (xss[i]).take k) [(xss[i])[k]] ((xss[i]).drop (k + 1) ++ (xss.drop (i + 1)).flatten) rfl
    have s2 := setAll_eq ((xss[i]).set k v) (pre ++ (xss.take i).flatten) xss[i] (xss.drop (i + 1)).flatten (by simp)
    simp only [List.length_append, f2, h5, List.length_take, hel] at s1 s2
    rw [Nat.min_eq_left (by omega)] at s1
    have e1 : pre ++ xss.flatten = pre ++ (xss.take i).flatten ++ (xss[i]).take k ++ [(xss[i])[k]] ++ ((xss[i]).drop (k + 1) ++ (xss.drop (i + 1)).flatten) := by
      rw [f1]
      conv => lhs; rw [← hx]
      simp only [List.append_assoc, List.cons_append, List.nil_append]
    have e2 : pre ++ xss.flatten = pre ++ (xss.take i).flatten ++ xss[i] ++ (xss.drop (i + 1)).flatten := by
      rw [f1]; simp only [List.append_assoc]
    rw [show o + i * e + k = o + i * e + k from rfl, e1, s1, ← e1, e2, s2]
    rw [List.set_eq_take_append_cons_drop, if_pos (by omega)]
    simp only [List.append_assoc, List.cons_append, List.nil_append]
end Go.Proofs.YtblmakgjdenpfaaDoor.AM
namespace Go.Proofs.YtblmakgjdenpfaaDoor.AM
open Go Go.RowKit Go.ChangeShapes Go.WideShapes Go.Deep
theorem calls_of_wpc {P : Program} (hm : P.follows .mixedOrders = true) {p : Prg} {w : World} (hp : PrgOk P w.heap.size p) {f : FuncId} {args : List Value} {h : AH} {b : Bool}
    (hx : WpC p f args h fun v _ => v = .bool b) {ρ : Rho} {argsC : Array Value} (hh : HRel P w.heap.size ρ h w) (ha : VRels ρ args argsC.toList) (hro : ∀ b o, h.get b = some o → o.ro = true) :
    Calls P f argsC w fun e w' => e = .returned (.bool b) ∧ Below w.heap.size w w' := by
  obtain ⟨v, h', h1, rfl⟩ := hx
  obtain ⟨k, hk⟩ := callO_iff.1 h1
  exact calls_of_run hm hp (k := k) (by rw [hk]; rfl) hh ha hro
theorem HRel.ro {P : Program} {B : Nat} {ρ : Rho} {h : AH} {w : World} (hh : HRel P B ρ h w) {c δ N : Nat} {xs : List Value} {cs : Array Value} {t : TypeId} {fz : Nat × Nat} (hc : w.heap[c]? = some (.cells cs t fz)) (hN : cs.size = N) (hl : δ + xs.length ≤ N)
    (hx : CellRel ρ cs δ xs) (hB : c < B) : HRel P B (ρ ++ [(c, δ, N)]) (h.push (.cells true xs)) w where
  len := by simp [hh.len]
  live := fun b o ho => by
    by_cases hb : b = h.n
    · subst hb
      rw [AH.get_push_same] at ho
      injection ho with ho
      subst ho
      exact ⟨c, δ, N, _, by rw [← hh.len]; simp, hc, ⟨hN, hl, (fun h => by cases h), hx.mono (.snoc _ _)⟩, (fun h => by cases h), fun _ => hB⟩
    · rw [AH.get_push_ne _ hb] at ho
      obtain ⟨c', δ', N', x, q1, q2, q3, q4⟩ := hh.live b o ho
      exact ⟨c', δ', N', x, Ext.snoc _ _ _ _ q1, q2, q3.mono (.snoc _ _), q4⟩
  glob := fun g hg => let ⟨N', hN'⟩ := hh.glob g hg; ⟨N', Ext.snoc _ _ _ _ hN'⟩
  inj := fun b b' o o' c1 δ1 N1 c2 δ2 N2 h1 h2 hne hro e1 e2 => by
    by_cases hb : b = h.n
    · subst hb
      rw [AH.get_push_same] at h1
      injection h1 with h1
      subst h1
      cases hro
    · rw [AH.get_push_ne _ hb] at h1
      have hbl : b < h.n := AH.get_lt h1
      have e1' : ρ[b]? = some (c1, δ1, N1) := by
        rw [List.getElem?_append_left (by rw [hh.len]; exact hbl)] at e1; exact e1
      by_cases hb' : b' = h.n
      · subst hb'
        rw [← hh.len] at e2
        simp only [List.getElem?_append_right (Nat.le_refl _), Nat.sub_self, List.getElem?_cons_zero, Option.some.injEq, Prod.mk.injEq] at e2
        obtain ⟨rfl, rfl, rfl⟩ := e2
        obtain ⟨c', δ', N', x, q1, q2, q3, q4, q5⟩ := hh.live b o h1
        rw [e1'] at q1
        injection q1 with q1
        injection q1 with q1 _
        have := q4 hro
        omega
      · rw [AH.get_push_ne _ hb'] at h2
        have e2' : ρ[b']? = some (c2, δ2, N2) := by
          rw [List.getElem?_append_left (by rw [hh.len]; exact AH.get_lt h2)] at e2; exact e2
        exact hh.inj b b' o o' c1 δ1 N1 c2 δ2 N2 h1 h2 hne hro e1' e2'
def pairV (x : Int × Int) : List Value := [.int .i32 x.1, .int .i32 x.2]
theorem has_i32 {n : Int} (h : (Lit.int .i32 n).wf = true) : -2147483648 ≤ n ∧ n < 2147483648 := by
  simp only [Lit.wf, IntKind.has, IntKind.min, IntKind.max, IntKind.signed, IntKind.bits, Bool.and_eq_true, decide_eq_true_eq, if_true] at h
  omega
end Go.Proofs.YtblmakgjdenpfaaDoor.AM
namespace Go.Proofs.YtblmakgjdenpfaaDoor.AM
open Go
variable {p : Prg} {fr : Fr} {lc : Lc} {h : AH} {Q : Post}
variable {T : List (Fr × Mem) → Prop} {keep : List Nat} {r : List LInstr} {tr : List (Fr × Mem)} {K : Fr → Lc → AH → Prop} {d : Nat} {v : Value}
noncomputable def callV (p : Prg) (f : Value) (args : List Value) (h : AH) : Option (Value × AH) :=
  match f with
  | .func (.func g) first captured => callO p g (first.toList ++ args ++ captured.toList) h
  | .func (.yield l) first _ => if first.size = 0 then yieldO p l args h else none
  | _ => none
structure WpV (p : Prg) (f : Value) (args : List Value) (h : AH) (Q : Value → AH → Prop) : Prop where
  out : ∃ v h', callV p f args h = some (v, h') ∧ Q v h'
theorem WpV.mono {f : Value} {args : List Value} {C C' : Value → AH → Prop} (hq : WpV p f args h C) (hm : ∀ v h', C v h' → C' v h') : WpV p f args h C' :=
  let ⟨v, h', h1, h2⟩ := hq
  ⟨v, h', h1, hm _ _ h2⟩
theorem WpV.fn {g : FuncId} {a b : Array Value} {args : List Value} {C : Value → AH → Prop} (hq : WpV p (.func (.func g) a b) args h C) : WpC p g (a.toList ++ args ++ b.toList) h C :=
  let ⟨v, h', h1, h2⟩ := hq
  ⟨v, h', h1, h2⟩
theorem ev_callV {f : Opd} {xs : List Opd} {fv : Value} {asx : List Value} {v : Value} {h' : AH} (hf : opd fr f = fv) (ha : opds fr xs = asx) (hok : asx.all okV = true) (hc : callV p fv asx h = some (v, h')) :
    (EOp.callv f xs).ev (callO p) (yieldO p) fr ⟨lc, h⟩ = some (v, ⟨lc, h'⟩) := by
  simp only [EOp.ev, ha, hok, if_true, hf]
  unfold callV at hc
  split at hc
  · simp only [hc, Option.map_some]
  · rename_i l first x
    split at hc
    · rename_i h0; simp only [h0, if_true, hc, Option.map_some]
    · cases hc
  · cases hc
theorem wpr_callV {f : Opd} {xs : List Opd} {fv : Value} {asx : List Value} (hf : opd fr f = fv) (ha : opds fr xs = asx) (hok : asx.all okV = true)
    (hq : WpV p fv asx h fun v h' => WpR p T keep r ((d, v) :: fr) lc h' ((fr, ⟨lc, h⟩) :: tr) K) :
    WpR p T keep (⟨some d, .e (.callv f xs), none⟩ :: r) fr lc h tr K := by
  obtain ⟨v, h', h1, h2⟩ := hq
  exact wpr_e (ev_callV hf ha hok h1) h2
theorem settle_ok {v : Value} (hv : isLoc v = false) (i : Nat) : settle1 i v = some v := by unfold settle1; rw [if_neg (by rw [hv]; decide)]
theorem lc1_ok {v : Value} (hv : isLoc v = false) (lc : Lc) (i : Nat) (r : Lc) : lc1 lc i v r = r := by
  unfold lc1
  split
  · rename_i a
    simp only [isLoc] at hv
    cases hs : a.spot with
    | none => rfl
    | some k => rw [hs] at hv; cases hv
  · rfl
theorem ev_mkfn {g : FuncId} {a b : List Opd} : (POp.mkfn (.func g) a b).ev fr = if ((opds fr a).all okV && (opds fr b).all okV) = true then some (.func (.func g) (opds fr a).toArray (opds fr b).toArray) else none := rfl
theorem ev_mkif {t : TypeId} {x : Opd} : (POp.mkif t x).ev fr = if okV (opd fr x) = true then some (.iface t (opd fr x)) else none := rfl
attribute [push_cast] ev_mkfn ev_mkif okV_eq
def IsF (v : Value) : Prop := ∃ fn a b, v = .func fn a b
theorem IsF.loc {v : Value} (h : IsF v) : isLoc v = false := by obtain ⟨_, _, _, rfl⟩ := h; rfl
theorem IsF.cell {v : Value} (h : IsF v) : cellOk v = true := by obtain ⟨_, _, _, rfl⟩ := h; rfl
theorem IsF.set {v : Value} (h : IsF v) (i : Nat) : settle1 i v = some v := settle_ok h.loc i
theorem IsF.lc1 {v : Value} (h : IsF v) (lc : Lc) (i : Nat) (r : Lc) : lc1 lc i v r = r := lc1_ok h.loc lc i r
structure PF (T : Nat → Prop) (h h' : AH) : Prop where
  n : h.n ≤ h'.n
  keep : ∀ b, b < h.n → ¬ T b → h'.get b = h.get b
structure Fm (l : Nat) (T : Nat → Prop) (h h' : AH) : Prop where
  n : h.n ≤ h'.n
  keep : ∀ b, b < h.n → ¬ T b → b ≠ l → h'.get b = h.get b
theorem AH.set_n {h : AH} {b : Nat} {o : AObj} : (h.set b o).n = h.n := rfl
theorem AH.push_n {h : AH} {o : AObj} : (h.push o).n = h.n + 1 := rfl
theorem Fm.set {l : Nat} {T : Nat → Prop} {h : AH} (o : AObj) : Fm l T h (h.set l o) := ⟨Nat.le_refl _, fun b _ _ hb => AH.get_set_ne o hb⟩
theorem Fm.kill {l : Nat} {T : Nat → Prop} {h : AH} : Fm l T h (h.kill l) := ⟨Nat.le_refl _, fun b _ _ hb => AH.get_kill_ne hb⟩
theorem Fm.push {l : Nat} {T : Nat → Prop} {h : AH} (o : AObj) : Fm l T h (h.push o) := ⟨by rw [AH.push_n]; omega, fun b hb _ _ => AH.get_push_ne o (by omega)⟩
theorem Kp.push {h0 h : AH} (k : Kp h0 h) (o : AObj) : Kp h0 (h.push o) := ⟨by have := k.1; rw [AH.push_n]; omega, fun b hb => by have := k.1; rw [AH.get_push_ne _ (by omega)]; exact k.2 b hb⟩
structure Cons {α : Type} (p : Prg) (yv : Value) (xs : List α) (enc : α → List Value) (I : Nat → (Nat → Prop) → AH → Prop) (E : (Nat → Prop) → AH → Prop) : Prop where
  step : ∀ (i : Nat) (hi : i < xs.length) T h, I i T h → WpV p yv (enc xs[i]) h fun v h' => ((v = .bool true ∧ I (i + 1) T h') ∨ (v = .bool false ∧ E T h')) ∧ h.n ≤ h'.n ∧ ∀ b, T b → h'.get b = h.get b
  frI : ∀ i T T' h h', I i T h → PF T h h' → (∀ b, T' b → b < h'.n ∧ (T b ∨ h.n ≤ b)) → I i T' h'
  frE : ∀ T T' h h', E T h → PF T h h' → (∀ b, T' b → b < h'.n ∧ (T b ∨ h.n ≤ b)) → E T' h'
end Go.Proofs.YtblmakgjdenpfaaDoor.AM
namespace Go.Proofs.YtblmakgjdenpfaaDoor.AM
open Go
inductive Nl : Prop
  | nl
structure Cj (a b : Prop) : Prop where
  l : a
  r : b
inductive Tl : Prop → Prop
  | nl : Tl Nl
  | cj {a b : Prop} : Tl b → Tl (Cj a b)
structure Bx (a : Prop) : Prop where
  o : a
theorem Aj {a b : Prop} (x : a) (y : b) : a ∧ b := ⟨x, y⟩
theorem W_x {X G R : Prop} (hx : X) (h : R) (w : X → Bx R → G := by
    intro h8 h9
    (repeat' first
    | (show WpE _ _ _ _ _ _
       first
       | refine we_and ?_
       | refine we_or ?_
       | refine we_op (o := .e _) ?_
       | refine we_ef ?_
       | ((apply we_pure); focus ((try simp (disch := first | omega | (simp only [AH.nn_push, AH.nn_set, AH.nn_kill]; omega) | (simp only [AH.nn_push, AH.nn_set, AH.nn_kill]; done) | fail) only [push_cast, Nat.reduceEqDiff, ↓reduceIte, reduceCtorEq, Nat.reduceAdd, Nat.reduceMul, Nat.reduceLeDiff, Int.reduceAdd, Int.reduceSub, Int.reduceMul, Int.reduceToNat, AH.get_push_eq, AH.get_push_ne, AH.get_set_eq, AH.get_set_ne, AH.push_n, AH.set_n, h8]); rfl))
       | refine we_op ?_
       | refine we_cons ?_
       | fail)
    | (show WpO _ _ _ _ _ _
       first
       | ((first | apply wo_p | apply wo_r | apply wo_callA | apply wo_callvA | apply wo_e); focus ((try simp (disch := first | omega | (simp only [AH.nn_push, AH.nn_set, AH.nn_kill]; omega) | (simp only [AH.nn_push, AH.nn_set, AH.nn_kill]; done) | fail) only [push_cast, Nat.reduceEqDiff, ↓reduceIte, reduceCtorEq, Nat.reduceAdd, Nat.reduceMul, Nat.reduceLeDiff, Int.reduceAdd, Int.reduceSub, Int.reduceMul, Int.reduceToNat, AH.get_push_eq, AH.get_push_ne, AH.get_set_eq, AH.get_set_ne, AH.push_n, AH.set_n, h8]); rfl))
       | fail)
    | (show WpS _ _ _ _ _ _ _
       first
       | refine ws_set ?_
       | refine ws_tmp ?_
       | refine ws_run ?_
       | refine ws_at ?_
       | (apply ws_end; focus ((try simp (disch := first | omega | (simp only [AH.nn_push, AH.nn_set, AH.nn_kill]; omega) | (simp only [AH.nn_push, AH.nn_set, AH.nn_kill]; done) | fail) only [push_cast, Nat.reduceEqDiff, ↓reduceIte, reduceCtorEq, Nat.reduceAdd, Nat.reduceMul, Nat.reduceLeDiff, Int.reduceAdd, Int.reduceSub, Int.reduceMul, Int.reduceToNat, AH.get_push_eq, AH.get_push_ne, AH.get_set_eq, AH.get_set_ne, AH.push_n, AH.set_n, h8]); rfl))
       | fail)
    | (show Wp _ _ _ _ _ _
       first
       | refine wp_seq ?_
       | refine wp_R rfl ?_
       | refine wp_cond_t rfl ?_
       | refine wp_cond_f rfl ?_
       | refine wp_ret ?_
       | refine wp_skip ?_
       | refine wp_exit ?_
       | refine wp_block ?_
       | fail)
    | refine thenQ_norm ?_
    | (refine setK_fork (fun q9 => ?_) (fun q9 => ?_) <;> try (exfalso; omega))
    | (refine setK_forkN (fun q9 => ?_) (fun q9 => ?_) <;> try (exfalso; omega))
    | refine setK_one ?_
    | refine opK_one ?_
    | refine efK_one ?_
    | refine consK_one ?_
    | refine andK_t ?_
    | refine andK_f ?_
    | refine orK_t ?_
    | refine orK_f ?_
    | (refine andK_fork (fun q9 => ?_) (fun q9 => ?_) <;> try (exfalso; omega))
    | (refine andK_forkN (fun q9 => ?_) (fun q9 => ?_) <;> try (exfalso; omega))
    | (refine orK_fork (fun q9 => ?_) (fun q9 => ?_) <;> try (exfalso; omega))
    | (refine orK_forkN (fun q9 => ?_) (fun q9 => ?_) <;> try (exfalso; omega))
    | (refine oneK_fork (fun q9 => ?_) (fun q9 => ?_) <;> try (exfalso; omega))
    | (refine oneK_forkN (fun q9 => ?_) (fun q9 => ?_) <;> try (exfalso; omega))
    | refine oneK_one ?_
    | refine thenQ_ret ?_
    | refine thenQ_exit ?_
    | refine blockQ_norm ?_
    | refine blockQ_ret ?_
    | refine blockQ_same ?_
    | refine blockQ_ne rfl ?_
    | refine loopQ_norm ?_
    | refine loopQ_ret ?_
    | refine loopQ_exit ?_
    | ((first | apply retQ_ret | apply retQ_norm | apply wpc_of); focus ((try simp (disch := first | omega | (simp only [AH.nn_push, AH.nn_set, AH.nn_kill]; omega) | (simp only [AH.nn_push, AH.nn_set, AH.nn_kill]; done) | fail) only [push_cast, Nat.reduceEqDiff, ↓reduceIte, reduceCtorEq, Nat.reduceAdd, Nat.reduceMul, Nat.reduceLeDiff, Int.reduceAdd, Int.reduceSub, Int.reduceMul, Int.reduceToNat, AH.get_push_eq, AH.get_push_ne, AH.get_set_eq, AH.get_set_ne, AH.push_n, AH.set_n, h8]); rfl))
    | fail)
    all_goals (repeat revert q9)
    all_goals with_reducible first | apply Cj.l (Bx.o h9) | apply Cj.l (Cj.r (Bx.o h9)) | apply Cj.l (Cj.r (Cj.r (Bx.o h9))) | apply Cj.l (Cj.r (Cj.r (Cj.r (Bx.o h9)))) | apply Cj.l (Cj.r (Cj.r (Cj.r (Cj.r (Bx.o h9))))) | apply Cj.l (Cj.r (Cj.r (Cj.r (Cj.r (Cj.r (Bx.o h9)))))) | apply Cj.l (Cj.r (Cj.r (Cj.r (Cj.r (Cj.r (Cj.r (Bx.o h9))))))) | apply Cj.l (Cj.r (Cj.r (Cj.r (Cj.r (Cj.r (Cj.r (Cj.r (Bx.o h9)))))))) | apply Cj.l (Cj.r (Cj.r (Cj.r (Cj.r (Cj.r (Cj.r (Cj.r (Cj.r (Bx.o h9))))))))) | apply Cj.l (Cj.r (Cj.r (Cj.r (Cj.r (Cj.r (Cj.r (Cj.r (Cj.r (Cj.r (Bx.o h9)))))))))) | apply Cj.l (Cj.r (Cj.r (Cj.r (Cj.r (Cj.r (Cj.r (Cj.r (Cj.r (Cj.r (Cj.r (Bx.o h9))))))))))) | apply Cj.l (Cj.r (Cj.r (Cj.r (Cj.r (Cj.r (Cj.r (Cj.r (Cj.r (Cj.r (Cj.r (Cj.r (Bx.o h9)))))))))))) | apply Cj.l (Cj.r (Cj.r (Cj.r (Cj.r (Cj.r (Cj.r (Cj.r (Cj.r (Cj.r (Cj.r (Cj.r (Cj.r (Bx.o h9))))))))))))) | apply Cj.l (Cj.r (Cj.r (Cj.r (Cj.r (Cj.r (Cj.r (Cj.r (Cj.r (Cj.r (Cj.r (Cj.r (Cj.r (Cj.r (Bx.o h9)))))))))))))) | apply Cj.l (Cj.r (Cj.r (Cj.r (Cj.r (Cj.r (Cj.r (Cj.r (Cj.r (Cj.r (Cj.r (Cj.r (Cj.r (Cj.r (Cj.r (Bx.o h9))))))))))))))) | apply Cj.l (Cj.r (Cj.r (Cj.r (Cj.r (Cj.r (Cj.r (Cj.r (Cj.r (Cj.r (Cj.r (Cj.r (Cj.r (Cj.r (Cj.r (Cj.r (Bx.o h9)))))))))))))))) | apply Cj.l (Cj.r (Cj.r (Cj.r (Cj.r (Cj.r (Cj.r (Cj.r (Cj.r (Cj.r (Cj.r (Cj.r (Cj.r (Cj.r (Cj.r (Cj.r (Cj.r (Bx.o h9))))))))))))))))) | apply Cj.l (Cj.r (Cj.r (Cj.r (Cj.r (Cj.r (Cj.r (Cj.r (Cj.r (Cj.r (Cj.r (Cj.r (Cj.r (Cj.r (Cj.r (Cj.r (Cj.r (Cj.r (Bx.o h9)))))))))))))))))) | apply Cj.l (Cj.r (Cj.r (Cj.r (Cj.r (Cj.r (Cj.r (Cj.r (Cj.r (Cj.r (Cj.r (Cj.r (Cj.r (Cj.r (Cj.r (Cj.r (Cj.r (Cj.r (Cj.r (Bx.o h9))))))))))))))))))) | apply Cj.l (Cj.r (Cj.r (Cj.r (Cj.r (Cj.r (Cj.r (Cj.r (Cj.r (Cj.r (Cj.r (Cj.r (Cj.r (Cj.r (Cj.r (Cj.r (Cj.r (Cj.r (Cj.r (Cj.r (Bx.o h9)))))))))))))))))))) | apply Cj.l (Cj.r (Cj.r (Cj.r (Cj.r (Cj.r (Cj.r (Cj.r (Cj.r (Cj.r (Cj.r (Cj.r (Cj.r (Cj.r (Cj.r (Cj.r (Cj.r (Cj.r (Cj.r (Cj.r (Cj.r (Bx.o h9))))))))))))))))))))) | apply Cj.l (Cj.r (Cj.r (Cj.r (Cj.r (Cj.r (Cj.r (Cj.r (Cj.r (Cj.r (Cj.r (Cj.r (Cj.r (Cj.r (Cj.r (Cj.r (Cj.r (Cj.r (Cj.r (Cj.r (Cj.r (Cj.r (Bx.o h9)))))))))))))))))))))) | apply Cj.l (Cj.r (Cj.r (Cj.r (Cj.r (Cj.r (Cj.r (Cj.r (Cj.r (Cj.r (Cj.r (Cj.r (Cj.r (Cj.r (Cj.r (Cj.r (Cj.r (Cj.r (Cj.r (Cj.r (Cj.r (Cj.r (Cj.r (Bx.o h9))))))))))))))))))))))) | apply Cj.l (Cj.r (Cj.r (Cj.r (Cj.r (Cj.r (Cj.r (Cj.r (Cj.r (Cj.r (Cj.r (Cj.r (Cj.r (Cj.r (Cj.r (Cj.r (Cj.r (Cj.r (Cj.r (Cj.r (Cj.r (Cj.r (Cj.r (Cj.r (Bx.o h9))))))))))))))))))))))))
    all_goals exact Nl) (_e : Tl R := by repeat' first | exact Tl.nl | apply Tl.cj) : G := w hx ⟨h⟩
theorem W_y {X G R : Prop} (hx : X) (h : R) (w : X → Bx R → G := by
    intro h8 h9
    (repeat' first
    | (show WpE _ _ _ _ _ _
       first
       | refine we_and ?_
       | refine we_or ?_
       | refine we_op (o := .e _) ?_
       | refine we_ef ?_
       | ((apply we_pure); focus ((try simp (disch := first | omega | (simp only [AH.nn_push, AH.nn_set, AH.nn_kill]; omega) | (simp only [AH.nn_push, AH.nn_set, AH.nn_kill]; done) | fail) only [push_cast, Nat.reduceEqDiff, ↓reduceIte, reduceCtorEq, Nat.reduceAdd, Nat.reduceMul, Nat.reduceLeDiff, Int.reduceAdd, Int.reduceSub, Int.reduceMul, Int.reduceToNat, AH.get_push_eq, AH.get_push_ne, AH.get_set_eq, AH.get_set_ne, AH.push_n, AH.set_n, h8]); rfl))
       | refine we_op ?_
       | refine we_cons ?_
       | fail)
    | (show WpO _ _ _ _ _ _
       first
       | ((first | apply wo_p | apply wo_r | apply wo_callA | apply wo_callvA | apply wo_e); focus ((try simp (disch := first | omega | (simp only [AH.nn_push, AH.nn_set, AH.nn_kill]; omega) | (simp only [AH.nn_push, AH.nn_set, AH.nn_kill]; done) | fail) only [push_cast, Nat.reduceEqDiff, ↓reduceIte, reduceCtorEq, Nat.reduceAdd, Nat.reduceMul, Nat.reduceLeDiff, Int.reduceAdd, Int.reduceSub, Int.reduceMul, Int.reduceToNat, AH.get_push_eq, AH.get_push_ne, AH.get_set_eq, AH.get_set_ne, AH.push_n, AH.set_n, h8]); rfl))
       | fail)
    | (show WpS _ _ _ _ _ _ _
       first
       | refine ws_set ?_
       | refine ws_tmp ?_
       | refine ws_run ?_
       | refine ws_at ?_
       | (apply ws_end; focus ((try simp (disch := first | omega | (simp only [AH.nn_push, AH.nn_set, AH.nn_kill]; omega) | (simp only [AH.nn_push, AH.nn_set, AH.nn_kill]; done) | fail) only [push_cast, Nat.reduceEqDiff, ↓reduceIte, reduceCtorEq, Nat.reduceAdd, Nat.reduceMul, Nat.reduceLeDiff, Int.reduceAdd, Int.reduceSub, Int.reduceMul, Int.reduceToNat, AH.get_push_eq, AH.get_push_ne, AH.get_set_eq, AH.get_set_ne, AH.push_n, AH.set_n, h8]); rfl))
       | fail)
    | (show Wp _ _ _ _ _ _
       first
       | refine wp_seq ?_
       | refine wp_R rfl ?_
       | refine wp_cond_t rfl ?_
       | refine wp_cond_f rfl ?_
       | refine wp_ret ?_
       | refine wp_skip ?_
       | refine wp_exit ?_
       | refine wp_block ?_
       | fail)
    | (show WpR _ _ _ _ _ _ _ _ _
       first
       | refine wpr_drop ?_
       | refine wpr_p (o := .mv _) (by simp only [ev_mv, opd_s, opd_c, fget, Nat.reduceEqDiff, Nat.one_ne_zero, Nat.zero_ne_one, reduceCtorEq, ↓reduceIte]; rfl) ?_
       | (refine wpr_fork (fun q9 => ?_) (fun q9 => ?_) <;> try (exfalso; omega))
       | (refine wpr_forkN (fun q9 => ?_) (fun q9 => ?_) <;> try (exfalso; omega))
       | refine wpr_run rfl ?_
       | refine wpr_pass rfl rfl ?_
       | refine wpr_passS rfl ?_
       | ((first | apply wpr_p | apply wpr_r | apply wpr_callA | apply wpr_callA0 | apply wpr_callvA | apply wpr_e0 | apply wpr_e | apply wpr_end0); focus ((try simp (disch := first | omega | (simp only [AH.nn_push, AH.nn_set, AH.nn_kill]; omega) | (simp only [AH.nn_push, AH.nn_set, AH.nn_kill]; done) | fail) only [push_cast, Nat.reduceEqDiff, ↓reduceIte, reduceCtorEq, Nat.reduceAdd, Nat.reduceMul, Nat.reduceLeDiff, Int.reduceAdd, Int.reduceSub, Int.reduceMul, Int.reduceToNat, AH.get_push_eq, AH.get_push_ne, AH.get_set_eq, AH.get_set_ne, AH.push_n, AH.set_n, h8]); rfl))
       | refine wpr_pass0 rfl rfl ?_
       | refine wpr_pass0S rfl ?_
       | (apply wpr_end; (focus ((try simp (disch := first | omega | (simp only [AH.nn_push, AH.nn_set, AH.nn_kill]; omega) | (simp only [AH.nn_push, AH.nn_set, AH.nn_kill]; done) | fail) only [push_cast, Nat.reduceEqDiff, ↓reduceIte, reduceCtorEq, Nat.reduceAdd, Nat.reduceMul, Nat.reduceLeDiff, Int.reduceAdd, Int.reduceSub, Int.reduceMul, Int.reduceToNat, AH.get_push_eq, AH.get_push_ne, AH.get_set_eq, AH.get_set_ne, AH.push_n, AH.set_n, h8]); rfl)); (focus ((repeat' (first | exact chkT_nil | (refine chkT_cons ?_ ?_; focus (apply chk1_of rfl rfl rfl; focus ((try simp (disch := first | omega | (simp only [AH.nn_push, AH.nn_set, AH.nn_kill]; omega) | (simp only [AH.nn_push, AH.nn_set, AH.nn_kill]; done) | fail) only [push_cast, Nat.reduceEqDiff, ↓reduceIte, reduceCtorEq, Nat.reduceAdd, Nat.reduceMul, Nat.reduceLeDiff, Int.reduceAdd, Int.reduceSub, Int.reduceMul, Int.reduceToNat, AH.get_push_eq, AH.get_push_ne, AH.get_set_eq, AH.get_set_ne, AH.push_n, AH.set_n, h8]); rfl); focus ((try simp (disch := first | omega | (simp only [AH.nn_push, AH.nn_set, AH.nn_kill]; omega) | (simp only [AH.nn_push, AH.nn_set, AH.nn_kill]; done) | fail) only [push_cast, Nat.reduceEqDiff, ↓reduceIte, reduceCtorEq, Nat.reduceAdd, Nat.reduceMul, Nat.reduceLeDiff, Int.reduceAdd, Int.reduceSub, Int.reduceMul, Int.reduceToNat, AH.get_push_eq, AH.get_push_ne, AH.get_set_eq, AH.get_set_ne, AH.push_n, AH.set_n, h8]); rfl); focus (simp (disch := first | omega | (simp only [AH.nn_push, AH.nn_set, AH.nn_kill]; omega) | (simp only [AH.nn_push, AH.nn_set, AH.nn_kill]; done) | fail) only [push_cast, Nat.reduceEqDiff, ↓reduceIte, reduceCtorEq, Nat.reduceAdd, Nat.reduceMul, Nat.reduceLeDiff, Int.reduceAdd, Int.reduceSub, Int.reduceMul, Int.reduceToNat, AH.get_push_eq, AH.get_push_ne, AH.get_set_eq, AH.get_set_ne, AH.push_n, AH.set_n, h8]; done))) | fail)); done)))
       | (apply wpr_end; (focus ((try simp (disch := first | omega | (simp only [AH.nn_push, AH.nn_set, AH.nn_kill]; omega) | (simp only [AH.nn_push, AH.nn_set, AH.nn_kill]; done) | fail) only [push_cast, Nat.reduceEqDiff, ↓reduceIte, reduceCtorEq, Nat.reduceAdd, Nat.reduceMul, Nat.reduceLeDiff, Int.reduceAdd, Int.reduceSub, Int.reduceMul, Int.reduceToNat, AH.get_push_eq, AH.get_push_ne, AH.get_set_eq, AH.get_set_ne, AH.push_n, AH.set_n, h8]); rfl)); (focus (simp (disch := first | omega | (simp only [AH.nn_push, AH.nn_set, AH.nn_kill]; omega) | (simp only [AH.nn_push, AH.nn_set, AH.nn_kill]; done) | fail) only [push_cast, Nat.reduceEqDiff, ↓reduceIte, reduceCtorEq, Nat.reduceAdd, Nat.reduceMul, Nat.reduceLeDiff, Int.reduceAdd, Int.reduceSub, Int.reduceMul, Int.reduceToNat, AH.get_push_eq, AH.get_push_ne, AH.get_set_eq, AH.get_set_ne, AH.push_n, AH.set_n, h8]; done)))
       | fail)
    | (show Wp _ _ _ _ _ _
       first
       | refine wp_region0 ?_
       | refine wp_region ?_
       | fail)
    | refine thenQ_norm ?_
    | (refine setK_fork (fun q9 => ?_) (fun q9 => ?_) <;> try (exfalso; omega))
    | (refine setK_forkN (fun q9 => ?_) (fun q9 => ?_) <;> try (exfalso; omega))
    | refine setK_one ?_
    | refine opK_one ?_
    | refine efK_one ?_
    | refine consK_one ?_
    | refine andK_t ?_
    | refine andK_f ?_
    | refine orK_t ?_
    | refine orK_f ?_
    | (refine andK_fork (fun q9 => ?_) (fun q9 => ?_) <;> try (exfalso; omega))
    | (refine andK_forkN (fun q9 => ?_) (fun q9 => ?_) <;> try (exfalso; omega))
    | (refine orK_fork (fun q9 => ?_) (fun q9 => ?_) <;> try (exfalso; omega))
    | (refine orK_forkN (fun q9 => ?_) (fun q9 => ?_) <;> try (exfalso; omega))
    | (refine oneK_fork (fun q9 => ?_) (fun q9 => ?_) <;> try (exfalso; omega))
    | (refine oneK_forkN (fun q9 => ?_) (fun q9 => ?_) <;> try (exfalso; omega))
    | refine oneK_one ?_
    | refine thenQ_ret ?_
    | refine thenQ_exit ?_
    | refine blockQ_norm ?_
    | refine blockQ_ret ?_
    | refine blockQ_same ?_
    | refine blockQ_ne rfl ?_
    | refine loopQ_norm ?_
    | refine loopQ_ret ?_
    | refine loopQ_exit ?_
    | ((first | apply retQ_ret | apply retQ_norm | apply wpc_of); focus ((try simp (disch := first | omega | (simp only [AH.nn_push, AH.nn_set, AH.nn_kill]; omega) | (simp only [AH.nn_push, AH.nn_set, AH.nn_kill]; done) | fail) only [push_cast, Nat.reduceEqDiff, ↓reduceIte, reduceCtorEq, Nat.reduceAdd, Nat.reduceMul, Nat.reduceLeDiff, Int.reduceAdd, Int.reduceSub, Int.reduceMul, Int.reduceToNat, AH.get_push_eq, AH.get_push_ne, AH.get_set_eq, AH.get_set_ne, AH.push_n, AH.set_n, h8]); rfl))
    | fail)
    all_goals (repeat revert q9)
    all_goals with_reducible first | apply Cj.l (Bx.o h9) | apply Cj.l (Cj.r (Bx.o h9)) | apply Cj.l (Cj.r (Cj.r (Bx.o h9))) | apply Cj.l (Cj.r (Cj.r (Cj.r (Bx.o h9)))) | apply Cj.l (Cj.r (Cj.r (Cj.r (Cj.r (Bx.o h9))))) | apply Cj.l (Cj.r (Cj.r (Cj.r (Cj.r (Cj.r (Bx.o h9)))))) | apply Cj.l (Cj.r (Cj.r (Cj.r (Cj.r (Cj.r (Cj.r (Bx.o h9))))))) | apply Cj.l (Cj.r (Cj.r (Cj.r (Cj.r (Cj.r (Cj.r (Cj.r (Bx.o h9)))))))) | apply Cj.l (Cj.r (Cj.r (Cj.r (Cj.r (Cj.r (Cj.r (Cj.r (Cj.r (Bx.o h9))))))))) | apply Cj.l (Cj.r (Cj.r (Cj.r (Cj.r (Cj.r (Cj.r (Cj.r (Cj.r (Cj.r (Bx.o h9)))))))))) | apply Cj.l (Cj.r (Cj.r (Cj.r (Cj.r (Cj.r (Cj.r (Cj.r (Cj.r (Cj.r (Cj.r (Bx.o h9))))))))))) | apply Cj.l (Cj.r (Cj.r (Cj.r (Cj.r (Cj.r (Cj.r (Cj.r (Cj.r (Cj.r (Cj.r (Cj.r (Bx.o h9)))))))))))) | apply Cj.l (Cj.r (Cj.r (Cj.r (Cj.r (Cj.r (Cj.r (Cj.r (Cj.r (Cj.r (Cj.r (Cj.r (Cj.r (Bx.o h9))))))))))))) | apply Cj.l (Cj.r (Cj.r (Cj.r (Cj.r (Cj.r (Cj.r (Cj.r (Cj.r (Cj.r (Cj.r (Cj.r (Cj.r (Cj.r (Bx.o h9)))))))))))))) | apply Cj.l (Cj.r (Cj.r (Cj.r (Cj.r (Cj.r (Cj.r (Cj.r (Cj.r (Cj.r (Cj.r (Cj.r (Cj.r (Cj.r (Cj.r (Bx.o h9))))))))))))))) | apply Cj.l (Cj.r (Cj.r (Cj.r (Cj.r (Cj.r (Cj.r (Cj.r (Cj.r (Cj.r (Cj.r (Cj.r (Cj.r (Cj.r (Cj.r (Cj.r (Bx.o h9)))))))))))))))) | apply Cj.l (Cj.r (Cj.r (Cj.r (Cj.r (Cj.r (Cj.r (Cj.r (Cj.r (Cj.r (Cj.r (Cj.r (Cj.r (Cj.r (Cj.r (Cj.r (Cj.r (Bx.o h9))))))))))))))))) | apply Cj.l (Cj.r (Cj.r (Cj.r (Cj.r (Cj.r (Cj.r (Cj.r (Cj.r (Cj.r (Cj.r (Cj.r (Cj.r (Cj.r (Cj.r (Cj.r (Cj.r (Cj.r (Bx.o h9)))))))))))))))))) | apply Cj.l (Cj.r (Cj.r (Cj.r (Cj.r (Cj.r (Cj.r (Cj.r (Cj.r (Cj.r (Cj.r (Cj.r (Cj.r (Cj.r (Cj.r (Cj.r (Cj.r (Cj.r (Cj.r (Bx.o h9))))))))))))))))))) | apply Cj.l (Cj.r (Cj.r (Cj.r (Cj.r (Cj.r (Cj.r (Cj.r (Cj.r (Cj.r (Cj.r (Cj.r (Cj.r (Cj.r (Cj.r (Cj.r (Cj.r (Cj.r (Cj.r (Cj.r (Bx.o h9)))))))))))))))))))) | apply Cj.l (Cj.r (Cj.r (Cj.r (Cj.r (Cj.r (Cj.r (Cj.r (Cj.r (Cj.r (Cj.r (Cj.r (Cj.r (Cj.r (Cj.r (Cj.r (Cj.r (Cj.r (Cj.r (Cj.r (Cj.r (Bx.o h9))))))))))))))))))))) | apply Cj.l (Cj.r (Cj.r (Cj.r (Cj.r (Cj.r (Cj.r (Cj.r (Cj.r (Cj.r (Cj.r (Cj.r (Cj.r (Cj.r (Cj.r (Cj.r (Cj.r (Cj.r (Cj.r (Cj.r (Cj.r (Cj.r (Bx.o h9)))))))))))))))))))))) | apply Cj.l (Cj.r (Cj.r (Cj.r (Cj.r (Cj.r (Cj.r (Cj.r (Cj.r (Cj.r (Cj.r (Cj.r (Cj.r (Cj.r (Cj.r (Cj.r (Cj.r (Cj.r (Cj.r (Cj.r (Cj.r (Cj.r (Cj.r (Bx.o h9))))))))))))))))))))))) | apply Cj.l (Cj.r (Cj.r (Cj.r (Cj.r (Cj.r (Cj.r (Cj.r (Cj.r (Cj.r (Cj.r (Cj.r (Cj.r (Cj.r (Cj.r (Cj.r (Cj.r (Cj.r (Cj.r (Cj.r (Cj.r (Cj.r (Cj.r (Cj.r (Bx.o h9))))))))))))))))))))))))
    all_goals exact Nl) (_e : Tl R := by repeat' first | exact Tl.nl | apply Tl.cj) : G := w hx ⟨h⟩
end Go.Proofs.YtblmakgjdenpfaaDoor.AM
namespace Go.Proofs.YtblmakgjdenpfaaDoor.AM
open Go
variable {p : Prg} {fr : Fr} {lc : Lc} {h : AH} {Q : Post}
structure Same (l : Nat) (h h' : AH) : Prop where
  n : h'.n = h.n
  get : ∀ b, b ≠ l → h'.get b = h.get b
theorem Same.set (l : Nat) (h : AH) (o : AObj) : Same l h (h.set l o) := ⟨rfl, fun b hb => AH.get_set_ne _ hb⟩
theorem Same.kill (l : Nat) (h : AH) : Same l h (h.kill l) := ⟨rfl, fun b hb => AH.get_kill_ne hb⟩
theorem Same.reads {l : Nat} {h h' : AH} (k : Same l h h') {e : Nat} {s : Sl} {xss : List (List Value)} (r : Reads h e s xss) (hb : s.blk ≠ some l) : Reads h' e s xss := by
  refine ⟨r.1, r.2.1, ?_⟩
  have := r.2.2
  cases s with
  | nil => trivial
  | «at» b o n => exact this.imp id fun ⟨ro, pre, post, h1, h2⟩ => ⟨ro, pre, post, by rw [k.get b (fun e => hb (by rw [e]; rfl))]; exact h1, h2⟩
theorem Same.own {l : Nat} {h h' : AH} (k : Same l h h') {e : Nat} {s : Sl} {xss : List (List Value)} (r : Own h e s xss) (hb : s.blk ≠ some l) : Own h' e s xss := by
  refine ⟨r.1, r.2.1, ?_⟩
  have := r.2.2
  cases s with
  | nil => trivial
  | «at» b o n => obtain ⟨pre, h1, h2⟩ := this; exact ⟨pre, by rw [k.get b (fun e => hb (by rw [e]; rfl))]; exact h1, h2⟩
theorem Own.keep {h h' : AH} {e : Nat} {s : Sl} {xss : List (List Value)} (r : Own h e s xss) (hk : ∀ b, s.blk = some b → h'.get b = h.get b) : Own h' e s xss := by
  refine ⟨r.1, r.2.1, ?_⟩
  have := r.2.2
  cases s with
  | nil => trivial
  | «at» b o n => obtain ⟨pre, h1, h2⟩ := this; exact ⟨pre, by rw [hk b rfl]; exact h1, h2⟩
theorem Reads.keep {h h' : AH} {e : Nat} {s : Sl} {xss : List (List Value)} (r : Reads h e s xss) (hk : ∀ b, s.blk = some b → h'.get b = h.get b) : Reads h' e s xss := by
  refine ⟨r.1, r.2.1, ?_⟩
  have := r.2.2
  cases s with
  | nil => trivial
  | «at» b o n => exact this.imp id fun ⟨ro, pre, post, h1, h2⟩ => ⟨ro, pre, post, by rw [hk b rfl]; exact h1, h2⟩
theorem Own.lt {h : AH} {e : Nat} {s : Sl} {xss : List (List Value)} (r : Own h e s xss) {b : Nat} (hb : s.blk = some b) : b < h.n := by
  cases s with
  | nil => cases hb
  | «at» c o n => injection hb with hb; subst hb; obtain ⟨pre, h1, _⟩ := r.2.2; exact AH.get_lt h1
def callvR (fr : Fr) (f : Opd) (xs : List Opd) : Option (FuncId × List Value) :=
  match opd fr f with
  | .func (.func g) a b => if (opds fr xs).all okV = true then some (g, a.toList ++ opds fr xs ++ b.toList) else none
  | _ => none
section
variable {p : Prg} {fr : Fr} {lc : Lc} {h : AH}
variable {T : List (Fr × Mem) → Prop} {keep : List Nat} {r : List LInstr} {tr : List (Fr × Mem)} {K : Fr → Lc → AH → Prop} {d : Nat}
theorem wpr_callvA {f : Opd} {xs : List Opd} {g : FuncId} {vs : List Value} (ha : callvR fr f xs = some (g, vs)) (hq : WpC p g vs h fun v h' => WpR p T keep r ((d, v) :: fr) lc h' ((fr, ⟨lc, h⟩) :: tr) K) :
    WpR p T keep (⟨some d, .e (.callv f xs), none⟩ :: r) fr lc h tr K := by
  unfold callvR at ha
  split at ha
  · rename_i g' a b hf
    split at ha
    · rename_i hok
      injection ha with ha
      injection ha with e1 e2
      subst e1 e2
      exact wpr_callv hf rfl hok hq
    · cases ha
  · cases ha
end
attribute [push_cast] callvR
theorem AH.get_push_eq {h : AH} {j : Nat} {o : AObj} (hj : j = h.n) : (h.push o).get j = some o := by rw [hj]; exact AH.get_push_same h o
theorem AH.get_set_eq {h : AH} {b j : Nat} {o : AObj} (hj : j = b) (hb : b < h.n) : (h.set b o).get j = some o := by rw [hj]; exact AH.get_set_same o hb
theorem AH.nn_push {h : AH} {o : AObj} : (h.push o).n = h.n + 1 := by cases h; exact Eq.refl _
theorem AH.nn_set {h : AH} {b : Nat} {o : AObj} : (h.set b o).n = h.n := by cases h; exact Eq.refl _
theorem AH.nn_kill {h : AH} {b : Nat} : (h.kill b).n = h.n := by cases h; exact Eq.refl _
end Go.Proofs.YtblmakgjdenpfaaDoor.AM
namespace Go.Proofs.YtblmakgjdenpfaaDoor.AM
open Go
def Opd.mp (xs : List Opd) : Opd → Opd
  | .s n => xs.getD n (.c undef)
  | .c v => .c v
def partsMp (xs : List Opd) (ps : List (Nat × Nat × Opd)) : List (Nat × Nat × Opd) := ps.map fun p => (p.1, p.2.1, p.2.2.mp xs)
def POp.mp (xs : List Opd) : POp → POp
  | .mv x => .mv (x.mp xs)
  | .pick c a b => .pick (c.mp xs) (a.mp xs) (b.mp xs)
  | .bin op x y => .bin op (x.mp xs) (y.mp xs)
  | .un op x => .un op (x.mp xs)
  | .conv k x => .conv k (x.mp xs)
  | .i2s x => .i2s (x.mp xs)
  | .build z ps => .build z (partsMp xs ps)
  | .nilck x => .nilck (x.mp xs)
  | .slS x lo hi => .slS (x.mp xs) (lo.map (Opd.mp xs)) (hi.map (Opd.mp xs))
  | .sl e x lo hi mx => .sl e (x.mp xs) (lo.map (Opd.mp xs)) (hi.map (Opd.mp xs)) (mx.map (Opd.mp xs))
  | .faddr o x => .faddr o (x.mp xs)
  | .fld o n x => .fld o n (x.mp xs)
  | .iaddr e x i => .iaddr e (x.mp xs) (i.mp xs)
  | .iaddrA l e x i => .iaddrA l e (x.mp xs) (i.mp xs)
  | .idxS x i => .idxS (x.mp xs) (i.mp xs)
  | .idxA l e n x i => .idxA l e n (x.mp xs) (i.mp xs)
  | .ext i x => .ext i (x.mp xs)
  | .idxB x c => .idxB (x.mp xs) (c.mp xs)
  | .len x => .len (x.mp xs)
  | .slen x => .slen (x.mp xs)
  | .mm b ys => .mm b (ys.map (Opd.mp xs))
  | .mkfn f a b => .mkfn f (a.map (Opd.mp xs)) (b.map (Opd.mp xs))
  | .mkif t x => .mkif t (x.mp xs)
  | .eqA n ks x y => .eqA n ks (x.mp xs) (y.mp xs)
  | .eqk n k x y => .eqk n k (x.mp xs) (y.mp xs)
def ROp.mp (xs : List Opd) : ROp → ROp
  | .load n x => .load n (x.mp xs)
  | .b2s x => .b2s (x.mp xs)
  | .r2s x => .r2s (x.mp xs)
  | .maplen x => .maplen (x.mp xs)
  | .lookup kk z ok x k => .lookup kk z ok (x.mp xs) (k.mp xs)
def EOp.mp (xs : List Opd) : EOp → EOp
  | .newL t z => .newL t z
  | .newH z => .newH z
  | .boxL t n x => .boxL t n (x.mp xs)
  | .boxH n x => .boxH n (x.mp xs)
  | .litL t n e z ps => .litL t n e z (partsMp xs ps)
  | .litH n e z ps => .litH n e z (partsMp xs ps)
  | .store n a x => .store n (a.mp xs) (x.mp xs)
  | .s2b x => .s2b (x.mp xs)
  | .s2r x => .s2r (x.mp xs)
  | .rngS t x => .rngS t (x.mp xs)
  | .nxtS x => .nxtS (x.mp xs)
  | .call f ys => .call f (ys.map (Opd.mp xs))
  | .callv f ys => .callv (f.mp xs) (ys.map (Opd.mp xs))
  | .append e b x y => .append e b (x.mp xs) (y.mp xs)
  | .copy e x y => .copy e (x.mp xs) (y.mp xs)
  | .mks e b z l c => .mks e b z (l.mp xs) (c.mp xs)
  | .mkmap => .mkmap
  | .mapup kk m k x => .mapup kk (m.mp xs) (k.mp xs) (x.mp xs)
  | .mapent kk z m k => .mapent kk z (m.mp xs) (k.mp xs)
  | .mapst m i x => .mapst (m.mp xs) (i.mp xs) (x.mp xs)
def LOp.mp (xs : List Opd) : LOp → LOp
  | .p o => .p (o.mp xs)
  | .r o => .r (o.mp xs)
  | .e o => .e (o.mp xs)
theorem fget_argFr : ∀ (vs : List Value) (i n : Nat), fget (argFr i vs) n = if n < i then undef else vs.getD (n - i) undef
  | [], i, n => by simp [argFr, fget]
  | v :: r, i, n => by
    simp only [argFr, fget, fget_argFr r]
    by_cases h : n = i
    · subst h; simp
    · rw [if_neg h]
      by_cases h2 : n < i
      · rw [if_pos h2, if_pos (by omega)]
      · rw [if_neg h2, if_neg (by omega), show n - i = (n - (i + 1)) + 1 by omega, List.getD_cons_succ]
theorem opd_mp {fr : Fr} {xs : List Opd} (x : Opd) : opd fr (x.mp xs) = opd (argFr 0 (opds fr xs)) x := by
  cases x with
  | c v => rfl
  | s n =>
    show opd fr (xs.getD n (.c undef)) = fget (argFr 0 (opds fr xs)) n
    rw [fget_argFr, if_neg (Nat.not_lt_zero _), Nat.sub_zero]
    unfold opds
    rw [List.getD_eq_getElem?_getD, List.getD_eq_getElem?_getD, List.getElem?_map]
    cases xs[n]? <;> rfl
theorem opds_mp {fr : Fr} {xs : List Opd} (ys : List Opd) : opds fr (ys.map (Opd.mp xs)) = opds (argFr 0 (opds fr xs)) ys := by
  unfold opds
  rw [List.map_map]
  exact List.map_congr_left fun x _ => opd_mp x
theorem parts_mp {fr : Fr} {xs : List Opd} (ps : List (Nat × Nat × Opd)) : evParts fr (partsMp xs ps) = evParts (argFr 0 (opds fr xs)) ps := by
  unfold evParts partsMp
  rw [List.map_map]
  exact List.map_congr_left fun p _ => by simp only [Function.comp, opd_mp]
theorem optInt_mp {fr : Fr} {xs : List Opd} (o : Option Opd) (d : Int) : optInt fr (o.map (Opd.mp xs)) d = optInt (argFr 0 (opds fr xs)) o d := by
  cases o with
  | none => rfl
  | some x => simp only [Option.map_some, optInt, opd_mp]
theorem POp.ev_mp {fr : Fr} {xs : List Opd} (o : POp) : (o.mp xs).ev fr = o.ev (argFr 0 (opds fr xs)) := by
  cases o <;> simp only [POp.mp, POp.ev, opd_mp, opds_mp, parts_mp, optInt_mp]
theorem ROp.ev_mp {fr : Fr} {m : Mem} {xs : List Opd} (o : ROp) : (o.mp xs).ev fr m = o.ev (argFr 0 (opds fr xs)) m := by
  cases o with
  | load n x => cases n <;> simp only [ROp.mp, ROp.ev, opd_mp]
  | b2s x => simp only [ROp.mp, ROp.ev, opd_mp]
  | r2s x => simp only [ROp.mp, ROp.ev, opd_mp]
  | maplen x => simp only [ROp.mp, ROp.ev, opd_mp]
  | lookup kk z ok x k => simp only [ROp.mp, ROp.ev, opd_mp]
theorem EOp.ev_mp {call : CallF} {yld : YieldF} {fr : Fr} {m : Mem} {xs : List Opd} (o : EOp) : (o.mp xs).ev call yld fr m = o.ev call yld (argFr 0 (opds fr xs)) m := by
  cases o <;> simp only [EOp.mp, EOp.ev, opd_mp, opds_mp, parts_mp]
inductive X where
  | sl (n : Nat)
  | cv (v : Value)
  | va (n : Nat)
  | nil
  | cons (a b : X)
  | op (o : LOp) (a : X)
  | ef (o : EOp) (a : X)
  | lz (t : Bool) (a b : X)
def X.and (a b : X) : X := .lz true a b
def X.or (a b : X) : X := .lz false a b
def pickL (t : Bool) (g : Nat) (y : Opd) : POp := if t then .pick (.s g) y (.c (.bool false)) else .pick (.s g) (.c (.bool true)) y
def X.fl : X → Nat → Option (Nat × Bool) → List LInstr × List Opd × Nat
  | .sl m, n, _ => ([], [.s m], n)
  | .cv v, n, _ => ([], [.c v], n)
  | .va m, n, g => ([⟨some n, .p (.mv (.s m)), g⟩], [.s n], n + 1)
  | .nil, n, _ => ([], [], n)
  | .cons a b, n, g => ((a.fl n g).1 ++ (b.fl (a.fl n g).2.2 g).1, (a.fl n g).2.1 ++ (b.fl (a.fl n g).2.2 g).2.1, (b.fl (a.fl n g).2.2 g).2.2)
  | .op o a, n, g => ((a.fl n g).1 ++ [⟨some (a.fl n g).2.2, o.mp (a.fl n g).2.1, g⟩], [.s (a.fl n g).2.2], (a.fl n g).2.2 + 1)
  | .ef o a, n, g => ((a.fl n g).1 ++ [⟨none, .e (o.mp (a.fl n g).2.1), g⟩], [], (a.fl n g).2.2)
  | .lz t a b, n, g => ((a.fl n g).1 ++ ⟨some (a.fl n g).2.2, .p (.mv ((a.fl n g).2.1.getD 0 (.c undef))), g⟩ :: (b.fl ((a.fl n g).2.2 + 1) (some ((a.fl n g).2.2, t))).1 ++
      [⟨some (b.fl ((a.fl n g).2.2 + 1) (some ((a.fl n g).2.2, t))).2.2, .p (pickL t (a.fl n g).2.2 ((b.fl ((a.fl n g).2.2 + 1) (some ((a.fl n g).2.2, t))).2.1.getD 0 (.c undef))), g⟩],
      [.s (b.fl ((a.fl n g).2.2 + 1) (some ((a.fl n g).2.2, t))).2.2], (b.fl ((a.fl n g).2.2 + 1) (some ((a.fl n g).2.2, t))).2.2 + 1)
def LOp.ev (call : CallF) (yld : YieldF) (o : LOp) (fr : Fr) (m : Mem) : Option (Value × Mem) :=
  match o with
  | .p o => (o.ev fr).map fun v => (v, m)
  | .r o => (o.ev fr m).map fun v => (v, m)
  | .e o => o.ev call yld fr m
def X.ev (call : CallF) (yld : YieldF) (fr : Fr) : X → Mem → Option (List Value × Mem)
  | .sl n, m => some ([fget fr n], m)
  | .cv v, m => some ([v], m)
  | .va n, m => some ([fget fr n], m)
  | .nil, m => some ([], m)
  | .cons a b, m => match a.ev call yld fr m with
    | some (xs, m1) => match b.ev call yld fr m1 with
      | some (ys, m2) => some (xs ++ ys, m2)
      | none => none
    | none => none
  | .op o a, m => match a.ev call yld fr m with
    | some (xs, m1) => (o.ev call yld (argFr 0 xs) m1).map fun r => ([r.1], r.2)
    | none => none
  | .ef o a, m => match a.ev call yld fr m with
    | some (xs, m1) => (o.ev call yld (argFr 0 xs) m1).map fun r => ([], r.2)
    | none => none
  | .lz t a b, m => match a.ev call yld fr m with
    | some ([.bool u], m1) => if (u == t) = true then
        match b.ev call yld fr m1 with
        | some ([y], m2) => some ([y], m2)
        | _ => none
      else some ([.bool u], m1)
    | _ => none
def X.slots : X → List Nat
  | .sl n => [n]
  | .va n => [n]
  | .cv _ => []
  | .nil => []
  | .cons a b => a.slots ++ b.slots
  | .op _ a => a.slots
  | .ef _ a => a.slots
  | .lz _ a b => a.slots ++ b.slots
theorem runOps_append {call : CallF} {yld : YieldF} : ∀ (a b : List LInstr) (fr : Fr) (m : Mem), runOps call yld (a ++ b) fr m = match runOps call yld a fr m with
    | some (fr', m') => runOps call yld b fr' m'
    | none => none
  | [], b, fr, m => rfl
  | i :: a, b, fr, m => by
    simp only [List.cons_append, runOps]
    cases i.step call yld fr m with
    | none => rfl
    | some r => exact runOps_append a b _ _
theorem X.fl_le : ∀ (e : X) (n : Nat) (g : Option (Nat × Bool)), n ≤ (e.fl n g).2.2
  | .sl _, n, g => Nat.le_refl _
  | .cv _, n, g => Nat.le_refl _
  | .va _, n, g => Nat.le_succ _
  | .nil, n, g => Nat.le_refl _
  | .cons a b, n, g => Nat.le_trans (X.fl_le a n g) (X.fl_le b _ g)
  | .op _ a, n, g => Nat.le_succ_of_le (X.fl_le a n g)
  | .ef _ a, n, g => X.fl_le a n g
  | .lz t a b, n, g => by
    have h1 := X.fl_le a n g
    have h2 := X.fl_le b ((a.fl n g).2.2 + 1) (some ((a.fl n g).2.2, t))
    simp only [X.fl]
    omega
def Opd.of (l : List Nat) (n n' : Nat) : Opd → Prop
  | .s k => k ∈ l ∨ (n ≤ k ∧ k < n')
  | .c _ => True
theorem X.fl_res : ∀ (e : X) (n : Nat) (g : Option (Nat × Bool)), ∀ x ∈ (e.fl n g).2.1, x.of e.slots n (e.fl n g).2.2
  | .sl m, n, g, x, hx => by rw [List.mem_singleton.1 hx]; exact .inl (by simp [X.slots])
  | .cv _, n, g, x, hx => by rw [List.mem_singleton.1 hx]; trivial
  | .va m, n, g, x, hx => by rw [List.mem_singleton.1 hx]; exact .inr ⟨Nat.le_refl _, Nat.lt_succ_self _⟩
  | .nil, n, g, x, hx => by cases hx
  | .cons a b, n, g, x, hx => by
    have h1 := X.fl_le a n g
    have h2 := X.fl_le b (a.fl n g).2.2 g
    rcases List.mem_append.1 hx with hx | hx
    · have := X.fl_res a n g x hx
      cases x with
      | c v => trivial
      | s k => exact this.imp (fun h => by simp only [X.slots, List.mem_append]; exact .inl h) fun h => ⟨h.1, Nat.lt_of_lt_of_le h.2 h2⟩
    · have := X.fl_res b _ g x hx
      cases x with
      | c v => trivial
      | s k => exact this.imp (fun h => by simp only [X.slots, List.mem_append]; exact .inr h) fun h => ⟨Nat.le_trans h1 h.1, h.2⟩
  | .op o a, n, g, x, hx => by rw [List.mem_singleton.1 hx]; exact .inr ⟨X.fl_le a n g, Nat.lt_succ_self _⟩
  | .ef o a, n, g, x, hx => by cases hx
  | .lz t a b, n, g, x, hx => by
    have h1 := X.fl_le a n g
    have h2 := X.fl_le b ((a.fl n g).2.2 + 1) (some ((a.fl n g).2.2, t))
    rw [List.mem_singleton.1 hx]
    exact .inr ⟨by omega, Nat.lt_succ_self _⟩
def Agr (n n' : Nat) (fr fr' : Fr) : Prop := ∀ k, k < n ∨ n' ≤ k → fget fr' k = fget fr k
theorem Agr.refl (n n' : Nat) (fr : Fr) : Agr n n' fr fr := fun _ _ => rfl
theorem Agr.trans {n n1 n' : Nat} {a b c : Fr} (h : Agr n n1 a b) (h' : Agr n1 n' b c) (h1 : n ≤ n1) (h2 : n1 ≤ n') : Agr n n' a c := fun k hk => (h' k (by omega)).trans (h k (by omega))
theorem Agr.cons {s : Nat} {fr : Fr} {v : Value} : Agr s (s + 1) fr ((s, v) :: fr) := fun k hk => by simp only [fget]; rw [if_neg (by omega)]
def gOut (n n' : Nat) : Option (Nat × Bool) → Prop
  | none => True
  | some (s, _) => s < n ∨ n' ≤ s
theorem Agr.wanted {n n' : Nat} {fr fr' : Fr} (h : Agr n n' fr fr') {g : Option (Nat × Bool)} (hg : gOut n n' g) : wantedA fr' g = wantedA fr g := by
  cases g with
  | none => rfl
  | some p => simp only [wantedA, h p.1 hg]
theorem gOut.sub {n n' m m' : Nat} {g : Option (Nat × Bool)} (hg : gOut n n' g) (h : n ≤ m) (h' : m' ≤ n') : gOut m m' g := by
  cases g with
  | none => trivial
  | some p => exact hg.imp (fun x => by omega) (fun x => by omega)
section
variable {call : CallF} {yld : YieldF}
theorem step_on {i : LInstr} {fr : Fr} {m : Mem} (h : wantedA fr i.guard = some true) : i.step call yld fr m = i.op.ev call yld fr m := by
  simp only [LInstr.step, h, LInstr.ev, LOp.ev]; cases i.op <;> rfl
theorem step_off {i : LInstr} {fr : Fr} {m : Mem} (h : wantedA fr i.guard = some false) : i.step call yld fr m = some (skV, m) := by
  simp only [LInstr.step, h]
theorem LOp.ev_mp {fr : Fr} {m : Mem} {xs : List Opd} (o : LOp) : (o.mp xs).ev call yld fr m = o.ev call yld (argFr 0 (opds fr xs)) m := by
  cases o with
  | p o => simp only [LOp.mp, LOp.ev, POp.ev_mp]
  | r o => simp only [LOp.mp, LOp.ev, ROp.ev_mp]
  | e o => simp only [LOp.mp, LOp.ev, EOp.ev_mp]
theorem opds_one {fr : Fr} {l : List Opd} {v : Value} (h : opds fr l = [v]) : ∃ x, l = [x] ∧ opd fr x = v := by
  match l, h with
  | [x], h => simp only [opds, List.map_cons, List.map_nil, List.cons.injEq, and_true] at h; exact ⟨x, rfl, h⟩
theorem X.fl_off : ∀ (e : X) (n : Nat) (g : Option (Nat × Bool)) (fr : Fr) (m : Mem), gOut n (e.fl n g).2.2 g → wantedA fr g = some false →
    ∃ fr', runOps call yld (e.fl n g).1 fr m = some (fr', m) ∧ Agr n (e.fl n g).2.2 fr fr'
  | .sl _, n, g, fr, m, _, _ => ⟨fr, rfl, Agr.refl _ _ _⟩
  | .cv _, n, g, fr, m, _, _ => ⟨fr, rfl, Agr.refl _ _ _⟩
  | .va k, n, g, fr, m, _, hw => ⟨(n, skV) :: fr, by simp only [X.fl, runOps]; rw [step_off hw]; rfl, Agr.cons⟩
  | .nil, n, g, fr, m, _, _ => ⟨fr, rfl, Agr.refl _ _ _⟩
  | .cons a b, n, g, fr, m, hg, hw => by
    have a1 := X.fl_le a n g
    have b1 := X.fl_le b (a.fl n g).2.2 g
    obtain ⟨f1, e1, r1⟩ := X.fl_off a n g fr m (hg.sub (Nat.le_refl _) b1) hw
    obtain ⟨f2, e2, r2⟩ := X.fl_off b (a.fl n g).2.2 g f1 m (hg.sub a1 (Nat.le_refl _)) (by rw [r1.wanted (hg.sub (Nat.le_refl _) b1)]; exact hw)
    exact ⟨f2, by simp only [X.fl, runOps_append, e1, e2], r1.trans r2 a1 b1⟩
  | .op o a, n, g, fr, m, hg, hw => by
    have hg1 := hg.sub (Nat.le_refl n) (Nat.le_succ (a.fl n g).2.2)
    obtain ⟨f1, e1, r1⟩ := X.fl_off a n g fr m hg1 hw
    refine ⟨((a.fl n g).2.2, skV) :: f1, ?_, r1.trans Agr.cons (X.fl_le a n g) (Nat.le_succ _)⟩
    simp only [X.fl, runOps_append, e1, runOps]
    rw [step_off (by rw [r1.wanted hg1]; exact hw)]
    rfl
  | .ef o a, n, g, fr, m, hg, hw => by
    obtain ⟨f1, e1, r1⟩ := X.fl_off a n g fr m hg hw
    refine ⟨f1, ?_, r1⟩
    simp only [X.fl, runOps_append, e1, runOps]
    rw [step_off (by rw [r1.wanted hg]; exact hw)]
    rfl
  | .lz t a b, n, g, fr, m, hg, hw => by
    have a1 := X.fl_le a n g
    have b1 := X.fl_le b ((a.fl n g).2.2 + 1) (some ((a.fl n g).2.2, t))
    have hg1 : gOut n (a.fl n g).2.2 g := hg.sub (Nat.le_refl _) (by simp only [X.fl]; omega)
    have hg2 : gOut n (b.fl ((a.fl n g).2.2 + 1) (some ((a.fl n g).2.2, t))).2.2 g := hg.sub (Nat.le_refl _) (Nat.le_succ _)
    obtain ⟨f1, e1, r1⟩ := X.fl_off a n g fr m hg1 hw
    obtain ⟨f2, e2, r2⟩ := X.fl_off b ((a.fl n g).2.2 + 1) (some ((a.fl n g).2.2, t)) (((a.fl n g).2.2, skV) :: f1) m (.inl (Nat.lt_succ_self _)) (by simp only [wantedA, fget, if_true, skV])
    have r3 := (r1.trans Agr.cons a1 (Nat.le_succ _)).trans r2 (by omega) b1
    refine ⟨((b.fl ((a.fl n g).2.2 + 1) (some ((a.fl n g).2.2, t))).2.2, skV) :: f2, ?_, r3.trans Agr.cons (by omega) (Nat.le_succ _)⟩
    simp only [X.fl, runOps_append, List.append_assoc, List.cons_append, e1, runOps]
    rw [step_off (by rw [r1.wanted hg1]; exact hw)]
    simp only [pushD, runOps_append, e2, runOps]
    rw [step_off (by rw [r3.wanted hg2]; exact hw)]
theorem X.fl_on : ∀ (e : X) (n : Nat) (g : Option (Nat × Bool)) (fr f0 : Fr) (m m' : Mem) (vs : List Value), (∀ k ∈ e.slots, (k < n ∨ (e.fl n g).2.2 ≤ k) ∧ fget f0 k = fget fr k) → gOut n (e.fl n g).2.2 g → wantedA f0 g = some true →
    e.ev call yld fr m = some (vs, m') → ∃ f1, runOps call yld (e.fl n g).1 f0 m = some (f1, m') ∧ opds f1 (e.fl n g).2.1 = vs ∧ Agr n (e.fl n g).2.2 f0 f1
  | .sl k, n, g, fr, f0, m, m', vs, hs, hg, hw, he => by
    simp only [X.ev, Option.some.injEq, Prod.mk.injEq] at he
    obtain ⟨rfl, rfl⟩ := he
    exact ⟨f0, rfl, by simp only [X.fl, opds, List.map_cons, List.map_nil, opd, (hs k (by simp [X.slots])).2], Agr.refl _ _ _⟩
  | .cv v, n, g, fr, f0, m, m', vs, hs, hg, hw, he => by
    simp only [X.ev, Option.some.injEq, Prod.mk.injEq] at he
    obtain ⟨rfl, rfl⟩ := he
    exact ⟨f0, rfl, rfl, Agr.refl _ _ _⟩
  | .va k, n, g, fr, f0, m, m', vs, hs, hg, hw, he => by
    simp only [X.ev, Option.some.injEq, Prod.mk.injEq] at he
    obtain ⟨rfl, rfl⟩ := he
    refine ⟨(n, fget f0 k) :: f0, ?_, ?_, Agr.cons⟩
    · simp only [X.fl, runOps]; rw [step_on hw]; rfl
    · simp only [X.fl, opds, List.map_cons, List.map_nil, opd, fget, if_true, (hs k (by simp [X.slots])).2]
  | .nil, n, g, fr, f0, m, m', vs, hs, hg, hw, he => by
    simp only [X.ev, Option.some.injEq, Prod.mk.injEq] at he
    obtain ⟨rfl, rfl⟩ := he
    exact ⟨f0, rfl, rfl, Agr.refl _ _ _⟩
  | .cons a b, n, g, fr, f0, m, m', vs, hs, hg, hw, he => by
    simp only [X.ev] at he
    split at he
    · rename_i xs m1 ea
      split at he
      · rename_i ys m2 eb
        simp only [Option.some.injEq, Prod.mk.injEq] at he
        obtain ⟨rfl, rfl⟩ := he
        have a1 := X.fl_le a n g
        have b1 := X.fl_le b (a.fl n g).2.2 g
        have hs' : ∀ k ∈ a.slots ++ b.slots, (k < n ∨ (b.fl (a.fl n g).2.2 g).2.2 ≤ k) ∧ fget f0 k = fget fr k := hs
        have ha := fun k hk => hs' k (List.mem_append_left _ hk)
        have hb := fun k hk => hs' k (List.mem_append_right _ hk)
        have hg1 := hg.sub (Nat.le_refl n) b1
        obtain ⟨f1, e1, o1, r1⟩ := X.fl_on a n g fr f0 m m1 xs (fun k hk => ⟨by have := (ha k hk).1; omega, (ha k hk).2⟩) hg1 hw ea
        obtain ⟨f2, e2, o2, r2⟩ := X.fl_on b (a.fl n g).2.2 g fr f1 m1 m2 ys (fun k hk => ⟨by have := (hb k hk).1; omega, by rw [r1 k (by have := (hb k hk).1; omega)]; exact (hb k hk).2⟩) (hg.sub a1 (Nat.le_refl _))
          (by rw [r1.wanted hg1]; exact hw) eb
        refine ⟨f2, by simp only [X.fl, runOps_append, e1, e2], ?_, r1.trans r2 a1 b1⟩
        have : opds f2 (a.fl n g).2.1 = xs := by
          rw [← o1]
          refine List.map_congr_left fun x hx => ?_
          have := X.fl_res a n g x hx
          cases x with
          | c v => rfl
          | s k => exact r2 k (by rcases this with h | h; have := (ha k h).1; omega; omega)
        simp only [X.fl]
        unfold opds at this o2 ⊢
        rw [List.map_append, this, o2]
      · cases he
    · cases he
  | .op o a, n, g, fr, f0, m, m', vs, hs, hg, hw, he => by
    simp only [X.ev] at he
    split at he
    · rename_i xs m1 ea
      cases eo : o.ev call yld (argFr 0 xs) m1 with
      | none => rw [eo] at he; cases he
      | some r =>
        rw [eo] at he
        simp only [Option.map_some, Option.some.injEq, Prod.mk.injEq] at he
        obtain ⟨rfl, rfl⟩ := he
        have hg1 := hg.sub (Nat.le_refl n) (Nat.le_succ (a.fl n g).2.2)
        obtain ⟨f1, e1, o1, r1⟩ := X.fl_on a n g fr f0 m m1 xs (fun k hk => ⟨by have := (hs k hk).1; simp only [X.fl] at this; omega, (hs k hk).2⟩) hg1 hw ea
        refine ⟨((a.fl n g).2.2, r.1) :: f1, ?_, by simp only [X.fl, opds, List.map_cons, List.map_nil, opd, fget, if_true], r1.trans Agr.cons (X.fl_le a n g) (Nat.le_succ _)⟩
        simp only [X.fl, runOps_append, e1, runOps]
        rw [step_on (by rw [r1.wanted hg1]; exact hw)]
        simp only [LOp.ev_mp, o1, eo]
        rfl
    · cases he
  | .ef o a, n, g, fr, f0, m, m', vs, hs, hg, hw, he => by
    simp only [X.ev] at he
    split at he
    · rename_i xs m1 ea
      cases eo : o.ev call yld (argFr 0 xs) m1 with
      | none => rw [eo] at he; cases he
      | some r =>
        rw [eo] at he
        simp only [Option.map_some, Option.some.injEq, Prod.mk.injEq] at he
        obtain ⟨rfl, rfl⟩ := he
        obtain ⟨f1, e1, o1, r1⟩ := X.fl_on a n g fr f0 m m1 xs hs hg hw ea
        refine ⟨f1, ?_, rfl, r1⟩
        simp only [X.fl, runOps_append, e1, runOps]
        rw [step_on (by rw [r1.wanted hg]; exact hw)]
        simp only [LOp.ev, EOp.ev_mp, o1, eo]
        rfl
    · cases he
  | .lz t a b, n, g, fr, f0, m, m', vs, hs, hg, hw, he => by
    have a1 := X.fl_le a n g
    have b1 := X.fl_le b ((a.fl n g).2.2 + 1) (some ((a.fl n g).2.2, t))
    have hs' : ∀ k ∈ a.slots ++ b.slots, (k < n ∨ (b.fl ((a.fl n g).2.2 + 1) (some ((a.fl n g).2.2, t))).2.2 + 1 ≤ k) ∧ fget f0 k = fget fr k := hs
    have ha := fun k hk => hs' k (List.mem_append_left _ hk)
    have hb := fun k hk => hs' k (List.mem_append_right _ hk)
    have hg1 : gOut n (a.fl n g).2.2 g := hg.sub (Nat.le_refl _) (by simp only [X.fl]; omega)
    have hg2 : gOut n (b.fl ((a.fl n g).2.2 + 1) (some ((a.fl n g).2.2, t))).2.2 g := hg.sub (Nat.le_refl _) (Nat.le_succ _)
    simp only [X.ev] at he
    split at he
    · rename_i u m1 ea
      obtain ⟨f1, e1, o1, r1⟩ := X.fl_on a n g fr f0 m m1 _ (fun k hk => ⟨by have := (ha k hk).1; omega, (ha k hk).2⟩) hg1 hw ea
      obtain ⟨x, hx, o1⟩ := opds_one o1
      have r1' : Agr n ((a.fl n g).2.2 + 1) f0 (((a.fl n g).2.2, .bool u) :: f1) := r1.trans Agr.cons a1 (Nat.le_succ _)
      split at he
      · rename_i hu
        have hu := eq_of_beq hu
        subst hu
        split at he
        · rename_i y m2 eb
          simp only [Option.some.injEq, Prod.mk.injEq] at he
          obtain ⟨rfl, rfl⟩ := he
          obtain ⟨f2, e2, o2, r2⟩ := X.fl_on b ((a.fl n g).2.2 + 1) (some ((a.fl n g).2.2, u)) fr (((a.fl n g).2.2, .bool u) :: f1) m1 m2 [y] (fun k hk => ⟨by have := (hb k hk).1; omega, by rw [r1' k (by have := (hb k hk).1; omega)]; exact (hb k hk).2⟩)
            (.inl (Nat.lt_succ_self _)) (by simp only [wantedA, fget, if_true, beq_self_eq_true]) eb
          obtain ⟨z, hz, o3⟩ := opds_one o2
          have r3 := r1'.trans r2 (by omega) b1
          have hgt : fget f2 (a.fl n g).2.2 = .bool u := by rw [r2 _ (.inl (Nat.lt_succ_self _))]; simp only [fget, if_true]
          refine ⟨((b.fl ((a.fl n g).2.2 + 1) (some ((a.fl n g).2.2, u))).2.2, y) :: f2, ?_, by simp only [X.fl, opds, List.map_cons, List.map_nil, opd, fget, if_true], r3.trans Agr.cons (by omega) (Nat.le_succ _)⟩
          simp only [X.fl, runOps_append, List.append_assoc, List.cons_append, e1, runOps]
          rw [step_on (by rw [r1.wanted hg1]; exact hw)]
          simp only [hx, List.getD_cons_zero, LOp.ev, POp.ev, o1, Option.map_some, pushD, runOps_append, e2, runOps]
          rw [step_on (by rw [r3.wanted hg2]; exact hw)]
          (cases u <;> simp only [hz, List.getD_cons_zero, pickL, if_true, Bool.false_eq_true, if_false, LOp.ev, POp.ev, opd_s, opd_c, hgt, Option.map_some, pushD]) <;> simp [o3]
        · cases he
      · rename_i hu
        simp only [Option.some.injEq, Prod.mk.injEq] at he
        obtain ⟨rfl, rfl⟩ := he
        obtain ⟨f2, e2, r2⟩ := X.fl_off (call := call) (yld := yld) b ((a.fl n g).2.2 + 1) (some ((a.fl n g).2.2, t)) (((a.fl n g).2.2, .bool u) :: f1) m1 (.inl (Nat.lt_succ_self _))
          (by simp only [wantedA, fget, if_true, Option.some.injEq]; exact Bool.eq_false_iff.2 hu)
        have r3 := r1'.trans r2 (by omega) b1
        have hgt : fget f2 (a.fl n g).2.2 = .bool u := by rw [r2 _ (.inl (Nat.lt_succ_self _))]; simp only [fget, if_true]
        refine ⟨((b.fl ((a.fl n g).2.2 + 1) (some ((a.fl n g).2.2, t))).2.2, .bool u) :: f2, ?_, by simp only [X.fl, opds, List.map_cons, List.map_nil, opd, fget, if_true], r3.trans Agr.cons (by omega) (Nat.le_succ _)⟩
        simp only [X.fl, runOps_append, List.append_assoc, List.cons_append, e1, runOps]
        rw [step_on (by rw [r1.wanted hg1]; exact hw)]
        simp only [hx, List.getD_cons_zero, LOp.ev, POp.ev, o1, Option.map_some, pushD, runOps_append, e2, runOps]
        rw [step_on (by rw [r3.wanted hg2]; exact hw)]
        cases t <;> cases u <;> first | exact absurd rfl hu | ((simp only [pickL, if_true, Bool.false_eq_true, if_false, LOp.ev, POp.ev, opd_s, opd_c, hgt, Option.map_some, pushD]) <;> rfl)
    · cases he
end
inductive St where
  | set (d : Nat) (e : X)
  | tmp (d : Nat) (e : X)
  | run (e : X)
  | at (n : Nat)
def flat : Nat → List St → List LInstr
  | _, [] => []
  | n, .set d e :: r => (e.fl n none).1 ++ ⟨some d, .p (.mv ((e.fl n none).2.1.getD 0 (.c undef))), none⟩ :: flat (e.fl n none).2.2 r
  | n, .tmp d e :: r => (e.fl n none).1 ++ flat (e.fl n none).2.2 r
  | n, .run e :: r => (e.fl n none).1 ++ flat (e.fl n none).2.2 r
  | _, .at k :: r => flat k r
def R (n : Nat) (keep : List Nat) (sts : List St) : LCode := .region (flat n sts) keep []
def isS (d : Nat) : List Opd → Bool
  | [.s k] => k == d
  | _ => false
def okE (dom : List Nat) (n : Nat) (e : X) : Bool := dom.all (fun k => decide (k < n) || decide ((e.fl n none).2.2 ≤ k)) && e.slots.all (fun k => dom.contains k)
def okS (keep : List Nat) : List Nat → Nat → List St → Bool
  | dom, _, [] => keep.all fun k => dom.contains k
  | dom, n, .set d e :: r => okE dom n e && okS keep (d :: dom) (e.fl n none).2.2 r
  | dom, n, .tmp d e :: r => okE dom n e && isS d (e.fl n none).2.1 && okS keep (d :: dom) (e.fl n none).2.2 r
  | dom, n, .run e :: r => okE dom n e && okS keep dom (e.fl n none).2.2 r
  | dom, _, .at k :: r => okS keep dom k r
def runS (call : CallF) (yld : YieldF) : List St → Fr → Mem → Option (Fr × Mem)
  | [], fr, m => some (fr, m)
  | .set d e :: r, fr, m => match e.ev call yld fr m with
    | some ([v], m') => runS call yld r ((d, v) :: fr) m'
    | _ => none
  | .tmp d e :: r, fr, m => match e.ev call yld fr m with
    | some ([v], m') => runS call yld r ((d, v) :: fr) m'
    | _ => none
  | .run e :: r, fr, m => match e.ev call yld fr m with
    | some (_, m') => runS call yld r fr m'
    | none => none
  | .at _ :: r, fr, m => runS call yld r fr m
theorem okE_on {call : CallF} {yld : YieldF} {e : X} {dom : List Nat} {n : Nat} {fr f0 : Fr} {m m' : Mem} {vs : List Value} (hk : okE dom n e = true) (hag : ∀ k ∈ dom, fget f0 k = fget fr k) (ev : e.ev call yld fr m = some (vs, m')) :
    ∃ f1, runOps call yld (e.fl n none).1 f0 m = some (f1, m') ∧ opds f1 (e.fl n none).2.1 = vs ∧ ∀ k ∈ dom, fget f1 k = fget fr k := by
  simp only [okE, Bool.and_eq_true, Bool.or_eq_true, List.all_eq_true, List.contains_iff_mem, decide_eq_true_eq] at hk
  obtain ⟨f1, e1, o1, r1⟩ := X.fl_on e n none fr f0 m m' vs (fun k h => ⟨hk.1 k (hk.2 k h), hag k (hk.2 k h)⟩) trivial rfl ev
  exact ⟨f1, e1, o1, fun k h => by rw [r1 k (hk.1 k h)]; exact hag k h⟩
theorem flat_run {call : CallF} {yld : YieldF} {keep : List Nat} : ∀ (sts : List St) (dom : List Nat) (n : Nat) (fr f0 fr' : Fr) (m m' : Mem), okS keep dom n sts = true → (∀ k ∈ dom, fget f0 k = fget fr k) → runS call yld sts fr m = some (fr', m') →
    ∃ f1, runOps call yld (flat n sts) f0 m = some (f1, m') ∧ ∀ k ∈ keep, fget f1 k = fget fr' k
  | [], dom, n, fr, f0, fr', m, m', hk, hag, hr => by
    simp only [runS, Option.some.injEq, Prod.mk.injEq] at hr
    obtain ⟨rfl, rfl⟩ := hr
    refine ⟨f0, rfl, fun k hm => hag k ?_⟩
    simp only [okS, List.all_eq_true, List.contains_iff_mem] at hk
    exact hk k hm
  | .at k :: r, dom, n, fr, f0, fr', m, m', hk, hag, hr => flat_run r dom k fr f0 fr' m m' hk hag hr
  | .run e :: r, dom, n, fr, f0, fr', m, m', hk, hag, hr => by
    simp only [okS, Bool.and_eq_true] at hk
    simp only [runS] at hr
    split at hr
    · rename_i vs m1 ev
      obtain ⟨f1, e1, o1, r1⟩ := okE_on hk.1 hag ev
      obtain ⟨f2, e2, k2⟩ := flat_run r dom _ fr f1 fr' m1 m' hk.2 r1 hr
      exact ⟨f2, by simp only [flat, runOps_append, e1, e2], k2⟩
    · cases hr
  | .set d e :: r, dom, n, fr, f0, fr', m, m', hk, hag, hr => by
    simp only [okS, Bool.and_eq_true] at hk
    simp only [runS] at hr
    split at hr
    · rename_i v m1 ev
      obtain ⟨f1, e1, o1, r1⟩ := okE_on hk.1 hag ev
      obtain ⟨x, hx, o1⟩ := opds_one o1
      obtain ⟨f2, e2, k2⟩ := flat_run r (d :: dom) _ ((d, v) :: fr) ((d, v) :: f1) fr' m1 m' hk.2 (fun k hk => by
        simp only [fget]
        by_cases hd : k = d
        · rw [if_pos hd, if_pos hd]
        · rw [if_neg hd, if_neg hd]
          exact r1 k ((List.mem_cons.1 hk).resolve_left hd)) hr
      refine ⟨f2, ?_, k2⟩
      simp only [flat, runOps_append, e1, runOps, hx, List.getD_cons_zero]
      rw [step_on rfl]
      simp only [LOp.ev, POp.ev, o1, Option.map_some, pushD, e2]
    · cases hr
  | .tmp d e :: r, dom, n, fr, f0, fr', m, m', hk, hag, hr => by
    simp only [okS, Bool.and_eq_true] at hk
    simp only [runS] at hr
    split at hr
    · rename_i v m1 ev
      obtain ⟨f1, e1, o1, r1⟩ := okE_on hk.1.1 hag ev
      have hx : (e.fl n none).2.1 = [.s d] := by
        have h3 := hk.1.2
        unfold isS at h3
        split at h3
        · rename_i k hc; rw [hc, eq_of_beq h3]
        · cases h3
      rw [hx] at o1
      simp only [opds, List.map_cons, List.map_nil, List.cons.injEq, and_true, opd_s] at o1
      obtain ⟨f2, e2, k2⟩ := flat_run r (d :: dom) _ ((d, v) :: fr) f1 fr' m1 m' hk.2 (fun k hk => by
        simp only [fget]
        by_cases hd : k = d
        · rw [if_pos hd, hd]; exact o1
        · rw [if_neg hd]
          exact r1 k ((List.mem_cons.1 hk).resolve_left hd)) hr
      exact ⟨f2, by simp only [flat, runOps_append, e1, e2], k2⟩
    · cases hr
theorem keepFr_congr {f0 f1 : Fr} : ∀ {keep : List Nat}, (∀ k ∈ keep, fget f1 k = fget f0 k) → keepFr f1 keep = keepFr f0 keep
  | [], _ => rfl
  | s :: r, h => by simp only [keepFr, h s (by simp), keepFr_congr fun k hk => h k (List.mem_cons_of_mem _ hk)]
theorem keepLc_congr {f0 f1 : Fr} {lc : List (Nat × AObj)} : ∀ {keep : List Nat}, (∀ k ∈ keep, fget f1 k = fget f0 k) → keepLc f1 lc keep = keepLc f0 lc keep
  | [], _ => rfl
  | s :: r, h => by simp only [keepLc, h s (by simp), keepLc_congr fun k hk => h k (List.mem_cons_of_mem _ hk)]
structure WpS (p : Prg) (keep : List Nat) (sts : List St) (fr : Fr) (lc : Lc) (h : AH) (K : Fr → Lc → AH → Prop) : Prop where
  out : ∃ fr1 lc1 h1 fr2, runS (callO p) (yieldO p) sts fr ⟨lc, h⟩ = some (fr1, ⟨lc1, h1⟩) ∧ keepFr fr1 keep = some fr2 ∧ K fr2 (keepLc fr1 lc1 keep) h1
structure WpE (p : Prg) (e : X) (fr : Fr) (lc : Lc) (h : AH) (K : List Value → Lc → AH → Prop) : Prop where
  out : ∃ vs lc1 h1, e.ev (callO p) (yieldO p) fr ⟨lc, h⟩ = some (vs, ⟨lc1, h1⟩) ∧ K vs lc1 h1
structure WpO (p : Prg) (o : LOp) (vs : List Value) (lc : Lc) (h : AH) (K : Value → Lc → AH → Prop) : Prop where
  out : ∃ v lc1 h1, o.ev (callO p) (yieldO p) (argFr 0 vs) ⟨lc, h⟩ = some (v, ⟨lc1, h1⟩) ∧ K v lc1 h1
structure setK (p : Prg) (keep : List Nat) (d : Nat) (r : List St) (fr : Fr) (K : Fr → Lc → AH → Prop) (vs : List Value) (lc : Lc) (h : AH) : Prop where
  out : ∃ v, vs = [v] ∧ WpS p keep r ((d, v) :: fr) lc h K
structure consK (p : Prg) (b : X) (fr : Fr) (K : List Value → Lc → AH → Prop) (vs : List Value) (lc : Lc) (h : AH) : Prop where
  out : WpE p b fr lc h fun ws => K (vs ++ ws)
structure opK (p : Prg) (o : LOp) (K : List Value → Lc → AH → Prop) (vs : List Value) (lc : Lc) (h : AH) : Prop where
  out : WpO p o vs lc h fun v => K [v]
structure efK (p : Prg) (o : EOp) (K : List Value → Lc → AH → Prop) (vs : List Value) (lc : Lc) (h : AH) : Prop where
  out : WpO p (.e o) vs lc h fun _ => K []
structure oneK (K : List Value → Lc → AH → Prop) (vs : List Value) (lc : Lc) (h : AH) : Prop where
  out : ∃ v, vs = [v] ∧ K [v] lc h
structure andK (p : Prg) (b : X) (fr : Fr) (K : List Value → Lc → AH → Prop) (vs : List Value) (lc : Lc) (h : AH) : Prop where
  out : ∃ t, vs = [.bool t] ∧ if t = true then WpE p b fr lc h (oneK K) else K [.bool false] lc h
structure orK (p : Prg) (b : X) (fr : Fr) (K : List Value → Lc → AH → Prop) (vs : List Value) (lc : Lc) (h : AH) : Prop where
  out : ∃ t, vs = [.bool t] ∧ if t = true then K [.bool true] lc h else WpE p b fr lc h (oneK K)
section
variable {p : Prg} {fr : Fr} {lc : Lc} {h : AH} {Q : Post} {keep : List Nat} {r : List St} {K : Fr → Lc → AH → Prop} {J : List Value → Lc → AH → Prop} {d n : Nat} {v : Value} {vs : List Value}
def needS (keep : List Nat) (sts : List St) (k : Nat) : Bool := keep.contains k || sts.any fun s => match s with
  | .set _ e => e.slots.contains k
  | .tmp _ e => e.slots.contains k
  | .run e => e.slots.contains k
  | .at _ => false
theorem wp_R {sts : List St} (hk : okS keep ((fr.map (·.1)).filter (needS keep sts)) n sts = true) (hq : WpS p keep sts fr lc h (Q .norm)) : Wp p (R n keep sts) fr lc h Q := by
  obtain ⟨fr1, lc1, h1, fr2, e1, e2, e3⟩ := hq
  obtain ⟨f1, g1, g2⟩ := flat_run sts _ n fr fr fr1 _ _ hk (fun _ _ => rfl) e1
  exact wp_region0 ⟨f1, lc1, h1, fr2, g1, trivial, by rw [keepFr_congr g2]; exact e2, by rw [keepLc_congr g2]; exact e3⟩
def AgF : Fr → Fr → Prop
  | [], _ => True
  | (k, v) :: r, fr => fget fr k = v ∧ AgF r fr
theorem AgF.get : ∀ {f0 fr : Fr}, AgF f0 fr → ∀ k ∈ f0.map (·.1), fget fr k = fget f0 k
  | (k0, v0) :: r, fr, h, k, hk => by
    simp only [fget]
    by_cases he : k = k0
    · rw [if_pos he, he]; exact h.1
    · rw [if_neg he]
      exact h.2.get k ((List.mem_cons.1 hk).resolve_left he)
theorem wp_RA {sts : List St} {f0 : Fr} (ha : AgF f0 fr) (hk : okS keep (f0.map (·.1)) n sts = true) (hq : WpS p keep sts f0 lc h (Q .norm)) : Wp p (R n keep sts) fr lc h Q := by
  obtain ⟨fr1, lc1, h1, fr2, e1, e2, e3⟩ := hq
  obtain ⟨f1, g1, g2⟩ := flat_run sts _ n f0 fr fr1 _ _ hk ha.get e1
  exact wp_region0 ⟨f1, lc1, h1, fr2, g1, trivial, by rw [keepFr_congr g2]; exact e2, by rw [keepLc_congr g2]; exact e3⟩
theorem ws_set {e : X} (hq : WpE p e fr lc h (setK p keep d r fr K)) : WpS p keep (.set d e :: r) fr lc h K := by
  obtain ⟨vs, lc1, h1, e1, v, rfl, fr1, lc2, h2, fr2, e2, e3, e4⟩ := hq
  exact ⟨fr1, lc2, h2, fr2, by simp only [runS, e1, e2], e3, e4⟩
theorem ws_tmp {e : X} (hq : WpE p e fr lc h (setK p keep d r fr K)) : WpS p keep (.tmp d e :: r) fr lc h K := by
  obtain ⟨vs, lc1, h1, e1, v, rfl, fr1, lc2, h2, fr2, e2, e3, e4⟩ := hq
  exact ⟨fr1, lc2, h2, fr2, by simp only [runS, e1, e2], e3, e4⟩
theorem ws_run {e : X} (hq : WpE p e fr lc h fun _ lc h => WpS p keep r fr lc h K) : WpS p keep (.run e :: r) fr lc h K := by
  obtain ⟨vs, lc1, h1, e1, fr1, lc2, h2, fr2, e2, e3, e4⟩ := hq
  exact ⟨fr1, lc2, h2, fr2, by simp only [runS, e1, e2], e3, e4⟩
theorem ws_at (hq : WpS p keep r fr lc h K) : WpS p keep (.at n :: r) fr lc h K :=
  let ⟨fr1, lc2, h2, fr2, e2, e3, e4⟩ := hq
  ⟨fr1, lc2, h2, fr2, e2, e3, e4⟩
theorem ws_end {fr2 : Fr} {lc2 : Lc} (hk : keepR fr lc keep = some (fr2, lc2)) (hq : K fr2 lc2 h) : WpS p keep [] fr lc h K := by
  unfold keepR at hk
  split at hk
  · rename_i f hf
    injection hk with hk
    injection hk with e1 e2
    subst e1 e2
    exact ⟨fr, lc, h, f, rfl, hf, hq⟩
  · cases hk
theorem setK_one (hq : WpS p keep r ((d, v) :: fr) lc h K) : setK p keep d r fr K [v] lc h := ⟨v, rfl, hq⟩
theorem setK_fork {c : Prop} {hd : Decidable c} (h1 : c → setK p keep d r fr K [.bool true] lc h) (h2 : ¬ c → setK p keep d r fr K [.bool false] lc h) : setK p keep d r fr K [.bool (decide c)] lc h := by
  by_cases hc : c
  · rw [decide_eq_true hc]; exact h1 hc
  · rw [decide_eq_false hc]; exact h2 hc
theorem setK_forkN {c : Prop} {hd : Decidable c} (h1 : c → setK p keep d r fr K [.bool false] lc h) (h2 : ¬ c → setK p keep d r fr K [.bool true] lc h) : setK p keep d r fr K [.bool (!decide c)] lc h := by
  by_cases hc : c
  · rw [decide_eq_true hc]; exact h1 hc
  · rw [decide_eq_false hc]; exact h2 hc
theorem oneK_fork {c : Prop} {hd : Decidable c} (h1 : c → oneK J [.bool true] lc h) (h2 : ¬ c → oneK J [.bool false] lc h) : oneK J [.bool (decide c)] lc h := by
  by_cases hc : c
  · rw [decide_eq_true hc]; exact h1 hc
  · rw [decide_eq_false hc]; exact h2 hc
theorem oneK_forkN {c : Prop} {hd : Decidable c} (h1 : c → oneK J [.bool false] lc h) (h2 : ¬ c → oneK J [.bool true] lc h) : oneK J [.bool (!decide c)] lc h := by
  by_cases hc : c
  · rw [decide_eq_true hc]; exact h1 hc
  · rw [decide_eq_false hc]; exact h2 hc
theorem oneK_one (hq : J [v] lc h) : oneK J [v] lc h := ⟨v, rfl, hq⟩
theorem andK_t {b : X} (hq : WpE p b fr lc h (oneK J)) : andK p b fr J [.bool true] lc h := ⟨true, rfl, by rw [if_pos rfl]; exact hq⟩
theorem andK_f {b : X} (hq : J [.bool false] lc h) : andK p b fr J [.bool false] lc h := ⟨false, rfl, by rw [if_neg (by decide)]; exact hq⟩
theorem orK_t {b : X} (hq : J [.bool true] lc h) : orK p b fr J [.bool true] lc h := ⟨true, rfl, by rw [if_pos rfl]; exact hq⟩
theorem orK_f {b : X} (hq : WpE p b fr lc h (oneK J)) : orK p b fr J [.bool false] lc h := ⟨false, rfl, by rw [if_neg (by decide)]; exact hq⟩
theorem andK_fork {b : X} {c : Prop} {hd : Decidable c} (h1 : c → andK p b fr J [.bool true] lc h) (h2 : ¬ c → andK p b fr J [.bool false] lc h) : andK p b fr J [.bool (decide c)] lc h := by
  by_cases hc : c
  · rw [decide_eq_true hc]; exact h1 hc
  · rw [decide_eq_false hc]; exact h2 hc
theorem andK_forkN {b : X} {c : Prop} {hd : Decidable c} (h1 : c → andK p b fr J [.bool false] lc h) (h2 : ¬ c → andK p b fr J [.bool true] lc h) : andK p b fr J [.bool (!decide c)] lc h := by
  by_cases hc : c
  · rw [decide_eq_true hc]; exact h1 hc
  · rw [decide_eq_false hc]; exact h2 hc
theorem orK_fork {b : X} {c : Prop} {hd : Decidable c} (h1 : c → orK p b fr J [.bool true] lc h) (h2 : ¬ c → orK p b fr J [.bool false] lc h) : orK p b fr J [.bool (decide c)] lc h := by
  by_cases hc : c
  · rw [decide_eq_true hc]; exact h1 hc
  · rw [decide_eq_false hc]; exact h2 hc
theorem orK_forkN {b : X} {c : Prop} {hd : Decidable c} (h1 : c → orK p b fr J [.bool false] lc h) (h2 : ¬ c → orK p b fr J [.bool true] lc h) : orK p b fr J [.bool (!decide c)] lc h := by
  by_cases hc : c
  · rw [decide_eq_true hc]; exact h1 hc
  · rw [decide_eq_false hc]; exact h2 hc
theorem we_cons {a b : X} (hq : WpE p a fr lc h (consK p b fr J)) : WpE p (.cons a b) fr lc h J := by
  obtain ⟨xs, lc1, h1, e1, ys, lc2, h2, e2, e3⟩ := hq
  exact ⟨_, _, _, by simp only [X.ev, e1, e2], e3⟩
theorem we_op {o : LOp} {a : X} (hq : WpE p a fr lc h (opK p o J)) : WpE p (.op o a) fr lc h J := by
  obtain ⟨xs, lc1, h1, e1, v, lc2, h2, e2, e3⟩ := hq
  exact ⟨_, _, _, by simp only [X.ev, e1, e2, Option.map_some], e3⟩
theorem we_ef {o : EOp} {a : X} (hq : WpE p a fr lc h (efK p o J)) : WpE p (.ef o a) fr lc h J := by
  obtain ⟨xs, lc1, h1, e1, v, lc2, h2, e2, e3⟩ := hq
  refine ⟨_, _, _, ?_, e3⟩
  simp only [LOp.ev] at e2
  simp only [X.ev, e1, e2, Option.map_some]
theorem we_and {a b : X} (hq : WpE p a fr lc h (andK p b fr J)) : WpE p (.and a b) fr lc h J := by
  obtain ⟨xs, lc1, h1, e1, t, rfl, e2⟩ := hq
  cases t with
  | true =>
    rw [if_pos rfl] at e2
    obtain ⟨ys, lc2, h2, e3, v, rfl, e4⟩ := e2
    exact ⟨_, _, _, by simp only [X.and, X.ev, e1, e3, beq_self_eq_true, if_true], e4⟩
  | false => exact ⟨_, _, _, by simp only [X.and, X.ev, e1]; rfl, e2⟩
theorem we_or {a b : X} (hq : WpE p a fr lc h (orK p b fr J)) : WpE p (.or a b) fr lc h J := by
  obtain ⟨xs, lc1, h1, e1, t, rfl, e2⟩ := hq
  cases t with
  | true => exact ⟨_, _, _, by simp only [X.or, X.ev, e1]; rfl, e2⟩
  | false =>
    rw [if_neg (by decide)] at e2
    obtain ⟨ys, lc2, h2, e3, v, rfl, e4⟩ := e2
    exact ⟨_, _, _, by simp only [X.or, X.ev, e1, e3, beq_self_eq_true, if_true], e4⟩
theorem consK_one {b : X} (hq : WpE p b fr lc h fun ws => J (vs ++ ws)) : consK p b fr J vs lc h := ⟨hq⟩
theorem opK_one {o : LOp} (hq : WpO p o vs lc h fun v => J [v]) : opK p o J vs lc h := ⟨hq⟩
theorem efK_one {o : EOp} (hq : WpO p (.e o) vs lc h fun _ => J []) : efK p o J vs lc h := ⟨hq⟩
def X.pv (fr : Fr) (m : Mem) : X → Option (List Value)
  | .sl n => some [fget fr n]
  | .cv v => some [v]
  | .va n => some [fget fr n]
  | .nil => some []
  | .cons a b => match a.pv fr m, b.pv fr m with
    | some xs, some ys => some (xs ++ ys)
    | _, _ => none
  | .op (.p o) a => match a.pv fr m with
    | some xs => (o.ev (argFr 0 xs)).map fun v => [v]
    | none => none
  | .op (.r o) a => match a.pv fr m with
    | some xs => (o.ev (argFr 0 xs) m).map fun v => [v]
    | none => none
  | _ => none
theorem X.pv_ev {call : CallF} {yld : YieldF} {m : Mem} : ∀ {e : X} {vs : List Value}, e.pv fr m = some vs → e.ev call yld fr m = some (vs, m)
  | .sl n, vs, he => by simp only [X.pv, Option.some.injEq] at he; subst he; rfl
  | .cv v, vs, he => by simp only [X.pv, Option.some.injEq] at he; subst he; rfl
  | .va n, vs, he => by simp only [X.pv, Option.some.injEq] at he; subst he; rfl
  | .nil, vs, he => by simp only [X.pv, Option.some.injEq] at he; subst he; rfl
  | .cons a b, vs, he => by
    simp only [X.pv] at he
    split at he
    · rename_i xs ys ea eb
      simp only [Option.some.injEq] at he
      subst he
      simp only [X.ev, X.pv_ev ea, X.pv_ev eb]
    · cases he
  | .op (.p o) a, vs, he => by
    simp only [X.pv] at he
    split at he
    · rename_i xs ea
      simp only [X.ev, X.pv_ev ea, LOp.ev]
      cases ho : o.ev (argFr 0 xs) with
      | none => rw [ho] at he; cases he
      | some v => rw [ho] at he; simp only [Option.map_some, Option.some.injEq] at he ⊢; rw [he]
    · cases he
  | .op (.r o) a, vs, he => by
    simp only [X.pv] at he
    split at he
    · rename_i xs ea
      simp only [X.ev, X.pv_ev ea, LOp.ev]
      cases ho : o.ev (argFr 0 xs) m with
      | none => rw [ho] at he; cases he
      | some v => rw [ho] at he; simp only [Option.map_some, Option.some.injEq] at he ⊢; rw [he]
    · cases he
theorem we_pure {e : X} (he : e.pv fr ⟨lc, h⟩ = some vs) (hq : J vs lc h) : WpE p e fr lc h J := ⟨vs, lc, h, X.pv_ev he, hq⟩
theorem wo_p {o : POp} {H : Value → Lc → AH → Prop} (he : o.ev (argFr 0 vs) = some v) (hq : H v lc h) : WpO p (.p o) vs lc h H := ⟨v, lc, h, by simp only [LOp.ev, he, Option.map_some], hq⟩
theorem wo_r {o : ROp} {H : Value → Lc → AH → Prop} (he : o.ev (argFr 0 vs) ⟨lc, h⟩ = some v) (hq : H v lc h) : WpO p (.r o) vs lc h H := ⟨v, lc, h, by simp only [LOp.ev, he, Option.map_some], hq⟩
theorem wo_e {o : EOp} {H : Value → Lc → AH → Prop} {lc' : Lc} {h' : AH} (he : o.ev (callO p) (yieldO p) (argFr 0 vs) ⟨lc, h⟩ = some (v, ⟨lc', h'⟩)) (hq : H v lc' h') : WpO p (.e o) vs lc h H := ⟨v, lc', h', he, hq⟩
theorem wo_callA {f : FuncId} {xs : List Opd} {asx : List Value} {H : Value → Lc → AH → Prop} (ha : argsR (argFr 0 vs) xs = some asx) (hq : WpC p f asx h fun v h' => H v lc h') : WpO p (.e (.call f xs)) vs lc h H := by
  unfold argsR at ha
  split at ha
  · rename_i hok
    injection ha with ha
    obtain ⟨v, h', h1, h2⟩ := hq
    exact wo_e (by simp only [EOp.ev, ha, ha ▸ hok, if_true, h1, Option.map_some]) h2
  · cases ha
theorem wo_callvA {f : Opd} {xs : List Opd} {g : FuncId} {asx : List Value} {H : Value → Lc → AH → Prop} (ha : callvR (argFr 0 vs) f xs = some (g, asx)) (hq : WpC p g asx h fun v h' => H v lc h') : WpO p (.e (.callv f xs)) vs lc h H := by
  unfold callvR at ha
  split at ha
  · rename_i g' a b hf
    split at ha
    · rename_i hok
      injection ha with ha
      injection ha with e1 e2
      subst e1 e2
      obtain ⟨v, h', h1, h2⟩ := hq
      exact wo_e (by simp only [EOp.ev, hok, if_true, hf, h1, Option.map_some]) h2
    · cases ha
  · cases ha
end
end Go.Proofs.YtblmakgjdenpfaaDoor.AM
namespace Go.Proofs.YtblmakgjdenpfaaDoor.AM
open Go
def xb (o : BinOp) (a b : X) : X := .op (.p (.bin o (.s 0) (.s 1))) (.cons a b)
def xu (o : UnOp) (a : X) : X := .op (.p (.un o (.s 0))) a
def xld (a : X) : X := .op (.r (.load none (.s 0))) a
def xln (n : Nat) (a : X) : X := .op (.r (.load (some n) (.s 0))) a
def xfa (o : Nat) (a : X) : X := .op (.p (.faddr o (.s 0))) a
def xfd (o : Nat) (a : X) : X := .op (.p (.fld o none (.s 0))) a
def xfn (o n : Nat) (a : X) : X := .op (.p (.fld o (some n) (.s 0))) a
def xia (e : Nat) (a i : X) : X := .op (.p (.iaddr e (.s 0) (.s 1))) (.cons a i)
def xlen (a : X) : X := .op (.p (.len (.s 0))) a
def xsl (a : X) : X := .op (.p (.slen (.s 0))) a
def xis (a i : X) : X := .op (.p (.idxS (.s 0) (.s 1))) (.cons a i)
def xex (i : Nat) (a : X) : X := .op (.p (.ext i (.s 0))) a
def xcn (k : IntKind) (a : X) : X := .op (.p (.conv k (.s 0))) a
def xnk (a : X) : X := .op (.p (.nilck (.s 0))) a
def xi (n : Int) : X := .cv (.int .i64 n)
def xr (n : Int) : X := .cv (.int .i32 n)
def xap (e b : Nat) (a y : X) : X := .op (.e (.append e b (.s 0) (.s 1))) (.cons a y)
def xst (n : Nat) (a x : X) : X := .ef (.store n (.s 0) (.s 1)) (.cons a x)
def xnl (t : Nat) (z : List Value) : X := .op (.e (.newL t z)) .nil
def xbl (t n : Nat) (a : X) : X := .op (.e (.boxL t n (.s 0))) a
def xbh (n : Nat) (a : X) : X := .op (.e (.boxH n (.s 0))) a
def xc0 (f : FuncId) : X := .op (.e (.call f [])) .nil
def xc1 (f : FuncId) (a : X) : X := .op (.e (.call f [.s 0])) a
def xc2 (f : FuncId) (a b : X) : X := .op (.e (.call f [.s 0, .s 1])) (.cons a b)
def xc3 (f : FuncId) (a b c : X) : X := .op (.e (.call f [.s 0, .s 1, .s 2])) (.cons a (.cons b c))
def xv0 (f : X) : X := .op (.e (.callv (.s 0) [])) f
def xv1 (f a : X) : X := .op (.e (.callv (.s 0) [.s 1])) (.cons f a)
def xv2 (f a b : X) : X := .op (.e (.callv (.s 0) [.s 1, .s 2])) (.cons f (.cons a b))
theorem fg0 {a : Value} {r : List Value} : fget (argFr 0 (a :: r)) 0 = a := rfl
theorem fg1 {a b : Value} {r : List Value} : fget (argFr 0 (a :: b :: r)) 1 = b := rfl
theorem fg2 {a b c : Value} {r : List Value} : fget (argFr 0 (a :: b :: c :: r)) 2 = c := rfl
theorem fg3 {a b c d : Value} {r : List Value} : fget (argFr 0 (a :: b :: c :: d :: r)) 3 = d := rfl
theorem fg4 {a b c d e : Value} {r : List Value} : fget (argFr 0 (a :: b :: c :: d :: e :: r)) 4 = e := rfl
theorem fg5 {a b c d e f : Value} {r : List Value} : fget (argFr 0 (a :: b :: c :: d :: e :: f :: r)) 5 = f := rfl
theorem fg6 {a b c d e f g : Value} {r : List Value} : fget (argFr 0 (a :: b :: c :: d :: e :: f :: g :: r)) 6 = g := rfl
theorem fg7 {a b c d e f g i : Value} {r : List Value} : fget (argFr 0 (a :: b :: c :: d :: e :: f :: g :: i :: r)) 7 = i := rfl
attribute [push_cast] X.pv xb xu xld xln xfa xfd xfn xia xlen xsl xis xex xcn xnk xi xr fg0 fg1 fg2 fg3 fg4 fg5 fg6 fg7 List.cons_append List.nil_append Option.map_some
attribute [push_cast] ev_load1 ev_loadn ev_faddr ev_fld partA_one partA_more ptrOff_mk loc_mk rd_loc rd_heap wr_loc wr_heap
theorem wrap_u8 {x : Int} (h1 : 0 ≤ x) (h2 : x < 256) : IntKind.u8.wrap x = x := by
  show (if (false && decide (x % 256 ≥ 128)) = true then x % 256 - 256 else x % 256) = x
  simp only [Bool.false_and, Bool.false_eq_true, if_false]
  omega
theorem wrap_u64 {x : Int} (h1 : 0 ≤ x) (h2 : x < 18446744073709551616) : IntKind.u64.wrap x = x := by
  show (if (false && decide (x % 18446744073709551616 ≥ 9223372036854775808)) = true then x % 18446744073709551616 - 18446744073709551616 else x % 18446744073709551616) = x
  simp only [Bool.false_and, Bool.false_eq_true, if_false]
  omega
theorem shl6 {x : Int} (h1 : 0 ≤ x) (h2 : x < 33554432) : binA .shl (.int .i32 x) (.int .u64 6) = some (.int .i32 (x * 64)) := by
  show some (Value.int .i32 (IntKind.i32.wrap (x * 64))) = _
  rw [wrap_i32 (by omega) (by omega)]
theorem iaddr_mk {e e' n b o : Nat} {k : IntKind} {j : Int} (h0 : 0 ≤ j) (h1 : j < n) : iaddrP e (.slice (some ⟨b, o, none⟩) n e') (.int k j) = some (.pointer (some ⟨b, o + j.toNat * e, none⟩)) := by
  simp only [iaddrP]
  rw [if_pos ⟨h0, h1, rfl⟩]
  rfl
theorem lenP_mk {a : Option Addr} {n e : Nat} : lenP (.slice a n e) = some (.int .i64 n) := rfl
theorem shr1 {x : Int} (h1 : 0 ≤ x) : binA .shr (.int .u64 x) (.int .u64 1) = some (.int .u64 (x / 2)) := by
  show some (Value.int .u64 (x.fdiv 2)) = _
  rw [Int.fdiv_eq_ediv_of_nonneg _ (by omega)]
attribute [push_cast] wrap_u8 wrap_u64 shl6 shr1 iaddr_mk lenP_mk
section
variable {p : Prg} {lc : Lc} {h h0 : AH} {H : Value → Lc → AH → Prop}
theorem wo_app {e by' : Nat} {s : Sl} {y : Value} {xss yss : List (List Value)} {k : Nat} (f : FOwn h0 h e s xss) (hk : lenV y = some k) (hy : rdSlice ⟨lc, h⟩ e y = some yss.flatten)
    (hyl : yss.length = k) (hye : ∀ x ∈ yss, x.length = e) (k0 : 0 < k) (he : 0 < e) (hb : 0 < by') (hn : (xss.length + k) * by' ≤ 140737488355328)
    (hq : ∀ s' h', FOwn h0 h' e s' (xss ++ yss) → H (s'.val e) lc h') : WpO p (.e (.append e by' (.s 0) (.s 1))) [s.val e, y] lc h H := by
  obtain ⟨s', h', h1, h2⟩ := f.append hk hy hyl hye k0 he hb hn
  exact wo_e (by simp only [EOp.ev, opd_s, fg0, fg1, h1]) (hq s' h' h2)
theorem wo_app1 {e by' b : Nat} {s : Sl} {xss : List (List Value)} {cs : List Value} (f : FOwn h0 h e s xss) (hl : lget lc b = some (.cells false cs)) (hc : cs.length = e) (he : 0 < e) (hb : 0 < by') (hn : (xss.length + 1) * by' ≤ 140737488355328)
    (hq : ∀ s' h', FOwn h0 h' e s' (xss ++ [cs]) → H (s'.val e) lc h') : WpO p (.e (.append e by' (.s 0) (.s 1))) [s.val e, .slice (some ⟨b, 0, some 1⟩) 1 e] lc h H := by
  refine wo_app (yss := [cs]) (k := 1) f rfl ?_ rfl (fun x hx => by rw [List.mem_singleton.1 hx]; exact hc) (by decide) he hb hn hq
  simp only [rdSlice, Nat.one_ne_zero, if_false, Nat.one_mul, rd_loc, hl, List.flatten_cons, List.flatten_nil, List.append_nil]
  rw [if_pos (by omega), List.drop_zero, ← hc, List.take_length]
theorem wo_appL {e by' : Nat} {s t : Sl} {xss yss : List (List Value)} (f : FOwn h0 h e s xss) (rt : Reads h e t yss) (he : 0 < e) (hb : 0 < by') (hn : (xss.length + yss.length) * by' ≤ 140737488355328)
    (hq : ∀ s' h', FOwn h0 h' e s' (xss ++ yss) → H (s'.val e) lc h') : WpO p (.e (.append e by' (.s 0) (.s 1))) [s.val e, t.val e] lc h H := by
  rcases Nat.eq_zero_or_pos yss.length with h0' | h0'
  · have hyn : yss = [] := List.eq_nil_of_length_eq_zero h0'
    subst hyn
    have h1 := rdSlice_reads (lc := lc) rt
    have h2 : lenV (t.val e) = some 0 := by rw [Sl.lenV_val, rt.1]; rfl
    have hs := f.own.1
    refine wo_e (v := s.val e) (lc' := lc) (h' := h) ?_ (hq s h (by simpa using f))
    simp only [EOp.ev, opd_s, fg0, fg1]
    generalize t.val e = y at h1 h2 ⊢
    cases s with
    | nil => simp only [appendA, Sl.val, h1, h2, List.flatten_nil, List.length_nil, Nat.zero_mul, if_true]
    | «at» b o n => simp only [appendA, Sl.val, h1, h2, List.flatten_nil, List.length_nil, Nat.zero_mul, if_true, Option.isNone_none, and_self]
  · exact wo_app f (by rw [Sl.lenV_val, rt.1]) (rdSlice_reads rt) rfl rt.2.1 h0' he hb hn hq
theorem wo_appT {by' : Nat} {s : Sl} {x : ByteArray} {xss : List (List Value)} (f : FOwn h0 h 1 s xss) (hb : 0 < by') (hn : (xss.length + x.size) * by' ≤ 140737488355328)
    (hq : ∀ s' h', FOwn h0 h' 1 s' (xss ++ x.data.toList.map fun b => [.int .u8 b.toNat]) → H (s'.val 1) lc h') : WpO p (.e (.append 1 by' (.s 0) (.s 1))) [s.val 1, .string x] lc h H := by
  have hx : x.size = x.data.toList.length := rfl
  rcases Nat.eq_zero_or_pos x.size with h0' | h0'
  · have hyn : x.data.toList = [] := List.eq_nil_of_length_eq_zero (by omega)
    rw [hyn, List.map_nil, List.append_nil] at hq
    refine wo_e (v := s.val 1) (lc' := lc) (h' := h) ?_ (hq s h f)
    simp only [EOp.ev, opd_s, fg0, fg1]
    cases s with
    | nil => simp only [appendA, Sl.val, lenV, rdSlice, hyn, h0', List.map_nil, List.length_nil, Nat.zero_mul, if_true]
    | «at» b o n => simp only [appendA, Sl.val, lenV, rdSlice, hyn, h0', List.map_nil, List.length_nil, Nat.zero_mul, if_true, Option.isNone_none, and_self]
  · refine wo_app (k := x.size) f rfl ?_ (by simp only [List.length_map]; exact hx.symm) (fun y hy => ?_) h0' (by decide) hb hn hq
    · simp only [rdSlice, Option.some.injEq]
      generalize x.data.toList = l
      induction l with
      | nil => rfl
      | cons a l ih => simp only [List.map_cons, List.flatten_cons, ← ih]; rfl
    · obtain ⟨b, _, rfl⟩ := List.mem_map.1 hy; rfl
theorem wo_next_more {b k pos : Nat} {s : ByteArray} (hl : lget lc b = some (.siter s pos)) (hp : pos < s.size)
    (hq : H (.tuple (List.toArray [.bool true, .int .i64 pos, .int .i32 (Utf8.decode s pos).1])) ((b, .siter s (pos + (Utf8.decode s pos).2)) :: lc) h) : WpO p (.e (.nxtS (.s 0))) [.pointer (some ⟨b, 0, some k⟩)] lc h H :=
  wo_e (by simp only [EOp.ev, opd_s, fg0, Option.isSome_some, and_self, if_true, Mem.obj, hl, hp, Mem.putObj]) hq
theorem wo_next_end {b k pos : Nat} {s : ByteArray} (hl : lget lc b = some (.siter s pos)) (hp : ¬ pos < s.size) (hq : H (.tuple (List.toArray [.bool false])) lc h) : WpO p (.e (.nxtS (.s 0))) [.pointer (some ⟨b, 0, some k⟩)] lc h H :=
  wo_e (by simp only [EOp.ev, opd_s, fg0, Option.isSome_some, and_self, if_true, Mem.obj, hl, hp, if_false]) hq
end
end Go.Proofs.YtblmakgjdenpfaaDoor.AM
namespace Go.Proofs.YtblmakgjdenpfaaDoor.AM
open Go
def extB : FuncId → Option (List Value → AH → Option (Value × AH)) := fun _ => none
def withExt (q : Prg) (e : FuncId → Option (List Value → AH → Option (Value × AH))) : Prg := ⟨q.fn, e⟩
theorem withExt_fn (q : Prg) (e : FuncId → Option (List Value → AH → Option (Value × AH))) (f : FuncId) : (withExt q e).fn f = q.fn f := rfl
theorem withExt_ext (q : Prg) (e : FuncId → Option (List Value → AH → Option (Value × AH))) (f : FuncId) : (withExt q e).ext f = e f := rfl
noncomputable def PX : Prg := withExt (autoPrg Tryd.prog) extB
theorem px_fn {f : FuncId} {lf : LFunc} (hf : (autoPrg Tryd.prog).fn f = some lf) : PX.fn f = some lf := by
  unfold PX
  rw [withExt_fn]
  exact hf
theorem px_ext {f : FuncId} (hf : (extB f).isNone = true) : PX.ext f = none := by
  unfold PX
  rw [withExt_ext]
  exact Option.isNone_iff_eq_none.1 hf
section
variable {p : Prg} {fr : Fr} {lc : Lc} {h : AH} {Q : Post}
theorem wp_unroll {a : LCode} (hq : Wp p a fr lc h (loopQ (fun fr lc h => Wp p (.loop a) fr lc h Q) Q)) : Wp p (.loop a) fr lc h Q := by
  obtain ⟨ex, fr', lc', h', h1, h2⟩ := hq
  cases ex with
  | norm =>
    obtain ⟨ex, fr2, lc2, h2', h3, h4⟩ := h2.out
    exact ⟨ex, fr2, lc2, h2', by rw [execO_loop, h1, andThen_norm, h3], h4⟩
  | exit i => exact ⟨_, _, _, _, by rw [execO_loop, h1, andThen_exit], h2.out⟩
  | ret => exact ⟨_, _, _, _, by rw [execO_loop, h1, andThen_ret], h2.out⟩
theorem wp_for {a : LCode} (n : Nat) (I : Nat → Fr → Lc → AH → Prop) (h0 : I 0 fr lc h)
    (hs : ∀ i fr lc h, i ≤ n → I i fr lc h → Wp p a fr lc h (loopQ (fun fr lc h => i < n ∧ I (i + 1) fr lc h) Q)) : Wp p (.loop a) fr lc h Q := by
  refine wp_loop (fun k fr lc h => ∃ i, k = n - i ∧ i ≤ n ∧ I i fr lc h) n ⟨0, rfl, Nat.zero_le _, h0⟩ ?_
  rintro k fr lc h ⟨i, rfl, hi, hI⟩
  refine wp_mono (hs i fr lc h hi hI) fun ex fr lc h hq => ?_
  have hq := hq.out
  cases ex with
  | norm => exact ⟨⟨n - (i + 1), by omega, i + 1, rfl, by omega, hq.2⟩⟩
  | exit j => exact ⟨hq⟩
  | ret => exact ⟨hq⟩
def scan {α : Type} (n : Nat) (f : Nat → Option α) : Option α := (List.range n).findSome? f
theorem scan_hit {α : Type} {n : Nat} {f : Nat → Option α} {i : Nat} {w : α} (h : ∀ j, j < i → f j = none) (hi : i < n) (hw : f i = some w) : scan n f = some w := by
  unfold scan
  rw [show n = i + (1 + (n - i - 1)) by omega, List.range_add, List.findSome?_append]
  have : (List.range i).findSome? f = none := List.findSome?_eq_none_iff.2 fun j hj => h j (List.mem_range.1 hj)
  rw [this, Nat.add_comm 1, List.range_succ_eq_map]
  simp [hw]
theorem scan_end {α : Type} {n : Nat} {f : Nat → Option α} (h : ∀ j, j < n → f j = none) : scan n f = none := by
  unfold scan
  exact List.findSome?_eq_none_iff.2 fun j hj => h j (List.mem_range.1 hj)
theorem scan_none {α : Type} {n : Nat} {f : Nat → Option α} (h : scan n f = none) : ∀ j, j < n → f j = none := fun j hj => List.findSome?_eq_none_iff.1 h j (List.mem_range.2 hj)
theorem scan_some {α : Type} {n : Nat} {f : Nat → Option α} {w : α} (h : scan n f = some w) : ∃ i, i < n ∧ f i = some w := by
  unfold scan at h
  obtain ⟨i, hi, hw⟩ := List.exists_of_findSome?_eq_some h
  exact ⟨i, List.mem_range.1 hi, hw⟩
theorem scan_congr {α : Type} {n : Nat} {f g : Nat → Option α} (h : ∀ j, j < n → f j = g j) : scan n f = scan n g := by
  cases hf : scan n f with
  | none => exact (scan_end fun j hj => by rw [← h j hj]; exact scan_none hf j hj).symm
  | some w =>
    have hx : ∃ i, i < n ∧ f i = some w ∧ ∀ j, j < i → f j = none := by
      unfold scan at hf
      clear h
      induction n with
      | zero => simp at hf
      | succ n ih =>
        rw [List.range_succ, List.findSome?_append] at hf
        cases hn : (List.range n).findSome? f with
        | some v =>
          rw [hn] at hf
          simp only [Option.some_or, Option.some.injEq] at hf
          subst hf
          obtain ⟨i, h1, h2, h3⟩ := ih hn
          exact ⟨i, by omega, h2, h3⟩
        | none =>
          rw [hn] at hf
          simp only [Option.none_or, List.findSome?_cons, List.findSome?_nil] at hf
          refine ⟨n, Nat.lt_succ_self _, ?_, fun j hj => List.findSome?_eq_none_iff.1 hn j (List.mem_range.2 hj)⟩
          cases hfn : f n with
          | none => rw [hfn] at hf; cases hf
          | some v => rw [hfn] at hf; exact hf
    obtain ⟨i, h1, h2, h3⟩ := hx
    exact (scan_hit (fun j hj => by rw [← h j (by omega)]; exact h3 j hj) h1 (by rw [← h i h1]; exact h2)).symm
theorem wp_scan {α : Type} {a : LCode} (n : Nat) (f : Nat → Option α) (I : Nat → Fr → Lc → AH → Prop) (h0 : I 0 fr lc h)
    (hs : ∀ i fr lc h, i ≤ n → I i fr lc h → (∀ w, i < n → f i = some w → scan n f = some w) → (i = n → scan n f = none) → Wp p a fr lc h (loopQ (fun fr lc h => i < n ∧ f i = none ∧ I (i + 1) fr lc h) Q)) : Wp p (.loop a) fr lc h Q := by
  refine wp_for n (fun i fr lc h => (∀ j, j < i → f j = none) ∧ I i fr lc h) ⟨fun j hj => absurd hj (Nat.not_lt_zero _), h0⟩ ?_
  rintro i fr lc h hi ⟨hn, hI⟩
  refine wp_mono (hs i fr lc h hi hI (fun w h1 h2 => scan_hit hn h1 h2) (fun e => by subst e; exact scan_end hn)) fun ex fr lc h hq => ?_
  have hq := hq.out
  cases ex with
  | norm =>
    refine ⟨⟨hq.1, fun j hj => ?_, hq.2.2⟩⟩
    rcases Nat.lt_or_ge j i with h1 | h1
    · exact hn j h1
    · rw [show j = i by omega]; exact hq.2.1
  | exit j => exact ⟨hq⟩
  | ret => exact ⟨hq⟩
def scanL {α β : Type} (l : List α) (g : Nat → α → Option β) : Option β := scan l.length fun i => (l[i]?).bind (g i)
theorem scanL_none {α β : Type} {l : List α} {g : Nat → α → Option β} (h : scanL l g = none) (i : Nat) (hi : i < l.length) : g i l[i] = none := by
  have := scan_none h i hi
  rwa [List.getElem?_eq_getElem hi] at this
theorem scanL_some {α β : Type} {l : List α} {g : Nat → α → Option β} {w : β} (h : scanL l g = some w) : ∃ i, ∃ hi : i < l.length, g i l[i] = some w := by
  obtain ⟨i, hi, hw⟩ := scan_some h
  rw [List.getElem?_eq_getElem hi] at hw
  exact ⟨i, hi, hw⟩
theorem wp_scanL {α β : Type} {a : LCode} (l : List α) (g : Nat → α → Option β) (I : Nat → Fr → Lc → AH → Prop) (h0 : I 0 fr lc h)
    (fin : ∀ fr lc h, I l.length fr lc h → scanL l g = none → Wp p a fr lc h (loopQ (fun _ _ _ => False) Q))
    (more : ∀ i (hi : i < l.length) fr lc h, I i fr lc h → (∀ w, g i l[i] = some w → scanL l g = some w) → Wp p a fr lc h (loopQ (fun fr lc h => g i l[i] = none ∧ I (i + 1) fr lc h) Q)) :
    Wp p (.loop a) fr lc h Q := by
  refine wp_scan l.length (fun i => (l[i]?).bind (g i)) I h0 fun i fr lc h hi hI hit fn => ?_
  rcases Nat.lt_or_ge i l.length with hil | hil
  · refine wp_mono (more i hil fr lc h hI fun w hw => hit w hil (by rw [List.getElem?_eq_getElem hil]; exact hw)) fun ex fr lc h hq => ?_
    have hq := hq.out
    cases ex with
    | norm => exact ⟨⟨hil, by rw [List.getElem?_eq_getElem hil]; exact hq.1, hq.2⟩⟩
    | exit j => exact ⟨hq⟩
    | ret => exact ⟨hq⟩
  · have hie : i = l.length := by omega
    subst hie
    refine wp_mono (fin fr lc h hI (fn rfl)) fun ex fr lc h hq => ?_
    have hq := hq.out
    cases ex with
    | norm => exact hq.elim
    | exit j => exact ⟨hq⟩
    | ret => exact ⟨hq⟩
def setF : Fr → Nat → Value → Fr
  | [], _, _ => []
  | (k, v) :: r, n, x => if k = n then (k, x) :: r else (k, v) :: setF r n x
attribute [push_cast] setF
theorem wp_scanH {α β : Type} {a : LCode} {F : Int → Fr} (J : AH → Prop) (k : Nat) (l : List α) (g : Nat → α → Option β) (hF : ∀ n : Int, setF fr k (.int .i64 n) = F n) (h0 : fr = F 0) (hJ : J h)
    (more : ∀ i (hi : i < l.length) h, J h → (∀ w, g i l[i] = some w → scanL l g = some w) → Wp p a (F i) lc h (loopQ (fun fr' lc' h' => g i l[i] = none ∧ fr' = F ((i : Int) + 1) ∧ lc' = lc ∧ J h') Q))
    (fin : ∀ h, J h → scanL l g = none → Wp p a (F l.length) lc h (loopQ (fun _ _ _ => False) Q)) : Wp p (.loop a) fr lc h Q := by
  refine wp_scanL l g (fun i fr lc' h => fr = F i ∧ lc' = lc ∧ J h) ⟨h0, rfl, hJ⟩ ?_ ?_
  · rintro _ _ h ⟨rfl, rfl, hj⟩ fn
    exact fin h hj fn
  · rintro i hi _ _ h ⟨rfl, rfl, hj⟩ hit
    refine wp_mono (more i hi h hj hit) fun ex fr lc h hq => ?_
    have hq := hq.out
    cases ex with
    | norm => exact ⟨⟨hq.1, by rw [hq.2.1]; simp only [Int.natCast_add]; rfl, hq.2.2.1, hq.2.2.2⟩⟩
    | exit j => exact ⟨hq⟩
    | ret => exact ⟨hq⟩
theorem wp_scanF {α β : Type} {a : LCode} {F : Int → Fr} (k : Nat) (l : List α) (g : Nat → α → Option β) (hF : ∀ n : Int, setF fr k (.int .i64 n) = F n) (h0 : fr = F 0)
    (more : ∀ i (hi : i < l.length), (∀ w, g i l[i] = some w → scanL l g = some w) → Wp p a (F i) lc h (loopQ (fun fr' lc' h' => g i l[i] = none ∧ fr' = F ((i : Int) + 1) ∧ lc' = lc ∧ h' = h) Q))
    (fin : scanL l g = none → Wp p a (F l.length) lc h (loopQ (fun _ _ _ => False) Q)) : Wp p (.loop a) fr lc h Q :=
  wp_scanH (fun h' => h' = h) k l g hF h0 rfl (fun i hi h' e => by subst e; exact more i hi) (fun h' e => by subst e; exact fin)
theorem wp_scanN {β : Type} {a : LCode} {F : Int → Fr} (K : IntKind) (b : Int) (n k : Nat) (f : Nat → Option β) (hF : ∀ m : Int, setF fr k (.int K m) = F m) (h0 : fr = F b)
    (more : ∀ i, i < n → (∀ w, f i = some w → scan n f = some w) → Wp p a (F (b + i)) lc h (loopQ (fun fr' lc' h' => f i = none ∧ fr' = F (b + i + 1) ∧ lc' = lc ∧ h' = h) Q))
    (fin : scan n f = none → Wp p a (F (b + n)) lc h (loopQ (fun _ _ _ => False) Q)) : Wp p (.loop a) fr lc h Q := by
  refine wp_scan n f (fun i fr lc' h' => fr = F (b + i) ∧ lc' = lc ∧ h' = h) ⟨by rw [h0]; congr 1; omega, rfl, rfl⟩ ?_
  rintro i _ _ _ hi ⟨rfl, rfl, rfl⟩ hit fn
  rcases Nat.lt_or_ge i n with hil | hil
  · refine wp_mono (more i hil fun w => hit w hil) fun ex fr lc h hq => ?_
    have hq := hq.out
    cases ex with
    | norm => exact ⟨⟨hil, hq.1, by rw [hq.2.1]; congr 1; omega, hq.2.2⟩⟩
    | exit j => exact ⟨hq⟩
    | ret => exact ⟨hq⟩
  · have hie : i = n := by omega
    subst hie
    refine wp_mono (fin (fn rfl)) fun ex fr lc h hq => ?_
    have hq := hq.out
    cases ex with
    | norm => exact hq.elim
    | exit j => exact ⟨hq⟩
    | ret => exact ⟨hq⟩
theorem scanL_map {α γ β : Type} {l : List γ} {f : γ → α} {g : Nat → α → Option β} : scanL (l.map f) g = scanL l fun i z => g i (f z) := by
  unfold scanL
  rw [List.length_map]
  refine scan_congr fun i hi => ?_
  rw [List.getElem?_map, List.getElem?_eq_getElem hi]
  rfl
end
end Go.Proofs.YtblmakgjdenpfaaDoor.AM
namespace Go.Proofs.YtblmakgjdenpfaaDoor.AM
open Go
abbrev Bytes := List UInt8
def bat (l : Bytes) (k : Nat) : Nat := (l.getD k 0).toNat
def bcont (l : Bytes) (k : Nat) : Bool := decide (k < l.length) && bat l k / 64 == 2
def dec1 (l : Bytes) : Nat × Nat :=
  if bat l 0 < 0x80 then (bat l 0, 1)
  else if bat l 0 / 32 == 6 && bcont l 1 then
    if (bat l 0 % 32) * 64 + bat l 1 % 64 ≥ 0x80 then ((bat l 0 % 32) * 64 + bat l 1 % 64, 2) else (0xFFFD, 1)
  else if bat l 0 / 16 == 14 && bcont l 1 && bcont l 2 then
    if (bat l 0 % 16) * 4096 + (bat l 1 % 64) * 64 + bat l 2 % 64 ≥ 0x800 && Utf8.valid ((bat l 0 % 16) * 4096 + (bat l 1 % 64) * 64 + bat l 2 % 64 : Nat) then ((bat l 0 % 16) * 4096 + (bat l 1 % 64) * 64 + bat l 2 % 64, 3) else (0xFFFD, 1)
  else if bat l 0 / 8 == 30 && bcont l 1 && bcont l 2 && bcont l 3 then
    if (bat l 0 % 8) * 262144 + (bat l 1 % 64) * 4096 + (bat l 2 % 64) * 64 + bat l 3 % 64 ≥ 0x10000 && Utf8.valid ((bat l 0 % 8) * 262144 + (bat l 1 % 64) * 4096 + (bat l 2 % 64) * 64 + bat l 3 % 64 : Nat) then
      ((bat l 0 % 8) * 262144 + (bat l 1 % 64) * 4096 + (bat l 2 % 64) * 64 + bat l 3 % 64, 4) else (0xFFFD, 1)
  else (0xFFFD, 1)
def RuneN (c : Nat) : Prop := c < 0xD800 ∨ (0xE000 ≤ c ∧ c ≤ 0x10FFFF)
theorem valid_iff (c : Nat) : Utf8.valid (c : Int) = true ↔ RuneN c := by
  unfold Utf8.valid RuneN
  simp only [Bool.or_eq_true, Bool.and_eq_true, decide_eq_true_eq]
  omega
def encN (c : Nat) : Bytes :=
  if c < 0x80 then [UInt8.ofNat c]
  else if c < 0x800 then [UInt8.ofNat (0xC0 + c / 64), UInt8.ofNat (0x80 + c % 64)]
  else if c < 0x10000 then [UInt8.ofNat (0xE0 + c / 4096), UInt8.ofNat (0x80 + c / 64 % 64), UInt8.ofNat (0x80 + c % 64)]
  else [UInt8.ofNat (0xF0 + c / 262144), UInt8.ofNat (0x80 + c / 4096 % 64), UInt8.ofNat (0x80 + c / 64 % 64), UInt8.ofNat (0x80 + c % 64)]
set_option maxRecDepth 100000 in
theorem encode_eq {c : Nat} (h : RuneN c) : (Utf8.encode (c : Int)).data.toList = encN c := by
  unfold Utf8.encode encN
  rw [if_pos ((valid_iff c).2 h)]
  simp only [Int.toNat_natCast]
  by_cases h1 : c < 0x80
  · rw [if_pos h1, if_pos h1]
  · rw [if_neg h1, if_neg h1]
    by_cases h2 : c < 0x800
    · rw [if_pos h2, if_pos h2]
    · rw [if_neg h2, if_neg h2]
      by_cases h3 : c < 0x10000
      · rw [if_pos h3, if_pos h3]
      · rw [if_neg h3, if_neg h3]
theorem bat_cons0 (a : UInt8) (l : Bytes) : bat (a :: l) 0 = a.toNat := rfl
theorem bat_cons1 (a b : UInt8) (l : Bytes) : bat (a :: b :: l) 1 = b.toNat := rfl
theorem bat_cons2 (a b c : UInt8) (l : Bytes) : bat (a :: b :: c :: l) 2 = c.toNat := rfl
theorem bat_cons3 (a b c d : UInt8) (l : Bytes) : bat (a :: b :: c :: d :: l) 3 = d.toNat := rfl
theorem of_small {n : Nat} (h : n < 256) : (UInt8.ofNat n).toNat = n := by
  rw [UInt8.toNat_ofNat']; exact Nat.mod_eq_of_lt h
theorem dec_enc {c : Nat} (h : RuneN c) (rest : Bytes) : dec1 (encN c ++ rest) = (c, (encN c).length) := by
  have hv := (valid_iff c).2 h
  have hle : c ≤ 0x10FFFF := by unfold RuneN at h; omega
  unfold encN
  split
  · rename_i h1
    simp only [List.cons_append, List.nil_append, dec1, bat_cons0, of_small (show c < 256 by omega), if_pos h1, List.length_cons, List.length_nil]
  · rename_i h1
    split
    · rename_i h2
      have a1 : 0xC0 + c / 64 < 256 := by omega
      have a2 : 0x80 + c % 64 < 256 := by omega
      have e : (0xC0 + c / 64) % 32 * 64 + (0x80 + c % 64) % 64 = c := by omega
      simp only [List.cons_append, List.nil_append, dec1, bcont, bat_cons0, bat_cons1, of_small a1, of_small a2, List.length_cons, e]
      rw [if_neg (by omega), if_pos (by simp; omega), if_pos (by omega)]
      rfl
    · rename_i h2
      split
      · rename_i h3
        have a1 : 0xE0 + c / 4096 < 256 := by omega
        have a2 : 0x80 + c / 64 % 64 < 256 := by omega
        have a3 : 0x80 + c % 64 < 256 := by omega
        have e : (0xE0 + c / 4096) % 16 * 4096 + (0x80 + c / 64 % 64) % 64 * 64 + (0x80 + c % 64) % 64 = c := by omega
        simp only [List.cons_append, List.nil_append, dec1, bcont, bat_cons0, bat_cons1, bat_cons2, of_small a1, of_small a2, of_small a3, List.length_cons, e, hv]
        rw [if_neg (by omega), if_neg (by simp; omega), if_pos (by simp; omega), if_pos (by simp; omega)]
        rfl
      · rename_i h3
        have a1 : 0xF0 + c / 262144 < 256 := by omega
        have a2 : 0x80 + c / 4096 % 64 < 256 := by omega
        have a3 : 0x80 + c / 64 % 64 < 256 := by omega
        have a4 : 0x80 + c % 64 < 256 := by omega
        have e : (0xF0 + c / 262144) % 8 * 262144 + (0x80 + c / 4096 % 64) % 64 * 4096 + (0x80 + c / 64 % 64) % 64 * 64 + (0x80 + c % 64) % 64 = c := by omega
        simp only [List.cons_append, List.nil_append, dec1, bcont, bat_cons0, bat_cons1, bat_cons2, bat_cons3, of_small a1, of_small a2, of_small a3, of_small a4, List.length_cons, e, hv]
        rw [if_neg (by omega), if_neg (by simp; omega), if_neg (by simp; omega), if_pos (by simp; omega), if_pos (by simp; omega)]
        rfl
theorem u8_eq {a : UInt8} {n : Nat} (h : a.toNat = n) : UInt8.ofNat n = a := by
  rw [← h]; exact UInt8.ofNat_toNat
theorem u8_lt (a : UInt8) : a.toNat < 256 := a.toNat_lt
theorem dec_cases {l : Bytes} (hl : l ≠ []) : (∃ c rest, RuneN c ∧ l = encN c ++ rest ∧ dec1 l = (c, (encN c).length)) ∨ (dec1 l = (0xFFFD, 1) ∧ ∀ c rest, RuneN c → l ≠ encN c ++ rest) := by
  have bad : dec1 l = (0xFFFD, 1) → (dec1 l = (0xFFFD, 1) ∧ ∀ c rest, RuneN c → l ≠ encN c ++ rest) := fun h => ⟨h, fun c rest hc e => by
    rw [e, dec_enc hc] at h
    injection h with h1 h2
    subst h1
    exact absurd h2 (by decide)⟩
  have good : ∀ c rest, RuneN c → l = encN c ++ rest → (∃ c rest, RuneN c ∧ l = encN c ++ rest ∧ dec1 l = (c, (encN c).length)) := fun c rest hc e => ⟨c, rest, hc, e, by rw [e]; exact dec_enc hc rest⟩
  match l, hl with
  | a :: t, _ =>
    have ha := u8_lt a
    by_cases h1 : a.toNat < 0x80
    · refine .inl (good a.toNat t (.inl (by omega)) ?_)
      unfold encN
      rw [if_pos h1, u8_eq rfl]; rfl
    by_cases h2 : (a.toNat / 32 == 6 && bcont (a :: t) 1) = true
    · have h2' := h2
      simp only [Bool.and_eq_true, beq_iff_eq, bcont, decide_eq_true_eq] at h2
      obtain ⟨g1, g2, g3⟩ := h2
      match t, g2, g3, h2' with
      | b :: t, _, g3, h2' =>
        rw [bat_cons1] at g3
        have hb := u8_lt b
        by_cases hc : (a.toNat % 32) * 64 + b.toNat % 64 ≥ 0x80
        · refine .inl (good ((a.toNat % 32) * 64 + b.toNat % 64) t (.inl (by omega)) ?_)
          unfold encN
          rw [if_neg (by omega), if_pos (by omega), u8_eq (a := a) (by omega), u8_eq (a := b) (by omega)]; rfl
        · refine .inr (bad ?_)
          unfold dec1
          rw [bat_cons0, if_neg h1, if_pos h2', bat_cons1, if_neg hc]
      | [], g2, _, _ => simp at g2
    by_cases h3 : (a.toNat / 16 == 14 && bcont (a :: t) 1 && bcont (a :: t) 2) = true
    · have h3' := h3
      simp only [Bool.and_eq_true, beq_iff_eq, bcont, decide_eq_true_eq] at h3
      obtain ⟨⟨g1, g2, g3⟩, g4, g5⟩ := h3
      match t, g2, g3, g4, g5, h2, h3' with
      | b :: c :: t, _, g3, _, g5, h2, h3' =>
        rw [bat_cons1] at g3
        rw [bat_cons2] at g5
        have hb := u8_lt b
        have hc := u8_lt c
        by_cases hd : ((a.toNat % 16) * 4096 + (b.toNat % 64) * 64 + c.toNat % 64 ≥ 0x800 && Utf8.valid ((a.toNat % 16) * 4096 + (b.toNat % 64) * 64 + c.toNat % 64 : Nat)) = true
        · simp only [Bool.and_eq_true, decide_eq_true_eq] at hd
          refine .inl (good ((a.toNat % 16) * 4096 + (b.toNat % 64) * 64 + c.toNat % 64) t ((valid_iff _).1 hd.2) ?_)
          unfold encN
          rw [if_neg (by omega), if_neg (by omega), if_pos (by omega), u8_eq (a := a) (by omega), u8_eq (a := b) (by omega), u8_eq (a := c) (by omega)]; rfl
        · refine .inr (bad ?_)
          unfold dec1
          rw [bat_cons0, if_neg h1, if_neg h2, if_pos h3', bat_cons1, bat_cons2, if_neg hd]
      | [b], _, _, g4, _, _, _ => simp at g4
      | [], g2, _, _, _, _, _ => simp at g2
    by_cases h4 : (a.toNat / 8 == 30 && bcont (a :: t) 1 && bcont (a :: t) 2 && bcont (a :: t) 3) = true
    · have h4' := h4
      simp only [Bool.and_eq_true, beq_iff_eq, bcont, decide_eq_true_eq] at h4
      obtain ⟨⟨⟨g1, g2, g3⟩, g4, g5⟩, g6, g7⟩ := h4
      match t, g2, g3, g4, g5, g6, g7, h2, h3, h4' with
      | b :: c :: d :: t, _, g3, _, g5, _, g7, h2, h3, h4' =>
        rw [bat_cons1] at g3
        rw [bat_cons2] at g5
        rw [bat_cons3] at g7
        have hb := u8_lt b
        have hc := u8_lt c
        have hdd := u8_lt d
        by_cases hd : ((a.toNat % 8) * 262144 + (b.toNat % 64) * 4096 + (c.toNat % 64) * 64 + d.toNat % 64 ≥ 0x10000 && Utf8.valid ((a.toNat % 8) * 262144 + (b.toNat % 64) * 4096 + (c.toNat % 64) * 64 + d.toNat % 64 : Nat)) = true
        · simp only [Bool.and_eq_true, decide_eq_true_eq] at hd
          refine .inl (good ((a.toNat % 8) * 262144 + (b.toNat % 64) * 4096 + (c.toNat % 64) * 64 + d.toNat % 64) t ((valid_iff _).1 hd.2) ?_)
          unfold encN
          rw [if_neg (by omega), if_neg (by omega), if_neg (by omega), u8_eq (a := a) (by omega), u8_eq (a := b) (by omega), u8_eq (a := c) (by omega), u8_eq (a := d) (by omega)]; rfl
        · refine .inr (bad ?_)
          unfold dec1
          rw [bat_cons0, if_neg h1, if_neg h2, if_neg h3, if_pos h4', bat_cons1, bat_cons2, bat_cons3, if_neg hd]
      | [b, c], _, _, _, _, g6, _, _, _, _ => simp at g6
      | [b], _, _, g4, _, _, _, _, _, _ => simp at g4
      | [], g2, _, _, _, _, _, _, _, _ => simp at g2
    · refine .inr (bad ?_)
      unfold dec1
      rw [bat_cons0, if_neg h1, if_neg h2, if_neg h3, if_neg h4]
theorem encN_len (c : Nat) : 1 ≤ (encN c).length ∧ (encN c).length ≤ 4 := by
  unfold encN
  split
  · simp
  · split
    · simp
    · split <;> simp
theorem dec_width {l : Bytes} (hl : l ≠ []) : 1 ≤ (dec1 l).2 ∧ (dec1 l).2 ≤ l.length := by
  rcases dec_cases hl with ⟨c, rest, hc, e, hd⟩ | ⟨hd, _⟩
  · rw [hd, e]
    have := encN_len c
    simp only [List.length_append]
    omega
  · rw [hd]
    have : 0 < l.length := List.length_pos_iff.2 hl
    simp only
    omega
theorem decode_list (s : ByteArray) (i : Nat) (hi : i < s.size) : Utf8.decode s i = dec1 (s.data.toList.drop i) := by
  have hat : ∀ k, (s.get! (i + k)).toNat = bat (s.data.toList.drop i) k := fun k => by
    unfold bat
    rw [List.getD_eq_getElem?_getD, List.getElem?_drop]
    simp only [ByteArray.get!, Array.getElem?_toList]
    rw [getElem!_def]
    cases s.data[i + k]? <;> rfl
  have hct : ∀ k, (decide (i + k < s.size) && bat (s.data.toList.drop i) k / 64 == 2) = bcont (s.data.toList.drop i) k := fun k => by
    unfold bcont
    congr 1
    simp only [List.length_drop, Array.length_toList]
    exact decide_eq_decide.2 (by show i + k < s.data.size ↔ _; omega)
  unfold Utf8.decode dec1
  simp only [hat, hct, Utf8.runeError]
end Go.Proofs.YtblmakgjdenpfaaDoor.AM
namespace Go.Proofs.YtblmakgjdenpfaaDoor.AM
open Go
def spotsN : Nat → Bytes → List (Nat × Nat)
  | 0, _ => []
  | _ + 1, [] => []
  | k + 1, l => dec1 l :: spotsN k (l.drop (dec1 l).2)
def spots (l : Bytes) : List (Nat × Nat) := spotsN l.length l
theorem spotsN_more : ∀ (k : Nat) (l : Bytes), l.length ≤ k → spotsN k l = spotsN l.length l
  | 0, l, h => by
    have : l = [] := List.eq_nil_of_length_eq_zero (by omega)
    subst this; rfl
  | k + 1, [], _ => rfl
  | k + 1, a :: t, h => by
    have hw := dec_width (l := a :: t) (by simp)
    have hd : ((a :: t).drop (dec1 (a :: t)).2).length ≤ t.length := by rw [List.length_drop]; simp only [List.length_cons]; omega
    have hd2 : ((a :: t).drop (dec1 (a :: t)).2).length ≤ k := by simp only [List.length_cons] at h; omega
    simp only [spotsN, List.length_cons]
    rw [spotsN_more k _ hd2, spotsN_more t.length _ hd]
theorem spots_nil : spots [] = [] := rfl
theorem spots_cons {l : Bytes} (hl : l ≠ []) : spots l = dec1 l :: spots (l.drop (dec1 l).2) := by
  match l, hl with
  | a :: t, _ =>
    have hw := dec_width (l := a :: t) (by simp)
    have hd : ((a :: t).drop (dec1 (a :: t)).2).length ≤ t.length := by rw [List.length_drop]; simp only [List.length_cons]; omega
    unfold spots
    simp only [List.length_cons, spotsN]
    rw [spotsN_more _ _ hd]
theorem spots_enc {c : Nat} (hc : RuneN c) (rest : Bytes) : spots (encN c ++ rest) = (c, (encN c).length) :: spots rest := by
  have hl : encN c ++ rest ≠ [] := by
    have := (encN_len c).1
    intro h
    have h2 := congrArg List.length h
    simp only [List.length_append, List.length_nil] at h2
    omega
  rw [spots_cons hl, dec_enc hc]
  simp only [List.drop_left]
theorem spots_ind {p : Bytes → Prop} (h0 : p []) (hg : ∀ c rest, RuneN c → p rest → p (encN c ++ rest)) (hb : ∀ l, l ≠ [] → dec1 l = (0xFFFD, 1) → (∀ c rest, RuneN c → l ≠ encN c ++ rest) → p (l.drop 1) → p l) : ∀ l, p l := by
  intro l
  generalize hn : l.length = n
  induction n using Nat.strongRecOn generalizing l with
  | ind n ih =>
    rcases List.eq_nil_or_concat l with rfl | _
    · exact h0
    · by_cases hl : l = []
      · rw [hl]; exact h0
      · rcases dec_cases hl with ⟨c, rest, hc, rfl, _⟩ | ⟨hd, hno⟩
        · refine hg c rest hc (ih rest.length ?_ rest rfl)
          have := (encN_len c).1
          simp only [List.length_append] at hn
          omega
        · refine hb l hl hd hno (ih (l.drop 1).length ?_ _ rfl)
          have : 0 < l.length := List.length_pos_iff.2 hl
          rw [List.length_drop]; omega
theorem rune_bad : RuneN 0xFFFD := .inr ⟨by decide, by decide⟩
def encs (cs : List Nat) : Bytes := cs.flatMap encN
theorem encs_cons (c : Nat) (cs : List Nat) : encs (c :: cs) = encN c ++ encs cs := by simp [encs]
theorem encs_append (a b : List Nat) : encs (a ++ b) = encs a ++ encs b := by simp [encs]
def runesB (l : Bytes) : List Nat := (spots l).map (·.1)
theorem runesB_nil : runesB [] = [] := rfl
theorem runesB_enc {c : Nat} (hc : RuneN c) (rest : Bytes) : runesB (encN c ++ rest) = c :: runesB rest := by unfold runesB; rw [spots_enc hc]; rfl
theorem runesB_bad {l : Bytes} (hl : l ≠ []) (hd : dec1 l = (0xFFFD, 1)) : runesB l = 0xFFFD :: runesB (l.drop 1) := by unfold runesB; rw [spots_cons hl, hd]; rfl
theorem runesB_rune (l : Bytes) : ∀ c ∈ runesB l, RuneN c := by
  refine spots_ind (p := fun l => ∀ c ∈ runesB l, RuneN c) (by simp [runesB_nil]) (fun c rest hc ih => ?_) (fun l hl hd _ ih => ?_) l
  · rw [runesB_enc hc]
    intro x hx
    rcases List.mem_cons.1 hx with rfl | hx
    · exact hc
    · exact ih x hx
  · rw [runesB_bad hl hd]
    intro x hx
    rcases List.mem_cons.1 hx with rfl | hx
    · exact rune_bad
    · exact ih x hx
def validB (l : Bytes) : Bool := (spots l).all fun x => !(x.1 == 0xFFFD && x.2 == 1)
theorem encN_bad : (encN 0xFFFD).length = 3 := by decide
theorem validB_enc {c : Nat} (hc : RuneN c) (rest : Bytes) : validB (encN c ++ rest) = validB rest := by
  unfold validB
  rw [spots_enc hc]
  simp only [List.all_cons]
  have : (!(c == 0xFFFD && (encN c).length == 1)) = true := by
    by_cases h : c = 0xFFFD
    · subst h; rw [encN_bad]; rfl
    · simp [h]
  rw [this, Bool.true_and]
theorem validB_bad {l : Bytes} (hl : l ≠ []) (hd : dec1 l = (0xFFFD, 1)) : validB l = false := by
  unfold validB
  rw [spots_cons hl, hd]
  rfl
theorem spots_sum (l : Bytes) : ((spots l).map (·.2)).sum = l.length := by
  refine spots_ind (p := fun l => ((spots l).map (·.2)).sum = l.length) rfl (fun c rest hc ih => ?_) (fun l hl hd hno ih => ?_) l
  · rw [spots_enc hc]; simp [ih]
  · rw [spots_cons hl, hd]
    have : 0 < l.length := List.length_pos_iff.2 hl
    simp only [List.map_cons, List.sum_cons, ih, List.length_drop]
    omega
theorem spots_len (l : Bytes) : (spots l).length ≤ l.length := by
  refine spots_ind (p := fun l => (spots l).length ≤ l.length) (Nat.le_refl _) (fun c rest hc ih => ?_) (fun l hl hd hno ih => ?_) l
  · rw [spots_enc hc]
    have := (encN_len c).1
    simp only [List.length_cons, List.length_append]
    omega
  · rw [spots_cons hl, hd]
    have : 0 < l.length := List.length_pos_iff.2 hl
    simp only [List.length_cons]
    rw [List.length_drop] at ih
    omega
end Go.Proofs.YtblmakgjdenpfaaDoor.AM
namespace Go.Proofs.YtblmakgjdenpfaaDoor.AM
open Go
abbrev ByteArray.l (s : ByteArray) : Bytes := s.data.toList
theorem ba_size (s : ByteArray) : s.size = s.data.toList.length := rfl
theorem ba_ext {s t : ByteArray} (h : s.data.toList = t.data.toList) : s = t := by
  obtain ⟨s⟩ := s; obtain ⟨t⟩ := t
  congr 1
  exact Array.toList_inj.1 h
theorem ba_extract (s : ByteArray) (i j : Nat) (hj : j ≤ s.size) : (s.extract i j).data.toList = (s.data.toList.drop i).take (j - i) := by
  rw [ByteArray.data_extract, Array.toList_extract, List.extract_eq_take_drop]
def slSH (v w : Value) : Option Value := (POp.slS (.c v) none (some (.c w))).ev []
def slSL (v w : Value) : Option Value := (POp.slS (.c v) (some (.c w)) none).ev []
def slSB (v u w : Value) : Option Value := (POp.slS (.c v) (some (.c u)) (some (.c w))).ev []
def idxSP (v w : Value) : Option Value := (POp.idxS (.c v) (.c w)).ev []
def slenP (v : Value) : Option Value := (POp.slen (.c v)).ev []
def i2sP (v : Value) : Option Value := (POp.i2s (.c v)).ev []
theorem ev_slSHi {fr : Fr} {x c : Opd} : (POp.slS x none (some c)).ev fr = slSH (opd fr x) (opd fr c) := rfl
theorem ev_slSLo {fr : Fr} {x c : Opd} : (POp.slS x (some c) none).ev fr = slSL (opd fr x) (opd fr c) := rfl
theorem ev_slSBo {fr : Fr} {x c e : Opd} : (POp.slS x (some c) (some e)).ev fr = slSB (opd fr x) (opd fr c) (opd fr e) := rfl
theorem ev_idxSP {fr : Fr} {x c : Opd} : (POp.idxS x c).ev fr = idxSP (opd fr x) (opd fr c) := rfl
theorem ev_slenP {fr : Fr} {x : Opd} : (POp.slen x).ev fr = slenP (opd fr x) := rfl
theorem ev_i2sP {fr : Fr} {x : Opd} : (POp.i2s x).ev fr = i2sP (opd fr x) := rfl
theorem slSH_int {s : ByteArray} {k : IntKind} {j : Int} (h0 : 0 ≤ j) (h : j ≤ s.size) : slSH (.string s) (.int k j) = some (.string (s.extract 0 j.toNat)) := by
  simp only [slSH, POp.ev, opd, optInt, asNat]
  rw [if_pos ⟨by omega, by omega, by omega⟩]
  simp
theorem slSL_int {s : ByteArray} {k : IntKind} {j : Int} (h0 : 0 ≤ j) (h : j ≤ s.size) : slSL (.string s) (.int k j) = some (.string (s.extract j.toNat s.size)) := by
  simp only [slSL, POp.ev, opd, optInt, asNat]
  rw [if_pos ⟨by omega, by omega, by omega⟩]
  simp
theorem slSB_int {s : ByteArray} {k k' : IntKind} {i j : Int} (h0 : 0 ≤ i) (h1 : i ≤ j) (h : j ≤ s.size) : slSB (.string s) (.int k i) (.int k' j) = some (.string (s.extract i.toNat j.toNat)) := by
  simp only [slSB, POp.ev, opd, optInt, asNat]
  rw [if_pos ⟨by omega, by omega, by omega⟩]
theorem idxSP_int {s : ByteArray} {k : IntKind} {j : Int} (h0 : 0 ≤ j) (h : j < s.size) : idxSP (.string s) (.int k j) = some (.int .u8 (bat s.data.toList j.toNat : Nat)) := by
  simp only [idxSP, POp.ev, opd]
  rw [if_pos ⟨by omega, by omega⟩]
  congr 2
  unfold bat
  rw [List.getD_eq_getElem?_getD, Array.getElem?_toList]
  rfl
theorem slenP_str {s : ByteArray} : slenP (.string s) = some (.int .i64 s.size) := rfl
theorem i2sP_int {k : IntKind} {n : Int} : i2sP (.int k n) = some (.string (Utf8.encode n)) := rfl
theorem str_eql {x y : ByteArray} : binA .eql (.string x) (.string y) = some (.bool (decide (x = y))) := by
  show some (Value.bool (x.toList == y.toList)) = _
  rw [ByteArray.toList_eq, ByteArray.toList_eq]
  congr 2
  by_cases h : x = y
  · subst h; simp
  · rw [decide_eq_false h]
    simp only [beq_eq_false_iff_ne, ne_eq]
    exact fun e => h (ba_ext e)
theorem str_neq {x y : ByteArray} : binA .neq (.string x) (.string y) = some (.bool (!decide (x = y))) := by
  have := str_eql (x := x) (y := y)
  have e : binA .neq (.string x) (.string y) = (binA .eql (.string x) (.string y)).map fun v => match v with | .bool b => .bool (!b) | v => v := rfl
  rw [e, this]; rfl
attribute [push_cast] ev_slSHi ev_slSLo ev_slSBo ev_idxSP ev_slenP ev_i2sP slSH_int slSL_int slSB_int idxSP_int slenP_str i2sP_int str_eql str_neq
theorem ev_rngS {c : CallF} {y : YieldF} {fr : Fr} {m : Mem} {t : Nat} {x : Opd} : (EOp.rngS t x).ev c y fr m = match opd fr x with
    | .string s => (m.newLoc t (.siter s 0)).map fun m' => (.pointer (some (loc (2 * t + 1) 0)), m')
    | _ => none := rfl
def posn (l : Bytes) (i : Nat) : Nat := (((spots l).take i).map (·.2)).sum
theorem posn_zero (l : Bytes) : posn l 0 = 0 := by simp [posn]
theorem posn_succ {l : Bytes} {i : Nat} (hi : i < (spots l).length) : posn l (i + 1) = posn l i + ((spots l)[i]).2 := by
  unfold posn
  rw [List.take_succ_eq_append_getElem hi, List.map_append, List.sum_append]
  simp
theorem spots_drop : ∀ (l : Bytes) (i : Nat), i ≤ (spots l).length → spots (l.drop (posn l i)) = (spots l).drop i ∧ posn l i ≤ l.length
  | l, 0, _ => by rw [posn_zero]; simp
  | l, i + 1, hi => by
    obtain ⟨ih, ih2⟩ := spots_drop l i (by omega)
    have hs := posn_succ (l := l) (i := i) hi
    have hne : l.drop (posn l i) ≠ [] := fun e => by
      rw [e, spots_nil] at ih
      have := congrArg List.length ih
      simp only [List.length_nil, List.length_drop] at this
      omega
    rw [spots_cons hne, List.drop_eq_getElem_cons hi] at ih
    injection ih with h1 h2
    have hw := dec_width hne
    rw [h1] at h2 hw
    rw [hs]
    rw [List.length_drop] at hw
    refine ⟨?_, by omega⟩
    rw [← h2, List.drop_drop]
theorem posn_lt {l : Bytes} {i : Nat} (hi : i < (spots l).length) : posn l i < l.length ∧ dec1 (l.drop (posn l i)) = (spots l)[i] ∧ l.drop (posn l i) ≠ [] := by
  obtain ⟨ih, ih2⟩ := spots_drop l i (by omega)
  have hne : l.drop (posn l i) ≠ [] := fun e => by
    rw [e, spots_nil] at ih
    have := congrArg List.length ih
    simp only [List.length_nil, List.length_drop] at this
    omega
  rw [spots_cons hne, List.drop_eq_getElem_cons hi] at ih
  injection ih with h1 h2
  refine ⟨?_, h1, hne⟩
  have : 0 < (l.drop (posn l i)).length := List.length_pos_iff.2 hne
  rw [List.length_drop] at this
  omega
theorem posn_all (l : Bytes) : posn l (spots l).length = l.length := by
  unfold posn
  rw [List.take_length, spots_sum]
end Go.Proofs.YtblmakgjdenpfaaDoor.AM
namespace Go.Proofs.YtblmakgjdenpfaaDoor.AM
open Go
abbrev Span := Int × Int
abbrev Scr := ByteArray × List Span
structure Tab where
  scripts : List Scr
  common : List Span
  marks : List (Int × Int)
  pairs : List (Int × Int × Int)
  folds : List (Int × ByteArray)
  looks : List (Int × ByteArray)
  drops : List Span
  allowed : List Span
def runeI (r : Int) : Bool := decide (0 ≤ r ∧ r ≤ 1114111 ∧ (r < 55296 ∨ 57343 < r))
def ofI (r : Int) (l : List Span) : Bool := runeI r && l.any fun s => decide (s.1 ≤ r ∧ r ≤ s.2)
def badNm (i : Nat) (c : UInt8) : Prop := ¬ (97 ≤ c.toNat ∧ c.toNat ≤ 122) ∧ (i = 0 ∨ (c.toNat ≠ 45 ∧ (c.toNat < 48 ∨ 57 < c.toNat)))
instance (i : Nat) (c : UInt8) : Decidable (badNm i c) := by unfold badNm; infer_instance
def nameB (l : Bytes) : Bool := (scanL l fun i c => if badNm i c then some () else none).isNone && decide (1 ≤ l.length ∧ l.length ≤ 32)
def isMark (T : Tab) (r : Int) : Bool := T.marks.any fun x => decide (x.1 = r)
def classI (T : Tab) (r : Int) : Int := (scanL T.marks fun _ x => if x.1 = r then some x.2 else none).getD 0
def wholeO (T : Tab) (r : Int) : Option Nat := scanL T.pairs fun i x => if x.1 = r then some i else none
def fromO (l : List (Int × ByteArray)) (r : Int) : Option Nat := scanL l fun i x => if x.1 = r then some i else none
def plainI (T : Tab) (r : Int) : Bool := runeI r && !isMark T r && (wholeO T r).isNone && !ofI r T.drops && (fromO T.folds r).isNone
def ixI : Option Nat → Int
  | some i => i
  | none => -1
abbrev W3 := Int × Int × Int
abbrev W (a b c : Int) : Option W3 := some (a, b, c)
def wrV : Option W3 → Value
  | some (a, b, c) => .agg (List.toArray [.int .i64 a, .int .i64 b, .int .i64 c])
  | none => .agg (List.toArray [.int .i64 0, .int .i64 0, .int .i64 0])
def longW (T : Tab) : Option W3 :=
  if 64 < T.scripts.length then W 4 1 64 else
  (scanL T.scripts fun i x => if 1024 < x.2.length then W 4 1 i else none).or
  (if 1024 < T.common.length then W 4 2 1024 else if 512 < T.marks.length then W 4 3 512 else if 4096 < T.pairs.length then W 4 4 4096 else if 4096 < T.folds.length then W 4 5 4096 else
    if 4096 < T.looks.length then W 4 6 4096 else if 1024 < T.drops.length then W 4 7 1024 else if 1024 < T.allowed.length then W 4 8 1024 else none)
def spanE (l : List Span) (i : Nat) (x : Span) : Option Int :=
  if runeI x.1 = false ∨ runeI x.2 = false then some 12 else if x.2 < x.1 then some 11 else if 0 < i ∧ x.1 ≤ (l.getD (i - 1) (0, 0)).2 then some 13 else none
def spansE (l : List Span) : Option (Int × Nat) := scanL l fun i x => (spanE l i x).map fun e => (e, i)
def spansW (l : List Span) (n : Int) : Option W3 := (spansE l).map fun e => (e.1, n, (e.2 : Int))
def scrE (x : Scr) : Option Int := if nameB x.1.data.toList = false then some 38 else (spansE x.2).map (·.1)
def rnO (s : ByteArray) : Option (List Nat) := if validB s.data.toList then some (runesB s.data.toList) else none
def toBad (s : ByteArray) : Prop := validB s.data.toList = false ∨ (runesB s.data.toList).length < 1 ∨ 4 < (runesB s.data.toList).length
instance (s : ByteArray) : Decidable (toBad s) := by unfold toBad; infer_instance
def mapsW (l : List (Int × ByteArray)) (n : Int) : Option W3 := scanL l fun i x => if runeI x.1 = false then some (12, n, (i : Int)) else if toBad x.2 then some (35, n, (i : Int)) else none
def formsW (T : Tab) : Option W3 :=
  (scanL T.scripts fun i x => (scrE x).map fun e => (e, 1, (i : Int))).or ((spansW T.common 2).or
  ((scanL T.marks fun i x => if runeI x.1 = false then some (12, 3, (i : Int)) else if x.2 < 1 ∨ 254 < x.2 then some (30, 3, (i : Int)) else none).or
  ((scanL T.pairs fun i x => if runeI x.1 = false ∨ runeI x.2.1 = false ∨ runeI x.2.2 = false then some (12, 4, (i : Int)) else none).or
  ((mapsW T.folds 5).or ((mapsW T.looks 6).or ((spansW T.drops 7).or (spansW T.allowed 8)))))))
def twiceW (T : Tab) : Option W3 :=
  (scanL T.scripts fun i x => if ∃ y ∈ T.scripts.take i, x.1 = y.1 then some (14, 1, (i : Int)) else none).or
  ((scanL T.marks fun i x => if ∃ y ∈ T.marks.take i, x.1 = y.1 then some (14, 3, (i : Int)) else none).or
  ((scanL T.pairs fun i x => if ∃ y ∈ T.pairs.take i, x.1 = y.1 ∨ (x.2.1 = y.2.1 ∧ x.2.2 = y.2.2) then some (14, 4, (i : Int)) else none).or
  ((scanL T.folds fun i x => if ixI (fromO T.folds x.1) < i then some (14, 5, (i : Int)) else none).or
  (scanL T.looks fun i x => if ixI (fromO T.looks x.1) < i then some (14, 6, (i : Int)) else none))))
def chainN (T : Tab) : Nat → Nat → Int → Int
  | 0, _, _ => -1
  | f + 1, n, b => match wholeO T b with
    | none => n
    | some j => chainN T f (n + 1) (T.pairs.getD j (0, 0, 0)).2.1
def pairsW (T : Tab) : Option W3 := scanL T.pairs fun i x => if isMark T x.1 = true ∨ isMark T x.2.1 = true ∨ isMark T x.2.2 = false then some (32, 4, (i : Int)) else none
def chainsW (T : Tab) : Option W3 := scanL T.pairs fun i x => if chainN T T.pairs.length 1 x.2.1 < 0 then some (33, 4, (i : Int)) else if 4 < chainN T T.pairs.length 1 x.2.1 then some (34, 4, (i : Int)) else none
def dropsW (T : Tab) : Option W3 :=
  (scanL T.marks fun i x => if ofI x.1 T.drops = true then some (37, 3, (i : Int)) else none).or
  ((scanL T.pairs fun i x => if ofI x.1 T.drops = true ∨ ofI x.2.1 T.drops = true ∨ ofI x.2.2 T.drops = true then some (37, 4, (i : Int)) else none).or
  ((scanL T.folds fun i x => if ofI x.1 T.drops = true then some (37, 5, (i : Int)) else none).or
  (scanL T.looks fun i x => if ofI x.1 T.drops = true then some (37, 6, (i : Int)) else none)))
def fromsW (T : Tab) : Option W3 :=
  (scanL T.folds fun i x => if isMark T x.1 = true ∨ (wholeO T x.1).isSome = true then some (31, 5, (i : Int)) else none).or
  (scanL T.looks fun i x => if isMark T x.1 = true ∨ (wholeO T x.1).isSome = true then some (31, 6, (i : Int)) else none)
def tosW (T : Tab) : Option W3 :=
  (scanL T.folds fun i x => if ∃ c ∈ (rnO x.2).getD [], plainI T (c : Nat) = false then some (35, 5, (i : Int)) else none).or
  (scanL T.looks fun i x => if ∃ c ∈ (rnO x.2).getD [], plainI T (c : Nat) = false ∨ (fromO T.looks (c : Nat)).isSome = true then some (36, 6, (i : Int)) else none)
def lowI (r : Int) : Bool := decide (r < 128 ∨ r = 65533)
def setI (r : Int) : Bool := decide (r < 32 ∨ r = 45 ∨ r = 46 ∨ r = 65533)
def setsB (s : ByteArray) : Bool := ((rnO s).getD []).any fun c => setI (c : Nat)
def lettI (r : Int) : Bool := decide (r = 45 ∨ (48 ≤ r ∧ r ≤ 57) ∨ (97 ≤ r ∧ r ≤ 122))
def rowsW (T : Tab) : Option W3 :=
  (scan 13 fun i => if i ≠ 2 ∧ ofI ((45 + i : Nat) : Int) T.common = false then some (5, 2, 0) else none).or
  ((scanL T.marks fun i x => if lowI x.1 = true then some (5, 3, (i : Int)) else none).or
  ((scanL T.pairs fun i x => if lowI x.1 = true then some (5, 4, (i : Int)) else none).or
  ((scanL T.folds fun i x => if (lowI x.1 = true ∧ (x.1 < 65 ∨ 90 < x.1)) ∨ setsB x.2 = true then some (5, 5, (i : Int)) else none).or
  (scanL T.looks fun i x => if setI x.1 = true ∨ setsB x.2 = true then some (5, 6, (i : Int)) else none))))
def oddA (x : Span) : Bool := (List.range 128).any fun c => decide (x.1 ≤ (c : Nat) ∧ ((c : Nat) : Int) ≤ x.2) && !lettI (c : Nat)
def houseW (T : Tab) : Option W3 :=
  (rowsW T).or ((scanL T.drops fun i x => if x.1 < 128 ∨ (x.1 ≤ 65533 ∧ 65533 ≤ x.2) then some (5, 7, (i : Int)) else none).or
  ((scanL T.allowed fun i x => if oddA x = true then some (5, 8, (i : Int)) else none).or
  (scan 78 fun i => if lettI ((45 + i : Nat) : Int) = true ∧ ofI ((45 + i : Nat) : Int) T.allowed = false then some (5, 8, 0) else none)))
def checkW (T : Tab) : Option W3 := (longW T).or ((formsW T).or ((twiceW T).or (((pairsW T).or (chainsW T)).or ((dropsW T).or (((fromsW T).or (tosW T)).or (houseW T))))))
def markV (x : Int × Int) : List Value := [.int .i32 x.1, .int .i64 x.2]
def tripV (x : Int × Int × Int) : List Value := [.int .i32 x.1, .int .i32 x.2.1, .int .i32 x.2.2]
def mapV (x : Int × ByteArray) : List Value := [.int .i32 x.1, .string x.2]
def scrV (z : Scr × Sl) : List Value := [.string z.1.1, z.2.val 2]
structure TS where
  s0 : Sl
  s1 : Sl
  s2 : Sl
  s3 : Sl
  s4 : Sl
  s5 : Sl
  s6 : Sl
  s7 : Sl
  z : List (Scr × Sl)
def TS.vs (S : TS) : List Value := [S.s0.val 2, S.s1.val 2, S.s2.val 2, S.s3.val 3, S.s4.val 2, S.s5.val 2, S.s6.val 2, S.s7.val 2]
def r32 (r : Int) : Prop := -2147483648 ≤ r ∧ r < 2147483648
def r64 (r : Int) : Prop := -9223372036854775808 ≤ r ∧ r < 9223372036854775808
structure Tab.Fits (T : Tab) : Prop where
  n0 : T.scripts.length < 100000000
  n0s : ∀ x ∈ T.scripts, x.2.length < 100000000 ∧ x.1.size < 100000000
  n1 : T.common.length < 100000000
  n2 : T.marks.length < 100000000
  n3 : T.pairs.length < 100000000
  n4 : T.folds.length < 100000000
  n5 : T.looks.length < 100000000
  n6 : T.drops.length < 100000000
  n7 : T.allowed.length < 100000000
  v0 : ∀ x ∈ T.scripts, ∀ y ∈ x.2, r32 y.1 ∧ r32 y.2
  v1 : ∀ y ∈ T.common, r32 y.1 ∧ r32 y.2
  v2 : ∀ y ∈ T.marks, r32 y.1 ∧ r64 y.2
  v3 : ∀ y ∈ T.pairs, r32 y.1 ∧ r32 y.2.1 ∧ r32 y.2.2
  v4 : ∀ y ∈ T.folds, r32 y.1 ∧ y.2.size < 100000000
  v5 : ∀ y ∈ T.looks, r32 y.1 ∧ y.2.size < 100000000
  v6 : ∀ y ∈ T.drops, r32 y.1 ∧ r32 y.2
  v7 : ∀ y ∈ T.allowed, r32 y.1 ∧ r32 y.2
structure TabAt (h : AH) (S : TS) (T : Tab) : Prop where
  fits : T.Fits
  r0 : Reads h 2 S.s0 (S.z.map scrV)
  zs : S.z.map (·.1) = T.scripts
  rz : ∀ z ∈ S.z, Reads h 2 z.2 (z.1.2.map pairV)
  r1 : Reads h 2 S.s1 (T.common.map pairV)
  r2 : Reads h 2 S.s2 (T.marks.map markV)
  r3 : Reads h 3 S.s3 (T.pairs.map tripV)
  r4 : Reads h 2 S.s4 (T.folds.map mapV)
  r5 : Reads h 2 S.s5 (T.looks.map mapV)
  r6 : Reads h 2 S.s6 (T.drops.map pairV)
  r7 : Reads h 2 S.s7 (T.allowed.map pairV)
theorem TabAt.kp {h h' : AH} {S : TS} {T : Tab} (t : TabAt h S T) (k : Kp h h') : TabAt h' S T :=
  ⟨t.fits, t.r0.kp k, t.zs, fun z hz => (t.rz z hz).kp k, t.r1.kp k, t.r2.kp k, t.r3.kp k, t.r4.kp k, t.r5.kp k, t.r6.kp k, t.r7.kp k⟩
end Go.Proofs.YtblmakgjdenpfaaDoor.AM
namespace Go.Proofs.YtblmakgjdenpfaaDoor.AM
open Go Go.ChangeShapes Go.WideShapes Go.ChangeAt Go.RowKit
def RO (h : AH) : Prop := ∀ b o, h.get b = some o → o.ro = true
def Arg (P : Program) (W : World) (cs : List Value) (R : AH → List Value → Prop) : Prop :=
  ∀ ρ h, HRel P W.heap.size ρ h W → RO h → ∃ xs ρ' h', HRel P W.heap.size ρ' h' W ∧ Ext ρ ρ' ∧ Kp h h' ∧ RO h' ∧ (∀ x ∈ xs, cellOk x = true) ∧ VRels ρ' xs cs ∧ R h' xs
def Mono (R : AH → List Value → Prop) : Prop := ∀ h h' xs, R h xs → Kp h h' → R h' xs
section
variable {P : Program} {W : World}
theorem Arg.imp {cs : List Value} {R S : AH → List Value → Prop} (a : Arg P W cs R) (i : ∀ h xs, xs.length = cs.length → R h xs → S h xs) : Arg P W cs S := fun ρ h h1 h2 =>
  let ⟨xs, ρ', h', a1, a2, a3, a4, a5, a6, a7⟩ := a ρ h h1 h2
  ⟨xs, ρ', h', a1, a2, a3, a4, a5, a6, i _ _ a6.length a7⟩
theorem Arg.flat {cs : List Value} (hf : cs.all flat0 = true) : Arg P W cs fun _ xs => xs = cs := fun ρ h h1 h2 =>
  ⟨cs, ρ, h, h1, .refl _, .refl _, h2, fun x hx => by
    have := List.all_eq_true.1 hf x hx
    unfold flat0 at this
    (split at this <;> first | rfl | cases this), by
    refine All2.of_get rfl fun i x y hx hy => ?_
    rw [hx] at hy
    injection hy with hy
    subst hy
    exact VRel.flat0 (List.all_eq_true.1 hf x (List.mem_of_getElem? hx)), rfl⟩
theorem Arg.append {cs ds : List Value} {R S : AH → List Value → Prop} (a : Arg P W cs R) (m : Mono R) (b : Arg P W ds S) : Arg P W (cs ++ ds) fun h xs => ∃ ys zs, xs = ys ++ zs ∧ ys.length = cs.length ∧ zs.length = ds.length ∧ R h ys ∧ S h zs := by
  intro ρ h h1 h2
  obtain ⟨xs, ρ', h', a1, a2, a3, a4, a5, a6, a7⟩ := a ρ h h1 h2
  obtain ⟨ys, ρ2, h3, b1, b2, b3, b4, b5, b6, b7⟩ := b ρ' h' a1 a4
  exact ⟨xs ++ ys, ρ2, h3, b1, a2.trans b2, a3.trans b3, b4, fun x hx => (List.mem_append.1 hx).elim (a5 x) (b5 x), (a6.mono b2).append b6, xs, ys, rfl, a6.length, b6.length, m _ _ _ a7 b3, b7⟩
theorem Arg.all {α : Type} {n : Nat} {R : α → AH → List Value → Prop} (m : ∀ a, Mono (R a)) : ∀ (L : List (α × List Value)), (∀ p ∈ L, p.2.length = n ∧ Arg P W p.2 (R p.1)) →
    Arg P W (L.map (·.2)).flatten fun h xs => ∃ xss : List (List Value), xs = xss.flatten ∧ (∀ ys ∈ xss, ys.length = n) ∧ All2 (fun ys a => R a h ys) xss (L.map (·.1))
  | [], _ => (Arg.flat (cs := []) rfl).imp fun h xs _ e => ⟨[], by rw [e]; rfl, by simp, .nil⟩
  | p :: L, hp => by
    have h1 := hp p (by simp)
    have h2 := Arg.all m L fun q hq => hp q (List.mem_cons_of_mem _ hq)
    refine (h1.2.append (m p.1) h2).imp fun h xs _ hx => ?_
    obtain ⟨ys, zs, e, l1, _, r1, xss, e2, l2, r2⟩ := hx
    exact ⟨ys :: xss, by rw [e, e2]; rfl, fun y hy => by
      rcases List.mem_cons.1 hy with rfl | hy
      · rw [l1]; exact h1.1
      · exact l2 y hy, .cons r1 r2⟩
end
structure Elem (H : Type) (enc : TypeId × Value → H) (P : Program) (W : World) (t : TypeId) (n : Nat) (α : Type) where
  R : α → AH → List Value → Prop
  ok : α → Prop
  sz : α → Nat
  mono : ∀ a, Mono (R a)
  arg : ∀ fuel cs d ps, cs.length = n → DataW.trod enc P W 0 (fun _ => true) true fuel t cs = some (d, ps) → ∃ a, ok a ∧ sz a ≤ Rows.uptoBulk d ∧ Arg P W cs (R a)
section
variable {H : Type} {enc : TypeId × Value → H} {P : Program} {W : World}
def Elem.int (k : IntKind) {t : TypeId} (ht : P.underlying t = some (.int k)) : Elem H enc P W t 1 Int where
  R a _ xs := xs = [.int k a]
  ok a := (Lit.int k a).wf = true
  sz _ := 1
  mono _ _ _ _ h _ := h
  arg fuel cs d ps _ h := by
    obtain ⟨n, rfl, e, w⟩ := DataW.trod_int ht h
    injection e with e
    subst e
    exact ⟨n, w, by simp [Rows.uptoBulk], Arg.flat rfl⟩
def Elem.str {t : TypeId} (ht : P.underlying t = some .string) : Elem H enc P W t 1 ByteArray where
  R a _ xs := xs = [.string a]
  ok _ := True
  sz a := a.size + 1
  mono _ _ _ _ h _ := h
  arg fuel cs d ps _ h := by
    obtain ⟨s, rfl, e, w⟩ := DataW.trod_string ht h
    injection e with e
    subst e
    exact ⟨s, trivial, by simp [Rows.uptoBulk], Arg.flat rfl⟩
theorem trod_fields {t : TypeId} {fs : Array Field} {fuel : Nat} {cs : List Value} {d : DataW H} {ps : List MemPlace} (ht : P.underlying t = some (.struct fs)) (hof : ∀ (i : Nat) f, fs[i]? = some f → f.offset = i ∧ P.cellsOf f.type = 1) (hl : cs.length = fs.size)
    (h : DataW.trod enc P W 0 (fun _ => true) true fuel t cs = some (d, ps)) : ∃ n ds, d = .agg ds ∧ ds.length = fs.size ∧ ∀ (i : Nat) f, fs[i]? = some f → ∃ c x p, cs[i]? = some c ∧ ds[i]? = some x ∧ DataW.trod enc P W 0 (fun _ => true) true n f.type [c] = some (x, p) := by
  obtain ⟨xs, n, _, e, _, hxl, hall⟩ := DataW.trod_struct ht h
  injection e with e1 e2
  refine ⟨n, _, e1, by simpa using hxl, fun i f hi => ?_⟩
  obtain ⟨o, c1⟩ := hof i f hi
  have hlt := (Array.getElem?_eq_some_iff.1 hi).1
  have ha := hall i f hi
  rw [o, c1, List.getElem?_eq_getElem (by omega)] at ha
  rw [List.drop_eq_getElem_cons (by omega), List.take_succ_cons, List.take_zero] at ha
  exact ⟨cs[i]'(by omega), (xs[i]'(by omega)).1, (xs[i]'(by omega)).2, List.getElem?_eq_getElem _, by rw [List.getElem?_map, List.getElem?_eq_getElem (by omega)]; rfl, ha⟩
def Elem.two {t t0 t1 : TypeId} {α β : Type} {f0 f1 : Field} (E0 : Elem H enc P W t0 1 α) (E1 : Elem H enc P W t1 1 β) (ht : P.underlying t = some (.struct #[f0, f1])) (q : [f0, f1].map (fun f => (f.type, f.offset)) = [(t0, 0), (t1, 1)]) (c0 : P.cellsOf t0 = 1) (c1 : P.cellsOf t1 = 1) : Elem H enc P W t 2 (α × β) where
  R a h xs := ∃ x y, xs = [x, y] ∧ E0.R a.1 h [x] ∧ E1.R a.2 h [y]
  ok a := E0.ok a.1 ∧ E1.ok a.2
  sz a := E0.sz a.1 + E1.sz a.2
  mono a h h' xs := fun ⟨x, y, e, r0, r1⟩ k => ⟨x, y, e, E0.mono _ _ _ _ r0 k, E1.mono _ _ _ _ r1 k⟩
  arg fuel cs d ps hl h := by
    simp only [List.map_cons, List.map_nil, List.cons.injEq, Prod.mk.injEq, and_true] at q
    obtain ⟨⟨q0, r0⟩, q1, r1⟩ := q
    obtain ⟨n, ds, rfl, hdl, hall⟩ := trod_fields ht (fun i f hi => by
      match i, hi with
      | 0, hi => simp at hi; subst hi; exact ⟨r0, by rw [q0]; exact c0⟩
      | 1, hi => simp at hi; subst hi; exact ⟨r1, by rw [q1]; exact c1⟩
      | i + 2, hi => simp at hi) (by simpa using hl) h
    match cs, hl, ds, hdl with
    | [u, v], _, [x, y], _ =>
      obtain ⟨_, _, p0, e1, e2, g0⟩ := hall 0 f0 rfl
      obtain ⟨_, _, p1, e3, e4, g1⟩ := hall 1 f1 rfl
      simp only [List.getElem?_cons_zero, List.getElem?_cons_succ, Option.some.injEq] at e1 e2 e3 e4
      subst e1 e2 e3 e4
      rw [q0] at g0; rw [q1] at g1
      obtain ⟨a, o0, z0, A0⟩ := E0.arg _ _ _ _ rfl g0
      obtain ⟨b, o1, z1, A1⟩ := E1.arg _ _ _ _ rfl g1
      refine ⟨(a, b), ⟨o0, o1⟩, by simp only [Rows.uptoBulk, Rows.uptoBulkAll]; omega, (A0.append (E0.mono _) A1).imp fun h xs _ hx => ?_⟩
      obtain ⟨ys, zs, e, l1, l2, r0, r1⟩ := hx
      match ys, l1, zs, l2 with
      | [y], _, [z], _ => exact ⟨y, z, e, r0, r1⟩
def Elem.three {t t0 t1 t2 : TypeId} {α β γ : Type} {f0 f1 f2 : Field} (E0 : Elem H enc P W t0 1 α) (E1 : Elem H enc P W t1 1 β) (E2 : Elem H enc P W t2 1 γ) (ht : P.underlying t = some (.struct #[f0, f1, f2])) (q : [f0, f1, f2].map (fun f => (f.type, f.offset)) = [(t0, 0), (t1, 1), (t2, 2)])
    (c0 : P.cellsOf t0 = 1) (c1 : P.cellsOf t1 = 1) (c2 : P.cellsOf t2 = 1) : Elem H enc P W t 3 (α × β × γ) where
  R a h xs := ∃ x y z, xs = [x, y, z] ∧ E0.R a.1 h [x] ∧ E1.R a.2.1 h [y] ∧ E2.R a.2.2 h [z]
  ok a := E0.ok a.1 ∧ E1.ok a.2.1 ∧ E2.ok a.2.2
  sz a := E0.sz a.1 + (E1.sz a.2.1 + E2.sz a.2.2)
  mono a h h' xs := fun ⟨x, y, z, e, r0, r1, r2⟩ k => ⟨x, y, z, e, E0.mono _ _ _ _ r0 k, E1.mono _ _ _ _ r1 k, E2.mono _ _ _ _ r2 k⟩
  arg fuel cs d ps hl h := by
    simp only [List.map_cons, List.map_nil, List.cons.injEq, Prod.mk.injEq, and_true] at q
    obtain ⟨⟨q0, r0⟩, ⟨q1, r1⟩, q2, r2⟩ := q
    obtain ⟨n, ds, rfl, hdl, hall⟩ := trod_fields ht (fun i f hi => by
      match i, hi with
      | 0, hi => simp at hi; subst hi; exact ⟨r0, by rw [q0]; exact c0⟩
      | 1, hi => simp at hi; subst hi; exact ⟨r1, by rw [q1]; exact c1⟩
      | 2, hi => simp at hi; subst hi; exact ⟨r2, by rw [q2]; exact c2⟩
      | i + 3, hi => simp at hi) (by simpa using hl) h
    match cs, hl, ds, hdl with
    | [u, v, w], _, [x, y, z], _ =>
      obtain ⟨_, _, p0, e1, e2, g0⟩ := hall 0 f0 rfl
      obtain ⟨_, _, p1, e3, e4, g1⟩ := hall 1 f1 rfl
      obtain ⟨_, _, p2, e5, e6, g2⟩ := hall 2 f2 rfl
      simp only [List.getElem?_cons_zero, List.getElem?_cons_succ, Option.some.injEq] at e1 e2 e3 e4 e5 e6
      subst e1 e2 e3 e4 e5 e6
      rw [q0] at g0; rw [q1] at g1; rw [q2] at g2
      obtain ⟨a, o0, z0, A0⟩ := E0.arg _ _ _ _ rfl g0
      obtain ⟨b, o1, z1, A1⟩ := E1.arg _ _ _ _ rfl g1
      obtain ⟨c, o2, z2, A2⟩ := E2.arg _ _ _ _ rfl g2
      refine ⟨(a, b, c), ⟨o0, o1, o2⟩, by simp only [Rows.uptoBulk, Rows.uptoBulkAll]; omega, (A0.append (E0.mono _) (A1.append (E1.mono _) A2)).imp fun h xs _ hx => ?_⟩
      obtain ⟨ys, zs, e, l1, l2, r0, ys2, zs2, e2, l3, l4, r1, r2⟩ := hx
      match ys, l1, ys2, l3, zs2, l4 with
      | [y], _, [z], _, [w], _ => exact ⟨y, z, w, by rw [e, e2]; rfl, r0, r1, r2⟩
end
end Go.Proofs.YtblmakgjdenpfaaDoor.AM
namespace Go.Proofs.YtblmakgjdenpfaaDoor.AM
open Go Go.ChangeShapes Go.WideShapes Go.ChangeAt Go.RowKit
theorem flatten_get {α : Type} {e : Nat} {xss : List (List α)} (h : ∀ x ∈ xss, x.length = e) {i k : Nat} (hi : i < xss.length) (hk : k < e) : xss.flatten[i * e + k]? = (xss[i])[k]? := by
  induction xss generalizing i with
  | nil => simp at hi
  | cons x r ih =>
    have h1 := h x (by simp)
    cases i with
    | zero => simp only [Nat.zero_mul, Nat.zero_add, List.flatten_cons, List.getElem_cons_zero]; rw [List.getElem?_append_left (by omega)]
    | succ i =>
      have hr := ih (fun y hy => h y (List.mem_cons_of_mem _ hy)) (i := i) (by simpa using hi)
      simp only [List.flatten_cons, List.getElem_cons_succ]
      rw [List.getElem?_append_right (by rw [Nat.add_mul]; omega), show (i + 1) * e + k - x.length = i * e + k by rw [Nat.add_mul]; omega]
      exact hr
theorem flatten_lenA {α : Type} {e : Nat} {xss : List (List α)} (h : ∀ x ∈ xss, x.length = e) : xss.flatten.length = xss.length * e := by
  induction xss with
  | nil => simp
  | cons x r ih =>
    have h1 := h x (by simp)
    have h2 := ih fun y hy => h y (by simp [hy])
    simp only [List.flatten_cons, List.length_append, List.length_cons, h1, h2]
    rw [Nat.add_mul]; omega
theorem bulk_all {H : Type} : ∀ (l : List (DataW H)), Rows.uptoBulkAll l = (l.map Rows.uptoBulk).sum
  | [] => by simp [Rows.uptoBulkAll]
  | d :: l => by simp [Rows.uptoBulkAll, bulk_all l]
theorem sum_le {α : Type} {f g : α → Nat} : ∀ (l : List α), (∀ a ∈ l, f a ≤ g a) → (l.map f).sum ≤ (l.map g).sum
  | [], _ => by simp
  | a :: l, h => by
    have := h a (by simp)
    have := sum_le l fun b hb => h b (List.mem_cons_of_mem _ hb)
    simp only [List.map_cons, List.sum_cons]
    omega
section
variable {H : Type} {enc : TypeId × Value → H} {P : Program} {W : World}
def Elem.slice {t e : TypeId} {n : Nat} {α : Type} [Inhabited α] (E : Elem H enc P W e n α) (ht : P.underlying t = some (.slice e)) (hc : P.cellsOf e = n) (hn : 0 < n) : Elem H enc P W t 1 (List α) where
  R l h xs := ∃ s : Sl, xs = [s.val n] ∧ ∃ xss, Reads h n s xss ∧ All2 (fun ys a => E.R a h ys) xss l
  ok l := ∀ a ∈ l, E.ok a
  sz l := (l.map E.sz).sum + 1
  mono l h h' xs := fun ⟨s, e, xss, r, a⟩ k => ⟨s, e, xss, r.kp k, a.imp fun ys a r => E.mono _ _ _ _ r k⟩
  arg fuel cs d ps hl h := by
    rcases Go.Deep.open_slice ht h with ⟨rfl, e⟩ | ⟨a, len, cap, m, k, D, Pl, rfl, _, hlc, _, hm, e, hall⟩
    · injection e with e
      subst e
      refine ⟨[], by simp, by simp [Rows.uptoBulk], fun ρ h h1 h2 => ⟨[.slice none 0 0], ρ, h, h1, .refl _, .refl _, h2, fun x hx => by rw [List.mem_singleton.1 hx]; rfl, .cons .slNil .nil, .nil, rfl, [], ⟨rfl, by simp, trivial⟩, .nil⟩⟩
    · simp only [if_true] at hm
      subst hm
      injection e with e
      subst e
      rw [hc] at hall
      have hch : ∀ i, i < m → ∃ q : List Value × α, q.1.length = n ∧ (∀ k, k < n → W.cell? ((a.add (i * n)).add k) = q.1[k]?) ∧ E.ok q.2 ∧ E.sz q.2 ≤ Rows.uptoBulk (D i) ∧ Arg P W q.1 (E.R q.2) := fun i hi => by
        obtain ⟨cs', h1, h2⟩ := hall i hi
        obtain ⟨_, hlen, hcell⟩ := World.cells?_some h1
        obtain ⟨x, o, z, A⟩ := E.arg _ _ _ _ hlen h2
        exact ⟨(cs', x), hlen, hcell, o, z, A⟩
      obtain ⟨q, hq⟩ := Go.Deep.choose_lt hch
      refine ⟨(List.range len).map fun i => (q i).2, fun x hx => ?_, ?_, fun ρ h h1 h2 => ?_⟩
      · obtain ⟨i, hi, rfl⟩ := List.mem_map.1 hx
        exact (hq i (by have := List.mem_range.1 hi; omega)).2.2.1
      · simp only [Rows.uptoBulk, bulk_all, List.map_map]
        have := sum_le (f := E.sz ∘ fun i => (q i).2) (g := Rows.uptoBulk ∘ D) (List.range len) fun i hi => (hq i (by have := List.mem_range.1 hi; omega)).2.2.2.1
        omega
      · have hA := Arg.all (P := P) (W := W) (n := n) (R := E.R) E.mono ((List.range len).map fun i => ((q i).2, (q i).1)) fun p hp => by
          obtain ⟨i, hi, rfl⟩ := List.mem_map.1 hp
          have := hq i (by have := List.mem_range.1 hi; omega)
          exact ⟨this.1, this.2.2.2.2⟩
        simp only [List.map_map] at hA
        obtain ⟨xs, ρ', h', a1, a2, a3, a4, a5, a6, xss, rfl, a8, a9⟩ := hA ρ h h1 h2
        have hxl : xss.length = len := by rw [a9.length_eq]; simp
        have hcsl : ∀ y ∈ List.map ((fun x => x.2) ∘ fun i => ((q i).2, (q i).1)) (List.range len), y.length = n := fun y hy => by
          obtain ⟨i, hi, rfl⟩ := List.mem_map.1 hy
          exact (hq i (by have := List.mem_range.1 hi; omega)).1
        rcases Nat.eq_zero_or_pos m with hm0 | hm0
        · subst hm0
          have : len = 0 := by omega
          subst this
          have hx0 : xss = [] := List.eq_nil_of_length_eq_zero hxl
          subst hx0
          exact ⟨[(Sl.at 0 0 0).val n], ρ', h', a1, a2, a3, a4, fun x hx => by rw [List.mem_singleton.1 hx]; exact Sl.cellOk_val, .cons (.slZ _ _ _) .nil, .at 0 0 0, rfl, [], ⟨rfl, by simp, .inl rfl⟩, by simpa using a9⟩
        · have c00 := (hq 0 hm0).2.1 0 hn
          have hblk : ∃ cs t fz, W.heap[a.block]? = some (.cells cs t fz) ∧ a.spot = none := by
            have h0 := (hq 0 hm0).1
            rw [List.getElem?_eq_getElem (by omega)] at c00
            unfold World.cell? at c00
            split at c00
            · rename_i cs t fz hb
              split at c00
              · cases c00
              · rename_i hs
                have ha0 : (a.add (0 * n)).add 0 = a := by simp [Addr.add]
                rw [ha0] at hb hs
                exact ⟨cs, t, fz, hb, by simpa using hs⟩
            · cases c00
          obtain ⟨cs, tt, fz, hb, hsp⟩ := hblk
          obtain ⟨ab, ao, asp⟩ := a
          simp only at hb hsp
          subst hsp
          have hcl : ∀ i k (hi : i < m) (hk : k < n) v, (q i).1[k]? = some v → cs[ao + (i * n + k)]? = some v := fun i k hi hk v hv => by
            have := (hq i hi).2.1 k hk
            rw [hv, add_plain, add_plain] at this
            simp only [World.cell?, hb, Option.isSome_none] at this
            rw [Nat.add_assoc] at this
            simpa using this
          have hsz : ao + m * n ≤ cs.size := by
            have hl1 := (hq (m - 1) (by omega)).1
            have := hcl (m - 1) (n - 1) (by omega) (by omega) _ (List.getElem?_eq_getElem (by omega))
            have := (Array.getElem?_eq_some_iff.1 this).1
            have e1 : (m - 1) * n + n = m * n := by
              rw [show m = (m - 1) + 1 by omega, Nat.add_mul]
              simp
            omega
          have hfl := flatten_lenA a8
          have hml : len * n ≤ m * n := Nat.mul_le_mul_right n hlc
          refine ⟨[(Sl.at h'.n 0 len).val n], _, _, a1.ro (c := ab) (δ := ao) (N := cs.size) (xs := xss.flatten) (cs := cs) (t := tt) (fz := fz) hb rfl (by rw [hfl, hxl]; omega) ?_ (Array.getElem?_eq_some_iff.1 hb).1, a2.trans (.snoc _ _), a3.push _, fun b o ho => ?_,
            fun x hx => by rw [List.mem_singleton.1 hx]; exact Sl.cellOk_val, .cons ?_ .nil, .at h'.n 0 len, rfl, xss, ⟨hxl.symm, a8, .inr ⟨true, [], [], by simpa using AH.get_push_same h' _, rfl⟩⟩, ?_⟩
          · intro j v hv
            have hj : j < xss.flatten.length := (List.getElem?_eq_some_iff.1 hv).1
            have hjn : j < len * n := by rw [hfl, hxl] at hj; exact hj
            refine ⟨a5 v (List.mem_of_getElem? hv), ?_⟩
            obtain ⟨u, hu, hr⟩ := a6.get j v hv
            refine ⟨u, ?_, hr⟩
            have hd := Nat.div_add_mod j n
            have hmod := Nat.mod_lt j hn
            have hdl : j / n < len := Nat.div_lt_of_lt_mul (by rw [Nat.mul_comm]; exact hjn)
            have hj2 : j / n * n + j % n = j := by rw [Nat.mul_comm]; exact hd
            rw [← hj2, flatten_get hcsl (by simpa using hdl) hmod] at hu
            simp only [List.getElem_map, List.getElem_range, Function.comp] at hu
            have := hcl (j / n) (j % n) (by omega) hmod u hu
            rw [hj2] at this
            exact this
          · by_cases hb' : b = h'.n
            · subst hb'
              rw [AH.get_push_same] at ho
              injection ho with ho
              subst ho
              rfl
            · rw [AH.get_push_ne _ hb'] at ho
              exact a4 b o ho
          · exact .sl h'.n 0 ab ao cs.size len n m (by rw [← a1.len]; simp) hlc (by omega)
          · have : All2 (fun ys a => E.R a h' ys) xss ((List.range len).map fun i => (q i).2) := a9
            exact this.imp fun ys a r => E.mono _ _ _ _ r ((Kp.refl h').push _)
end
end Go.Proofs.YtblmakgjdenpfaaDoor.AM
