/-
  Regions: the text's own run, told place by place; the region in text order; behind a region.
-/
import Derived.Test.YtanpdopjgepbkaaAmReg
set_option linter.unusedVariables false
set_option linter.unusedSimpArgs false
namespace Go.Proofs.Ytanpdopjgepbkaa.AM
open Go

variable {P : Program} {B nt : Nat} {E : Ent} {D : List Nat} {ρ : Rho} {lm : Nat → Option Nat} {fr : Fr} {m : Mem} {a : Act} {w : World} {g : Nat → Value}
variable {call : CallF} {yld : YieldF}

/-! ### 1. The lifted operations, one by one -/

theorem liftIs_get {lo : List Nat} {ops : Array Oper} : ∀ {os : List Oper} {ls : List LInstr}, liftIs P nt lo ops os = some ls →
    ls.length = os.length ∧ ∀ (i : Nat) (o : Oper), os[i]? = some o → ∃ l, ls[i]? = some l ∧ liftI P nt lo ops o = some l
  | [], ls, h => by
    simp only [liftIs] at h
    injection h with h
    subst h
    exact ⟨rfl, fun i o h => by simp at h⟩
  | o :: r, ls, h => by
    simp only [liftIs] at h
    split at h
    · rename_i i l hi hl
      injection h with h
      subst h
      obtain ⟨h1, h2⟩ := liftIs_get hl
      refine ⟨by simp [h1], fun k x hx => ?_⟩
      cases k with
      | zero => simp only [List.getElem?_cons_zero, Option.some.injEq] at hx; subst hx; exact ⟨i, rfl, hi⟩
      | succ k => simp only [List.getElem?_cons_succ] at hx ⊢; exact h2 k x hx
    · cases h

theorem liftI_spec {lo : List Nat} {ops : Array Oper} {o : Oper} {l : LInstr} (h : liftI P nt lo ops o = some l) :
    l.dst = o.dst ∧ liftOp P lo o = some l.op ∧ liftGuard ops o.guard = some l.guard ∧ ∀ d, o.dst = some d → d < nt := by
  unfold liftI at h
  split at h
  · rename_i op gd h1 h2
    split at h
    · rename_i h3
      injection h with h
      subst h
      refine ⟨rfl, h1, h2, fun d hd => ?_⟩
      rw [hd] at h3
      simpa using h3
    · cases h
  · cases h

/-- A guard says the same on both sides. -/
theorem wanted_of {ops : Array Oper} {o : Oper} {gd : Option (Nat × Bool)} (hg : liftGuard ops o.guard = some gd) (hv : ∀ s, VRelF ρ lm (fget fr s) (a.tmps.getD s undef)) {b : Bool}
    (h : wantedA fr gd = some b) : Region.wanted o (yielded ops a.tmps) = b := by
  unfold Region.wanted
  cases hog : o.guard with
  | none =>
    rw [hog] at hg
    simp only [liftGuard] at hg
    injection hg with hg
    subst hg
    simp only [wantedA] at h
    injection h
  | some p =>
    obtain ⟨j, want⟩ := p
    rw [hog] at hg
    simp only [liftGuard] at hg
    split at hg
    · rename_i s hs
      injection hg with hg
      subst hg
      simp only [wantedA] at h
      split at h
      · rename_i t ht
        injection h with h
        have hsv := hv s
        rw [ht] at hsv
        have h2 : a.tmps.getD s undef = .bool t := by
          have h3 := hsv.ok (by simp [okV, isLoc])
          generalize hu : a.tmps.getD s undef = u at h3
          cases h3
          rfl
        have h4 : a.tmps[s]? = some (.bool t) := by
          cases h5 : a.tmps[s]? with
          | none => simp [Array.getD_eq_getD_getElem?, h5, undef] at h2
          | some x => simp [Array.getD_eq_getD_getElem?, h5] at h2; rw [h2]
        simp only [yielded, hs, Option.bind_some, h4, ← h]
        cases t <;> cases want <;> rfl
      · rename_i hc
        injection h with h
        have hsv := hv s
        rw [hc] at hsv
        have h3 := hsv.ok (by simp [okV, isLoc])
        have h2 : a.tmps.getD s undef = .tuple #[] := by
          generalize hu : a.tmps.getD s undef = u at h3
          cases h3
          rfl
        subst h
        simp only [yielded, hs, Option.bind_some]
        cases h5 : a.tmps[s]? with
        | none => rfl
        | some x =>
          have : x = .tuple #[] := by simpa [Array.getD_eq_getD_getElem?, h5] using h2
          subst this
          rfl
      · cases h
    · cases hg

/-! ### 2. One step -/

theorem fget_pushD (fr : Fr) (d : Option Nat) (v : Value) (s : Nat) : fget (pushD fr d v) s = updG (fget fr) d v s := by
  cases d with
  | none => simp [pushD, updG]
  | some d =>
    simp only [pushD, updG, Option.some.injEq, fget]
    by_cases h : s = d
    · subst h; simp
    · have h' : ¬ (d = s) := fun e => h e.symm
      simp [h, h']

theorem SR.congr (s : SR P B nt E D ρ lm g m a w) {g' : Nat → Value} (h : ∀ i, g' i = g i) : SR P B nt E D ρ lm g' m a w := s.weaken fun i => by rw [h i]; exact s.val i

theorem step_sound (hcs : CallSound P B call) (hys : YieldSound P B yld) (s : SR P B nt E D ρ lm (fget fr) m a w) {ops : Array Oper} {lo : List Nat} {i : Nat} {o : Oper} (ho : ops[i]? = some o)
    {l : LInstr} (hl : liftI P nt lo ops o = some l) {v : Value} {m' : Mem} (hv : l.step call yld fr m = some (v, m')) {r : Option Nat} {n : Nat} {K : Act → World → Prop} {Q : Exit → Act → World → Prop}
    (hn : ∀ ρ' lm' a' w', SR P B nt E D ρ' lm' (fget (pushD fr l.dst v)) m' a' w' → K a' w') : wpOpIn (WF r) n P ops Q i K a w := by
  obtain ⟨hd, hop, hg, hlt⟩ := liftI_spec hl
  unfold wpOpIn
  rw [ho]
  simp only
  unfold LInstr.step at hv
  split at hv
  · rename_i hw
    rw [wanted_of hg s.val hw]
    simp only [if_true]
    refine sim_op hcs hys s hop (v := v) (m' := m') (by simpa [LInstr.ev] using hv) fun ρ' lm' u w' s' hu => ?_
    exact hn ρ' lm' _ w' ((s'.put (d := o.dst) hlt hu).congr fun i => by rw [fget_pushD, hd])
  · rename_i hw
    rw [wanted_of hg s.val hw]
    injection hv with hv
    injection hv with h1 h2
    subst h1 h2
    simp only [Bool.false_eq_true, if_false]
    refine ⟨fun _ _ => trivial, hn ρ lm _ w ((s.put (d := o.dst) hlt (v := skV) (u := undef) (.inl .skip)).congr fun i => by rw [fget_pushD, hd])⟩
  · cases hv

/-! ### 3. The text's own run -/

/-- What the run in the text's order meets. -/
structure TextRun (call : CallF) (yld : YieldF) (ls : List LInstr) (fr : Fr) (m : Mem) (T : Nat → Fr × Mem) (V : Nat → Value) : Prop where
  zero : T 0 = (fr, m)
  step : ∀ (i : Nat) (l : LInstr), ls[i]? = some l → l.step call yld (T i).1 (T i).2 = some (V i, (T (i + 1)).2) ∧ (T (i + 1)).1 = pushD (T i).1 l.dst (V i)
  tr : ∀ i, i ≤ ls.length → (trace call yld ls fr m)[i]? = some (T i)

theorem textRun : ∀ {ls : List LInstr} {fr : Fr} {m : Mem} {fr' : Fr} {m' : Mem}, runOps call yld ls fr m = some (fr', m') → ∃ T V, TextRun call yld ls fr m T V ∧ T ls.length = (fr', m')
  | [], fr, m, fr', m', h => by
    simp only [runOps] at h
    injection h with h
    refine ⟨fun _ => (fr, m), fun _ => undef, ⟨rfl, fun i l h => by simp at h, fun i hi => ?_⟩, h⟩
    have : i = 0 := by simpa using hi
    subst this
    simp [trace]
  | l :: r, fr, m, fr', m', h => by
    simp only [runOps] at h
    split at h
    · rename_i v m1 hv
      obtain ⟨T, V, ⟨h0, h1, h2⟩, h3⟩ := textRun h
      refine ⟨fun i => match i with | 0 => (fr, m) | i + 1 => T i, fun i => match i with | 0 => v | i + 1 => V i, ⟨rfl, fun i x hx => ?_, fun i hi => ?_⟩, h3⟩
      · cases i with
        | zero =>
          simp only [List.getElem?_cons_zero, Option.some.injEq] at hx
          subst hx
          simp only [h0]
          exact ⟨hv, trivial⟩
        | succ i => simp only [List.getElem?_cons_succ] at hx; exact h1 i x hx
      · cases i with
        | zero => simp [trace]
        | succ i => simp only [trace, hv, List.getElem?_cons_succ]; exact h2 i (by simpa using hi)
    · cases h

theorem wpOps_text (hcs : CallSound P B call) (hys : YieldSound P B yld) {ops : Array Oper} {lo : List Nat} {ls : List LInstr} (hls : liftIs P nt lo ops ops.toList = some ls)
    {T : Nat → Fr × Mem} {V : Nat → Value} (ht : TextRun call yld ls fr m T V) {r : Option Nat} {n : Nat} {Q : Exit → Act → World → Prop}
    (hn : ∀ ρ' lm' a' w', SR P B nt E D ρ' lm' (fget (T ls.length).1) (T ls.length).2 a' w' → Q .normal a' w') :
    ∀ (k j : Nat), k + j = ls.length → ∀ ρ lm a w, SR P B nt E D ρ lm (fget (T k).1) (T k).2 a w → wpOpsIn (WF r) n P ops Q (List.range' k j) a w := by
  obtain ⟨hlen, hget⟩ := liftIs_get hls
  intro k j
  induction j generalizing k with
  | zero =>
    intro hk ρ lm a w s
    simp only [Nat.add_zero] at hk
    subst hk
    exact hn ρ lm a w s
  | succ j ih =>
    intro hk ρ lm a w s
    have hlt : k < ops.size := by simp at hlen; omega
    have ho : ops[k]? = some ops[k] := by simp [hlt]
    obtain ⟨l, h1, h2⟩ := hget k ops[k] (by simp [hlt])
    obtain ⟨h3, h4⟩ := ht.step k l h1
    rw [List.range'_succ, wpOpsIn_cons]
    refine step_sound hcs hys s ho h2 h3 fun ρ' lm' a' w' s' => ?_
    exact ih (k + 1) (by omega) ρ' lm' a' w' (by rw [h4]; exact s')

theorem wpIn_text (hcs : CallSound P B call) (hys : YieldSound P B yld) (s : SR P B nt E D ρ lm (fget fr) m a w) {ops : Array Oper} {lo : List Nat} {ls : List LInstr} (hls : liftIs P nt lo ops ops.toList = some ls)
    {fr' : Fr} {m' : Mem} (hr : runOps call yld ls fr m = some (fr', m')) {r : Option Nat} {n id : Nat} {Q : Exit → Act → World → Prop}
    (hn : ∀ ρ' lm' a' w', SR P B nt E D ρ' lm' (fget fr') m' a' w' → Q .normal a' w') : (Code.region id ops false).wpIn (WF r) n P Q a w := by
  obtain ⟨T, V, ht, hT⟩ := textRun hr
  obtain ⟨hlen, _⟩ := liftIs_get hls
  refine wpIn_region ?_
  rw [List.range_eq_range']
  exact wpOps_text hcs hys hls ht (fun ρ' lm' a' w' s' => hn ρ' lm' a' w' (by rw [hT] at s'; exact s')) 0 ops.size (by simpa using hlen.symm) ρ lm a w (by rw [ht.zero]; exact s)

end Go.Proofs.Ytanpdopjgepbkaa.AM
