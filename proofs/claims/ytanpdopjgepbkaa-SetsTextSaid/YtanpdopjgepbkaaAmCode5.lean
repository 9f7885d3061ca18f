/-
  Rounds; the program.
-/
import Derived.Test.YtanpdopjgepbkaaAmCode4
set_option linter.unusedVariables false
set_option linter.unusedSimpArgs false
namespace Go.Proofs.Ytanpdopjgepbkaa.AM
open Go

variable {P : Program} {B nt : Nat} {E : Ent} {D : List Nat} {ρ : Rho} {lm : Nat → Option Nat} {fr : Fr} {m : Mem} {a : Act} {w : World} {g : Nat → Value}
variable {call : CallF} {yld : YieldF}

/-! ### 1. Rounds -/

theorem fget_append (l fr : Fr) (s : Nat) : fget (l ++ fr) s = match l.find? (fun p => p.1 == s) with | some p => p.2 | none => fget fr s := by
  induction l with
  | nil => rfl
  | cons p r ih =>
    obtain ⟨k, v⟩ := p
    simp only [List.cons_append, fget, List.find?_cons]
    by_cases h : s = k
    · subst h; simp
    · rw [if_neg h]
      have : (k == s) = false := by simpa using fun e => h e.symm
      rw [this, ih]

/-- Yield's arguments are put into the parameters. -/
theorem params_rel {r : Fr} : ∀ {ps : List Nat} {args us : List Value}, VRels ρ args us → ps.length = args.length → (∀ s ∈ ps, s < nt) → ∀ {tmps : Array Value}, nt ≤ tmps.size →
    ∀ (l : Fr), (∀ s, VRel ρ (fget (l ++ r) s) (tmps.getD s undef)) →
    nt ≤ ((ps.zip us).foldl (fun tmps (t, a) => tmps.setIfInBounds t a) tmps).size ∧
    ∀ s, VRel ρ (fget ((ps.zip args).reverse ++ (l ++ r)) s) (((ps.zip us).foldl (fun tmps (t, a) => tmps.setIfInBounds t a) tmps).getD s undef)
  | [], args, us, hr, hlen, hps, tmps, hnt, l, h => by
    simp only [List.zip_nil_left, List.foldl_nil, List.reverse_nil, List.nil_append]
    exact ⟨hnt, h⟩
  | p :: ps, [], us, hr, hlen, _, _, _, _, _ => by simp at hlen
  | p :: ps, x :: args, us, hr, hlen, hps, tmps, hnt, l, h => by
    cases hr with
    | @cons _ u _ us' h1 h2 =>
      simp only [List.zip_cons_cons, List.foldl_cons, List.reverse_cons, List.append_assoc, List.singleton_append]
      have := params_rel (r := r) h2 (by simpa using hlen) (fun s hs => hps s (by simp [hs])) (tmps := tmps.setIfInBounds p u) (by simpa using hnt) ((p, x) :: l) (fun s => by
        have hlt : p < tmps.size := Nat.lt_of_lt_of_le (hps p (by simp)) hnt
        simp only [List.cons_append, fget]
        by_cases e : s = p
        · subst e; simp [hlt]; exact h1
        · have e' : ¬ (p = s) := fun h => e h.symm
          rw [if_neg e]
          have := h s
          simpa [Array.getElem?_setIfInBounds_ne e'] using this)
      simpa using this

theorem endRec_spec (r2 : LRec) (R : Loop) (ex : Ex) {ρ : Rho} {δ N : Nat} (h : ORel P ρ δ N (.loop r2) (.loop R)) :
    ∃ jump : Option Code, (∀ Rr : Ending → World → Prop, ∀ (l : Nat) (a : Act) (w : World), (∃ v w', (Instr.endRound l jump).run P w = .ok v w' ∧ Rr (.returned v) w') → roundPost P l Rr (exitOf ex) a w) ∧
      (endRec r2 ex).1 = .bool jump.isNone ∧ ∀ δ N, ORel P ρ δ N (.loop (endRec r2 ex).2) (.loop { R with state := if jump.isNone then .ready else .done, pending := jump }) := by
  obtain ⟨h1, h2, h3⟩ := h
  cases ex with
  | norm => exact ⟨none, fun _ _ _ _ h => h, rfl, fun _ _ => ⟨rfl, rfl, h3⟩⟩
  | ret => exact ⟨some .ret, fun _ _ _ _ h => h, rfl, fun _ _ => ⟨rfl, rfl, h3⟩⟩
  | exit id => exact ⟨some (.exit id), fun _ _ _ _ h => h, rfl, fun _ _ => ⟨rfl, rfl, h3⟩⟩

theorem yieldBody_sound (hm : P.follows .mixedOrders = true) (hcs : CallSound P B call) (hys : YieldSound P B yld) (k : Nat) : YieldSound P B (yieldBody call yld k) := by
  intro l args h v h' hx ρ w argsC n c δ N hB hh hargs hρ
  unfold yieldBody at hx
  split at hx
  · rename_i r hget
    split at hx
    · rename_i hlen
      split at hx
      · rename_i fr1 m1 hex1
        split at hx
        · rename_i r1 hget1
          split at hx
          · rename_i hready
            split at hx
            · rename_i ex fr2 m2 hex2
              split at hx
              · rename_i r2 hget2
                injection hx with hx
                injection hx with hv hh'
                subst hv hh'
                obtain ⟨c0, δ0, N0, x, k1, k2, k3, _⟩ := hh.live l _ hget
                rw [hρ] at k1
                injection k1 with k1
                injection k1 with e1 k1
                injection k1 with e2 e3
                subst e1 e2 e3
                cases x with
                | loop R =>
                  obtain ⟨q1, q2, q3, q4, nt, hs, q5, q6, q7, q8, q9, q10⟩ := k3
                  have hsz : argsC.size = R.params.size := by
                    have h1 := hargs.length
                    have h2 : R.params.size = r.params.length := by rw [← q3]; simp
                    simp only [Array.length_toList] at h1
                    omega
                  refine ⟨R.fn, _, R.assign, R.body, run_yield k2 hsz, ?_⟩
                  have hfold : ((R.params.zip argsC).foldl (fun tmps (t, a) => tmps.setIfInBounds t a) R.tmps) = ((r.params.zip argsC.toList).foldl (fun tmps (t, a) => tmps.setIfInBounds t a) R.tmps) := by
                    rw [← Array.foldl_toList, Array.toList_zip, q3]
                  rw [hfold]
                  obtain ⟨g1, g2⟩ := params_rel (r := r.fr) (l := []) hargs hlen.symm q6 q5 (fun s => q4 s)
                  generalize (r.params.zip argsC.toList).foldl (fun tmps (t, a) => tmps.setIfInBounds t a) R.tmps = tmps at g1 g2
                  refine roundIn_of_wpIn (F := Fence.wide) trivial ?_
                  have s0 : SR P B nt ⟨ρ, h, w⟩ [] ρ (fun _ => none) (fget ((r.params.zip args).reverse ++ r.fr)) { lc := [], h } { tmps := tmps, defers := [] } w :=
                    start_sound hB hh g2 rfl g1
                  refine exec_sound hm hcs hys k hs (some c) R.assign r.assign q7 (.inr q9) [] ρ _ _ _ _ w .norm fr1 m1 hex1 s0 n _ fun D1 ρ1 lm1 a1 w1 s1 hD1 => ?_
                  obtain rfl := hD1 rfl
                  obtain ⟨c1, δ1, N1, x1, p1, p2, p3, _⟩ := s1.heap.live l _ hget1
                  have p4 := s1.tr.ext _ _ hρ
                  rw [p1] at p4
                  injection p4 with p4
                  injection p4 with e1 p4
                  injection p4 with e2 e3
                  subst e1 e2 e3
                  cases x1 with
                  | loop R1 =>
                    refine ⟨_, run_beginRound p2 (p3.1.trans hready), ?_⟩
                    have s2 := s1.putObj (p := ⟨l, 0, none⟩) (p' := ⟨c1, δ1, none⟩) (.inl (.ptr l 0 _ _ _ p1)) (o := .loop r1) (o' := .loop { r1 with state := .busy }) hget1 rfl rfl (x := .loop R1)
                      (x' := .loop { R1 with state := .busy }) p2 p3 (fun δ' N' _ hh => ⟨rfl, hh.2⟩) (w' := w1.putObj c1 (.loop { R1 with state := .busy })) rfl ⟨rfl, rfl, rfl, by first | exact Nat.le_refl _ | exact Nat.le_add_right _ _⟩
                    have hmo : m1.putObj ⟨l, 0, none⟩ (.loop { r1 with state := .busy }) = { m1 with h := m1.h.set l (.loop { r1 with state := .busy }) } := rfl
                    rw [hmo] at s2
                    refine exec_sound hm hcs hys k hs (some c1) R.body r.body q8 (.inr q10) [] ρ1 lm1 fr1 _ a1 _ ex fr2 m2 hex2 s2 n _ fun D2 ρ2 lm2 a2 w2 s3 hD2 => ?_
                    obtain ⟨c2, δ2, N2, x2, z1, z2, z3, _⟩ := s3.heap.live l _ hget2
                    have z4 := s3.tr.ext _ _ hρ
                    rw [z1] at z4
                    injection z4 with z4
                    injection z4 with e1 z4
                    injection z4 with e2 e3
                    subst e1 e2 e3
                    cases x2 with
                    | loop R2 =>
                      obtain ⟨jump, y1, y2, y3⟩ := endRec_spec r2 R2 ex z3
                      refine y1 _ _ _ _ ⟨_, _, run_endRound jump z2, .bool jump.isNone, ρ2, rfl, ?_⟩
                      have s4 := s3.putObj (p := ⟨l, 0, none⟩) (p' := ⟨c2, δ2, none⟩) (.inl (.ptr l 0 _ _ _ z1)) (o := .loop r2) (o' := .loop (endRec r2 ex).2) hget2 rfl rfl (x := .loop R2)
                        (x' := .loop { R2 with state := if jump.isNone then .ready else .done, pending := jump }) z2 z3 (fun δ' N' _ _ => y3 δ' N') (w' := w2.putObj c2 (.loop { R2 with state := if jump.isNone then .ready else .done, pending := jump })) rfl ⟨rfl, rfl, rfl, by first | exact Nat.le_refl _ | exact Nat.le_add_right _ _⟩
                      exact ⟨s4.heap, s4.tr, by rw [y2]; exact .bool _⟩
                    | _ => exact z3.elim
                  | _ => exact p3.elim
                | _ => exact k3.elim
              · cases hx
            · cases hx
          · cases hx
        · cases hx
      · cases hx
    · cases hx
  · cases hx

/-! ### 2. The program -/

/-- The functions of a program of the machine's are a program's, lifted; the others keep a contract. -/
structure PrgOk (P : Program) (B : Nat) (p : Prg) : Prop where
  fn : ∀ f lf, p.fn f = some lf → ∃ fn hs, P.funcs[f]? = some fn ∧ liftF P hs fn = some lf
  ext : ∀ f g, p.ext f = some g → ∀ args h v h', g args h = some (v, h') → FnOk P f ∧
    ∀ ρ w argsC n, B ≤ w.heap.size → HRel P B ρ h w → VRels ρ args argsC.toList → CallsIn Fence.wide n P f argsC w (CallPost P B ρ h w v h')

theorem runN_sound (hm : P.follows .mixedOrders = true) {p : Prg} (hp : PrgOk P B p) : ∀ k, CallSound P B (runN p k).1 ∧ YieldSound P B (runN p k).2
  | 0 => ⟨(fun f args h v h' hx => by cases hx), (fun l args h v h' hx => by cases hx)⟩
  | k + 1 => by
    obtain ⟨h1, h2⟩ := runN_sound hm hp k
    refine ⟨fun f args h v h' hx => ?_, yieldBody_sound hm h1 h2 k⟩
    simp only [runN] at hx
    split at hx
    · rename_i g hg
      exact hp.ext f g hg args h v h' hx
    · split at hx
      · rename_i lf hlf
        obtain ⟨fn, hs, hf, hl⟩ := hp.fn f lf hlf
        exact callBody_sound hm h1 h2 hf hl hx
      · cases hx

/-- **A run of the machine's is the program's.** -/
theorem run_sound (hm : P.follows .mixedOrders = true) {p : Prg} (hp : PrgOk P B p) {k : Nat} {f : FuncId} {args : List Value} {h h' : AH} {v : Value} (hx : (runN p k).1 f args h = some (v, h'))
    {ρ : Rho} {w : World} {argsC : Array Value} (hB : B ≤ w.heap.size) (hh : HRel P B ρ h w) (ha : VRels ρ args argsC.toList) (n : Nat) :
    CallsIn Fence.wide n P f argsC w (CallPost P B ρ h w v h') := ((runN_sound hm hp k).1 f args h v h' hx).2 ρ w argsC n hB hh ha

end Go.Proofs.Ytanpdopjgepbkaa.AM
