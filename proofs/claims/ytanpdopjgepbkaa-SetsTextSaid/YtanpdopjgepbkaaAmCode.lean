/-
  Code: what the machine's code does the model's code does.
-/
import Derived.Test.YtanpdopjgepbkaaAmReg4
import Derived.ControlIn
import Derived.RangeFuncRecord
import Derived.Scope
set_option linter.unusedVariables false
set_option linter.unusedSimpArgs false
namespace Go.Proofs.Ytanpdopjgepbkaa.AM
open Go

variable {P : Program} {B nt : Nat} {E : Ent} {D : List Nat} {ρ : Rho} {lm : Nat → Option Nat} {fr : Fr} {m : Mem} {a : Act} {w : World} {g : Nat → Value}
variable {call : CallF} {yld : YieldF}

/-! ### 1. Loops by fuel -/

theorem least (I : Nat → Prop) (h : ∃ j, I j) : ∃ j, I j ∧ ∀ k, I k → j ≤ k := by
  obtain ⟨j, hj⟩ := h
  induction j using Nat.strongRecOn with
  | ind j ih =>
    by_cases hk : ∃ k, k < j ∧ I k
    · obtain ⟨k, h1, h2⟩ := hk
      exact ih k h1 h2
    · exact ⟨j, hj, fun k h => Nat.le_of_not_lt fun hlt => hk ⟨k, hlt, h⟩⟩

open Classical in
noncomputable def leastOf (I : Nat → Prop) : Nat := if h : ∃ j, I j then Classical.choose (least I h) else 0

theorem leastOf_spec {I : Nat → Prop} (h : ∃ j, I j) : I (leastOf I) ∧ ∀ k, I k → leastOf I ≤ k := by
  unfold leastOf
  rw [dif_pos h]
  exact Classical.choose_spec (least I h)

theorem wpIn_loop_fuel {F : Fence} {n : Nat} {c : Code} {Q : Exit → Act → World → Prop} (I : Nat → Act → World → Prop) (no0 : ∀ a w, ¬ I 0 a w)
    (round : ∀ j a w, I (j + 1) a w → c.wpIn F n P (Exit.then (I j) Q) a w) {j : Nat} (h : I j a w) : (Code.loop c).wpIn F n P Q a w := by
  refine wpIn_loop (fun a w => ∃ j, I j a w) (fun a w => leastOf fun j => I j a w) ⟨j, h⟩ fun a w hI => ?_
  obtain ⟨h1, h2⟩ := leastOf_spec hI
  generalize leastOf (fun j => I j a w) = l at h1 h2
  cases l with
  | zero => exact (no0 a w h1).elim
  | succ l =>
    refine wpIn_mono (round l a w h1) fun e a' w' he => ?_
    cases e <;> simp only [Exit.then] at he ⊢ <;> try exact he
    exact ⟨⟨l, he⟩, Nat.lt_succ_of_le ((leastOf_spec (I := fun j => I j a' w') ⟨l, he⟩).2 l he)⟩

theorem stepR_scopeA {b : Frame} {k : List Item} {cs : List Frame} {c : Code} : step P (lone (b.atR a (.code (.scope c) :: k)) cs w) = .next (lone (b.atR a (.code c :: .inScope c :: k)) cs w) :=
  step_lone_go (by simp [stepG, stepG.exec, Frame.atR])
theorem stepR_inScopeA {b : Frame} {k : List Item} {cs : List Frame} {c : Code} : step P (lone (b.atR a (.inScope c :: k)) cs w) = .next (lone (b.atR a k) cs w) :=
  step_lone_go (by simp [stepG, stepG.exec, Frame.atR])

/-- A scope that no jump to a label leaves. -/
theorem wpIn_scopeA {F : Fence} {n : Nat} {Q : Exit → Act → World → Prop} {c : Code} (h : c.wpIn F n P (Exit.noGoto Q) a w) : (Code.scope c).wpIn F n P Q a w := by
  intro b k cs hro hb hr
  have h0 : (lone (b.atR a (.code (.scope c) :: k)) cs w).fenced P F := fenced_calm hb hr rfl
  obtain ⟨e, a₁, w₁, hq, harr⟩ := h b (.inScope c :: k) cs hro hb hr
  cases e with
  | normal => exact ⟨.normal, a₁, w₁, hq, .head h0 stepR_scopeA (StepsIn.trans harr (.one (fenced_calm hb hr rfl) stepR_inScopeA))⟩
  | exit id =>
    have hx : exitTo id (.inScope c :: k) = exitTo id k := by simp [exitTo]
    exact ⟨.exit id, a₁, w₁, hq, fun k' hk => .head h0 stepR_scopeA (harr.1 k' (by rw [hx]; exact hk)),
      fun hr' hk => let ⟨k₁, h1, h2⟩ := harr.2 hr' (by rw [hx]; exact hk); ⟨k₁, h1, .head h0 stepR_scopeA h2⟩⟩
  | goto l => exact hq.elim
  | ret => exact ⟨_, a₁, w₁, hq, .of_steps (.one h0 stepR_scopeA) harr⟩
  | panic ch => exact ⟨_, a₁, w₁, hq, .of_steps (.one h0 stepR_scopeA) harr⟩
  | outgrown => exact ⟨_, a₁, w₁, hq, .of_steps (.one h0 stepR_scopeA) harr⟩

/-! ### 2. Marks of the deferred calls -/

/-- A mark is laid. -/
theorem SR.mark (s : SR P B nt E D ρ lm g m a w) {w' : World} (e : w'.heap = w.heap.push (.deferred (some []))) (so : SameOut w w') :
    SR P B nt E (w.heap.size :: D) ρ lm g m { a with defers := { target := .collected w.heap.size, args := #[] } :: a.defers } w' := by
  have hget : ∀ c', c' < w.heap.size → w'.heap[c']? = w.heap[c']? := fun c' hlt => by
    rw [e, Array.getElem?_push]; simp [show ¬ (c' = w.heap.size) by omega]
  have hlive : ∀ b1 o1 c2 δ2 N2, m.h.get b1 = some o1 → ρ[b1]? = some (c2, δ2, N2) → c2 < w.heap.size := fun b1 o1 c2 δ2 N2 h1 h2 => by
    obtain ⟨c3, δ3, N3, x3, f1, f2, _⟩ := s.heap.live b1 o1 h1
    rw [h2] at f1
    injection f1 with f1
    injection f1 with f1 _
    subst f1
    exact (Array.getElem?_eq_some_iff.1 f2).1
  have hlmlt : ∀ nm' c, lm nm' = some c → c < w.heap.size := fun nm' c hc => by
    have hl := s.lcs nm'
    cases hlg : lget m.lc nm' with
    | none => rw [hlg] at hl; simp only at hl; rw [hl] at hc; cases hc
    | some o1 =>
      rw [hlg] at hl
      obtain ⟨c1, x1, k1, _, _, k4, _⟩ := hl
      rw [hc] at k1
      injection k1 with k1
      subst k1
      exact (Array.getElem?_eq_some_iff.1 k4).1
  refine ⟨s.base, ⟨s.heap.len, fun b1 o1 h1 => ?_, s.heap.glob, s.heap.inj⟩,
    ⟨s.tr.ext, Nat.le_trans s.tr.size (by rw [e]; simp), so.os.trans s.tr.os, so.tape.trans s.tr.tape, so.output.trans s.tr.output, Nat.le_trans s.tr.drawn so.drawn, fun c1 hc hm => by rw [hget c1 (Nat.lt_of_lt_of_le hc s.tr.size)]; exact s.tr.keep c1 hc hm, s.tr.img⟩,
    s.val, fun nm' => ?_, s.linj, ?_, fun r hr => ?_, ?_, s.room⟩
  · obtain ⟨c2, δ2, N2, x2, e1, e2, e3, e4⟩ := s.heap.live b1 o1 h1
    exact ⟨c2, δ2, N2, x2, e1, by rw [hget c2 (hlive b1 o1 c2 δ2 N2 h1 e1)]; exact e2, e3, e4⟩
  · have hl := s.lcs nm'
    revert hl
    cases lget m.lc nm' with
    | none => exact id
    | some o1 =>
      rintro ⟨c1, x1, f1, f2, f3, f4, f5, f6⟩
      exact ⟨c1, x1, f1, f2, f3, by rw [hget c1 (Array.getElem?_eq_some_iff.1 f4).1]; exact f4, f5, f6⟩
  · simp [s.dfs]
  · rcases List.mem_cons.1 hr with rfl | hr
    · exact ⟨by rw [e]; simp, s.tr.size, fun ⟨b1, o1, δ1, N1, h1, _, h3⟩ => absurd (hlive b1 o1 _ δ1 N1 h1 h3) (Nat.lt_irrefl _), fun nm hn => absurd (hlmlt nm _ hn) (Nat.lt_irrefl _)⟩
    · obtain ⟨f1, f2, f3, f4⟩ := s.marks r hr
      exact ⟨by rw [hget r (Array.getElem?_eq_some_iff.1 f1).1]; exact f1, f2, f3, f4⟩
  · refine List.nodup_cons.2 ⟨fun hd => ?_, s.dnd⟩
    exact absurd (Array.getElem?_eq_some_iff.1 (s.marks _ hd).1).1 (Nat.lt_irrefl _)

/-- A mark is taken. -/
theorem SR.unmark {r : Nat} (s : SR P B nt E (r :: D) ρ lm g m a w) {w' : World} {x : Obj} (e : w'.heap = w.heap.setIfInBounds r x) (so : SameOut w w') :
    SR P B nt E D ρ lm g m { a with defers := D.map fun r => { target := .collected r, args := #[] } } w' := by
  obtain ⟨k1, k2, k3, k4⟩ := s.marks r (by simp)
  have hlt := (Array.getElem?_eq_some_iff.1 k1).1
  have hget : ∀ c, c ≠ r → w'.heap[c]? = w.heap[c]? := fun c hc => by rw [e, getElem?_setIfInBounds_cases _ _ _ _ hlt]; simp [hc]
  have hlive : ∀ b1 o1 c2 δ2 N2, m.h.get b1 = some o1 → ρ[b1]? = some (c2, δ2, N2) → c2 ≠ r := fun b1 o1 c2 δ2 N2 e1 e2 hc => by
    subst hc
    cases hro : o1.ro with
    | false => exact k3 ⟨b1, o1, δ2, N2, e1, hro, e2⟩
    | true =>
      obtain ⟨c3, δ3, N3, x3, f1, _, _, _, f2⟩ := s.heap.live b1 o1 e1
      rw [e2] at f1
      injection f1 with f1
      injection f1 with f3 _
      have := f2 hro
      have := s.base
      omega
  have hnd := List.nodup_cons.1 s.dnd
  refine ⟨s.base, ⟨s.heap.len, fun b1 o1 h1 => ?_, s.heap.glob, s.heap.inj⟩,
    ⟨s.tr.ext, Nat.le_trans s.tr.size (by rw [e]; simp), so.os.trans s.tr.os, so.tape.trans s.tr.tape, so.output.trans s.tr.output, Nat.le_trans s.tr.drawn so.drawn, fun c1 hc hm => by rw [hget c1 (by omega)]; exact s.tr.keep c1 hc hm, s.tr.img⟩,
    s.val, fun nm' => ?_, s.linj, rfl, fun r' hr => ?_, hnd.2, s.room⟩
  · obtain ⟨c2, δ2, N2, x2, e1, e2, e3, e4⟩ := s.heap.live b1 o1 h1
    exact ⟨c2, δ2, N2, x2, e1, by rw [hget c2 (hlive b1 o1 c2 δ2 N2 h1 e1)]; exact e2, e3, e4⟩
  · have hl := s.lcs nm'
    revert hl
    cases lget m.lc nm' with
    | none => exact id
    | some o1 =>
      rintro ⟨c1, x1, f1, f2, f3, f4, f5, f6⟩
      exact ⟨c1, x1, f1, f2, f3, by rw [hget c1 (fun hc => k4 nm' (hc ▸ f1))]; exact f4, f5, f6⟩
  · obtain ⟨f1, f2, f3, f4⟩ := s.marks r' (by simp [hr])
    exact ⟨by rw [hget r' (fun hc => hnd.1 (hc ▸ hr))]; exact f1, f2, f3, f4⟩

/-- Only what the abstract heap holds counts. -/
theorem Mut.hcongr {h h' : AH} (hg : ∀ b, h'.get b = h.get b) {c : Nat} : Mut ρ h' c ↔ Mut ρ h c := by
  unfold Mut
  simp only [hg]

theorem SR.hcongr (s : SR P B nt E D ρ lm g m a w) {h' : AH} (hn : h'.n = m.h.n) (hg : ∀ b, h'.get b = m.h.get b) : SR P B nt E D ρ lm g { m with h := h' } a w where
  base := s.base
  heap := ⟨by simp [hn, s.heap.len], fun b o h => s.heap.live b o (by rw [← hg b]; exact h), s.heap.glob, fun b b' o o' c δ N c' δ' N' h h' => s.heap.inj b b' o o' c δ N c' δ' N' (by rw [← hg b]; exact h) (by rw [← hg b']; exact h')⟩
  tr := ⟨s.tr.ext, s.tr.size, s.tr.os, s.tr.tape, s.tr.output, s.tr.drawn, s.tr.keep, fun c hc hm => s.tr.img c hc ((Mut.hcongr hg).1 hm)⟩
  val := s.val
  lcs := fun nm => by
    have hl := s.lcs nm
    revert hl
    show (match lget m.lc nm with | none => _ | some o => _) → (match lget m.lc nm with | none => _ | some o => _)
    cases lget m.lc nm with
    | none => exact id
    | some o1 => rintro ⟨c1, x1, k1, k2, k3, k⟩; exact ⟨c1, x1, k1, k2, fun hm => k3 ((Mut.hcongr hg).1 hm), k⟩
  linj := s.linj
  dfs := s.dfs
  marks := fun r hr => by
    obtain ⟨k1, k2, k3, k4⟩ := s.marks r hr
    exact ⟨k1, k2, fun hm => k3 ((Mut.hcongr hg).1 hm), k4⟩
  dnd := s.dnd
  room := s.room

/-! ### 3. Ranges over functions -/

theorem okFr_get (fr : Fr) (s : Nat) : fget (okFr fr) s = if okV (fget fr s) = true then fget fr s else undef := by
  induction fr with
  | nil => exact (ite_self _).symm
  | cons p r ih =>
    obtain ⟨k, v⟩ := p
    simp only [okFr, List.map_cons] at ih ⊢
    by_cases hv : okV v = true
    · simp only [hv, if_true, fget]
      by_cases h : s = k
      · simp [h, hv]
      · simp only [h, if_false]; exact ih
    · simp only [hv, Bool.false_eq_true, if_false, fget]
      by_cases h : s = k
      · simp [h, hv]
      · simp only [h, if_false]; exact ih

def exitOf : Ex → Exit
  | .norm => .normal
  | .exit id => .exit id
  | .ret => .ret

def jumpE : Option Jump → Ex
  | none => .norm
  | some .ret => .ret
  | some (.exit id) => .exit id

end Go.Proofs.Ytanpdopjgepbkaa.AM
