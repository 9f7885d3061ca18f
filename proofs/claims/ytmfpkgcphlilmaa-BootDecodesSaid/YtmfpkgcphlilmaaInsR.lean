/- How memory is related behind a call that lays a new row, or turns one in its place. -/
import Derived.Test.YtmfpkgcphlilmaaBA
set_option linter.unusedVariables false
set_option linter.unusedSimpArgs false
namespace Go.Proofs.Ytmfpkgcphlilmaa.AM
open Go

theorem flat_cell {v : Value} (h : flat0 v = true) : cellOk v = true := by
  unfold flat0 at h
  split at h <;> first | rfl | (cases h) | skip

theorem HRel.killed {P : Program} {B : Nat} {ρ : Rho} {h : AH} {w : World} (hh : HRel P B ρ h w) (b : Nat) : HRel P B ρ (h.kill b) w where
  len := by rw [AH.kill_n]; exact hh.len
  live := fun b' o ho => by
    by_cases e : b' = b
    · subst e; rw [AH.get_kill_same] at ho; cases ho
    · rw [AH.get_kill_ne e] at ho; exact hh.live b' o ho
  glob := hh.glob
  inj := fun b1 b2 o1 o2 c1 δ1 N1 c2 δ2 N2 g1 g2 hne hro e1 e2 => by
    have k1 : b1 ≠ b := fun e => by subst e; rw [AH.get_kill_same] at g1; cases g1
    have k2 : b2 ≠ b := fun e => by subst e; rw [AH.get_kill_same] at g2; cases g2
    rw [AH.get_kill_ne k1] at g1
    rw [AH.get_kill_ne k2] at g2
    exact hh.inj b1 b2 o1 o2 c1 δ1 N1 c2 δ2 N2 g1 g2 hne hro e1 e2

/-- A new block in the abstract heap that stands for a block of its own. -/
theorem HRel.pushC {P : Program} {B : Nat} {ρ : Rho} {h : AH} {w w' : World} (hh : HRel P B ρ h w) {c δ N : Nat} {cs : Array Value} {t : TypeId} {fz : Nat × Nat} {ys : List Value}
    (old : ∀ b o c1 δ1 N1 x, h.get b = some o → ρ[b]? = some (c1, δ1, N1) → w.heap[c1]? = some x → c1 ≠ c ∧ w'.heap[c1]? = some x) (hB : B ≤ c) (hw : w'.heap[c]? = some (.cells cs t fz)) (hN : cs.size = N) (hl : δ + ys.length ≤ N)
    (hfz : ∀ i, i < N + frzX → ¬ (fz.1 ≤ i ∧ i < fz.2)) (hy : ∀ (i : Nat) v, ys[i]? = some v → flat0 v = true ∧ cs[δ + i]? = some v) : HRel P B (ρ ++ [(c, δ, N)]) (h.push (.cells false ys)) w' where
  len := by simp [hh.len]
  live := fun b o ho => by
    by_cases hb : b = h.n
    · subst hb
      rw [AH.get_push_same] at ho
      injection ho with ho
      subst ho
      exact ⟨c, δ, N, .cells cs t fz, by rw [← hh.len]; simp, hw, ⟨hN, hl, fun _ => hfz, fun i v hv => ⟨flat_cell (hy i v hv).1, v, (hy i v hv).2, .flatV (by have := (hy i v hv).1; unfold flatV; split <;> first | exact this | (simp [flat0] at this))⟩⟩, fun _ => hB, (fun h => by cases h)⟩
    · rw [AH.get_push_ne _ hb] at ho
      obtain ⟨c', δ', N', x, q1, q2, q3, q4⟩ := hh.live b o ho
      exact ⟨c', δ', N', x, Ext.snoc _ _ _ _ q1, (old b o c' δ' N' x ho q1 q2).2, q3.mono (.snoc _ _), q4⟩
  glob := fun g hg => let ⟨N', hN'⟩ := hh.glob g hg; ⟨N', Ext.snoc _ _ _ _ hN'⟩
  inj := fun b b' o o' c1 δ1 N1 c2 δ2 N2 h1 h2 hne hro e1 e2 => by
    have get : ∀ b o, (h.push (.cells false ys)).get b = some o → b ≠ h.n → ∀ c1 δ1 N1, (ρ ++ [(c, δ, N)])[b]? = some (c1, δ1, N1) → h.get b = some o ∧ ρ[b]? = some (c1, δ1, N1) ∧ c1 ≠ c := fun b o ho hb c1 δ1 N1 hc => by
      rw [AH.get_push_ne _ hb] at ho
      rw [List.getElem?_append_left (by rw [hh.len]; exact AH.get_lt ho)] at hc
      obtain ⟨c', δ', N', x, q1, q2, _⟩ := hh.live b o ho
      rw [hc] at q1
      injection q1 with q1
      injection q1 with q1 _
      subst q1
      exact ⟨ho, hc, (old b o _ _ _ x ho hc q2).1⟩
    have new : ∀ c1 δ1 N1, (ρ ++ [(c, δ, N)])[h.n]? = some (c1, δ1, N1) → c1 = c := fun c1 δ1 N1 hc => by
      rw [← hh.len] at hc
      simp only [List.getElem?_append_right (Nat.le_refl _), Nat.sub_self, List.getElem?_cons_zero, Option.some.injEq, Prod.mk.injEq] at hc
      exact hc.1.symm
    by_cases hb : b = h.n
    · subst hb
      have := new _ _ _ e1
      have := (get b' o' h2 (fun e => hne e.symm) _ _ _ e2).2.2
      omega
    · obtain ⟨a1, a2, a3⟩ := get b o h1 hb _ _ _ e1
      by_cases hb' : b' = h.n
      · subst hb'
        have := new _ _ _ e2
        omega
      · obtain ⟨b1, b2, b3⟩ := get b' o' h2 hb' _ _ _ e2
        exact hh.inj b b' o o' c1 δ1 N1 c2 δ2 N2 a1 b1 hne hro a2 b2

/-- What is same outside of memory, and no less was drawn. -/
structure Out (w w' : World) : Prop where
  os : w'.os = w.os
  tape : w'.tape = w.tape
  output : w'.output = w.output
  drawn : w.drawn ≤ w'.drawn

/-- Behind a call that lays a new row, what was there stays. -/
theorem post_new {P : Program} {B : Nat} {ρ : Rho} {h : AH} {w w' : World} (hh : HRel P B ρ h w) (hB : B ≤ w.heap.size) (so : Out w w') {cs : Array Value} {t : TypeId} (e : w'.heap = w.heap.push (.cells cs t (0, 0))) (kb : Option Nat) {ys : List Value}
    (hl : ys.length ≤ cs.size) (hy : ∀ (i : Nat) v, ys[i]? = some v → flat0 v = true ∧ cs[i]? = some v) {n c : Nat} (hnc : n ≤ c) (hc : c ≤ cs.size) :
    CallPost P B ρ h w (.slice (some ⟨h.n, 0, none⟩) n 1) ((match kb with | some b => h.kill b | none => h).push (.cells false ys)) (.returned (.slice (some ⟨w.heap.size, 0, none⟩) n c)) w' := by
  obtain ⟨h', hh', hn', hk', mt⟩ : ∃ h', h' = (match kb with | some b => h.kill b | none => h) ∧ h'.n = h.n ∧ HRel P B ρ h' w ∧ ∀ b o, h'.get b = some o → h.get b = some o := by
    cases kb with
    | none => exact ⟨h, rfl, rfl, hh, fun _ _ h => h⟩
    | some b => exact ⟨h.kill b, rfl, rfl, hh.killed b, fun b' o ho => by
        by_cases e : b' = b
        · subst e; rw [AH.get_kill_same] at ho; cases ho
        · rwa [AH.get_kill_ne e] at ho⟩
  rw [← hh']
  have old : ∀ b o c1 δ1 N1 x, h'.get b = some o → ρ[b]? = some (c1, δ1, N1) → w.heap[c1]? = some x → c1 ≠ w.heap.size ∧ w'.heap[c1]? = some x := fun b o c1 δ1 N1 x _ _ hx => by
    have hlt := (Array.getElem?_eq_some_iff.1 hx).1
    exact ⟨by omega, by rw [e, Array.getElem?_push_lt hlt, ← hx, Array.getElem?_eq_getElem hlt]⟩
  have hH := hk'.pushC (c := w.heap.size) (δ := 0) (N := cs.size) (cs := cs) (t := t) (fz := (0, 0)) (ys := ys) old hB (by rw [e]; simp) rfl (by omega) (unfrozen0 _) (fun i v hv => by rw [Nat.zero_add]; exact hy i v hv)
  refine ⟨_, _, rfl, hH, ⟨.snoc _ _, by rw [e]; simp, so.os, so.tape, so.output, so.drawn, fun c0 hc0 _ => by rw [e, Array.getElem?_push_lt hc0, Array.getElem?_eq_getElem hc0], fun c0 hc0 hm => ?_⟩, ?_⟩
  · obtain ⟨b, ob, δ2, N2, g1, g2, g3⟩ := hm
    by_cases hb : b = h'.n
    · subst hb
      rw [← hk'.len] at g3
      simp only [List.getElem?_append_right (Nat.le_refl _), Nat.sub_self, List.getElem?_cons_zero, Option.some.injEq, Prod.mk.injEq] at g3
      have hc0' : c0 < w.heap.size := hc0
      omega
    · rw [AH.get_push_ne _ hb] at g1
      rw [List.getElem?_append_left (by rw [hk'.len]; exact AH.get_lt g1)] at g3
      exact ⟨b, ob, δ2, N2, mt _ _ g1, g2, g3⟩
  · refine .sl h.n 0 w.heap.size 0 cs.size n 1 c (by rw [← hh.len]; exact List.getElem?_concat_length) hnc ?_
    omega

/-- Behind a call that turns a row in its place. -/
theorem post_same {P : Program} {B : Nat} {ρ : Rho} {h : AH} {w w' : World} (hh : HRel P B ρ h w) (so : Out w w') {b o c δ N : Nat} {xs : List Value} {cs cs' : Array Value} {t : TypeId} {fz : Nat × Nat} (hob : h.get b = some (.cells false xs)) (hρ : ρ[b]? = some (c, δ, N))
    (hw : w.heap[c]? = some (.cells cs t fz)) (e1 : w'.heap[c]? = some (.cells cs' t fz)) (e2 : ∀ c', c' ≠ c → w'.heap[c']? = w.heap[c']?) (e3 : w'.heap.size = w.heap.size) (hsz : cs'.size = cs.size) {ys : List Value} {n k : Nat} (hnk : n ≤ k) (hk : δ + o + k ≤ N) (hyn : ys.length ≤ k)
    (hy : ∀ (i : Nat) v, ys[i]? = some v → flat0 v = true ∧ cs'[δ + o + i]? = some v) :
    CallPost P B ρ h w (.slice (some ⟨h.n, 0, none⟩) n 1) ((h.kill b).push (.cells false ys)) (.returned (.slice (some ⟨c, δ + o, none⟩) n k)) w' := by
  obtain ⟨c', δ', N', x, r1, r2, r3, r4, r5⟩ := hh.live b _ hob
  rw [hρ] at r1
  injection r1 with r1
  injection r1 with g1 r1
  injection r1 with g2 g3
  subst g1 g2 g3
  rw [hw] at r2
  injection r2 with r2
  subst r2
  obtain ⟨f1, f2, f3, f4⟩ := r3
  have hmut : Mut ρ h c := ⟨b, _, δ, N, hob, rfl, hρ⟩
  have old : ∀ b1 o1 c1 δ1 N1 x, (h.kill b).get b1 = some o1 → ρ[b1]? = some (c1, δ1, N1) → w.heap[c1]? = some x → c1 ≠ c ∧ w'.heap[c1]? = some x := fun b1 o1 c1 δ1 N1 x g1 g2 g3 => by
    have hne : b1 ≠ b := fun e => by subst e; rw [AH.get_kill_same] at g1; cases g1
    rw [AH.get_kill_ne hne] at g1
    have hcc : c1 ≠ c := fun e => hh.inj b b1 _ o1 c δ N c1 δ1 N1 hob g1 (fun e => hne e.symm) rfl hρ g2 e.symm
    exact ⟨hcc, by rw [e2 c1 hcc]; exact g3⟩
  have hH := (hh.killed b).pushC (c := c) (δ := δ + o) (N := N) (ys := ys) old (r4 rfl) e1 (by rw [hsz]; exact f1) (by omega) (f3 rfl) hy
  refine ⟨_, _, rfl, hH, ⟨.snoc _ _, by rw [e3]; exact Nat.le_refl _, so.os, so.tape, so.output, so.drawn, fun c0 hc0 hm => e2 c0 (fun e => hm (by rw [e]; exact hmut)), fun c0 hc0 hm => ?_⟩, ?_⟩
  · obtain ⟨b1, ob, δ2, N2, g1, g2, g3⟩ := hm
    by_cases hb : b1 = (h.kill b).n
    · subst hb
      rw [AH.kill_n, ← hh.len] at g3
      simp only [List.getElem?_append_right (Nat.le_refl _), Nat.sub_self, List.getElem?_cons_zero, Option.some.injEq, Prod.mk.injEq] at g3
      rw [← g3.1]; exact hmut
    · rw [AH.get_push_ne _ hb] at g1
      have hne : b1 ≠ b := fun e => by subst e; rw [AH.get_kill_same] at g1; cases g1
      rw [AH.get_kill_ne hne] at g1
      rw [List.getElem?_append_left (by rw [hh.len]; exact AH.get_lt g1)] at g3
      exact ⟨b1, ob, δ2, N2, g1, g2, g3⟩
  · have := VRel.sl (ρ := ρ ++ [(c, δ + o, N)]) h.n 0 c (δ + o) N n 1 k (by rw [← hh.len]; exact List.getElem?_concat_length) hnk (by omega)
    simpa using this

end Go.Proofs.Ytmfpkgcphlilmaa.AM
