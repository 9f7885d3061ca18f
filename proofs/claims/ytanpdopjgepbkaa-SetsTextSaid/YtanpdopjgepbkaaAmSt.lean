/-
  What each turn of memory does to 'SR': objects read, written, laid; values put into slots.
-/
import Derived.Test.YtanpdopjgepbkaaAmRel
set_option linter.unusedVariables false
set_option linter.unusedSimpArgs false
namespace Go.Proofs.Ytanpdopjgepbkaa.AM
open Go

structure SameOut (w w' : World) : Prop where
  os : w'.os = w.os
  tape : w'.tape = w.tape
  output : w'.output = w.output
  drawn : w.drawn ≤ w'.drawn

theorem SameOut.refl (w : World) : SameOut w w := ⟨rfl, rfl, rfl, by first | exact Nat.le_refl _ | exact Nat.le_add_right _ _⟩
theorem SameOut.trans {w w' w'' : World} (h : SameOut w w') (h' : SameOut w' w'') : SameOut w w'' := ⟨h'.os.trans h.os, h'.tape.trans h.tape, h'.output.trans h.output, Nat.le_trans h.drawn h'.drawn⟩

variable {P : Program} {B nt : Nat} {E : Ent} {D : List Nat} {ρ : Rho} {lm : Nat → Option Nat} {g : Nat → Value} {m : Mem} {a : Act} {w : World}

theorem HRel.world {h : AH} {w' : World} (hr : HRel P B ρ h w) (e : w'.heap = w.heap) : HRel P B ρ h w' :=
  ⟨hr.len, by rw [e]; exact hr.live, hr.glob, hr.inj⟩
theorem Trans.world {h : AH} {w' : World} (t : Trans E ρ h w) (e : w'.heap = w.heap) (so : SameOut w w') : Trans E ρ h w' :=
  ⟨t.ext, by rw [e]; exact t.size, so.os.trans t.os, so.tape.trans t.tape, so.output.trans t.output, Nat.le_trans t.drawn so.drawn, by rw [e]; exact t.keep, t.img⟩
theorem SR.world {w' : World} (s : SR P B nt E D ρ lm g m a w) (e : w'.heap = w.heap) (so : SameOut w w') : SR P B nt E D ρ lm g m a w' where
  base := s.base
  heap := s.heap.world e
  tr := s.tr.world e so
  val := s.val
  lcs := by rw [e]; exact s.lcs
  linj := s.linj
  dfs := s.dfs
  marks := by rw [e]; exact s.marks
  dnd := s.dnd
  room := s.room

theorem SR.objAt (s : SR P B nt E D ρ lm g m a w) {p p' : Addr} (hp : VRelF ρ lm (.pointer (some p)) (.pointer (some p'))) {o : AObj} (ho : m.obj p = some o) :
    ∃ δ N x, w.heap[p'.block]? = some x ∧ ORel P ρ δ N o x ∧ p' = ⟨p'.block, δ + p.off, none⟩ := by
  rcases hp with h | ⟨nm, of, c, h1, h2, h3⟩ | ⟨nm, n, e, c, h1, _⟩
  · cases h with
    | ptr b of c δ N h =>
      obtain ⟨c', δ', N', x, h1, h2, h3, _⟩ := s.heap.live b o ho
      rw [h] at h1
      injection h1 with h1
      injection h1 with e1 h1
      injection h1 with e2 e3
      subst e1 e2 e3
      exact ⟨δ, N, x, h2, h3, rfl⟩
  · injection h1 with h1
    injection h1 with h1
    injection h3 with h3
    injection h3 with h3
    subst h1 h3
    have hl := s.lcs nm
    have ho' : lget m.lc nm = some o := ho
    rw [ho'] at hl
    obtain ⟨c', x, e1, _, _, e2, ⟨N, e3⟩, _⟩ := hl
    rw [h2] at e1
    injection e1 with e1
    subst e1
    exact ⟨0, N, x, e2, e3, by simp [loc]⟩
  · cases h1

theorem Mut.of_set {h : AH} {b : Nat} {o o' : AObj} (ho : h.get b = some o) (hr : o.ro = false) {c : Nat} (hm : Mut ρ (h.set b o') c) : Mut ρ h c := by
  obtain ⟨b', o2, δ, N, h1, h2, h3⟩ := hm
  by_cases e : b' = b
  · subst e; exact ⟨b', o, δ, N, ho, hr, h3⟩
  · rw [AH.get_set_ne _ e] at h1; exact ⟨b', o2, δ, N, h1, h2, h3⟩

theorem getElem?_setIfInBounds_cases (xs : Array Obj) (i j : Nat) (x : Obj) (hi : i < xs.size) : (xs.setIfInBounds i x)[j]? = if j = i then some x else xs[j]? := by
  by_cases h : j = i
  · subst h; simp [hi]
  · simp [h, Array.getElem?_setIfInBounds_ne (Ne.symm h)]

/-- An object is written. -/
theorem SR.putObj (s : SR P B nt E D ρ lm g m a w) {p p' : Addr} (hp : VRelF ρ lm (.pointer (some p)) (.pointer (some p'))) {o o' : AObj} (ho : m.obj p = some o)
    (hr : o.ro = false) (hr' : o'.ro = false) {δ N : Nat} {x x' : Obj} (hx : w.heap[p'.block]? = some x) (hrel : ORel P ρ δ N o x)
    (hx' : ∀ δ N, p'.off = δ + p.off → ORel P ρ δ N o x → ORel P ρ δ N o' x') {w' : World} (e : w'.heap = w.heap.setIfInBounds p'.block x') (so : SameOut w w') :
    SR P B nt E D ρ lm g (m.putObj p o') a w' := by
  have hlt : p'.block < w.heap.size := (Array.getElem?_eq_some_iff.1 hx).1
  have hget : ∀ c, w'.heap[c]? = if c = p'.block then some x' else w.heap[c]? := fun c => by rw [e]; exact getElem?_setIfInBounds_cases _ _ _ _ hlt
  have hsz : w'.heap.size = w.heap.size := by rw [e]; simp
  rcases hp with h | ⟨nm, of, c, h1, h2, h3⟩ | ⟨nm, n, e, c, h1, _⟩
  · cases h with
    | ptr b of c δ' N' h =>
      have hmo : m.putObj ⟨b, of, none⟩ o' = { m with h := m.h.set b o' } := rfl
      have ho' : m.h.get b = some o := ho
      rw [hmo]
      have hmut : Mut ρ m.h c := ⟨b, o, δ', N', ho', hr, h⟩
      have hb := AH.get_lt ho'
      refine ⟨s.base, ⟨s.heap.len, fun b1 o1 h1 => ?_, s.heap.glob, fun b1 b2 o1 o2 c1 δ1 N1 c2 δ2 N2 h1 h2 hne hro e1 e2 => ?_⟩, ⟨s.tr.ext, by rw [hsz]; exact s.tr.size, so.os.trans s.tr.os, so.tape.trans s.tr.tape, so.output.trans s.tr.output, Nat.le_trans s.tr.drawn so.drawn, fun c1 hc hm => ?_, fun c1 hc hm => s.tr.img c1 hc (hm.of_set ho' hr)⟩, s.val, fun nm => ?_, s.linj, s.dfs, fun r hr1 => ?_, s.dnd, s.room⟩
      · by_cases eb : b1 = b
        · subst eb
          rw [AH.get_set_same _ hb] at h1
          injection h1 with h1
          subst h1
          obtain ⟨c2, δ2, N2, x2, e1, e2, e3, e4, e5⟩ := s.heap.live b1 o ho'
          rw [h] at e1
          injection e1 with e1
          injection e1 with g1 e1
          injection e1 with g2 g3
          subst g1 g2 g3
          rw [hx] at e2
          injection e2 with e2
          subst e2
          exact ⟨c, δ', N', x', h, by rw [hget]; simp, hx' _ _ rfl e3, fun _ => e4 hr, fun hf => by rw [hr'] at hf; cases hf⟩
        · rw [AH.get_set_ne _ eb] at h1
          obtain ⟨c2, δ2, N2, x2, e1, e2, e3, e4⟩ := s.heap.live b1 o1 h1
          refine ⟨c2, δ2, N2, x2, e1, ?_, e3, e4⟩
          rw [hget]
          have : c2 ≠ c := fun hc => s.heap.inj b b1 o o1 c δ' N' c2 δ2 N2 ho' h1 (Ne.symm eb) hr h e1 hc.symm
          simp [this, e2]
      · have key : ∀ (b1 : Nat) (o1 : AObj), ((m.h.set b o').get b1) = some o1 → ∃ o1', m.h.get b1 = some o1' ∧ o1'.ro = o1.ro := fun b1 o1 h1 => by
          by_cases eb : b1 = b
          · subst eb; rw [AH.get_set_same _ hb] at h1; injection h1 with h1; subst h1; exact ⟨o, ho', by rw [hr, hr']⟩
          · rw [AH.get_set_ne _ eb] at h1; exact ⟨o1, h1, rfl⟩
        obtain ⟨o1', k1, k2⟩ := key b1 o1 h1
        obtain ⟨o2', k3, _⟩ := key b2 o2 h2
        exact s.heap.inj b1 b2 o1' o2' c1 δ1 N1 c2 δ2 N2 k1 k3 hne (k2.trans hro) e1 e2
      · rw [hget]
        have : c1 ≠ c := fun hcc => hm (s.tr.img c1 hc (by rw [hcc]; exact hmut))
        simp [this, s.tr.keep c1 hc hm]
      · have hl := s.lcs nm
        revert hl
        show (match lget m.lc nm with | none => _ | some o => _) → (match lget m.lc nm with | none => _ | some o => _)
        cases lget m.lc nm with
        | none => exact id
        | some o1 =>
          rintro ⟨c1, x1, k1, k2, k3, k4, k5, k6⟩
          refine ⟨c1, x1, k1, k2, fun hm => k3 (hm.of_set ho' hr), ?_, k5, k6⟩
          rw [hget]
          have : c1 ≠ c := fun hc => k3 (hc ▸ hmut)
          simp [this, k4]
      · obtain ⟨k1, k2, k3, k4⟩ := s.marks r hr1
        refine ⟨?_, k2, fun hm => k3 (hm.of_set ho' hr), k4⟩
        rw [hget]
        have : r ≠ c := fun hc => k3 (hc ▸ hmut)
        simp [this, k1]
  · injection h1 with h1
    injection h1 with h1
    injection h3 with h3
    injection h3 with h3
    subst h1 h3
    have hl := s.lcs nm
    have ho' : lget m.lc nm = some o := ho
    rw [ho'] at hl
    obtain ⟨c', x0, k1, k2, k3, k4, ⟨N0, k5⟩, _⟩ := hl
    rw [h2] at k1
    injection k1 with k1
    subst k1
    have hmo : m.putObj (loc nm of) o' = { m with lc := (nm, o') :: m.lc } := rfl
    rw [hmo]
    have hxe : x0 = x := by rw [hx] at k4; injection k4 with k4; exact k4.symm
    subst hxe
    have hlive : ∀ b1 o1 c2 δ2 N2, m.h.get b1 = some o1 → ρ[b1]? = some (c2, δ2, N2) → c2 ≠ c := fun b1 o1 c2 δ2 N2 e1 e2 hc => by
      subst hc
      cases hro : o1.ro with
      | false => exact k3 ⟨b1, o1, δ2, N2, e1, hro, e2⟩
      | true =>
        obtain ⟨c3, δ3, N3, x3, f1, _, _, _, f2⟩ := s.heap.live b1 o1 e1
        rw [e2] at f1
        injection f1 with f1
        injection f1 with f3 _
        have := f2 hro
        have := s.base
        omega
    refine ⟨s.base, ⟨s.heap.len, fun b1 o1 h1 => ?_, s.heap.glob, s.heap.inj⟩, ⟨s.tr.ext, by rw [hsz]; exact s.tr.size, so.os.trans s.tr.os, so.tape.trans s.tr.tape, so.output.trans s.tr.output, Nat.le_trans s.tr.drawn so.drawn, fun c1 hc hm => ?_, s.tr.img⟩, s.val, fun nm' => ?_, s.linj, s.dfs, fun r hr1 => ?_, s.dnd, s.room⟩
    · obtain ⟨c2, δ2, N2, x2, e1, e2, e3, e4⟩ := s.heap.live b1 o1 h1
      refine ⟨c2, δ2, N2, x2, e1, ?_, e3, e4⟩
      rw [hget]
      simp [hlive b1 o1 c2 δ2 N2 h1 e1, e2]
    · rw [hget]
      have : c1 ≠ c := by omega
      simp [this, s.tr.keep c1 hc hm]
    · have hl := s.lcs nm'
      by_cases en : nm' = nm
      · subst en
        simp only [lget, if_true]
        exact ⟨c, x', h2, k2, k3, by rw [hget]; simp, ⟨N0, hx' _ _ (by simp [loc]) k5⟩, hr'⟩
      · simp only [lget, en, if_false]
        revert hl
        cases lget m.lc nm' with
        | none => exact id
        | some o1 =>
          rintro ⟨c1, x1, f1, f2, f3, f4, f5, f6⟩
          refine ⟨c1, x1, f1, f2, f3, ?_, f5, f6⟩
          rw [hget]
          have : c1 ≠ c := fun hc => en (s.linj nm' nm c1 f1 (hc ▸ h2))
          simp [this, f4]
    · obtain ⟨f1, f2, f3, f4⟩ := s.marks r hr1
      refine ⟨?_, f2, f3, f4⟩
      rw [hget]
      have : r ≠ c := fun hc => f4 nm (hc ▸ h2)
      simp [this, f1]
  · cases h1

theorem Mut.kill {h : AH} {b c : Nat} (hm : Mut ρ (h.kill b) c) : Mut ρ h c := by
  obtain ⟨b', o, δ, N, h1, h2, h3⟩ := hm
  by_cases e : b' = b
  · subst e; rw [AH.get_kill_same] at h1; cases h1
  · rw [AH.get_kill_ne e] at h1; exact ⟨b', o, δ, N, h1, h2, h3⟩

/-- An object is forgotten. -/
theorem SR.kill (s : SR P B nt E D ρ lm g m a w) (b : Nat) : SR P B nt E D ρ lm g { m with h := m.h.kill b } a w := by
  have key : ∀ b1 o1, (m.h.kill b).get b1 = some o1 → m.h.get b1 = some o1 := fun b1 o1 h1 => by
    by_cases e : b1 = b
    · subst e; rw [AH.get_kill_same] at h1; cases h1
    · rwa [AH.get_kill_ne e] at h1
  refine ⟨s.base, ⟨s.heap.len, fun b1 o1 h1 => s.heap.live b1 o1 (key _ _ h1), s.heap.glob, fun b1 b2 o1 o2 c1 δ1 N1 c2 δ2 N2 h1 h2 => s.heap.inj b1 b2 o1 o2 c1 δ1 N1 c2 δ2 N2 (key _ _ h1) (key _ _ h2)⟩,
    ⟨s.tr.ext, s.tr.size, s.tr.os, s.tr.tape, s.tr.output, s.tr.drawn, s.tr.keep, fun c hc hm => s.tr.img c hc hm.kill⟩, s.val, fun nm => ?_, s.linj, s.dfs, fun r hr => ?_, s.dnd, s.room⟩
  · have hl := s.lcs nm
    revert hl
    show (match lget m.lc nm with | none => _ | some o => _) → (match lget m.lc nm with | none => _ | some o => _)
    cases lget m.lc nm with
    | none => exact id
    | some o1 => rintro ⟨c1, x1, k1, k2, k3, k⟩; exact ⟨c1, x1, k1, k2, fun hm => k3 hm.kill, k⟩
  · obtain ⟨k1, k2, k3, k4⟩ := s.marks r hr
    exact ⟨k1, k2, fun hm => k3 hm.kill, k4⟩

theorem get_snoc_lt {ρ : Rho} {x : Nat × Nat × Nat} {b : Nat} (h : b < ρ.length) : (ρ ++ [x])[b]? = ρ[b]? := List.getElem?_append_left h
theorem get_snoc_eq (ρ : Rho) (x : Nat × Nat × Nat) : (ρ ++ [x])[ρ.length]? = some x := by simp

/-- A new object, at a block of the model's that no other object has. -/
theorem SR.pushAt (s : SR P B nt E D ρ lm g m a w) {o : AObj} (hro : o.ro = false) {c δ N : Nat} {x : Obj} {w' : World} (hsz : w.heap.size ≤ w'.heap.size)
    (hx : w'.heap[c]? = some x) (hrel : ORel P (ρ ++ [(c, δ, N)]) δ N o x) (hB : B ≤ c)
    (hfree : ∀ b1 o1 c1 δ1 N1, m.h.get b1 = some o1 → ρ[b1]? = some (c1, δ1, N1) → c1 ≠ c)
    (hE : c < E.w.heap.size → Mut E.ρ E.h c) (hlm : ∀ nm, lm nm ≠ some c) (hmk : c ∉ D)
    (hget : ∀ c', c' ≠ c → c' < w.heap.size → w'.heap[c']? = w.heap[c']?) (so : SameOut w w') :
    SR P B nt E D (ρ ++ [(c, δ, N)]) lm g { m with h := m.h.push o } a w' := by
  have hn := s.heap.len
  have hext := Ext.snoc ρ (c, δ, N)
  have mutc : ∀ c', Mut (ρ ++ [(c, δ, N)]) (m.h.push o) c' → c' = c ∨ Mut ρ m.h c' := fun c' hm => by
    obtain ⟨b', o2, δ2, N2, h1, h2, h3⟩ := hm
    by_cases e : b' = m.h.n
    · subst e
      rw [← hn, get_snoc_eq] at h3
      injection h3 with h3
      injection h3 with h3 _
      exact .inl h3.symm
    · rw [AH.get_push_ne _ e] at h1
      have := AH.get_lt h1
      rw [get_snoc_lt (by omega)] at h3
      exact .inr ⟨b', o2, δ2, N2, h1, h2, h3⟩
  have livelt : ∀ c1, (∃ b1 o1 δ1 N1, m.h.get b1 = some o1 ∧ ρ[b1]? = some (c1, δ1, N1)) → c1 < w.heap.size := fun c1 ⟨b1, o1, δ1, N1, h1, h2⟩ => by
    obtain ⟨c2, δ2, N2, x2, e1, e2, _⟩ := s.heap.live b1 o1 h1
    rw [h2] at e1
    injection e1 with e1
    injection e1 with e1 _
    subst e1
    exact (Array.getElem?_eq_some_iff.1 e2).1
  refine ⟨s.base, ⟨by simp [hn], fun b1 o1 h1 => ?_, fun g hg => (s.heap.glob g hg).imp fun _ h => hext _ _ h, fun b1 b2 o1 o2 c1 δ1 N1 c2 δ2 N2 h1 h2 hne hr1 e1 e2 => ?_⟩,
    ⟨s.tr.ext.trans hext, Nat.le_trans s.tr.size hsz, so.os.trans s.tr.os, so.tape.trans s.tr.tape, so.output.trans s.tr.output, Nat.le_trans s.tr.drawn so.drawn, fun c1 hc hm => ?_, fun c1 hc hm => ?_⟩,
    fun i => (s.val i).mono hext (fun _ _ h => h), fun nm => ?_, s.linj, s.dfs, fun r hr => ?_, s.dnd, s.room⟩
  · by_cases e : b1 = m.h.n
    · subst e
      rw [AH.get_push_same] at h1
      injection h1 with h1
      subst h1
      exact ⟨c, δ, N, x, by rw [← hn]; exact get_snoc_eq _ _, hx, hrel, fun _ => hB, fun hf => by rw [hro] at hf; cases hf⟩
    · rw [AH.get_push_ne _ e] at h1
      have hlt := AH.get_lt h1
      obtain ⟨c2, δ2, N2, x2, e1, e2, e3, e4⟩ := s.heap.live b1 o1 h1
      refine ⟨c2, δ2, N2, x2, by rw [get_snoc_lt (by omega)]; exact e1, ?_, e3.mono hext, e4⟩
      rw [hget c2 (hfree b1 o1 c2 δ2 N2 h1 e1) (Array.getElem?_eq_some_iff.1 e2).1, e2]
  · by_cases g1 : b1 = m.h.n
    · subst g1
      have g2 : b2 ≠ m.h.n := Ne.symm hne
      rw [AH.get_push_ne _ g2] at h2
      have hlt := AH.get_lt h2
      rw [get_snoc_lt (by omega)] at e2
      rw [← hn, get_snoc_eq] at e1
      injection e1 with e1
      injection e1 with e1 _
      subst e1
      exact fun hc => hfree b2 o2 c2 δ2 N2 h2 e2 hc.symm
    · rw [AH.get_push_ne _ g1] at h1
      have hlt1 := AH.get_lt h1
      rw [get_snoc_lt (by omega)] at e1
      by_cases g2 : b2 = m.h.n
      · subst g2
        rw [← hn, get_snoc_eq] at e2
        injection e2 with e2
        injection e2 with e2 _
        subst e2
        exact hfree b1 o1 c1 δ1 N1 h1 e1
      · rw [AH.get_push_ne _ g2] at h2
        have hlt2 := AH.get_lt h2
        rw [get_snoc_lt (by omega)] at e2
        exact s.heap.inj b1 b2 o1 o2 c1 δ1 N1 c2 δ2 N2 h1 h2 hne hr1 e1 e2
  · have : c1 ≠ c := fun hcc => hm (by rw [hcc] at hc ⊢; exact hE hc)
    rw [hget c1 this (Nat.lt_of_lt_of_le hc s.tr.size)]
    exact s.tr.keep c1 hc hm
  · rcases mutc c1 hm with h | h
    · subst h; exact hE hc
    · exact s.tr.img c1 hc h
  · have hl := s.lcs nm
    revert hl
    show (match lget m.lc nm with | none => _ | some o => _) → (match lget m.lc nm with | none => _ | some o => _)
    cases lget m.lc nm with
    | none => exact id
    | some o1 =>
      rintro ⟨c1, x1, k1, k2, k3, k4, ⟨N1, k5⟩, k6⟩
      have hc1 : c1 ≠ c := fun hc => hlm nm (hc ▸ k1)
      exact ⟨c1, x1, k1, k2, fun hm => (mutc c1 hm).elim hc1 k3, by rw [hget c1 hc1 (Array.getElem?_eq_some_iff.1 k4).1]; exact k4, ⟨N1, k5.mono hext⟩, k6⟩
  · obtain ⟨k1, k2, k3, k4⟩ := s.marks r hr
    have hc1 : r ≠ c := fun hc => hmk (hc ▸ hr)
    exact ⟨by rw [hget r hc1 (Array.getElem?_eq_some_iff.1 k1).1]; exact k1, k2, fun hm => (mutc r hm).elim hc1 k3, k4⟩

/-- A new object in a new block. -/
theorem SR.push (s : SR P B nt E D ρ lm g m a w) {o : AObj} (hro : o.ro = false) {N : Nat} {x : Obj} {w' : World} (e : w'.heap = w.heap.push x)
    (hrel : ORel P (ρ ++ [(w.heap.size, 0, N)]) 0 N o x) (so : SameOut w w') :
    SR P B nt E D (ρ ++ [(w.heap.size, 0, N)]) lm g { m with h := m.h.push o } a w' := by
  have hb := Nat.le_trans s.base s.tr.size
  refine s.pushAt hro (by rw [e]; simp) (by rw [e]; simp) hrel hb (fun b1 o1 c1 δ1 N1 h1 h2 hc => ?_) (fun h => absurd h (by have := s.tr.size; omega)) (fun nm hn => ?_) (fun hd => ?_)
    (fun c' hne hlt => by rw [e, Array.getElem?_push]; simp [hne]) so
  · obtain ⟨c2, δ2, N2, x2, e1, e2, _⟩ := s.heap.live b1 o1 h1
    rw [h2] at e1
    injection e1 with e1
    injection e1 with e1 _
    subst e1
    have := (Array.getElem?_eq_some_iff.1 e2).1
    omega
  · have hl := s.lcs nm
    cases hlg : lget m.lc nm with
    | none => rw [hlg] at hl; simp only at hl; rw [hl] at hn; cases hn
    | some o1 =>
      rw [hlg] at hl
      obtain ⟨c1, x1, k1, _, _, k4, _⟩ := hl
      rw [hn] at k1
      injection k1 with k1
      subst k1
      have := (Array.getElem?_eq_some_iff.1 k4).1
      omega
  · have := (Array.getElem?_eq_some_iff.1 (s.marks _ hd).1).1
    omega

def setLm (lm : Nat → Option Nat) (nm c : Nat) : Nat → Option Nat := fun x => if x = nm then some c else lm x

/-- A new local place. -/
theorem SR.newLoc (s : SR P B nt E D ρ lm g m a w) {nm : Nat} (hnm : lget m.lc nm = none) {o : AObj} (hro : o.ro = false) {N : Nat} {x : Obj} {w' : World} (e : w'.heap = w.heap.push x)
    (hrel : ORel P ρ 0 N o x) (so : SameOut w w') :
    SR P B nt E D ρ (setLm lm nm w.heap.size) g { m with lc := (nm, o) :: m.lc } a w' := by
  have hl0 := s.lcs nm
  rw [hnm] at hl0
  simp only at hl0
  have hget : ∀ c', c' < w.heap.size → w'.heap[c']? = w.heap[c']? := fun c' hlt => by
    rw [e, Array.getElem?_push]; simp [show ¬ (c' = w.heap.size) by omega]
  have hlive : ∀ b1 o1 c2 δ2 N2, m.h.get b1 = some o1 → ρ[b1]? = some (c2, δ2, N2) → c2 < w.heap.size := fun b1 o1 c2 δ2 N2 h1 h2 => by
    obtain ⟨c3, δ3, N3, x3, f1, f2, _⟩ := s.heap.live b1 o1 h1
    rw [h2] at f1
    injection f1 with f1
    injection f1 with f1 _
    subst f1
    exact (Array.getElem?_eq_some_iff.1 f2).1
  have hmono : ∀ nm' c, lm nm' = some c → setLm lm nm w.heap.size nm' = some c := fun nm' c hc => by
    unfold setLm
    by_cases en : nm' = nm
    · subst en; rw [hl0] at hc; cases hc
    · simp [en, hc]
  have hlmlt : ∀ nm' c, lm nm' = some c → c < w.heap.size := fun nm' c hc => by
    have hl := s.lcs nm'
    cases hlg : lget m.lc nm' with
    | none => rw [hlg] at hl; simp only at hl; rw [hl] at hc; cases hc
    | some o1 =>
      rw [hlg] at hl
      obtain ⟨c1, x1, k1, _, _, k4, _⟩ := hl
      rw [hc] at k1
      injection k1 with k1
      subst k1
      exact (Array.getElem?_eq_some_iff.1 k4).1
  refine ⟨s.base, ⟨s.heap.len, fun b1 o1 h1 => ?_, s.heap.glob, s.heap.inj⟩,
    ⟨s.tr.ext, Nat.le_trans s.tr.size (by rw [e]; simp), so.os.trans s.tr.os, so.tape.trans s.tr.tape, so.output.trans s.tr.output, Nat.le_trans s.tr.drawn so.drawn, fun c1 hc hm => by rw [hget c1 (Nat.lt_of_lt_of_le hc s.tr.size)]; exact s.tr.keep c1 hc hm, s.tr.img⟩,
    fun i => (s.val i).mono (.refl ρ) hmono, fun nm' => ?_, fun n1 n2 c h1 h2 => ?_, s.dfs, fun r hr => ?_, s.dnd, s.room⟩
  · obtain ⟨c2, δ2, N2, x2, e1, e2, e3, e4⟩ := s.heap.live b1 o1 h1
    exact ⟨c2, δ2, N2, x2, e1, by rw [hget c2 (hlive b1 o1 c2 δ2 N2 h1 e1)]; exact e2, e3, e4⟩
  · by_cases en : nm' = nm
    · subst en
      simp only [lget, if_true]
      refine ⟨w.heap.size, x, by simp [setLm], s.tr.size, fun ⟨b1, o1, δ1, N1, h1, _, h3⟩ => ?_, by rw [e]; simp, ⟨N, hrel⟩, hro⟩
      exact absurd (hlive b1 o1 _ δ1 N1 h1 h3) (Nat.lt_irrefl _)
    · have hl := s.lcs nm'
      simp only [lget, en, if_false]
      revert hl
      cases lget m.lc nm' with
      | none => intro hl; simp [setLm, en]; exact hl
      | some o1 =>
        rintro ⟨c1, x1, f1, f2, f3, f4, f5, f6⟩
        exact ⟨c1, x1, hmono _ _ f1, f2, f3, by rw [hget c1 (Array.getElem?_eq_some_iff.1 f4).1]; exact f4, f5, f6⟩
  · unfold setLm at h1 h2
    by_cases e1 : n1 = nm
    · by_cases e2 : n2 = nm
      · rw [e1, e2]
      · simp only [e1, if_true, e2, if_false] at h1 h2
        injection h1 with h1
        have := hlmlt n2 c h2
        omega
    · by_cases e2 : n2 = nm
      · simp only [e1, if_false, e2, if_true] at h1 h2
        injection h2 with h2
        have := hlmlt n1 c h1
        omega
      · simp only [e1, e2, if_false] at h1 h2
        exact s.linj n1 n2 c h1 h2
  · obtain ⟨f1, f2, f3, f4⟩ := s.marks r hr
    have hlt := (Array.getElem?_eq_some_iff.1 f1).1
    refine ⟨by rw [hget r hlt]; exact f1, f2, f3, fun nm' hn => ?_⟩
    unfold setLm at hn
    by_cases en : nm' = nm
    · simp only [en, if_true] at hn
      injection hn with hn
      omega
    · simp only [en, if_false] at hn
      exact f4 nm' hn

def updG (g : Nat → Value) (d : Option Nat) (v : Value) : Nat → Value := fun s => if d = some s then v else g s

/-- A value is put into a slot. -/
theorem SR.put (s : SR P B nt E D ρ lm g m a w) {d : Option Nat} (hd : ∀ x, d = some x → x < nt) {v u : Value} (hv : VRelF ρ lm v u) :
    SR P B nt E D ρ lm (updG g d v) m (a.put d u) w := by
  cases d with
  | none => exact ⟨s.base, s.heap, s.tr, fun i => by simpa [updG, Act.put] using s.val i, s.lcs, s.linj, s.dfs, s.marks, s.dnd, s.room⟩
  | some d =>
    have hlt : d < a.tmps.size := Nat.lt_of_lt_of_le (hd d rfl) s.room
    refine ⟨s.base, s.heap, s.tr, fun i => ?_, s.lcs, s.linj, s.dfs, s.marks, s.dnd, by simpa [Act.put] using s.room⟩
    by_cases e : i = d
    · subst e; simp [updG, Act.put, hlt]; exact hv
    · have e' : ¬ (d = i) := fun h => e h.symm
      have hsv := s.val i
      simp only [updG, Option.some.injEq, e', if_false, Act.put]
      simpa [Array.getElem?_setIfInBounds_ne e'] using hsv

/-- Less is known of the slots. -/
theorem SR.weaken (s : SR P B nt E D ρ lm g m a w) {g' : Nat → Value} (h : ∀ i, VRelF ρ lm (g' i) (a.tmps.getD i undef)) : SR P B nt E D ρ lm g' m a w :=
  ⟨s.base, s.heap, s.tr, h, s.lcs, s.linj, s.dfs, s.marks, s.dnd, s.room⟩

theorem VRelF.undef {ρ : Rho} {lm : Nat → Option Nat} (u : Value) : VRelF ρ lm undef u := .inl (.undef u)

end Go.Proofs.Ytanpdopjgepbkaa.AM
