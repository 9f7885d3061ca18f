/- What a form is made of, how it ends: plain laws. -/
import Derived.Test.YtmfpkgcphlilmaaBootF
set_option linter.unusedVariables false
set_option linter.unusedSimpArgs false
namespace Go.Proofs.Ytmfpkgcphlilmaa.AM
open Go

def LetN (c : Nat) : Prop := c = 45 ∨ (97 ≤ c ∧ c ≤ 122) ∨ (48 ≤ c ∧ c ≤ 57)

theorem basic_let {c : Nat} (h : basicN c = true) : LetN c := by
  unfold basicN at h
  unfold LetN
  simp only [Bool.or_eq_true, Bool.and_eq_true, beq_iff_eq, decide_eq_true_eq] at h
  omega

theorem lowB_let {first : Nat} : ∀ {R : List Nat}, (∀ c ∈ R, first ≤ c ∨ basicN c = true) → ∀ c ∈ lowB first R, LetN c.toNat
  | [], _, c, hc => by simp [lowB] at hc
  | x :: R, h, c, hc => by
    have ih := lowB_let (first := first) (R := R) (fun c hc => h c (List.mem_cons_of_mem _ hc))
    simp only [lowB] at hc
    split at hc
    · exact ih c hc
    · rename_i hx
      rcases List.mem_cons.1 hc with rfl | hc
      · have hb := (h x List.mem_cons_self).resolve_left hx
        have := basic_let hb
        unfold LetN at this ⊢
        have e : (UInt8.ofNat x).toNat = x := by
          rw [UInt8.toNat_ofNat']
          omega
        rw [e]
        exact this
      · exact ih c hc

theorem lowB_nil {first : Nat} : ∀ {R : List Nat}, lowB first R = [] ↔ ∀ c ∈ R, first ≤ c
  | [] => by simp [lowB]
  | x :: R => by
    have ih := lowB_nil (first := first) (R := R)
    simp only [lowB]
    split
    · rename_i hx
      rw [ih]
      simp [hx]
    · rename_i hx
      simp [hx]

theorem highs_nil {first : Nat} : ∀ {R : List Nat} {i : Nat}, highsOf first i R = [] ↔ ∀ c ∈ R, ¬ first ≤ c
  | [], i => by simp [highsOf]
  | x :: R, i => by
    have ih := highs_nil (first := first) (R := R) (i := i + 1)
    simp only [highsOf]
    split
    · rename_i hx
      simp [hx]
      intro h
      omega
    · rename_i hx
      rw [ih]
      simp [hx]
      intro _
      omega

theorem encH_ne {p : BP} (ok : p.Ok) {there : List Nat} {n j bias : Nat} {fst : Bool} {x : Nat × Nat} {hs : List (Nat × Nat)} : encH p there n j bias fst (x :: hs) ≠ [] := by
  intro h
  unfold encH at h
  have := congrArg List.length h
  simp only [List.length_append, List.length_map, List.length_nil] at this
  have h2 := wrd_ne ok
  have : ∀ b k v, (wrd p b k v).length ≠ 0 := fun b k v e => h2 b k v (List.length_eq_zero_iff.1 e)
  rename_i hh
  exact absurd (Nat.eq_zero_of_add_eq_zero_right hh) (this _ _ _)

structure Form (p : BP) (R : List Nat) (a : Bytes) : Prop where
  ok : ∀ c ∈ a, LetN c.toNat
  nil : a = [] ↔ R = []
  ends : a ≠ [] → (a.getLast? = some 45 ↔ (∃ c ∈ R, c < 128) ∧ ∀ c ∈ R, c < 128)

theorem form_of {p : BP} (ok : p.Ok) {R : List Nat} (hR : ∀ c ∈ R, p.first ≤ c ∨ basicN c = true) : Form p R (bodyE p R) := by
  have hf := ok.f1
  have hdig := encH_digits ok (sortH (highsOf p.first 0 R)) (lowsOf p.first 0 R) p.first 0 p.bias true
  have hlet := lowB_let hR
  have hsp := sortH_perm (highsOf p.first 0 R)
  have h128 : ∀ c ∈ R, (c < 128 ↔ ¬ p.first ≤ c) := fun c hc => by
    constructor
    · intro h1 h2; omega
    · intro h1
      exact basic_lt ((hR c hc).resolve_left h1)
  have hlo : lowB p.first R = [] ↔ ¬ ∃ c ∈ R, c < 128 := by
    rw [lowB_nil]
    constructor
    · rintro h ⟨c, hc, h1⟩
      exact (h128 c hc).1 h1 (h c hc)
    · intro h c hc
      exact Decidable.byContradiction fun h1 => h ⟨c, hc, (h128 c hc).2 h1⟩
  have hhi : highsOf p.first 0 R = [] ↔ ∀ c ∈ R, c < 128 := by
    rw [highs_nil]
    exact ⟨fun h c hc => (h128 c hc).2 (h c hc), fun h c hc => (h128 c hc).1 (h c hc)⟩
  have hemp : encH p (lowsOf p.first 0 R) p.first 0 p.bias true (sortH (highsOf p.first 0 R)) = [] ↔ highsOf p.first 0 R = [] := by
    constructor
    · intro h
      cases hs : sortH (highsOf p.first 0 R) with
      | nil => rw [hs] at hsp; exact hsp.symm.eq_nil
      | cons y ys => rw [hs] at h; exact absurd h (encH_ne ok)
    · intro h
      have : sortH (highsOf p.first 0 R) = [] := by rw [h] at hsp ⊢; exact hsp.eq_nil
      rw [this]
      rfl
  have hbody : bodyE p R = lowB p.first R ++ (if lowB p.first R = [] then [] else [45]) ++ encH p (lowsOf p.first 0 R) p.first 0 p.bias true (sortH (highsOf p.first 0 R)) := rfl
  generalize encH p (lowsOf p.first 0 R) p.first 0 p.bias true (sortH (highsOf p.first 0 R)) = E at hdig hemp hbody
  rw [hbody]
  refine ⟨fun c hc => ?_, ?_, fun hne => ?_⟩
  · rcases List.mem_append.1 hc with hc | hc
    · rcases List.mem_append.1 hc with hc | hc
      · exact hlet c hc
      · split at hc
        · cases hc
        · rw [List.mem_singleton.1 hc]; exact .inl rfl
    · exact .inr (hdig c hc)
  · constructor
    · intro h
      obtain ⟨h1, h2⟩ := List.append_eq_nil_iff.1 h
      obtain ⟨h1, h3⟩ := List.append_eq_nil_iff.1 h1
      have a1 := hlo.1 h1
      have a2 := hhi.1 (hemp.1 h2)
      cases R with
      | nil => rfl
      | cons y ys => exact absurd ⟨y, List.mem_cons_self, a2 y List.mem_cons_self⟩ a1
    · rintro rfl
      have a1 := hlo.2 (by simp)
      have a2 := hemp.2 (hhi.2 (by simp))
      rw [a1, a2]
      rfl
  · by_cases hE : E = []
    · have a2 := hhi.1 (hemp.1 hE)
      by_cases hL : lowB p.first R = []
      · exfalso
        apply hne
        rw [hL, hE]
        rfl
      · rw [if_neg hL, hE, List.append_nil, List.getLast?_append]
        have a1 := Decidable.not_not.1 (fun h => hL (hlo.2 h))
        simp only [List.getLast?_singleton, Option.some_or, true_iff]
        exact ⟨a1, a2⟩
    · have hl : (lowB p.first R ++ (if lowB p.first R = [] then [] else [45]) ++ E).getLast? = some (E.getLast hE) := by
        rw [List.getLast?_append, List.getLast?_eq_some_getLast hE]
        rfl
      rw [hl]
      have := hdig _ (List.getLast_mem hE)
      constructor
      · intro h
        injection h with h
        rw [h] at this
        have h45 : (45 : UInt8).toNat = 45 := rfl
        omega
      · rintro ⟨_, h⟩
        exact absurd (hemp.2 (hhi.2 h)) hE

end Go.Proofs.Ytmfpkgcphlilmaa.AM
