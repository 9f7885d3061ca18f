/- The document's fewest spans: rounds over the rows apart. Plain mathematics. -/
import Derived.Test.YtanpdopjgepbkaaTellB
set_option linter.unusedVariables false
set_option linter.unusedSimpArgs false
namespace Go.Proofs.Ytanpdopjgepbkaa.AM

theorem runeF_or (p : Int) : (p < 55296 ∧ runeF p = p) ∨ (55296 ≤ p ∧ runeF p = p + 2048) := by
  unfold runeF; split
  · exact .inr ⟨by omega, rfl⟩
  · exact .inl ⟨by omega, rfl⟩
theorem upF_or (n : Int) : (n = 0xd7ff ∧ upF n = 0xe000) ∨ (n ≠ 0xd7ff ∧ upF n = n + 1) := by
  unfold upF; split
  · exact .inl ⟨by assumption, rfl⟩
  · exact .inr ⟨by assumption, rfl⟩
theorem upF_runeF (p : Int) : upF (runeF p) = runeF (p + 1) := by
  have := runeF_or p; have := runeF_or (p + 1); have := upF_or (runeF p); omega

/-- A right span. -/
def RightS (x : Int × Int) : Prop := IsRune x.1 ∧ IsRune x.2 ∧ x.1 ≤ x.2

theorem rank_rune {n : Int} (h : IsRune n) : runeF (rankF n) = n ∧ 0 ≤ rankF n ∧ rankF n ≤ 1112063 := by
  have := runeF_or (rankF n)
  unfold rankF at *
  split at this
  · rename_i h1
    rw [if_pos h1]; omega
  · rename_i h1
    rw [if_neg h1]
    split at this
    · omega
    · rename_i h2
      rw [if_neg h2]; omega

theorem right_row {x : Int × Int} (h : RightS x) : x.1 = runeF (rowOf x).1 ∧ x.2 = runeF ((rowOf x).2 - 1) ∧ 0 ≤ (rowOf x).1 ∧ (rowOf x).1 < (rowOf x).2 ∧ (rowOf x).2 ≤ 1112064 := by
  obtain ⟨a, b, c⟩ := h
  have h1 := rank_rune a
  have h2 := rank_rune b
  have e : (rowOf x).2 - 1 = rankF x.2 := by unfold rowOf; simp only; omega
  rw [e]
  unfold rowOf
  simp only
  refine ⟨h1.1.symm, h2.1.symm, h1.2.1, ?_, by omega⟩
  have := runeF_or (rankF x.1); have := runeF_or (rankF x.2)
  omega

theorem wrong_right {x : Int × Int} (h : wrongF x = 0) : RightS x := by
  unfold wrongF at h
  split at h
  · cases h
  · rename_i h1
    split at h
    · cases h
    · exact ⟨by omega, by omega, by omega⟩

/-- No number right behind a row is in a row. -/
theorem canon_gap {C : List (Int × Int)} (hc : Canon C) {k : Nat} (hk : k < C.length) : ¬ InR (C[k]).2 C := by
  rintro ⟨y, hy, h1, h2⟩
  obtain ⟨j, hj, rfl⟩ := List.getElem_of_mem hy
  have hp := List.pairwise_iff_getElem.1 hc.sep
  rcases Nat.lt_trichotomy j k with h | h | h
  · have := hp j k hj hk h
    have := hc.ne C[k] (List.getElem_mem hk)
    omega
  · subst h; omega
  · have := hp k j hk hj h
    omega

/-- A number in a row that is not below the end of the row k - 1 is not below the row k. -/
theorem canon_from {C : List (Int × Int)} (hc : Canon C) {k : Nat} {z : Int} (hz : InR z C) (h : ∀ (h0 : 0 < k) (h1 : k - 1 < C.length), (C[k - 1]).2 ≤ z) (hk : k ≤ C.length) : ∃ h : k < C.length, (C[k]).1 ≤ z := by
  obtain ⟨y, hy, h1, h2⟩ := hz
  obtain ⟨j, hj, rfl⟩ := List.getElem_of_mem hy
  have hp := List.pairwise_iff_getElem.1 hc.sep
  have hjk : k ≤ j := by
    apply Nat.le_of_not_lt
    intro hlt
    have h3 := h (by omega) (by omega)
    rcases Nat.lt_or_ge j (k - 1) with h4 | h4
    · have := hp j (k - 1) hj (by omega) h4
      have := hc.ne C[k - 1] (List.getElem_mem (by omega))
      omega
    · have : j = k - 1 := by omega
      subst this; omega
  refine ⟨by omega, ?_⟩
  rcases Nat.lt_or_ge k j with h4 | h4
  · have := hp k j (by omega) hj h4
    have := hc.ne C[k] (List.getElem_mem (by omega))
    omega
  · have : j = k := by omega
    subst this; exact h1

/-- Where the next search begins: behind the row k - 1. -/
def posF (C : List (Int × Int)) (k : Nat) : Int := if h : 0 < k ∧ k - 1 < C.length then (C[k - 1]).2 else 0

/-- What the search for the least rune has found. -/
structure Least (l : List (Int × Int)) (a least : Int) : Prop where
  from' : least = 1114112 ∨ ∃ x ∈ l, least = max x.1 a ∧ max x.1 a ≤ x.2
  le : ∀ x ∈ l, max x.1 a ≤ x.2 → least ≤ max x.1 a

theorem Least.new {l : List (Int × Int)} {a least m : Int} {x : Int × Int} (h : Least l a least) (e : m = max x.1 a) (h1 : m ≤ x.2) (h2 : m ≤ least) : Least (l ++ [x]) a m where
  from' := .inr ⟨x, by simp, e, by omega⟩
  le := fun y hy hle => by
    rcases List.mem_append.1 hy with h' | h'
    · have := h.le y h' hle; omega
    · rw [List.mem_singleton.1 h']; omega
theorem Least.old {l : List (Int × Int)} {a least : Int} {x : Int × Int} (h : Least l a least) (h1 : max x.1 a ≤ x.2 → least ≤ max x.1 a) : Least (l ++ [x]) a least where
  from' := h.from'.imp id fun ⟨y, hy, e⟩ => ⟨y, List.mem_append_left _ hy, e⟩
  le := fun y hy hle => by
    rcases List.mem_append.1 hy with h' | h'
    · exact h.le y h' hle
    · rw [List.mem_singleton.1 h'] at hle ⊢; exact h1 hle

theorem least_done {l C : List (Int × Int)} (hl : ∀ x ∈ l, RightS x) (hc : Canon C) (hcov : ∀ z, InR z C ↔ InR z (l.map rowOf)) {k : Nat} (hk : k ≤ C.length) {least : Int} (h : Least l (runeF (posF C k)) least) :
    (∀ hk' : k < C.length, least = runeF (C[k]).1 ∧ (C[k]).1 < 1112064) ∧ (k = C.length → least = 1114112) := by
  have hpos : 0 ≤ posF C k := by
    unfold posF; split
    · rename_i hh
      have h1 : InR (C[k - 1]).1 C := ⟨_, List.getElem_mem hh.2, Int.le_refl _, hc.ne _ (List.getElem_mem hh.2)⟩
      obtain ⟨r, hr, h2⟩ := (hcov _).1 h1
      obtain ⟨x, hx, rfl⟩ := List.mem_map.1 hr
      have := right_row (hl x hx)
      have := hc.ne _ (List.getElem_mem hh.2)
      omega
    · omega
  -- each candidate is a number of a row, behind the place
  have cand : ∀ x ∈ l, max x.1 (runeF (posF C k)) ≤ x.2 → ∃ h : k < C.length, (C[k]).1 ≤ max (rowOf x).1 (posF C k) ∧ max x.1 (runeF (posF C k)) = runeF (max (rowOf x).1 (posF C k)) := by
    intro x hx hle
    obtain ⟨e1, e2, b1, b2, b3⟩ := right_row (hl x hx)
    have m1 := runeF_or (rowOf x).1
    have m2 := runeF_or ((rowOf x).2 - 1)
    have m3 := runeF_or (posF C k)
    have m4 := runeF_or (max (rowOf x).1 (posF C k))
    have hlt : max (rowOf x).1 (posF C k) < (rowOf x).2 := by omega
    have hz : InR (max (rowOf x).1 (posF C k)) C := (hcov _).2 ⟨rowOf x, List.mem_map.2 ⟨x, hx, rfl⟩, by omega, hlt⟩
    obtain ⟨h1, h2⟩ := canon_from hc hz (fun h0 h1 => by
      have : posF C k = (C[k - 1]).2 := by unfold posF; rw [dif_pos ⟨h0, h1⟩]
      omega) hk
    exact ⟨h1, h2, by omega⟩
  refine ⟨fun hk' => ?_, fun hk' => ?_⟩
  · have h1 : InR (C[k]).1 C := ⟨_, List.getElem_mem hk', Int.le_refl _, hc.ne _ (List.getElem_mem hk')⟩
    obtain ⟨r, hr, h2, h3⟩ := (hcov _).1 h1
    obtain ⟨x, hx, rfl⟩ := List.mem_map.1 hr
    obtain ⟨e1, e2, b1, b2, b3⟩ := right_row (hl x hx)
    have hp : posF C k ≤ (C[k]).1 := by
      unfold posF; split
      · rename_i hh
        have := List.pairwise_iff_getElem.1 hc.sep (k - 1) k hh.2 hk' (by omega)
        omega
      · omega
    have m1 := runeF_or (rowOf x).1
    have m2 := runeF_or ((rowOf x).2 - 1)
    have m3 := runeF_or (posF C k)
    have m5 := runeF_or (C[k]).1
    have hle : max x.1 (runeF (posF C k)) ≤ x.2 := by omega
    have hup := h.le x hx hle
    refine ⟨?_, by omega⟩
    obtain ⟨_, c1, c2⟩ := cand x hx hle
    have hmx : max (rowOf x).1 (posF C k) = (C[k]).1 := by omega
    rw [c2, hmx] at hup
    rcases h.from' with h4 | ⟨y, hy, h4, h5⟩
    · omega
    · obtain ⟨_, d1, d2⟩ := cand y hy h5
      have m6 := runeF_or (max (rowOf y).1 (posF C k))
      omega
  · rcases h.from' with h4 | ⟨y, hy, h4, h5⟩
    · exact h4
    · obtain ⟨d0, _⟩ := cand y hy h5
      omega

/-- One step further: a span that touches what is come to, and goes beyond. -/
theorem end_step {l C : List (Int × Int)} (hl : ∀ x ∈ l, RightS x) (hc : Canon C) (hcov : ∀ z, InR z C ↔ InR z (l.map rowOf)) {k : Nat} (hk : k < C.length) {q : Int} (h1 : (C[k]).1 < q) (h2 : q ≤ (C[k]).2) {x : Int × Int} (hx : x ∈ l)
    (h3 : x.1 ≤ runeF q) (h4 : runeF (q - 1) < x.2) : x.2 = runeF ((rowOf x).2 - 1) ∧ q < (rowOf x).2 ∧ (rowOf x).2 ≤ (C[k]).2 := by
  obtain ⟨e1, e2, b1, b2, b3⟩ := right_row (hl x hx)
  have m1 := runeF_or (rowOf x).1
  have m2 := runeF_or ((rowOf x).2 - 1)
  have m3 := runeF_or q
  have m4 := runeF_or (q - 1)
  refine ⟨e2, by omega, ?_⟩
  apply Int.le_of_not_gt
  intro hgt
  exact canon_gap hc hk ((hcov _).2 ⟨rowOf x, List.mem_map.2 ⟨x, hx, rfl⟩, by omega, hgt⟩)
theorem end_done {l C : List (Int × Int)} (hl : ∀ x ∈ l, RightS x) (hc : Canon C) (hcov : ∀ z, InR z C ↔ InR z (l.map rowOf)) {k : Nat} (hk : k < C.length) {q : Int} (h1 : (C[k]).1 < q) (h2 : q ≤ (C[k]).2)
    (h : ∀ x ∈ l, ¬ (x.1 ≤ runeF q ∧ runeF (q - 1) < x.2)) : q = (C[k]).2 := by
  apply Int.le_antisymm h2
  apply Int.le_of_not_gt
  intro hgt
  obtain ⟨r, hr, h3, h4⟩ := (hcov q).1 ⟨_, List.getElem_mem hk, by omega, hgt⟩
  obtain ⟨x, hx, rfl⟩ := List.mem_map.1 hr
  obtain ⟨e1, e2, b1, b2, b3⟩ := right_row (hl x hx)
  have m1 := runeF_or (rowOf x).1
  have m2 := runeF_or ((rowOf x).2 - 1)
  have m3 := runeF_or q
  have m4 := runeF_or (q - 1)
  exact h x hx ⟨by omega, by omega⟩

end Go.Proofs.Ytanpdopjgepbkaa.AM
