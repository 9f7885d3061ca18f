/- Rows that are made of rows: apart, rising, of the same numbers. Plain mathematics. -/
import Derived.Test.YtanpdopjgepbkaaOfB
set_option linter.unusedVariables false
set_option linter.unusedSimpArgs false
namespace Go.Proofs.Ytanpdopjgepbkaa.AM

/-- A number is in one of the rows. -/
def InR (z : Int) (l : List (Int × Int)) : Prop := ∃ x ∈ l, x.1 ≤ z ∧ z < x.2
/-- Rows that are not empty, rising, apart and not touching. -/
structure Canon (l : List (Int × Int)) : Prop where
  ne : ∀ x ∈ l, x.1 < x.2
  sep : l.Pairwise fun x y => x.2 < y.1

theorem InR.append {z : Int} {l m : List (Int × Int)} : InR z (l ++ m) ↔ InR z l ∨ InR z m := by
  constructor
  · rintro ⟨x, hx, h⟩
    rcases List.mem_append.1 hx with h' | h'
    · exact .inl ⟨x, h', h⟩
    · exact .inr ⟨x, h', h⟩
  · rintro (⟨x, hx, h⟩ | ⟨x, hx, h⟩)
    · exact ⟨x, List.mem_append_left _ hx, h⟩
    · exact ⟨x, List.mem_append_right _ hx, h⟩
theorem InR.one {z : Int} {x : Int × Int} : InR z [x] ↔ x.1 ≤ z ∧ z < x.2 :=
  ⟨fun ⟨y, hy, h⟩ => by rw [List.mem_singleton.1 hy] at h; exact h, fun h => ⟨x, by simp, h⟩⟩
theorem InR.nil {z : Int} : ¬ InR z [] := fun ⟨x, hx, _⟩ => by cases hx
theorem InR.cons {z : Int} {x : Int × Int} {l : List (Int × Int)} : InR z (x :: l) ↔ (x.1 ≤ z ∧ z < x.2) ∨ InR z l := by
  rw [← List.singleton_append, InR.append, InR.one]

theorem addRow_nil (x : Int × Int) : addRow [] x = if x.2 ≤ x.1 then [] else [x] := by
  unfold addRow; split
  · rfl
  · simp
theorem addRow_concat (l : List (Int × Int)) (a x : Int × Int) : addRow (l ++ [a]) x = if x.2 ≤ x.1 then l ++ [a] else if x.1 ≤ a.2 then l ++ [(a.1, max a.2 x.2)] else l ++ [a] ++ [x] := by
  unfold addRow
  by_cases h : x.2 ≤ x.1
  · rw [if_pos h, if_pos h]
  · rw [if_neg h, if_neg h]
    simp

theorem canon_concat {l : List (Int × Int)} {a : Int × Int} : Canon (l ++ [a]) ↔ Canon l ∧ a.1 < a.2 ∧ ∀ x ∈ l, x.2 < a.1 := by
  constructor
  · rintro ⟨h1, h2⟩
    rw [List.pairwise_append] at h2
    exact ⟨⟨fun x hx => h1 x (List.mem_append_left _ hx), h2.1⟩, h1 a (by simp), fun x hx => h2.2.2 x hx a (by simp)⟩
  · rintro ⟨⟨h1, h2⟩, h3, h4⟩
    refine ⟨fun x hx => ?_, List.pairwise_append.2 ⟨h2, by simp, fun x hx y hy => ?_⟩⟩
    · rcases List.mem_append.1 hx with h | h
      · exact h1 x h
      · rw [List.mem_singleton.1 h]; exact h3
    · rw [List.mem_singleton.1 hy]; exact h4 x hx

theorem addRow_spec {acc : List (Int × Int)} {x : Int × Int} (hc : Canon acc) (hle : ∀ a ∈ acc, a.1 ≤ x.1) :
    Canon (addRow acc x) ∧ (∀ z, InR z (addRow acc x) ↔ InR z acc ∨ (x.1 ≤ z ∧ z < x.2)) ∧ ∀ y : Int, x.1 ≤ y → ∀ a ∈ addRow acc x, a.1 ≤ y := by
  rcases List.eq_nil_or_concat acc with rfl | ⟨l, a, rfl⟩
  · rw [addRow_nil]
    split
    · refine ⟨hc, fun z => ?_, fun y _ a ha => by cases ha⟩
      constructor
      · exact .inl
      · rintro (h | h)
        · exact h
        · omega
    · refine ⟨⟨by simp; omega, by simp⟩, fun z => by rw [InR.one]; simp [InR.nil], fun y hy a ha => by rw [List.mem_singleton.1 ha]; exact hy⟩
  · rw [List.concat_eq_append] at *
    rw [addRow_concat]
    obtain ⟨c1, c2, c3⟩ := canon_concat.1 hc
    have ha := hle a (by simp)
    split
    · refine ⟨hc, fun z => ⟨.inl, ?_⟩, fun y hy b hb => Int.le_trans (hle b hb) hy⟩
      rintro (h | h)
      · exact h
      · omega
    · split
      · refine ⟨canon_concat.2 ⟨c1, by simp only; omega, c3⟩, fun z => ?_, fun y hy b hb => ?_⟩
        · rw [InR.append, InR.append, InR.one, InR.one]
          simp only
          constructor
          · rintro (h | h)
            · exact .inl (.inl h)
            · by_cases h' : z < a.2
              · exact .inl (.inr ⟨h.1, h'⟩)
              · exact .inr (by omega)
          · rintro ((h | h) | h)
            · exact .inl h
            · exact .inr (by omega)
            · exact .inr (by omega)
        · rcases List.mem_append.1 hb with h | h
          · exact Int.le_trans (hle b (List.mem_append_left _ h)) hy
          · rw [List.mem_singleton.1 h]; simp only; omega
      · refine ⟨canon_concat.2 ⟨hc, by omega, fun b hb => ?_⟩, fun z => by rw [InR.append, InR.one], fun y hy b hb => ?_⟩
        · rcases List.mem_append.1 hb with h | h
          · have := c3 b h; omega
          · rw [List.mem_singleton.1 h]; omega
        · rcases List.mem_append.1 hb with h | h
          · exact Int.le_trans (hle b h) hy
          · rw [List.mem_singleton.1 h]; exact hy

theorem foldl_spec : ∀ (L acc : List (Int × Int)), Canon acc → (L.Pairwise fun x y => x.1 ≤ y.1) → (∀ a ∈ acc, ∀ y ∈ L, a.1 ≤ y.1) →
    Canon (L.foldl addRow acc) ∧ ∀ z, InR z (L.foldl addRow acc) ↔ InR z acc ∨ InR z L
  | [], acc, hc, _, _ => ⟨hc, fun z => by simp [InR.nil]⟩
  | x :: L, acc, hc, hp, hle => by
    obtain ⟨p1, p2⟩ := List.pairwise_cons.1 hp
    obtain ⟨a1, a2, a3⟩ := addRow_spec (x := x) hc fun a ha => hle a ha x (by simp)
    obtain ⟨b1, b2⟩ := foldl_spec L (addRow acc x) a1 p2 fun a ha y hy => a3 y.1 (p1 y hy) a ha
    refine ⟨b1, fun z => ?_⟩
    simp only [List.foldl_cons]
    rw [b2, a2, InR.cons, or_assoc]

theorem sortF_sorted (l : List (Int × Int)) : (sortF l).Pairwise fun x y => x.1 ≤ y.1 := by
  have h := List.pairwise_mergeSort (le := leRow) (fun a b c h1 h2 => by simp only [leRow, decide_eq_true_eq] at *; omega)
    (fun a b => by simp only [leRow, Bool.or_eq_true, decide_eq_true_eq]; omega) l
  exact h.imp fun h => by simp only [leRow, decide_eq_true_eq] at h; omega
theorem sortF_mem (l : List (Int × Int)) (x : Int × Int) : x ∈ sortF l ↔ x ∈ l := List.mem_mergeSort

theorem madeF_canon (l : List (Int × Int)) : Canon (madeF l) := (foldl_spec (sortF l) [] ⟨by simp, by simp⟩ (sortF_sorted l) (by simp)).1
theorem madeF_in (l : List (Int × Int)) (z : Int) : InR z (madeF l) ↔ InR z l := by
  have := (foldl_spec (sortF l) [] ⟨by simp, by simp⟩ (sortF_sorted l) (by simp)).2 z
  unfold madeF
  rw [this]
  simp only [InR.nil, false_or]
  exact ⟨fun ⟨x, hx, h⟩ => ⟨x, (sortF_mem l x).1 hx, h⟩, fun ⟨x, hx, h⟩ => ⟨x, (sortF_mem l x).2 hx, h⟩⟩
theorem madeF_length (l : List (Int × Int)) : (madeF l).length ≤ l.length := by
  have := foldl_length (sortF l) []
  have h2 := sortF_length l
  unfold madeF
  simp at this
  omega

/-- All rows lie within. -/
def Within (lo hi : Int) (l : List (Int × Int)) : Prop := ∀ x ∈ l, lo ≤ x.1 ∧ x.2 ≤ hi

theorem Canon.within {l : List (Int × Int)} (hc : Canon l) {lo hi : Int} (h : ∀ z, InR z l → lo ≤ z ∧ z < hi) : Within lo hi l := fun x hx => by
  have h1 := h x.1 ⟨x, hx, Int.le_refl _, hc.ne x hx⟩
  have h2 := h (x.2 - 1) ⟨x, hx, by have := hc.ne x hx; omega, by omega⟩
  omega
theorem madeF_within {l : List (Int × Int)} {lo hi : Int} (h : Within lo hi l) : Within lo hi (madeF l) :=
  (madeF_canon l).within fun z hz => by
    obtain ⟨x, hx, h1⟩ := (madeF_in l z).1 hz
    have := h x hx
    omega

theorem Canon.tail {x : Int × Int} {l : List (Int × Int)} (h : Canon (x :: l)) : Canon l := ⟨fun y hy => h.ne y (List.mem_cons_of_mem _ hy), (List.pairwise_cons.1 h.sep).2⟩
theorem Canon.head_lt {x : Int × Int} {l : List (Int × Int)} (h : Canon (x :: l)) {z : Int} (hz : InR z l) : x.2 < z := by
  obtain ⟨y, hy, h1⟩ := hz
  have := (List.pairwise_cons.1 h.sep).1 y hy
  omega

/-- Rows apart are one list just if they have the same numbers. -/
theorem Canon.ext : ∀ {l m : List (Int × Int)}, Canon l → Canon m → (∀ z, InR z l ↔ InR z m) → l = m
  | [], [], _, _, _ => rfl
  | [], y :: m, _, hm, h => absurd ((h y.1).2 (InR.cons.2 (.inl ⟨Int.le_refl _, hm.ne y (by simp)⟩))) InR.nil
  | x :: l, [], hl, _, h => absurd ((h x.1).1 (InR.cons.2 (.inl ⟨Int.le_refl _, hl.ne x (by simp)⟩))) InR.nil
  | x :: l, y :: m, hl, hm, h => by
    have hx := hl.ne x (by simp)
    have hy := hm.ne y (by simp)
    -- the beginnings
    have e1 : x.1 = y.1 := by
      have a := (h x.1).1 (InR.cons.2 (.inl ⟨Int.le_refl _, hx⟩))
      have b := (h y.1).2 (InR.cons.2 (.inl ⟨Int.le_refl _, hy⟩))
      rcases InR.cons.1 a with a | a <;> rcases InR.cons.1 b with b | b
      · omega
      · have := hl.head_lt b; omega
      · have := hm.head_lt a; omega
      · have := hl.head_lt b; have := hm.head_lt a; omega
    have e2 : x.2 = y.2 := by
      rcases Int.lt_trichotomy x.2 y.2 with hlt | he | hgt
      · exfalso
        have a := (h x.2).2 (InR.cons.2 (.inl ⟨by omega, hlt⟩))
        rcases InR.cons.1 a with a | a
        · omega
        · have := hl.head_lt a; omega
      · exact he
      · exfalso
        have a := (h y.2).1 (InR.cons.2 (.inl ⟨by omega, hgt⟩))
        rcases InR.cons.1 a with a | a
        · omega
        · have := hm.head_lt a; omega
    have exy : x = y := Prod.ext e1 e2
    subst exy
    congr 1
    refine Canon.ext hl.tail hm.tail fun z => ⟨fun hz => ?_, fun hz => ?_⟩
    · rcases InR.cons.1 ((h z).1 (InR.cons.2 (.inr hz))) with a | a
      · have := hl.head_lt hz; omega
      · exact a
    · rcases InR.cons.1 ((h z).2 (InR.cons.2 (.inr hz))) with a | a
      · have := hm.head_lt hz; omega
      · exact a

end Go.Proofs.Ytanpdopjgepbkaa.AM
