/- What is made of two lists of rows: what they have in common, what lies between. Plain mathematics. -/
import Derived.Test.YtanpdopjgepbkaaFromD
set_option linter.unusedVariables false
set_option linter.unusedSimpArgs false
namespace Go.Proofs.Ytanpdopjgepbkaa.AM

def gapsF : Int → List (Int × Int) → List (Int × Int)
  | a, [] => [(a, 1112064)]
  | a, x :: r => (a, x.1) :: gapsF x.2 r
def lastF : Int → List (Int × Int) → Int
  | a, [] => a
  | _, x :: r => lastF x.2 r
theorem gapsF_length : ∀ (l : List (Int × Int)) (a : Int), (gapsF a l).length = l.length + 1
  | [], _ => rfl
  | x :: r, a => by simp only [gapsF, List.length_cons, gapsF_length r]

/-- Rows that rise; some may be empty. -/
structure Climb (l : List (Int × Int)) : Prop where
  le : ∀ x ∈ l, x.1 ≤ x.2
  sep : l.Pairwise fun x y => x.2 ≤ y.1
theorem Climb.tail {x : Int × Int} {l : List (Int × Int)} (h : Climb (x :: l)) : Climb l := ⟨fun y hy => h.le y (List.mem_cons_of_mem _ hy), (List.pairwise_cons.1 h.sep).2⟩
theorem Climb.head {x : Int × Int} {l : List (Int × Int)} (h : Climb (x :: l)) {z : Int} (hz : InR z l) : x.2 ≤ z := by
  obtain ⟨y, hy, h1⟩ := hz
  have := (List.pairwise_cons.1 h.sep).1 y hy
  omega
theorem Canon.climb {l : List (Int × Int)} (h : Canon l) : Climb l := ⟨fun x hx => by have := h.ne x hx; omega, h.sep.imp fun h => by omega⟩

/-- Rows that are right for a set. -/
structure SetC (C : List (Int × Int)) : Prop where
  can : Canon C
  bnd : ∀ x ∈ C, 0 ≤ x.1 ∧ x.1 < x.2 ∧ x.2 ≤ 1112064
theorem SetC.within {C : List (Int × Int)} (h : SetC C) {z : Int} (hz : InR z C) : 0 ≤ z ∧ z < 1112064 := by
  obtain ⟨x, hx, h1⟩ := hz
  have := h.bnd x hx
  omega
theorem SetC.le {C : List (Int × Int)} (h : SetC C) : ∀ x ∈ C, 0 ≤ x.1 ∧ x.1 ≤ x.2 ∧ x.2 ≤ 1112064 := fun x hx => by have := h.bnd x hx; omega
theorem SetC.made {l : List (Int × Int)} (h : ∀ z, InR z l → 0 ≤ z ∧ z < 1112064) : SetC (madeF l) where
  can := madeF_canon l
  bnd := fun x hx => by
    have h1 := (madeF_canon l).within (lo := 0) (hi := 1112064) (fun z hz => h z ((madeF_in l z).1 hz)) x hx
    have := (madeF_canon l).ne x hx
    omega

theorem gapsF_in : ∀ (l : List (Int × Int)) (a : Int), 0 ≤ a → a ≤ 1112064 → Canon l → (∀ x ∈ l, a ≤ x.1 ∧ x.2 ≤ 1112064) → ∀ z, InR z (gapsF a l) ↔ a ≤ z ∧ z < 1112064 ∧ ¬ InR z l
  | [], a, h0, h1, _, _, z => by
    simp only [gapsF, InR.one, InR.nil, not_false_eq_true, and_true]
  | x :: r, a, h0, h1, hc, hb, z => by
    have hx := hb x (by simp)
    have hne := hc.ne x (by simp)
    have hs := (List.pairwise_cons.1 hc.sep).1
    have ih := gapsF_in r x.2 (by omega) (by omega) hc.tail (fun y hy => by have := hs y hy; have := hb y (List.mem_cons_of_mem _ hy); omega) z
    simp only [gapsF]
    rw [InR.cons, InR.cons, ih]
    simp only
    constructor
    · rintro (h | ⟨h2, h3, h4⟩)
      · refine ⟨h.1, by omega, ?_⟩
        rintro (h5 | h5)
        · omega
        · have := hc.head_lt h5; omega
      · refine ⟨by omega, h3, ?_⟩
        rintro (h5 | h5)
        · omega
        · exact h4 h5
    · rintro ⟨h2, h3, h4⟩
      by_cases h5 : z < x.1
      · exact .inl ⟨h2, h5⟩
      · refine .inr ⟨?_, h3, fun h6 => h4 (.inr h6)⟩
        by_cases h6 : z < x.2
        · exact absurd (.inl ⟨by omega, h6⟩) h4
        · omega
theorem gapsF_climb : ∀ (l : List (Int × Int)) (a : Int), a ≤ 1112064 → Canon l → (∀ x ∈ l, a ≤ x.1 ∧ x.2 ≤ 1112064) → Climb (gapsF a l) ∧ ∀ y ∈ gapsF a l, a ≤ y.1
  | [], a, h1, _, _ => ⟨⟨by simp only [gapsF, List.mem_singleton]; rintro x rfl; exact h1, by simp [gapsF]⟩, by simp only [gapsF, List.mem_singleton]; rintro x rfl; exact Int.le_refl _⟩
  | x :: r, a, h1, hc, hb => by
    have hx := hb x (by simp)
    have hne := hc.ne x (by simp)
    have hs := (List.pairwise_cons.1 hc.sep).1
    obtain ⟨a1, a2⟩ := gapsF_climb r x.2 (by omega) hc.tail (fun y hy => by have := hs y hy; have := hb y (List.mem_cons_of_mem _ hy); omega)
    refine ⟨⟨fun y hy => ?_, List.pairwise_cons.2 ⟨fun y hy => ?_, a1.sep⟩⟩, fun y hy => ?_⟩
    · rcases List.mem_cons.1 hy with rfl | h
      · exact hx.1
      · exact a1.le y h
    · have := a2 y hy; simp only; omega
    · rcases List.mem_cons.1 hy with rfl | h
      · exact Int.le_refl _
      · have := a2 y h; omega

def bothF : List (Int × Int) → List (Int × Int) → List (Int × Int)
  | x :: l, y :: m => (max x.1 y.1, min x.2 y.2) :: (if x.2 < y.2 then bothF l (y :: m) else bothF (x :: l) m)
  | _, _ => []
termination_by l m => l.length + m.length
theorem bothF_nil (m : List (Int × Int)) : bothF [] m = [] := by unfold bothF; rfl
theorem bothF_nil' (l : List (Int × Int)) : bothF l [] = [] := by cases l <;> (unfold bothF; rfl)
theorem bothF_cons (x y : Int × Int) (l m : List (Int × Int)) : bothF (x :: l) (y :: m) = (max x.1 y.1, min x.2 y.2) :: (if x.2 < y.2 then bothF l (y :: m) else bothF (x :: l) m) := by
  rw [bothF]
theorem bothF_length : ∀ (k : Nat) (l m : List (Int × Int)), l.length + m.length ≤ k → (bothF l m).length ≤ l.length + m.length
  | _, [], m, _ => by rw [bothF_nil]; simp
  | _, x :: l, [], _ => by rw [bothF_nil']; simp
  | 0, x :: l, y :: m, h => by simp at h
  | k + 1, x :: l, y :: m, h => by
    rw [bothF_cons]
    simp only [List.length_cons] at h ⊢
    split
    · have := bothF_length k l (y :: m) (by simp; omega); simp only [List.length_cons] at this; omega
    · have := bothF_length k (x :: l) m (by simp; omega); simp only [List.length_cons] at this; omega
theorem bothF_in : ∀ (k : Nat) (l m : List (Int × Int)), l.length + m.length ≤ k → Climb l → Climb m → ∀ z, InR z (bothF l m) ↔ InR z l ∧ InR z m
  | _, [], m, _, _, _, z => by rw [bothF_nil]; simp [InR.nil]
  | _, x :: l, [], _, _, _, z => by rw [bothF_nil']; simp [InR.nil]
  | 0, x :: l, y :: m, h, _, _, z => by simp at h
  | k + 1, x :: l, y :: m, h, hl, hm, z => by
    rw [bothF_cons]
    simp only [List.length_cons] at h
    rw [InR.cons]
    simp only
    by_cases hlt : x.2 < y.2
    · rw [if_pos hlt, bothF_in k l (y :: m) (by simp; omega) hl.tail hm z]
      constructor
      · rintro (h1 | ⟨h1, h2⟩)
        · exact ⟨InR.cons.2 (.inl (by omega)), InR.cons.2 (.inl (by omega))⟩
        · exact ⟨InR.cons.2 (.inr h1), h2⟩
      · rintro ⟨h1, h2⟩
        rcases InR.cons.1 h1 with h3 | h3
        · rcases InR.cons.1 h2 with h4 | h4
          · exact .inl (by omega)
          · have := hm.head h4; omega
        · exact .inr ⟨h3, h2⟩
    · rw [if_neg hlt, bothF_in k (x :: l) m (by simp; omega) hl hm.tail z]
      constructor
      · rintro (h1 | ⟨h1, h2⟩)
        · exact ⟨InR.cons.2 (.inl (by omega)), InR.cons.2 (.inl (by omega))⟩
        · exact ⟨h1, InR.cons.2 (.inr h2)⟩
      · rintro ⟨h1, h2⟩
        rcases InR.cons.1 h2 with h4 | h4
        · rcases InR.cons.1 h1 with h3 | h3
          · exact .inl (by omega)
          · have := hl.head h3; omega
        · exact .inr ⟨h1, h4⟩

/-! ### Sets made of sets -/

def unionF (l m : List (Int × Int)) : List (Int × Int) := madeF (l ++ m)
def meetF (l m : List (Int × Int)) : List (Int × Int) := madeF (bothF l m)
def notF (l : List (Int × Int)) : List (Int × Int) := madeF (gapsF 0 l)
def minusF (l m : List (Int × Int)) : List (Int × Int) := madeF (bothF l (gapsF 0 m))

variable {l m : List (Int × Int)}
theorem SetC.gaps (h : SetC l) (z : Int) : InR z (gapsF 0 l) ↔ 0 ≤ z ∧ z < 1112064 ∧ ¬ InR z l := gapsF_in l 0 (by omega) (by omega) h.can (fun x hx => by have := h.bnd x hx; omega) z
theorem SetC.gapsR (h : SetC l) : Climb (gapsF 0 l) := (gapsF_climb l 0 (by omega) h.can (fun x hx => by have := h.bnd x hx; omega)).1
theorem union_in (z : Int) : InR z (unionF l m) ↔ InR z l ∨ InR z m := by unfold unionF; rw [madeF_in, InR.append]
theorem meet_in (hl : SetC l) (hm : SetC m) (z : Int) : InR z (meetF l m) ↔ InR z l ∧ InR z m := by unfold meetF; rw [madeF_in, bothF_in _ l m (Nat.le_refl _) hl.can.climb hm.can.climb]
theorem not_in (hl : SetC l) (z : Int) : InR z (notF l) ↔ 0 ≤ z ∧ z < 1112064 ∧ ¬ InR z l := by unfold notF; rw [madeF_in, hl.gaps]
theorem minus_in (hl : SetC l) (hm : SetC m) (z : Int) : InR z (minusF l m) ↔ InR z l ∧ ¬ InR z m := by
  unfold minusF
  rw [madeF_in, bothF_in _ _ _ (Nat.le_refl _) hl.can.climb hm.gapsR, hm.gaps]
  constructor
  · rintro ⟨h1, _, _, h2⟩; exact ⟨h1, h2⟩
  · rintro ⟨h1, h2⟩; have := hl.within h1; exact ⟨h1, this.1, this.2, h2⟩
theorem SetC.union (hl : SetC l) (hm : SetC m) : SetC (unionF l m) := .made fun z hz => by
  rcases InR.append.1 hz with h | h
  · exact hl.within h
  · exact hm.within h
theorem SetC.meet (hl : SetC l) (hm : SetC m) : SetC (meetF l m) := .made fun z hz => hl.within ((bothF_in _ l m (Nat.le_refl _) hl.can.climb hm.can.climb z).1 hz).1
theorem SetC.not (hl : SetC l) : SetC (notF l) := .made fun z hz => by have := (hl.gaps z).1 hz; omega
theorem SetC.minus (hl : SetC l) (hm : SetC m) : SetC (minusF l m) := .made fun z hz => hl.within ((bothF_in _ _ _ (Nat.le_refl _) hl.can.climb hm.gapsR z).1 hz).1
theorem SetC.nil : SetC [] := ⟨⟨by simp, by simp⟩, by simp⟩
theorem unionF_length : (unionF l m).length ≤ l.length + m.length := by have := madeF_length (l ++ m); unfold unionF; simpa using this
theorem meetF_length : (meetF l m).length ≤ l.length + m.length := Nat.le_trans (madeF_length _) (bothF_length _ _ _ (Nat.le_refl _))
theorem notF_length : (notF l).length ≤ l.length + 1 := Nat.le_trans (madeF_length _) (by rw [gapsF_length]; exact Nat.le_refl _)
theorem minusF_length : (minusF l m).length ≤ l.length + m.length + 1 := Nat.le_trans (madeF_length _) (Nat.le_trans (bothF_length _ _ _ (Nat.le_refl _)) (by rw [gapsF_length]; omega))
theorem SetC.ext (hl : SetC l) (hm : SetC m) (h : ∀ z, InR z l ↔ InR z m) : l = m := Canon.ext hl.can hm.can h

end Go.Proofs.Ytanpdopjgepbkaa.AM
