/- Plain laws of sets for SetsLaws: sizes, fewest spans again. -/
import Derived.Test.YtanpdopjgepbkaaAlgB
import Derived.Test.YtanpdopjgepbkaaTwoB
import Derived.Test.YtanpdopjgepbkaaRanksB
import Derived.Test.YtanpdopjgepbkaaAmF
set_option linter.unusedVariables false
set_option linter.unusedSimpArgs false
namespace Go.Proofs.Ytanpdopjgepbkaa.AM
open Go

theorem goods_set (l : List (Int × Int)) : SetC (canonF (goods l)) := ⟨canonF_canon _, canonF_bound (goods_right l)⟩
theorem goods_len (l : List (Int × Int)) : (canonF (goods l)).length ≤ l.length := Nat.le_trans (canonF_length _) (goods_length l)
theorem same_of {h : AH} {b : Nat} {v : Value} {l m : List (Int × Int)} (hs : SetR h b l) (hv : SetN h v m) (hn : l.length < 1000000000) (e : l = m) : callO PS 55 [.pointer (some ⟨b, 0, none⟩), v] h = some (.bool true, h) := by
  rw [sameSet_eq hs hv hn, decide_eq_true e]
theorem SetC.bnd01 {C : List (Int × Int)} (h : SetC C) (z : Int) : InR z C → 0 ≤ z ∧ z < 1112064 := fun hz => h.within hz
theorem spans32 {C : List (Int × Int)} (h : SetC C) : Span32 (C.map spanOf) := fun x hx => by
  obtain ⟨y, hy, rfl⟩ := List.mem_map.1 hx
  have := spanOf_bound (h.bnd y hy)
  omega
theorem wrong_zero {x : Int × Int} (h : RightS x) : wrongF x = 0 := by
  unfold wrongF
  rw [if_neg (fun hc => hc.elim (fun g => g h.1) (fun g => g h.2.1)), if_neg (by have := h.2.2; omega)]
theorem spans_rights {C : List (Int × Int)} (h : SetC C) : ∀ x ∈ C.map spanOf, RightS x := fun x hx => by
  obtain ⟨y, hy, rfl⟩ := List.mem_map.1 hx
  exact right_spanOf (h.bnd y hy)
theorem spans_ofAt {C : List (Int × Int)} (h : SetC C) : ofAt (C.map spanOf) 0 0 = 0 := by
  have h0 : ∀ x ∈ C.map spanOf, wrongF x = 0 := fun x hx => wrong_zero (spans_rights h x hx)
  rw [ofAt_why _ _ 0 0 rfl (fun x hx => by rw [h0 x (by simpa using hx)]; decide), if_pos rfl, if_neg]
  rintro ⟨x, hx, e⟩
  rw [h0 x (by simpa using hx)] at e
  cases e
theorem made_self {C : List (Int × Int)} (h : SetC C) : madeF C = C := Canon.ext (madeF_canon _) h.can fun z => madeF_in C z
theorem right_zero {l : List (Int × Int)} (h1 : ∀ x ∈ l, RightS x) (h2 : ∀ i (h : i + 1 < l.length), (l[i]).2 < (l[i + 1]).1) : ∀ k i, l.length - i = k → rightAt l i = (0, 0)
  | k, i, hk => by
    unfold rightAt
    split
    · rename_i hi
      have hw := wrong_zero (h1 l[i] (List.getElem_mem hi))
      rw [if_neg (by rw [hw]; simp)]
      have ih := right_zero h1 h2 (k - 1) (i + 1) (by omega)
      split
      · rename_i h0
        obtain ⟨j, rfl⟩ : ∃ j, i = j + 1 := ⟨i - 1, by omega⟩
        have := h2 j hi
        simp only [Nat.add_sub_cancel]
        rw [if_neg (by omega)]
        exact ih
      · exact ih
    · rfl
  termination_by k => k
  decreasing_by omega
theorem spans_right {C : List (Int × Int)} (h : SetC C) : rightAt (C.map spanOf) 0 = (0, 0) := by
  refine right_zero (spans_rights h) (fun i hi => ?_) _ 0 rfl
  simp only [List.length_map] at hi
  simp only [List.getElem_map, spanOf]
  have h1 := List.pairwise_iff_getElem.1 h.can.sep i (i + 1) (by omega) hi (by omega)
  have h2 := h.bnd _ (List.getElem_mem hi)
  have h3 := runeF_or ((C[i]).2 - 1)
  have h4 := runeF_or (C[i + 1]).1
  omega

/-! ### Sizes -/

noncomputable def cnt (P : Int → Prop) : Nat → Int
  | 0 => 0
  | n + 1 => cnt P n + (open Classical in if P n then 1 else 0)
theorem cnt_congr {P Q : Int → Prop} : ∀ {n : Nat}, (∀ z : Int, 0 ≤ z → z < n → (P z ↔ Q z)) → cnt P n = cnt Q n
  | 0, _ => rfl
  | n + 1, h => by
    rw [cnt, cnt, cnt_congr (n := n) fun z h0 h1 => h z h0 (by omega)]
    have := h n (by omega) (by omega)
    by_cases hp : P n
    · rw [if_pos hp, if_pos (this.1 hp)]
    · rw [if_neg hp, if_neg (fun g => hp (this.2 g))]
theorem cnt_two (P Q : Int → Prop) : ∀ n : Nat, cnt (fun z => P z ∨ Q z) n + cnt (fun z => P z ∧ Q z) n = cnt P n + cnt Q n
  | 0 => rfl
  | n + 1 => by
    have ih := cnt_two P Q n
    simp only [cnt]
    by_cases hp : P n <;> by_cases hq : Q n <;> simp only [hp, hq, or_true, true_or, or_self, and_self, and_true, true_and, and_false, false_and, if_true, if_false] <;> omega
theorem cnt_not (P : Int → Prop) : ∀ n : Nat, cnt (fun z => ¬ P z) n = n - cnt P n
  | 0 => rfl
  | n + 1 => by
    have ih := cnt_not P n
    simp only [cnt]
    by_cases hp : P n <;> simp only [hp, not_true, not_false_iff, if_true, if_false] <;> omega
theorem cnt_iv {a b : Int} (h0 : 0 ≤ a) (h1 : a ≤ b) : ∀ n : Nat, cnt (fun z => a ≤ z ∧ z < b) n = min b n - min a n
  | 0 => by simp only [cnt]; omega
  | n + 1 => by
    have ih := cnt_iv h0 h1 n
    simp only [cnt]
    by_cases hp : a ≤ (n : Int) ∧ (n : Int) < b
    · rw [if_pos hp]; omega
    · rw [if_neg hp]; omega
theorem cnt_none {P : Int → Prop} : ∀ {n : Nat}, (∀ z : Int, 0 ≤ z → z < n → ¬ P z) → cnt P n = 0
  | 0, _ => rfl
  | n + 1, h => by rw [cnt, cnt_none (n := n) fun z h0 h1 => h z h0 (by omega), if_neg (h n (by omega) (by omega))]; rfl
theorem size_cnt : ∀ {C : List (Int × Int)}, SetC C → sizeR C = cnt (fun z => InR z C) 1112064
  | [], _ => by rw [cnt_none (fun z _ _ => InR.nil)]; rfl
  | x :: C, h => by
    have hC : SetC C := ⟨h.can.tail, fun y hy => h.bnd y (List.mem_cons_of_mem _ hy)⟩
    have hx := h.bnd x (by simp)
    have ih := size_cnt hC
    have e := cnt_two (fun z => x.1 ≤ z ∧ z < x.2) (fun z => InR z C) 1112064
    rw [cnt_iv hx.1 (by omega), cnt_none (P := fun z => (x.1 ≤ z ∧ z < x.2) ∧ InR z C) (fun z _ _ hz => by have := h.can.head_lt hz.2; omega)] at e
    rw [sizeR, ih, cnt_congr (P := fun z => InR z (x :: C)) (fun z _ _ => InR.cons)]
    omega
theorem size_two {A B : List (Int × Int)} (hA : SetC A) (hB : SetC B) : sizeR (unionF A B) + sizeR (meetF A B) = sizeR A + sizeR B := by
  rw [size_cnt (hA.union hB), size_cnt (hA.meet hB), size_cnt hA, size_cnt hB, ← cnt_two (fun z => InR z A), cnt_congr (P := fun z => InR z (unionF A B)) fun z _ _ => union_in (l := A) (m := B) z, cnt_congr (P := fun z => InR z (meetF A B)) fun z _ _ => meet_in hA hB z]
theorem size_not {A : List (Int × Int)} (hA : SetC A) : sizeR (notF A) = 1112064 - sizeR A := by
  rw [size_cnt hA.not, size_cnt hA, cnt_congr (Q := fun z => ¬ InR z A) fun z h0 h1 => by rw [not_in hA]; exact ⟨fun h => h.2.2, fun h => ⟨h0, by omega, h⟩⟩, cnt_not]
  rfl
theorem empty_size {A : List (Int × Int)} (hA : SetC A) : decide (A = []) = decide (sizeR A = 0) := by
  apply decide_eq_decide.2
  constructor
  · rintro rfl; rfl
  · intro h
    cases A with
    | nil => rfl
    | cons x l =>
      have h1 := hA.bnd x (by simp)
      have h2 := sizeR_bound (l := l) fun y hy => by have := hA.bnd y (List.mem_cons_of_mem _ hy); omega
      rw [sizeR] at h
      omega

end Go.Proofs.Ytanpdopjgepbkaa.AM
