/- Parts of proofs: lemmas, joined. -/
import Derived.Test.YtblmakgjdenpfaaGreatDoorP9401aef5
set_option linter.unusedVariables false
set_option linter.unusedSimpArgs false
set_option linter.unusedSectionVars false
namespace Go.Proofs.YtblmakgjdenpfaaGreatDoor.AM
open Go
def Clu.bare (c : Clu) : Clu := { c with t := ⟨#[]⟩ }
def refL (T : Tab) (s : ByteArray) : Nat → List Clu
  | 0 => []
  | i + 1 => ((cluS T s (i + 1)).1 ++ [(cluS T s (i + 1)).2]).map Clu.bare
theorem refL_new {T : Tab} {s : ByteArray} {i : Nat} (hi : i < (spots s.data.toList).length) (hr : clT T ((spots s.data.toList)[i]).1 = 0) :
    refL T s (i + 1) = refL T s i ++ [⟨posn s.data.toList i, i, ⟨#[]⟩, 1, 0, ((spots s.data.toList)[i]).1, true⟩] := by
  show ((cluS T s (i + 1)).1 ++ [(cluS T s (i + 1)).2]).map Clu.bare = _
  rw [cluS_open hi, if_pos hr]
  cases i with
  | zero =>
    rw [cluS_stay hi (fun q => by have := q.2; simp [cluS, Clu.z] at this)]
    rfl
  | succ i =>
    rw [(cluS_out hi hr (cluS_pos (by omega))).1, List.map_append]
    rfl
theorem refL_mark {T : Tab} {s : ByteArray} {i : Nat} (hi : i < (spots s.data.toList).length) (hr : ¬ clT T ((spots s.data.toList)[i]).1 = 0) (h0 : 0 < i) :
    ∃ A c, refL T s i = A ++ [c] ∧ refL T s (i + 1) = A ++ [⟨c.b, c.n, c.t, c.k + 1, c.m + 1, c.r, c.bd⟩] ∧ c.k ≤ i ∧ c.m ≤ i ∧ A.length ≤ i := by
  cases i with
  | zero => omega
  | succ i =>
    have hle := cluS_le (T := T) (s := s) (i + 1) (by omega)
    refine ⟨(cluS T s (i + 1)).1.map Clu.bare, (cluS T s (i + 1)).2.bare, by simp [refL], ?_, hle.2.1, hle.2.2.1, ?_⟩
    · show ((cluS T s (i + 1 + 1)).1 ++ [(cluS T s (i + 1 + 1)).2]).map Clu.bare = _
      rw [cluS_open hi, if_neg hr, cluS_stay hi (fun q => hr q.1), List.map_append]
      rfl
    · rw [List.length_map]
      have : ∀ j, (cluS T s j).1.length ≤ j := fun j => by
        induction j with
        | zero => simp [cluS]
        | succ j ih =>
          simp only [cluS]
          split
          · rw [List.length_append, List.length_singleton]; omega
          · omega
      exact this _
theorem refL_first {T : Tab} {s : ByteArray} (hi : 0 < (spots s.data.toList).length) (hr : ¬ clT T ((spots s.data.toList)[0]).1 = 0) : refL T s 1 = [⟨0, 0, ⟨#[]⟩, 1, 1, 0, false⟩] := by
  show ((cluS T s 1).1 ++ [(cluS T s 1).2]).map Clu.bare = _
  rw [cluS_open hi, if_neg hr, cluS_stay hi (fun q => hr q.1)]
  rfl
theorem refL_len {T : Tab} {s : ByteArray} : ∀ i, (refL T s i).length ≤ i
  | 0 => by simp [refL]
  | i + 1 => by
    have : ∀ j, (0 < (cluS T s j).2.k → (cluS T s j).1.length + 1 ≤ j) ∧ (cluS T s j).1.length ≤ j := fun j => by
      induction j with
      | zero => simp [cluS, Clu.z]
      | succ j ih =>
        simp only [cluS]
        split
        · rename_i q
          have := ih.1 q.2
          rw [List.length_append, List.length_singleton]
          exact ⟨fun _ => by omega, by omega⟩
        · exact ⟨fun _ => by omega, by omega⟩
    have h := (this (i + 1)).1 (cluS_pos (by omega))
    simp only [refL, List.length_map, List.length_append, List.length_singleton]
    exact h
theorem refL_end {T : Tab} {s : ByteArray} : (refL T s (spots s.data.toList).length) = (clusL T s).map Clu.bare := by
  rcases clusL_end (T := T) (s := s) with ⟨h1, h2⟩ | ⟨h1, h2⟩
  · rw [h1, h2]; rfl
  · rw [h2]
    cases hn : (spots s.data.toList).length with
    | zero => rw [hn] at h1; simp [cluS, Clu.z] at h1
    | succ n => rfl
theorem cluS_text {T : Tab} {s : ByteArray} : ∀ i, i < (spots s.data.toList).length → ∀ j (hj : j < ((cluS T s (i + 1)).1 ++ [(cluS T s (i + 1)).2]).length),
    (((cluS T s (i + 1)).1 ++ [(cluS T s (i + 1)).2])[j]).t = s.extract (((cluS T s (i + 1)).1 ++ [(cluS T s (i + 1)).2])[j]).b (if h : j + 1 < ((cluS T s (i + 1)).1 ++ [(cluS T s (i + 1)).2]).length then (((cluS T s (i + 1)).1 ++ [(cluS T s (i + 1)).2])[j + 1]).b else posn s.data.toList (i + 1))
  | 0, hi, j, hj => by
    have hs : (cluS T s 1).1 = [] := cluS_stay (T := T) hi (fun q => by have := q.2; simp [cluS, Clu.z] at this)
    have ho := cluS_open (T := T) hi
    rw [Nat.zero_add] at *
    simp only [hs, List.nil_append, List.length_singleton] at hj ⊢
    have : j = 0 := by omega
    subst this
    simp only [List.getElem_cons_zero, ho]
    rw [dif_neg (by omega)]
    split <;> rfl
  | i + 1, hi, j, hj => by
    have ih := cluS_text (T := T) (s := s) i (by omega)
    have ho := cluS_open (T := T) hi
    by_cases hr : clT T ((spots s.data.toList)[i + 1]).1 = 0
    · have h1 := (cluS_out hi hr (cluS_pos (by omega))).1
      rw [if_pos hr] at ho
      simp only [h1, ho] at hj ⊢
      rw [List.length_append, List.length_singleton] at hj
      generalize hL : (cluS T s (i + 1)).1 ++ [(cluS T s (i + 1)).2] = L at *
      rcases Nat.lt_or_ge j L.length with h | h
      · have := ih j h
        rw [List.getElem_append_left h, this]
        congr 1
        rcases Nat.lt_or_ge (j + 1) L.length with h2 | h2
        · rw [dif_pos h2, dif_pos (by rw [List.length_append, List.length_singleton]; omega), List.getElem_append_left h2]
        · rw [dif_neg (by omega), dif_pos (by rw [List.length_append, List.length_singleton]; omega), List.getElem_append_right (by omega)]
          simp [show j + 1 - L.length = 0 by omega]
      · rw [List.getElem_append_right h, dif_neg (by rw [List.length_append, List.length_singleton]; omega)]
        simp [show j - L.length = 0 by omega]
    · have h1 := cluS_stay hi (fun q => hr q.1)
      rw [if_neg hr] at ho
      simp only [h1, ho] at hj ⊢
      rw [List.length_append, List.length_singleton] at hj
      generalize (cluS T s (i + 1)).1 = A at *
      generalize (cluS T s (i + 1)).2 = c at *
      rcases Nat.lt_or_ge j A.length with h | h
      · have := ih j (by rw [List.length_append, List.length_singleton]; omega)
        rw [List.getElem_append_left h] at this ⊢
        rw [this]
        congr 1
        rw [dif_pos (by rw [List.length_append, List.length_singleton]; omega), dif_pos (by rw [List.length_append, List.length_singleton]; omega)]
        rcases Nat.lt_or_ge (j + 1) A.length with h2 | h2
        · rw [List.getElem_append_left h2, List.getElem_append_left h2]
        · rw [List.getElem_append_right h2, List.getElem_append_right h2]
          simp [show j + 1 - A.length = 0 by omega]
      · rw [List.getElem_append_right h, dif_neg (by rw [List.length_append, List.length_singleton]; omega)]
        simp [show j - A.length = 0 by omega]
theorem cluS_all {T : Tab} {s : ByteArray} : ∀ i, i ≤ (spots s.data.toList).length → ∀ c ∈ (cluS T s i).1 ++ [(cluS T s i).2], c.b ≤ posn s.data.toList i ∧ c.n ≤ i ∧ c.k ≤ i ∧ c.m ≤ i
  | 0, _, c, hc => by
    simp [cluS] at hc
    subst hc
    simp [Clu.z]
  | i + 1, hi, c, hc => by
    have ih := cluS_all (T := T) (s := s) i (by omega)
    have hp := posn_succ (l := s.data.toList) (i := i) (by omega)
    rcases List.mem_append.1 hc with hc | hc
    · have : c ∈ (cluS T s i).1 ++ [(cluS T s i).2] := by
        simp only [cluS] at hc
        split at hc
        · exact hc
        · exact List.mem_append_left _ hc
      have := ih c this
      omega
    · rw [List.mem_singleton.1 hc]
      have := cluS_le (T := T) (s := s) (i + 1) hi
      omega
theorem cluS_ord {T : Tab} {s : ByteArray} : ∀ i, i < (spots s.data.toList).length → ((cluS T s (i + 1)).1 ++ [(cluS T s (i + 1)).2]).Pairwise (fun a c => a.b ≤ c.b)
  | 0, hi => by
    have hs : (cluS T s 1).1 = [] := cluS_stay (T := T) hi (fun q => by have := q.2; simp [cluS, Clu.z] at this)
    rw [Nat.zero_add, hs]
    simp
  | i + 1, hi => by
    have ih := cluS_ord (T := T) (s := s) i (by omega)
    have ha := cluS_all (T := T) (s := s) (i + 1) (by omega)
    have ho := cluS_open (T := T) hi
    by_cases hr : clT T ((spots s.data.toList)[i + 1]).1 = 0
    · have h1 := (cluS_out hi hr (cluS_pos (by omega))).1
      rw [if_pos hr] at ho
      rw [h1, ho]
      refine List.pairwise_append.2 ⟨ih, by simp, fun a haa c hc => ?_⟩
      rw [List.mem_singleton.1 hc]
      exact (ha a haa).1
    · have h1 := cluS_stay hi (fun q => hr q.1)
      rw [if_neg hr] at ho
      rw [h1, ho]
      have p := List.pairwise_append.1 ih
      refine List.pairwise_append.2 ⟨p.1, by simp, fun a haa c hc => ?_⟩
      rw [List.mem_singleton.1 hc]
      exact p.2.2 a haa (cluS T s (i + 1)).2 (by simp)
theorem clusL_all {T : Tab} {s : ByteArray} : (∀ c ∈ clusL T s, c.b ≤ s.data.toList.length ∧ c.n ≤ s.data.toList.length ∧ c.k ≤ s.data.toList.length ∧ c.m ≤ s.data.toList.length) ∧ (clusL T s).Pairwise (fun a c => a.b ≤ c.b) ∧ (clusL T s).length ≤ s.data.toList.length := by
  have hn := spots_len s.data.toList
  have hl := refL_len (T := T) (s := s) (spots s.data.toList).length
  rw [refL_end, List.length_map] at hl
  rcases clusL_end (T := T) (s := s) with ⟨h1, h2⟩ | ⟨h1, h2⟩
  · rw [h2]; simp
  · obtain ⟨n, hn1⟩ : ∃ n, (spots s.data.toList).length = n + 1 := by
      cases hn : (spots s.data.toList).length with
      | zero => rw [hn] at h1; simp [cluS, Clu.z] at h1
      | succ n => exact ⟨n, rfl⟩
    refine ⟨fun c hc => ?_, ?_, by omega⟩
    · rw [h2] at hc
      have := cluS_all (T := T) (s := s) _ (Nat.le_refl _) c hc
      rw [posn_all] at this
      omega
    · rw [h2]
      have := cluS_ord (T := T) (s := s) n (by omega)
      rw [← hn1] at this
      exact this
theorem clusL_text {T : Tab} {s : ByteArray} (j : Nat) (hj : j < (clusL T s).length) : ((clusL T s)[j]).t = s.extract ((clusL T s)[j]).b (if h : j + 1 < (clusL T s).length then ((clusL T s)[j + 1]).b else s.data.toList.length) := by
  rcases clusL_end (T := T) (s := s) with ⟨h1, h2⟩ | ⟨h1, h2⟩
  · rw [h2] at hj; simp at hj
  · obtain ⟨n, hn⟩ : ∃ n, (spots s.data.toList).length = n + 1 := by
      cases hn : (spots s.data.toList).length with
      | zero => rw [hn] at h1; simp [cluS, Clu.z] at h1
      | succ n => exact ⟨n, rfl⟩
    have := cluS_text (T := T) (s := s) n (by omega)
    rw [← hn] at this
    rw [posn_all] at this
    simp only [h2] at hj ⊢
    exact this j hj
end Go.Proofs.YtblmakgjdenpfaaGreatDoor.AM
namespace Go.Proofs.YtblmakgjdenpfaaGreatDoor.AM
open Go
theorem ordered_get' {cl : Nat → Int} : ∀ {l : List Nat}, Ordered cl l → ∀ j (hj : j + 1 < l.length), ¬ (0 < cl l[j + 1] ∧ cl l[j + 1] < cl (l[j]'(by omega)))
  | a :: c :: t, h, 0, _ => h.1
  | a :: c :: t, h, j + 1, hj => ordered_get' (l := c :: t) h.2 j (by simpa using hj)
theorem posn_cons {l : Bytes} (hl : l ≠ []) (i : Nat) : posn l (i + 1) = (dec1 l).2 + posn (l.drop (dec1 l).2) i := by
  unfold posn
  rw [spots_cons hl, List.take_succ_cons, List.map_cons, List.sum_cons]
theorem spots_take : ∀ (i : Nat) (l : Bytes), i ≤ (spots l).length → spots (l.take (posn l i)) = (spots l).take i
  | 0, l, _ => by rw [posn_zero]; simp [spots_nil]
  | i + 1, l, h => by
    have hl : l ≠ [] := fun e => by subst e; simp [spots_nil] at h
    have h' : i ≤ (spots (l.drop (dec1 l).2)).length := by rw [spots_cons hl, List.length_cons] at h; omega
    have ih := spots_take i (l.drop (dec1 l).2) h'
    rw [posn_cons hl, spots_cons hl, List.take_succ_cons, ← ih]
    rcases dec_cases hl with ⟨c, rest, hc, e1, e2⟩ | ⟨e1, e2⟩
    · have hd : l.drop (dec1 l).2 = rest := by rw [e2, e1]; simp
      rw [hd, e2]
      simp only
      conv => lhs; rw [e1]
      rw [List.take_append, List.take_of_length_le (by omega), show (encN c).length + posn rest i - (encN c).length = posn rest i by omega, spots_enc hc]
    · rw [e1]
      simp only
      have hne : l.take (1 + posn (l.drop 1) i) ≠ [] := by
        cases l with
        | nil => exact absurd rfl hl
        | cons a l => simp [Nat.add_comm]
      have hb : dec1 (l.take (1 + posn (l.drop 1) i)) = (0xFFFD, 1) := by
        rcases dec_cases hne with ⟨c, rest, hc, q1, _⟩ | ⟨q1, _⟩
        · exfalso
          refine e2 c (rest ++ l.drop (1 + posn (l.drop 1) i)) hc ?_
          conv => lhs; rw [← List.take_append_drop (1 + posn (l.drop 1) i) l, q1]
          rw [List.append_assoc]
        · exact q1
      rw [spots_cons hne, hb]
      simp only
      rw [List.drop_take, show 1 + posn (l.drop 1) i - 1 = posn (l.drop 1) i by omega]
theorem posn_drop {l : Bytes} {i : Nat} (hi : i ≤ (spots l).length) (k : Nat) (hk : i + k ≤ (spots l).length) : posn (l.drop (posn l i)) k = posn l (i + k) - posn l i := by
  have h := (spots_drop l i hi).1
  unfold posn at h ⊢
  rw [h, List.take_add, List.map_append, List.sum_append]
  omega
theorem posn_mono {l : Bytes} {i j : Nat} (h : i ≤ j) : posn l i ≤ posn l j := by
  unfold posn
  obtain ⟨d, rfl⟩ := Nat.exists_eq_add_of_le h
  rw [List.take_add, List.map_append, List.sum_append]
  omega
theorem runesB_cut {l : Bytes} {i k : Nat} (h : i + k ≤ (spots l).length) : runesB ((l.drop (posn l i)).take (posn l (i + k) - posn l i)) = ((runesB l).drop i).take k := by
  have h1 := (spots_drop l i (by omega)).1
  have h2 := spots_take k (l.drop (posn l i)) (by rw [h1, List.length_drop]; omega)
  rw [posn_drop (by omega) k h] at h2
  unfold runesB
  rw [h2, h1, List.map_take, List.map_drop]
end Go.Proofs.YtblmakgjdenpfaaGreatDoor.AM
namespace Go.Proofs.YtblmakgjdenpfaaGreatDoor.AM
open Go
def rnA (s : ByteArray) (j : Nat) : Nat := ((spots s.data.toList).getD j (0, 0)).1
theorem rnA_get {s : ByteArray} {j : Nat} (h : j < (spots s.data.toList).length) : rnA s j = ((spots s.data.toList)[j]).1 := by simp [rnA, List.getD_eq_getElem?_getD, List.getElem?_eq_getElem h]
structure Seg1 (T : Tab) (s : ByteArray) (a : Nat) (c : Clu) : Prop where
  n : c.n = a
  b : c.b = posn s.data.toList a
  m : ∀ j, a < j → j < a + c.k → clT T (rnA s j) ≠ 0
  z : 0 < a → clT T (rnA s a) = 0
  t : 0 < c.k → c.t = s.extract (posn s.data.toList a) (posn s.data.toList (a + c.k))
inductive Seg (T : Tab) (s : ByteArray) : Nat → List Clu → Nat → Prop
  | nil {a : Nat} : Seg T s a [] a
  | cons {a b : Nat} {c : Clu} {L : List Clu} : Seg1 T s a c → 0 < c.k → Seg T s (a + c.k) L b → Seg T s a (c :: L) b
theorem Seg.snoc {T : Tab} {s : ByteArray} {a b : Nat} {L : List Clu} (h : Seg T s a L b) {c : Clu} (h1 : Seg1 T s b c) (h2 : 0 < c.k) : Seg T s a (L ++ [c]) (b + c.k) := by
  induction h with
  | nil => exact .cons h1 h2 .nil
  | cons g1 g2 _ ih => exact .cons g1 g2 (ih h1)
theorem Seg.split {T : Tab} {s : ByteArray} : ∀ {P : List Clu} {a b : Nat} {Q : List Clu}, Seg T s a (P ++ Q) b → ∃ d, Seg T s a P d ∧ Seg T s d Q b
  | [], a, b, Q, h => ⟨a, .nil, h⟩
  | c :: P, a, b, Q, h => by
    cases h with
    | cons g1 g2 g3 =>
      obtain ⟨d, q1, q2⟩ := Seg.split g3
      exact ⟨d, .cons g1 g2 q1, q2⟩
theorem Seg.le {T : Tab} {s : ByteArray} {a b : Nat} {L : List Clu} (h : Seg T s a L b) : a ≤ b := by
  induction h with
  | nil => exact Nat.le_refl _
  | cons _ _ _ ih => omega
theorem cluS_seg {T : Tab} {s : ByteArray} : ∀ i, i ≤ (spots s.data.toList).length → Seg T s 0 (cluS T s i).1 (cluS T s i).2.n ∧ Seg1 T s (cluS T s i).2.n (cluS T s i).2 ∧ (cluS T s i).2.n + (cluS T s i).2.k = i
  | 0, _ => ⟨.nil, ⟨rfl, by simp [cluS, Clu.z, posn_zero], fun j h1 h2 => by simp [cluS, Clu.z] at h1 h2, fun h => by simp [cluS, Clu.z] at h, fun h => by simp [cluS, Clu.z] at h⟩, rfl⟩
  | i + 1, hi => by
    obtain ⟨h1, h2, h3⟩ := cluS_seg (T := T) (s := s) i (by omega)
    have hop := cluS_open (T := T) (s := s) (i := i) (by omega)
    by_cases hr : clT T ((spots s.data.toList)[i]).1 = 0
    · rw [if_pos hr] at hop
      have hn : (cluS T s (i + 1)).2.n = i := by rw [hop]
      have hs1 : Seg1 T s i (cluS T s (i + 1)).2 := by
        rw [hop]
        exact ⟨rfl, rfl, fun j q1 q2 => by simp only at q2; omega, fun _ => by rw [rnA_get (by omega)]; exact hr, fun _ => rfl⟩
      refine ⟨?_, by rw [hn]; exact hs1, by rw [hop]⟩
      rw [hn]
      by_cases hk : 0 < (cluS T s i).2.k
      · rw [(cluS_out (by omega) hr hk).1]
        have := h1.snoc h2 hk
        rw [h3] at this
        exact this
      · rw [cluS_stay (by omega) (fun q => hk q.2)]
        have : (cluS T s i).2.n = i := by omega
        rw [this] at h1
        exact h1
    · rw [if_neg hr] at hop
      rw [cluS_stay (by omega) (fun q => hr q.1), hop]
      refine ⟨h1, ⟨rfl, h2.b, fun j q1 q2 => ?_, h2.z, fun _ => ?_⟩, by simp only; omega⟩
      · simp only at q1 q2
        rcases Nat.lt_or_ge j i with q | q
        · exact h2.m j q1 (by omega)
        · have : j = i := by omega
          subst this
          rw [rnA_get (by omega)]
          exact hr
      · simp only
        rw [h2.b, show (cluS T s i).2.n + ((cluS T s i).2.k + 1) = i + 1 by omega]
theorem clusL_seg {T : Tab} {s : ByteArray} : Seg T s 0 (clusL T s) (spots s.data.toList).length := by
  obtain ⟨h1, h2, h3⟩ := cluS_seg (T := T) (s := s) (spots s.data.toList).length (Nat.le_refl _)
  rcases clusL_end (T := T) (s := s) with ⟨q1, q2⟩ | ⟨q1, q2⟩
  · rw [q2, q1]; exact .nil
  · rw [q2]
    have := h1.snoc h2 q1
    rw [h3] at this
    exact this
theorem seg_runes {T : Tab} (gd : goodB T = true) {s : ByteArray} {a : Nat} {c : Clu} (h : Seg1 T s a c) (hk : 0 < c.k) (hi : a + c.k ≤ (spots s.data.toList).length) :
    runesB c.t.data.toList = ((runesB s.data.toList).drop a).take c.k ∧ (∃ r Q, ((runesB s.data.toList).drop a).take c.k = r :: Q ∧ (∀ x ∈ Q, 0 < clT T x) ∧ (0 < a → clT T r ≤ 0)) ∧ c.t.data.toList = (s.data.toList.drop (posn s.data.toList a)).take (posn s.data.toList (a + c.k) - posn s.data.toList a) := by
  have hz : s.data.toList.length = s.size := rfl
  have hp := (spots_drop s.data.toList (a + c.k) hi).2
  have ht : c.t.data.toList = (s.data.toList.drop (posn s.data.toList a)).take (posn s.data.toList (a + c.k) - posn s.data.toList a) := by
    rw [h.t hk, ba_extract _ _ _ (by omega)]
  refine ⟨by rw [ht, runesB_cut hi], ?_, ht⟩
  have hl : a < (runesB s.data.toList).length := by rw [runesB_len]; omega
  have hg : ∀ j (hj : j < (runesB s.data.toList).length), (runesB s.data.toList)[j] = rnA s j := fun j hj => by
    rw [runesB_len] at hj
    rw [rnA_get hj]; simp [runesB]
  obtain ⟨k, hkk⟩ : ∃ k, c.k = k + 1 := ⟨c.k - 1, by omega⟩
  refine ⟨rnA s a, ((runesB s.data.toList).drop (a + 1)).take k, ?_, fun x hx => ?_, fun ha => by rw [h.z ha]; exact Int.le_refl _⟩
  · rw [hkk, List.drop_eq_getElem_cons hl, List.take_succ_cons, hg a hl]
  · obtain ⟨j, hj, rfl⟩ := List.mem_iff_getElem.1 hx
    rw [List.length_take, List.length_drop] at hj
    rw [List.getElem_take, List.getElem_drop, hg]
    exact class_pos gd (h.m _ (by omega) (by omega))
theorem piece_rises {cl : Nat → Int} {r : Nat} {Q : List Nat} (hQ : ∀ x ∈ Q, 0 < cl x) (hr : 0 ≤ cl r) (j : Nat) (hj : j + 1 < (ord cl (r :: Q)).length) : (cl ((ord cl (r :: Q))[j]'(by omega))) ≤ cl ((ord cl (r :: Q))[j + 1]) := by
  have ho := ordered_get' (ord_ordered (cl := cl) (r :: Q)) j hj
  by_cases h0 : cl ((ord cl (r :: Q))[j + 1]) ≤ 0
  · exfalso
    rcases Int.lt_or_le 0 (cl r) with h | h
    · have hm : (ord cl (r :: Q))[j + 1] ∈ r :: Q := ord_mem.1 (List.getElem_mem hj)
      rcases List.mem_cons.1 hm with e | e
      · rw [e] at h0; omega
      · have := hQ _ e; omega
    · have e := ord_base0 (cl := cl) h Q
      have hm : (ord cl (r :: Q))[j + 1] ∈ Q := by
        have e2 : (ord cl (r :: Q))[j + 1] = (ord cl Q)[j]'(by rw [e, List.length_cons] at hj; omega) := by simp only [e, List.getElem_cons_succ]
        rw [e2]
        exact ord_mem.1 (List.getElem_mem _)
      have := hQ _ hm
      omega
  · omega
end Go.Proofs.YtblmakgjdenpfaaGreatDoor.AM
namespace Go.Proofs.YtblmakgjdenpfaaGreatDoor.AM
open Go
def LF_utf_Count : LFunc :=
  .mk 1 [.tmp 2] (.seq (R 999 [0] [.set 2 (xi 0)]) (.seq (R 999 [0, 3] [.set 3 (xi 0)]) (.seq (.seq (R 4 [3, 5] [.tmp 5 (.op (.e (.rngS 5 (.s 0))) (.va 0))]) (.block 0 (.loop (.seq
  (R 6 [3, 5, 7] [.tmp 7 (xex 0 (.op (.e (.nxtS (.s 0))) (.sl 5)))]) (.seq (.cond (.s 7) .skip (.exit 0)) (.block 1 (R 8 [3, 5] [.set 3 (xb .add (.va 3) (xi 1))]))))))) (.seq (R 10
  [2] [.set 2 (.va 3)]) .ret))))
theorem fn_utf_Count : (autoPrg Tryz.prog).fn 14 = some LF_utf_Count := by kernel_rfl
end Go.Proofs.YtblmakgjdenpfaaGreatDoor.AM
namespace Go.Proofs.YtblmakgjdenpfaaGreatDoor.AM
open Go
theorem utfCount_eq (s : ByteArray) (hs : s.size ≤ 16777216) (h : AH) : callO PX 14 [.string s] h = some (.int .i64 (spots s.data.toList).length, h) := by
  have hz : s.data.toList.length = s.size := rfl
  have hn := spots_len s.data.toList
  apply WpC.eqn
  refine wpc_fn (px_ext rfl) (px_fn fn_utf_Count) rfl ?_
  unfold LF_utf_Count
  simp only [argFr]
  (refine W_x @ev_rngS ?_; (repeat' first | apply Cj.mk | exact Nl.nl) <;> intros)
  refine wp_spotsS (fun i _ => [(3, .int .i64 i), (5, .pointer (some ⟨10, 0, some 1⟩))]) (fun n _ => [(10, .siter s n)]) s s.data.toList (fun _ _ h' => h' = h) (fun _ _ => (none : Option Unit)) () rfl (by repeat' first | exact True.intro | refine And.intro rfl ?_) (fun _ _ => rfl) rfl rfl (fun i hi _ h1 hh hit => ?_) fun _ h1 hh fin => ?_
  · subst hh
    (refine W_x trivial ?_; (repeat' first | apply Cj.mk | exact Nl.nl) <;> intros)
    refine wo_next rfl rfl hi ?_
    (refine W_x trivial ?_; (repeat' first | apply Cj.mk | exact Nl.nl) <;> intros)
    exact ⟨rfl, (), (by repeat' first | exact True.intro | refine And.intro rfl ?_), rfl, rfl⟩
  · subst hh
    (refine W_x trivial ?_; (repeat' first | apply Cj.mk | exact Nl.nl) <;> intros)
    refine wo_nextE rfl rfl ?_
    (refine W_x trivial ?_; (repeat' first | apply Cj.mk | exact Nl.nl) <;> intros)
    exact ⟨rfl, rfl⟩
end Go.Proofs.YtblmakgjdenpfaaGreatDoor.AM
namespace Go.Proofs.YtblmakgjdenpfaaGreatDoor.AM
open Go
theorem clusters_eq (q : Value) (s : ByteArray) (h : AH) (hq : ∃ o, q = .pointer o ∧ ∀ a, o = some a → ∃ k, a = ⟨k, 0, none⟩) : callO PX 28 [q, .string s] h = some (.func (.func 53) #[] #[.pointer (some ⟨h.n, 0, none⟩), .pointer (some ⟨h.n + 1, 0, none⟩)], (h.push (.cells false [q])).push (.cells false [.string s])) := by
  obtain ⟨o, rfl, ho⟩ := hq
  apply WpC.eqn
  cases o with
  | none =>
    refine wpc_fn (px_ext rfl) (px_fn fn_marks_Clusters) rfl ?_
    unfold LF_marks_Clusters
    simp only [argFr]
    (refine W_x trivial ?_; (repeat' first | apply Cj.mk | exact Nl.nl) <;> intros)
    exact ⟨rfl, rfl⟩
  | some a =>
    obtain ⟨k, rfl⟩ := ho a rfl
    refine wpc_fn (px_ext rfl) (px_fn fn_marks_Clusters) rfl ?_
    unfold LF_marks_Clusters
    simp only [argFr]
    (refine W_x trivial ?_; (repeat' first | apply Cj.mk | exact Nl.nl) <;> intros)
    exact ⟨rfl, rfl⟩
theorem PF.push {T : Nat → Prop} (h : AH) (o : AObj) : PF T h (h.push o) := ⟨by rw [AH.push_n]; omega, fun b hb _ => AH.get_push_ne _ (by omega)⟩
end Go.Proofs.YtblmakgjdenpfaaGreatDoor.AM
namespace Go.Proofs.YtblmakgjdenpfaaGreatDoor.AM
open Go
def LF_guiselaw8_count : LFunc :=
  .mk 2 [.tmp 4] (.seq (R 999 [0, 1] [.set 4 (xi 0)]) (.seq (R 999 [0, 1, 5] [.set 5 (xi 0)]) (.seq (.seq (R 999 [0, 1, 5, 6] [.set 6 (xi 0)]) (.block 0 (.loop (.seq (.seq (R 7 [0,
  1, 5, 6, 10] [.tmp 10 (xb .lss (.va 6) (xlen (.va 0)))]) (.cond (.s 10) .skip (.exit 0))) (.seq (.block 1 (.seq (R 13 [0, 1, 5, 6, 18] [.tmp 18 (xb .eql (xld (xia 1 (.va 0) (.va
  6))) (.va 1))]) (.cond (.s 18) (R 19 [0, 1, 5, 6] [.set 5 (xb .add (.va 5) (xi 1))]) .skip))) (R 11 [0, 1, 5, 6] [.set 6 (xb .add (.va 6) (xi 1))])))))) (.seq (R 21 [4] [.set 4
  (.va 5)]) .ret))))
theorem fn_guiselaw8_count : (autoPrg Tryz.prog).fn 34 = some LF_guiselaw8_count := by kernel_rfl
def LF_guiselaw8_MarksStays : LFunc :=
  .mk 2 [.cell 4 none] (.seq (R 2 [1, 2, 4] [.tmp 2 (xbl 2 8 (.sl 0)), .at 4, .tmp 4 (xnh [.bool false])]) (.seq (R 21 [1, 4, 5, 6, 7] [.set 20 (xc1 8 (xln 8 (.sl
  2))), .tmp 23 (xex 0 (.sl 20)), .tmp 24 (xex 1 (.sl 20)), .tmp 25 (xex 2 (.sl 20)), .at 5, .tmp 5 (xnh [.pointer none]), .run (xst 1 (.sl 5) (.sl 23)), .tmp 6 (.va 24), .tmp 7
  (.va 25)]) (.seq (.seq (R 26 [1, 4, 5, 7, 27] [.tmp 27 (xu .not (.va 6))]) (.cond (.s 27) (.seq (R 28 [4] [.run (xst 1 (.sl 4) (.and (.va 7) (xc0 25)))]) .ret)
  .skip)) (.seq (R 32 [1, 4, 5] [.set 1 (xc2 26 (.va 1) (xi 2000))]) (.seq (R 34 [1, 4, 5, 8] [.set 8 (xc2 31 (xld (.sl 5)) (.va 1))]) (.seq (R 38 [1, 4,
  5, 8, 10] [.set 37 (xc2 32 (xld (.sl 5)) (.va 8)), .tmp 41 (xex 0 (.sl 37)), .tmp 42 (xex 1 (.sl 37)), .at 9, .run (xst 2 (xnl 9 [.int .i64 0, .int .i64 0]) (.sl
  41)), .tmp 10 (.va 42)]) (.seq (.seq (R 43 [1, 4, 5, 8, 57] [.tmp 57 (.or (.or (.va 10) (xb .neq (xc2 31 (xld (.sl 5)) (.va 8)) (.va 8))) (xb .neq (xc1 14
  (.va 8)) (xc1 14 (.va 1))))]) (.cond (.s 57) (.seq (R 999 [4] [.run (xst 1 (.sl 4) (.cv (.bool false)))]) .ret) .skip)) (.seq (R 58 [1, 4, 5, 8, 11] [.set 11 (xc2
  28 (xld (.sl 5)) (.va 1))]) (.seq (.seq (R 61 [1, 4, 5, 8, 11, 62] [.tmp 62 (.op (.p (.eqk false .func (.s 0) (.s 1))) (.cons (.va 11) (.cv .nilFunc)))]) (.cond
  (.s 62) (.seq (R 999 [4] [.run (xst 1 (.sl 4) (.cv (.bool false)))]) .ret) .skip)) (.seq (R 12 [1, 4, 5, 8, 11, 12] [.tmp 12 (xnh [.string ⟨#[]⟩]), .run (xst 1 (.sl 12) (.cv
  (.string ⟨#[]⟩)))]) (.seq (R 13 [1, 4, 5, 8, 11, 12, 13] [.tmp 13 (xnh [.string ⟨#[]⟩]), .run (xst 1 (.sl 13) (.cv (.string ⟨#[]⟩)))]) (.seq (.seq (R 63 [1, 4, 5, 8, 12, 13, 63]
  [.tmp 63 (.va 11)]) (.block 0 (.rangeF (.s 63) [64] (R 14 [4, 5, 12, 13, 14] [.tmp 14 (xnl 14 [.int .i64 0, .int .i64 0, .string ⟨#[]⟩, .int .i64 0, .int .i64 0, .int .i32 0,
  .bool false]), .run (xst 7 (.sl 14) (.sl 64))]) (.block 1 (.seq (R 65 [4, 5, 13, 14] [.run (xst 1 (.sl 12) (xb .add (xld (.sl 12)) (xld (xfa 2 (.sl 14)))))]) (.seq (R 69 [4, 5,
  13, 14, 15] [.set 15 (xc2 31 (xld (.sl 5)) (xld (xfa 2 (.sl 14))))]) (.seq (R 73 [4, 5, 14, 15] [.run (xst 1 (.sl 13) (xb .add (xld (.sl 13)) (.va 15)))]) (.seq (R 76
  [4, 5, 14, 16] [.set 16 (xc1 33 (.va 15))]) (.seq (R 78 [4, 5, 16, 17] [.set 17 (xc1 33 (xld (xfa 2 (.sl 14))))]) (.seq (.seq (R 999 [4, 5, 16, 17, 18] [.set
  18 (xi 0)]) (.block 2 (.loop (.seq (.seq (R 81 [4, 5, 16, 17, 18, 84] [.tmp 84 (xb .lss (.va 18) (xlen (.va 17)))]) (.cond (.s 84) .skip (.exit 2))) (.seq (.block 3 (.seq (.region
  [.mk (some 87) (.p (.mv (.s 16))) none, .mk (some 88) (.p (.mv (.s 17))) none, .mk (some 89) (.p (.mv (.s 18))) none, .mk (some 90) (.p (.iaddr 1 (.s 88) (.s 89))) none, .mk (some
  91) (.r (.load none (.s 90))) none, .mk (some 92) (.e (.call 34 [.s 87, .s 91])) none, .mk (some 93) (.p (.mv (.s 17))) none, .mk (some 94) (.p (.mv (.s 17)))
  none, .mk (some 95) (.p (.mv (.s 18))) none, .mk (some 96) (.p (.iaddr 1 (.s 94) (.s 95))) none, .mk (some 97) (.r (.load none (.s 96))) none, .mk (some 98) (.e (.call
  34 [.s 93, .s 97])) none, .mk (some 99) (.p (.bin .neq (.s 92) (.s 98))) none] [4, 5, 16, 17, 18, 99] [(10, 0)]) (.cond (.s 99) (.seq (R 999 [] [.run (xst 1 (.sl
  4) (.cv (.bool false)))]) .ret) .skip))) (R 85 [4, 5, 16, 17, 18] [.set 18 (xb .add (.va 18) (xi 1))])))))) (.seq (R 999 [4, 5, 16, 19] [.set 19 (xi 1)]) (.block 4 (.loop (.seq
  (.seq (R 100 [4, 5, 16, 19, 103] [.tmp 103 (xb .lss (.va 19) (xlen (.va 16)))]) (.cond (.s 103) .skip (.exit 4))) (.seq (.block 5 (.seq (.region [.mk (some 106) (.r (.load none
  (.s 5))) none, .mk (some 107) (.p (.mv (.s 16))) none, .mk (some 108) (.p (.mv (.s 19))) none, .mk (some 109) (.p (.iaddr 1 (.s 107) (.s 108))) none, .mk (some 110) (.r (.load
  none (.s 109))) none, .mk (some 111) (.e (.call 35 [.s 106, .s 110])) none, .mk (some 112) (.r (.load none (.s 5))) none, .mk (some 113) (.p (.mv (.s 16)))
  none, .mk (some 114) (.p (.mv (.s 19))) none, .mk (some 115) (.p (.bin .sub (.s 114) (.c (.int .i64 1)))) none, .mk (some 116) (.p (.iaddr 1 (.s 113) (.s 115))) none, .mk (some
  117) (.r (.load none (.s 116))) none, .mk (some 118) (.e (.call 35 [.s 112, .s 117])) none, .mk (some 119) (.p (.bin .lss (.s 111) (.s 118))) none] [4, 5,
  16, 19, 119] [(6, 0), (11, 0)]) (.cond (.s 119) (.seq (R 999 [] [.run (xst 1 (.sl 4) (.cv (.bool false)))]) .ret) .skip))) (R 104 [4, 5, 16, 19] [.set 19 (xb .add (.va 19) (xi
  1))])))))))))))))))) (.seq (R 120 [4] [.run (xst 1 (.sl 4) (.and (.and (xb .eql (xld (.sl 12)) (.va 1)) (xb .eql (xld (.sl 13)) (.va 8))) (xc0 25)))])
  .ret)))))))))))))
theorem fn_guiselaw8_MarksStays : (autoPrg Tryz.prog).fn 7 = some LF_guiselaw8_MarksStays := by kernel_rfl
end Go.Proofs.YtblmakgjdenpfaaGreatDoor.AM
namespace Go.Proofs.YtblmakgjdenpfaaGreatDoor.AM
open Go
theorem count8_eq {sl : Sl} {B : List Nat} {h : AH} (rd : Reads h 1 sl (B.map rnV)) (hn : B.length ≤ 1048576) (r : Nat) : callO PX 34 [sl.val 1, .int .i32 r] h = some (.int .i64 (B.count r), h) := by
  have sll := rd.len
  apply WpC.eqn
  refine wpc_fn (px_ext rfl) (px_fn fn_guiselaw8_count) rfl ?_
  unfold LF_guiselaw8_count
  simp only [argFr]
  (refine W_x trivial ?_; (repeat' first | apply Cj.mk | exact Nl.nl) <;> intros)
  refine wp_forS (fun i (_ : Unit) => [(0, sl.val 1), (1, .int .i32 r), (5, .int .i64 ((B.take i).count r)), (6, .int .i64 i)]) (fun _ _ => []) B (fun _ _ h' => h' = h) (fun _ _ => (none : Option Unit)) () rfl rfl rfl (fun i hi _ h1 hh hit => ?_) fun _ h1 hh fin => ?_
  · subst hh
    have g0 := fun lc => rd_map (lc := lc) rd hi
    have ht := take_snoc hi
    have hc := List.count_le_length (a := r) (l := B.take i)
    rw [List.length_take] at hc
    generalize B[i] = c at g0 ht
    unfold rnV at g0
    rw [ht, List.count_append]
    generalize (B.take i).count r = m at hc ⊢
    by_cases hcr : c = r
    · subst hcr
      (refine W_x (Aj sll g0) ?_; (repeat' first | apply Cj.mk | exact Nl.nl) <;> intros)
      exact ⟨rfl, (), by rw [List.count_singleton_self]; rfl, rfl, rfl⟩
    · have h0 : List.count r [c] = 0 := by simp [List.count_cons, hcr]
      have hcr' : ¬ (c : Int) = r := by omega
      (refine W_x (Aj sll g0) ?_; (repeat' first | apply Cj.mk | exact Nl.nl) <;> intros)
      exact ⟨rfl, (), by rw [h0]; rfl, rfl, rfl⟩
  · subst hh
    (refine W_x sll ?_; (repeat' first | apply Cj.mk | exact Nl.nl) <;> intros)
    rw [List.take_length]
    exact ⟨rfl, rfl⟩
theorem str_add {x y : ByteArray} (h : x.size + y.size ≤ 9223372036854775807) : binA .add (.string x) (.string y) = some (.string (x ++ y)) := if_pos h
theorem bs_append (X Y : Bytes) : bs X ++ bs Y = bs (X ++ Y) := ba_ext (by rw [ByteArray.data_append, Array.toList_append, bs_l, bs_l, bs_l])
structure KpP (q : Nat → Prop) (h h' : AH) : Prop where
  n : h.n ≤ h'.n
  keep : ∀ b, b < h.n → ¬ q b → h'.get b = h.get b
theorem KpP.refl (q : Nat → Prop) (h : AH) : KpP q h h := ⟨Nat.le_refl _, fun _ _ _ => rfl⟩
theorem KpP.get {q : Nat → Prop} {h h' : AH} (k : KpP q h h') {b : Nat} {o : AObj} (e : h.get b = some o) (hb : ¬ q b) : h'.get b = some o := by rw [k.keep b (AH.get_lt e) hb, e]
theorem KpP.kp {q : Nat → Prop} {h0 h h' : AH} (p : Kp h0 h) (k : KpP q h h') (hq : ∀ b, q b → h0.n ≤ b) : Kp h0 h' := ⟨Nat.le_trans p.1 k.n, fun b hb => by rw [k.keep b (Nat.lt_of_lt_of_le hb p.1) (fun t => by have := hq b t; omega), p.2 b hb]⟩
theorem KpP.trans {q : Nat → Prop} {a b c : AH} (k : KpP q a b) (k' : KpP q b c) : KpP q a c := ⟨Nat.le_trans k.n k'.n, fun i hi hn => (k'.keep i (Nat.lt_of_lt_of_le hi k.n) hn).trans (k.keep i hi hn)⟩
theorem Kp.p {q : Nat → Prop} {a b : AH} (k : Kp a b) : KpP q a b := ⟨k.1, fun i hi _ => k.2 i hi⟩
theorem KpP.set {q : Nat → Prop} {h h' : AH} (k : KpP q h h') {b : Nat} (o : AObj) (hb : q b) : KpP q h (h'.set b o) := ⟨k.n, fun i hi hn => by rw [AH.get_set_ne _ (fun e => hn (by rw [e]; exact hb)), k.keep i hi hn]⟩
theorem KpP.fm {q : Nat → Prop} {h h1 h2 : AH} {T : Nat → Prop} (k : KpP q h h1) (hT : ∀ b, T b → h.n < b ∧ b < h1.n) (f : Fm h.n T h1 h2) : KpP q h h2 :=
  ⟨Nat.le_trans k.n f.n, fun b hb hb0 => by rw [f.keep b (by have := k.n; omega) (fun t => by have := hT b t; omega) (by omega), k.keep b hb hb0]⟩
theorem first_ord {T : Tab} {l : Bytes} (h : Ordered (clT T) (runesB l)) : firstM T l = none := by
  refine scan_end fun i hi => ?_
  rw [List.getElem?_eq_getElem hi]
  refine if_neg ?_
  rintro ⟨h1, h2⟩
  cases i with
  | zero => simp only [prevC] at h2; omega
  | succ i =>
    rw [prevC_succ (by omega)] at h2
    have := ordered_get' h i (by rw [runesB_len]; exact hi)
    simp only [runesB, List.getElem_map] at this
    exact this ⟨h1, h2⟩
theorem Seg.eq {T : Tab} {s : ByteArray} {a b c : Nat} {L : List Clu} (h : Seg T s a L b) (g : Seg T s a L c) : b = c := by
  induction h with
  | nil => cases g; rfl
  | cons _ _ _ ih => cases g with | cons _ _ g3 => exact ih g3
set_option maxHeartbeats 4000000 in
theorem marksStays_run {h : AH} (u : U8T h) (hg : 2 ≤ h.n) {S : TS} {T : Tab} (t : TabAt h S T) (x : ByteArray) (hx : x.size ≤ 1048576) :
    WpC PX 7 [.agg S.vs.toArray, .string x] h fun v _ => v = .bool true := by
  have k0 : Kp h (h.push (.cells false [.bool false])) := (Kp.refl h).push _
  have b4 : (h.push (.cells false [.bool false])).get h.n = some (.cells false [.bool false]) := AH.get_push_same _ _
  have n0 : (h.push (.cells false [.bool false])).n = h.n + 1 := rfl
  refine wpc_fn (px_ext rfl) (px_fn fn_guiselaw8_MarksStays) rfl ?_
  unfold LF_guiselaw8_MarksStays
  simp only [argFr]
  unfold TS.vs
  (refine W_x trivial ?_; (repeat' first | apply Cj.mk | exact Nl.nl) <;> intros)
  generalize (h.push (.cells false [.bool false])) = h0 at *
  obtain ⟨_, g1, e1, k1, q⟩ := of_spec (t.kp k0) (u.kp k0) (Nat.le_trans hg k0.1)
  unfold TS.vs at e1
  by_cases hb : goodB T = true
  · rw [if_pos hb] at q
    obtain ⟨k, B, S1, rfl, bk, _, _⟩ := q
    (refine W_x e1 ?_; (repeat' first | apply Cj.mk | exact Nl.nl) <;> intros)
    have k2 : Kp g1 ((g1.push (.cells false [.pointer none])).set g1.n (.cells false [.pointer (some ⟨k, 0, none⟩)])) := ((Kp.refl g1).push _).setNew _ (Nat.le_refl _)
    have b5 : ((g1.push (.cells false [.pointer none])).set g1.n (.cells false [.pointer (some ⟨k, 0, none⟩)])).get g1.n = some (.cells false [.pointer (some ⟨k, 0, none⟩)]) := AH.get_set_same _ (by rw [AH.push_n]; omega)
    generalize ((g1.push (.cells false [.pointer none])).set g1.n (.cells false [.pointer (some ⟨k, 0, none⟩)])) = g2 at *
    have bk2 := (bk.kp k2).bk
    have e2 : callO PX 26 [.string x, .int .i64 2000] g2 = some (.string (fewB x 2000), g2) := few_eq x hx 2000 (by decide) g2
    have fl := few_le x 2000
    generalize fewB x 2000 = y at e2 fl
    have hyz : y.data.toList.length = y.size := rfl
    have hsl := spots_len y.data.toList
    have hrr := runesB_rune y.data.toList
    have hrl := runesB_len y.data.toList
    obtain ⟨_, g3, e3, rfl, k3⟩ := marksOrder_spec bk2 y (by omega)
    have ho : orderB T y.data.toList = encs (ord (clT T) (runesB y.data.toList)) := rfl
    have hosz := encs_lenle (ord (clT T) (runesB y.data.toList))
    rw [ord_length, ← ho] at hosz
    have hro := ord_rune (cl := clT T) hrr
    have e4 := marksFirst_eq (bk2.kp k3) (bs (orderB T y.data.toList)) (by rw [bs_size]; omega)
    rw [bs_l, first_ord (by rw [ho, runesB_of_encs hro]; exact ord_ordered _)] at e4
    simp only [plV] at e4
    obtain ⟨_, g4, e5, rfl, k4⟩ := marksOrder_spec (bk2.kp k3) (bs (orderB T y.data.toList)) (by rw [bs_size]; omega)
    have hoo : orderB T (orderB T y.data.toList) = orderB T y.data.toList := by
      show encs (ord (clT T) (runesB (orderB T y.data.toList))) = _
      rw [ho, runesB_of_encs hro, ord_ord]
    rw [bs_l, hoo] at e5
    have e6 := utfCount_eq (bs (orderB T y.data.toList)) (by rw [bs_size]; omega) g4
    have e7 := utfCount_eq y (by omega) g4
    have hct : (spots (bs (orderB T y.data.toList)).data.toList).length = (spots y.data.toList).length := by
      rw [bs_l, ← runesB_len, ho, runesB_of_encs hro, ord_length, runesB_len]
    rw [hct] at e6
    have k24 := k3.trans k4
    have b53 := k3.get b5
    have b54 := k24.get b5
    generalize hO : bs (orderB T y.data.toList) = O at *
    have e8 := clusters_eq (.pointer (some ⟨k, 0, none⟩)) y g4 ⟨_, rfl, fun a ha => by injection ha with ha; exact ⟨k, ha.symm⟩⟩
    have k5 : Kp g4 ((g4.push (.cells false [.pointer (some ⟨k, 0, none⟩)])).push (.cells false [.string y])) := ((Kp.refl _).push _).push _
    have d1 : ((g4.push (.cells false [.pointer (some ⟨k, 0, none⟩)])).push (.cells false [.string y])).get g4.n = some (.cells false [.pointer (some ⟨k, 0, none⟩)]) := by simp (disch := first | omega | (simp only [AH.nn_push, AH.nn_set, AH.nn_kill]; omega) | (simp only [AH.nn_push, AH.nn_set, AH.nn_kill]; done) | fail) only [AH.get_push_eq, AH.get_push_ne, AH.get_set_eq, AH.get_set_ne]
    have d2 : ((g4.push (.cells false [.pointer (some ⟨k, 0, none⟩)])).push (.cells false [.string y])).get (g4.n + 1) = some (.cells false [.string y]) := by simp (disch := first | omega | (simp only [AH.nn_push, AH.nn_set, AH.nn_kill]; omega) | (simp only [AH.nn_push, AH.nn_set, AH.nn_kill]; done) | fail) only [AH.get_push_eq, AH.get_push_ne, AH.get_set_eq, AH.get_set_ne, AH.push_n]
    generalize ((g4.push (.cells false [.pointer (some ⟨k, 0, none⟩)])).push (.cells false [.string y])) = g5 at *
    have k25 := k24.trans k5
    have dd : CluD g4.n (g4.n + 1) k B S1.s6 T y g5 := ⟨d1, d2, bk2.kp k25⟩
    have hseq := clusters_seq (p2 := g4.n) (p3 := g4.n + 1) (k := k) (B := B) (s6 := S1.s6) hb y (by omega)
    have b55 := k25.get b5
    have hseg := clusL_seg (T := T) (s := y)
    generalize clusL T y = L at *
    (refine W_x (Aj e2 (Aj b5 (Aj e3 (Aj b53 (Aj e4 (Aj e5 (Aj b54 (Aj e6 (Aj e7 e8))))))))) ?_; (repeat' first | apply Cj.mk | exact Nl.nl) <;> intros)
    have k6 : Kp g5 ((((g5.push (.cells false [.string ⟨#[]⟩])).set g5.n (.cells false [.string ⟨#[]⟩])).push (.cells false [.string ⟨#[]⟩])).set (g5.n + 1) (.cells false [.string ⟨#[]⟩])) := ((((Kp.refl g5).push _).setNew _ (Nat.le_refl _)).push _).setNew _ (by omega)
    have b12 : ((((g5.push (.cells false [.string ⟨#[]⟩])).set g5.n (.cells false [.string ⟨#[]⟩])).push (.cells false [.string ⟨#[]⟩])).set (g5.n + 1) (.cells false [.string ⟨#[]⟩])).get g5.n = some (.cells false [.string ⟨#[]⟩]) := by simp (disch := first | omega | (simp only [AH.nn_push, AH.nn_set, AH.nn_kill]; omega) | (simp only [AH.nn_push, AH.nn_set, AH.nn_kill]; done) | fail) only [AH.get_push_eq, AH.get_push_ne, AH.get_set_eq, AH.get_set_ne, AH.push_n, AH.set_n]
    have b13 : ((((g5.push (.cells false [.string ⟨#[]⟩])).set g5.n (.cells false [.string ⟨#[]⟩])).push (.cells false [.string ⟨#[]⟩])).set (g5.n + 1) (.cells false [.string ⟨#[]⟩])).get (g5.n + 1) = some (.cells false [.string ⟨#[]⟩]) := AH.get_set_same _ (by simp only [AH.push_n, AH.set_n]; omega)
    have n7 : ((((g5.push (.cells false [.string ⟨#[]⟩])).set g5.n (.cells false [.string ⟨#[]⟩])).push (.cells false [.string ⟨#[]⟩])).set (g5.n + 1) (.cells false [.string ⟨#[]⟩])).n = g5.n + 2 := by simp only [AH.push_n, AH.set_n]
    generalize ((((g5.push (.cells false [.string ⟨#[]⟩])).set g5.n (.cells false [.string ⟨#[]⟩])).push (.cells false [.string ⟨#[]⟩])).set (g5.n + 1) (.cells false [.string ⟨#[]⟩])) = g7 at *
    refine wp_range (enc := cluE) rfl hseq (fun _ => rfl)
      (fun i T' h1 => ∃ a, Seg T y 0 (L.take i) a ∧ KpP (fun b => b = g5.n ∨ b = g5.n + 1) g7 h1 ∧ h1.get g5.n = some (.cells false [.string (bs (y.data.toList.take (posn y.data.toList a)))]) ∧ h1.get (g5.n + 1) = some (.cells false [.string (bs (encs (ord (clT T) ((runesB y.data.toList).take a))))]))
      (fun ex T' h1 => False)
      (fun c => [(4, .pointer (some ⟨h.n, 0, none⟩)), (5, .pointer (some ⟨g1.n, 0, none⟩)), (12, .pointer (some ⟨g5.n, 0, none⟩)), (13, .pointer (some ⟨g5.n + 1, 0, none⟩)), (14, .pointer (some ⟨28, 0, some 1⟩))]) (fun c => [(28, .cells false c.vs)]) ?_ ?_ ?_ ?_ ?_ ?_ ?_ ?_
    · rintro j T1 T2 h1 h2 ⟨a, f0, f1, f2, f3⟩ hT fm _
      exact ⟨a, f0, f1.fm hT fm, by rw [fm.keep _ (AH.get_lt f2) (fun q => by have := hT _ q; omega) (by omega)]; exact f2, by rw [fm.keep _ (AH.get_lt f3) (fun q => by have := hT _ q; omega) (by omega)]; exact f3⟩
    · exact fun _ _ _ _ _ q _ _ _ => q
    · rintro j T1 h1 ⟨a, f0, f1, _⟩
      have kk := KpP.kp k6 f1 (fun b hb => by omega)
      exact ⟨kk.get d1, kk.get d2, dd.bk.kp kk⟩
    · intro c h1
      unfold cluE
      simp only [List.zip_cons_cons, List.zip_nil_right, List.reverse_cons, List.reverse_nil, List.nil_append, List.cons_append, okFr_cons, okFr_nil, okV_eq, isLoc_ptr, isLoc_func, Bool.not_false, if_true]
      unfold Clu.vs
      (refine W_x trivial ?_; (repeat' first | apply Cj.mk | exact Nl.nl) <;> intros)
      exact ⟨rfl, rfl, rfl, rfl⟩
    · refine ⟨0, by rw [List.take_zero]; exact .nil, KpP.refl _ _, ?_, ?_⟩
      · rw [b12, posn_zero]; rfl
      · rw [b13]; rfl
    · rintro j hj T1 h1 o ⟨a, f0, f1, f2, f3⟩ hT hlt hoo'
      have hcons : L.drop j = L[j] :: L.drop (j + 1) := List.drop_eq_getElem_cons hj
      have htk := take_snoc hj
      have hsp : Seg T y 0 (L.take j ++ L.drop j) (spots y.data.toList).length := by rw [List.take_append_drop]; exact hseg
      obtain ⟨d, q1, q2⟩ := hsp.split
      have hda := q1.eq f0
      subst hda
      rw [hcons] at q2
      generalize L[j] = c at q2 htk ⊢
      obtain ⟨s1, s2, s3⟩ : Seg1 T y d c ∧ 0 < c.k ∧ Seg T y (d + c.k) (L.drop (j + 1)) (spots y.data.toList).length := by cases q2 with | cons s1 s2 s3 => exact ⟨s1, s2, s3⟩
      have hle := s3.le
      obtain ⟨m1, ⟨r, Q, m2, m3, m4⟩, m5⟩ := seg_runes hb s1 s2 hle
      have hnx := f0.snoc s1 s2
      rw [← htk] at hnx
      have hctz : c.t.data.toList.length ≤ y.size := by rw [m5, List.length_take, List.length_drop]; omega
      have hctz' : c.t.size ≤ y.size := hctz
      have hln := AH.get_lt f2
      have hln3 := AH.get_lt f3
      have kk := KpP.kp k6 f1 (fun b hb => by omega)
      have ha1 : binA .add (.string (bs (y.data.toList.take (posn y.data.toList d)))) (.string c.t) = some (.string (bs (y.data.toList.take (posn y.data.toList (d + c.k))))) := by
        have e : bs (y.data.toList.take (posn y.data.toList d)) ++ c.t = bs (y.data.toList.take (posn y.data.toList (d + c.k))) := by
          rw [← bs_of c.t, bs_append, m5]
          have := posn_mono (l := y.data.toList) (show d ≤ d + c.k by omega)
          conv => rhs; rw [show posn y.data.toList (d + c.k) = posn y.data.toList d + (posn y.data.toList (d + c.k) - posn y.data.toList d) by omega, List.take_add]
        rw [str_add (by rw [bs_size, List.length_take]; omega), e]
      have bk5 : BkAt g5 k B S1.s6 T := dd.bk
      have kA := kk.setNew (c := g5.n) (.cells false [.string (bs (y.data.toList.take (posn y.data.toList (d + c.k))))]) (Nat.le_refl _)
      obtain ⟨_, h2, e9, rfl, k9⟩ := marksOrder_spec (bk5.kp kA) c.t (by omega)
      have hoc : orderB T c.t.data.toList = encs (ord (clT T) (r :: Q)) := by unfold orderB; rw [m1, m2]
      have hrM : ∀ x ∈ r :: Q, RuneN x := fun x hx => by rw [← m2] at hx; exact hrr x (List.mem_of_mem_drop (List.mem_of_mem_take hx))
      have hlM : (r :: Q).length ≤ y.size := by rw [← m2, List.length_take, List.length_drop]; omega
      rw [hoc] at e9
      have hsz := encs_lenle (ord (clT T) (r :: Q))
      rw [ord_length] at hsz
      have ha2 : binA .add (.string (bs (encs (ord (clT T) ((runesB y.data.toList).take d))))) (.string (bs (encs (ord (clT T) (r :: Q))))) = some (.string (bs (encs (ord (clT T) ((runesB y.data.toList).take (d + c.k)))))) := by
        have hs3 := encs_lenle (ord (clT T) ((runesB y.data.toList).take d))
        rw [ord_length, List.length_take] at hs3
        rw [str_add (by rw [bs_size, bs_size]; omega), bs_append, ← encs_append, List.take_add, m2, ord_append]
        rcases Nat.eq_zero_or_pos d with hd | hd
        · left; rw [hd]; rfl
        · right; right; right; exact ⟨r, Q, rfl, m4 hd⟩
      have hM1 : 1 ≤ (r :: Q).length := by simp
      obtain ⟨M, hMd⟩ : ∃ M, M = r :: Q := ⟨_, rfl⟩
      have hpr : ∀ j (hj : j + 1 < (ord (clT T) M).length), clT T ((ord (clT T) M)[j]'(by omega)) ≤ clT T ((ord (clT T) M)[j + 1]) := by
        subst hMd
        exact piece_rises (cl := clT T) m3 (class_range hb r).1
      rw [← hMd] at m2 e9 hoc hrM hlM hsz ha2 hM1
      have f3' := k9.get ((AH.get_set_ne (h := h1) (.cells false [.string (bs (y.data.toList.take (posn y.data.toList (d + c.k))))]) (show g5.n + 1 ≠ g5.n by omega)).trans f3)
      have f2' := k9.get (AH.get_set_same (.cells false [.string (bs (y.data.toList.take (posn y.data.toList (d + c.k))))]) hln)
      obtain ⟨_, h4, e10, sx, rfl, fx⟩ := utfRunes_spec (bs (encs (ord (clT T) M))) (by rw [bs_size]; omega) (h2.set (g5.n + 1) (.cells false [.string (bs (encs (ord (clT T) ((runesB y.data.toList).take (d + c.k)))))]))
      rw [bs_l, runesB_of_encs (ord_rune hrM)] at fx
      obtain ⟨_, h5, e11, sm, rfl, fm⟩ := utfRunes_spec c.t (by omega) h4
      rw [m1, m2] at fm
      have b5k := kk.get b55
      have b5A := kA.get b55
      unfold Clu.vs
      have K1 : KpP (fun b => b = g5.n ∨ b = g5.n + 1) h1 h5 := (((((KpP.refl _ h1).set (b := g5.n) _ (.inl rfl)).trans k9.p).set (b := g5.n + 1) _ (.inr rfl)).trans fx.kp.p).trans fm.kp.p
      have kk5 : Kp g5 h5 := KpP.kp kk K1 (fun b hb => by omega)
      have bE5 := kk5.get b55
      have rX := fx.reads.kp fm.kp
      have rM := fm.reads
      have sxl := rX.len
      have sml := rM.len
      rw [ord_length] at sxl
      have ec := class_eq (bk5.kp kk5)
      have fA : (h1.set g5.n (.cells false [.string (bs (y.data.toList.take (posn y.data.toList (d + c.k))))])).n = h1.n := rfl
      have k9n := k9.1
      (refine W_x (Aj f2 (Aj b5k (Aj b5A (Aj ha1 (Aj e9 (Aj f3' (Aj ha2 (Aj e10 e11)))))))) ?_; (repeat' first | apply Cj.mk | exact Nl.nl) <;> intros)
      refine wp_loop (fun w fr lc g => ∃ i : Nat, w = M.length - i ∧ i ≤ M.length ∧ h5 = g ∧ lc = [] ∧ fr = [(4, .pointer (some ⟨h.n, 0, none⟩)), (5, .pointer (some ⟨g1.n, 0, none⟩)), (16, sx.val 1), (17, sm.val 1), (18, .int .i64 i)]) M.length ⟨0, rfl, Nat.zero_le _, rfl, rfl, rfl⟩ ?_
      rintro w fr lc g ⟨i, rfl, hi, rfl, rfl, rfl⟩
      by_cases hil : i < M.length
      · have g0 := fun lc => rd_map (lc := lc) rM hil
        have c1 := count8_eq rX (by rw [ord_length]; omega) (M[i])
        have c2 := count8_eq rM (by omega) (M[i])
        rw [(ord_perm M).count_eq] at c1
        generalize M[i] = z at g0 c1 c2
        unfold rnV at g0
        (refine W_y (Aj sml (Aj g0 (Aj c1 c2))) ?_; (repeat' first | apply Cj.mk | exact Nl.nl) <;> intros)
        all_goals first | exact ⟨_, by omega, i + 1, rfl, by omega, rfl, rfl, rfl⟩ | (exfalso; rename_i q; exact q rfl)
      · (refine W_x sml ?_; (repeat' first | apply Cj.mk | exact Nl.nl) <;> intros)
        refine wp_loop (fun w fr lc g => ∃ i : Nat, w = M.length - i ∧ i + 1 ≤ M.length ∧ h5 = g ∧ lc = [] ∧ fr = [(4, .pointer (some ⟨h.n, 0, none⟩)), (5, .pointer (some ⟨g1.n, 0, none⟩)), (16, sx.val 1), (19, .int .i64 ((i : Int) + 1))]) M.length ⟨0, rfl, hM1, rfl, rfl, rfl⟩ ?_
        rintro w fr lc g ⟨i2, rfl, hi2, rfl, rfl, rfl⟩
        by_cases hil2 : i2 + 1 < M.length
        · have hoL : i2 + 1 < (ord (clT T) M).length := by rw [ord_length]; exact hil2
          have gA := fun lc => rd_map (lc := lc) rX hoL
          have gB := fun lc => rd_map (lc := lc) rX (show i2 < _ by omega)
          have hpr := hpr i2 hoL
          generalize (ord (clT T) M)[i2 + 1] = za at gA hpr
          generalize (ord (clT T) M)[i2]'(by omega) = zb at gB hpr
          have eA := ec (za : Nat)
          have eB := ec (zb : Nat)
          rw [show classI T (za : Nat) = clT T za from rfl] at eA
          rw [show classI T (zb : Nat) = clT T zb from rfl] at eB
          unfold rnV at gA gB
          have hx1 : ((i2 : Int) + 1).toNat = i2 + 1 := by omega
          have hx2 : ((i2 : Int) + 1 - 1).toNat = i2 := by omega
          (refine W_y (Aj sxl (Aj bE5 (Aj hx1 (Aj hx2 (Aj gA (Aj gB (Aj eA eB))))))) ?_; (repeat' first | apply Cj.mk | exact Nl.nl) <;> intros)
          exact ⟨_, by omega, i2 + 1, rfl, by omega, rfl, rfl, rfl⟩
        · (refine W_x sxl ?_; (repeat' first | apply Cj.mk | exact Nl.nl) <;> intros)
          have hne12 : g5.n ≠ g5.n + 1 := by omega
          refine ⟨?_, K1.n, fun b hb => ?_, d + c.k, hnx, f1.trans ⟨by have := K1.n; omega, fun b hb hq => K1.keep b (by have := f1.n; omega) hq⟩, ?_, ?_⟩
          · exact K1.get hoo' (by omega)
          · have := hT b hb
            exact K1.keep b this.2 (by omega)
          · have h6 : (h2.set (g5.n + 1) (.cells false [.string (bs (encs (ord (clT T) ((runesB y.data.toList).take (d + c.k)))))])).get g5.n = some (.cells false [.string (bs (y.data.toList.take (posn y.data.toList (d + c.k))))]) := by
              rw [AH.get_set_ne _ hne12]; exact f2'
            exact (fx.kp.trans fm.kp).get h6
          · exact (fx.kp.trans fm.kp).get (AH.get_set_same _ (AH.get_lt f3'))
    · rintro T1 h1 ⟨a, f0, f1, f2, f3⟩ hT hlt
      rw [List.take_length] at f0
      have ha := f0.eq hseg
      subst ha
      have kk := KpP.kp k6 f1 (fun b hb => by omega)
      have kk0 := (((k0.trans k1).trans k2).trans k25).trans kk
      obtain ⟨_, h2, e9, rfl, k9⟩ := known8_spec (u.kp kk0) (Nat.le_trans hg kk0.1)
      have f4 := (((((k1.trans k2).trans k25).trans kk).trans k9)).get b4
      have hl4 := AH.get_lt f4
      rw [posn_all, List.take_length, bs_of] at f2
      rw [← hrl, List.take_length, ← ho, hO] at f3
      have hd1 : decide (y = y) = true := decide_eq_true rfl
      have hd2 : decide (O = O) = true := decide_eq_true rfl
      (refine W_x (Aj f2 (Aj f3 (Aj hd1 (Aj hd2 (Aj e9 f4))))) ?_; (repeat' first | apply Cj.mk | exact Nl.nl) <;> intros)
      rfl
    · exact fun _ _ _ _ q => q.elim
  · rw [if_neg hb] at q
    subst q
    have kk := k0.trans k1
    have k2 : Kp g1 ((g1.push (.cells false [.pointer none])).set g1.n (.cells false [.pointer none])) := ((Kp.refl g1).push _).setNew _ (Nat.le_refl _)
    obtain ⟨_, g4, e7, rfl, k4⟩ := known8_spec (u.kp (kk.trans k2)) (Nat.le_trans hg (kk.trans k2).1)
    have c6 := ((k1.trans k2).trans k4).get b4
    have hl6 := AH.get_lt c6
    (refine W_x (Aj e1 (Aj e7 c6)) ?_; (repeat' first | apply Cj.mk | exact Nl.nl) <;> intros)
    rfl
end Go.Proofs.YtblmakgjdenpfaaGreatDoor.AM
