/- Cells set one by one, as rows. -/
import Derived.Test.YtmfpkgcphlilmaaInsR
import Derived.Shelf.Spec.SlicesInsertGrow
set_option linter.unusedVariables false
set_option linter.unusedSimpArgs false
namespace Go.Proofs.Ytmfpkgcphlilmaa.AM
open Go

theorem setCell_row {w : World} {b o : Nat} {v : Value} {cs : Array Value} {t : TypeId} {fz : Nat × Nat} (h : w.heap[b]? = some (.cells cs t fz)) :
    (w.setCell ⟨b, o, none⟩ v).heap[b]? = some (.cells (cs.setIfInBounds o v) t fz) ∧ (∀ c, c ≠ b → (w.setCell ⟨b, o, none⟩ v).heap[c]? = w.heap[c]?) ∧ (w.setCell ⟨b, o, none⟩ v).heap.size = w.heap.size := by
  refine ⟨?_, fun c hc => ?_, ?_⟩
  · simp [World.setCell, Array.getElem?_modify, h]
  · simp [World.setCell, Array.getElem?_modify, Ne.symm hc]
  · simp [World.setCell]

theorem setCells_row (b : Nat) {t : TypeId} {fz : Nat × Nat} : ∀ (vs : List Value) (o : Nat) (w : World) (cs : Array Value), w.heap[b]? = some (.cells cs t fz) →
    ∃ cs', (w.setCells b o vs).heap[b]? = some (.cells cs' t fz) ∧ cs'.size = cs.size ∧ (∀ c, c ≠ b → (w.setCells b o vs).heap[c]? = w.heap[c]?) ∧ (w.setCells b o vs).heap.size = w.heap.size ∧
      (∀ m, (m < o ∨ o + vs.length ≤ m) → cs'[m]? = cs[m]?) ∧ (∀ j, o + j < cs.size → j < vs.length → cs'[o + j]? = vs[j]?)
  | [], o, w, cs, h => ⟨cs, h, rfl, fun _ _ => rfl, rfl, fun _ _ => rfl, fun j _ hj => absurd hj (Nat.not_lt_zero _)⟩
  | v :: r, o, w, cs, h => by
    obtain ⟨h1, h2, h3⟩ := setCell_row (o := o) (v := v) h
    obtain ⟨cs', g1, g2, g3, g4, g5, g6⟩ := setCells_row b r (o + 1) _ _ h1
    refine ⟨cs', g1, by rw [g2]; simp, fun c hc => (g3 c hc).trans (h2 c hc), g4.trans h3, fun m hm => ?_, fun j hj hl => ?_⟩
    · simp only [List.length_cons] at hm
      rw [g5 m (by omega), Array.getElem?_setIfInBounds]
      rw [if_neg (by omega)]
    · match j with
      | 0 =>
        rw [g5 _ (by omega), Array.getElem?_setIfInBounds]
        simp only [Nat.add_zero, if_true, List.getElem?_cons_zero]
        rw [if_pos (by simpa using hj)]
      | j + 1 =>
        simp only [List.length_cons] at hl
        have := g6 j (by simp; omega) (by omega)
        rw [show o + 1 + j = o + (j + 1) by omega] at this
        rw [this, List.getElem?_cons_succ]

theorem setCells_out (b : Nat) : ∀ (vs : List Value) (o : Nat) (w : World), (w.setCells b o vs).os = w.os ∧ (w.setCells b o vs).tape = w.tape ∧ (w.setCells b o vs).output = w.output ∧ (w.setCells b o vs).drawn = w.drawn
  | [], _, _ => ⟨rfl, rfl, rfl, rfl⟩
  | v :: r, o, w => setCells_out b r (o + 1) (w.setCell ⟨b, o, none⟩ v)

/-- An array with one thing more. -/
def Laid (cs : Array Value) (a : Nat) (L : List Value) : Prop := ∀ (i : Nat) v, L[i]? = some v → cs[a + i]? = some v

/-- The call's end: a new row, or the old one turned. -/
def NewP (L : List Value) (w : World) (e : Ending) (w' : World) : Prop :=
  ∃ cs t c, e = .returned (.slice (some ⟨w.heap.size, 0, none⟩) L.length c) ∧ w'.heap = w.heap.push (.cells cs t (0, 0)) ∧ L.length ≤ c ∧ c ≤ cs.size ∧ Laid cs 0 L ∧ Out w w'
def SameP (b off c : Nat) (cs : Array Value) (t : TypeId) (fz : Nat × Nat) (L : List Value) (w : World) (e : Ending) (w' : World) : Prop :=
  ∃ cs', e = .returned (.slice (some ⟨b, off, none⟩) L.length c) ∧ w'.heap[b]? = some (.cells cs' t fz) ∧ cs'.size = cs.size ∧ w'.heap.size = w.heap.size ∧ (∀ c', c' ≠ b → w'.heap[c']? = w.heap[c']?) ∧ L.length ≤ c ∧ Laid cs' off L ∧ Out w w'

def insL (L : List Value) (i : Nat) (x : Value) : List Value := L.take i ++ x :: L.drop i
theorem insL_len (L : List Value) {i : Nat} (x : Value) (hi : i ≤ L.length) : (insL L i x).length = L.length + 1 := by
  simp [insL]; omega
theorem insL_get {L : List Value} {i : Nat} {x : Value} (hi : i ≤ L.length) {j : Nat} {v : Value} (h : (insL L i x)[j]? = some v) : (j < i ∧ L[j]? = some v) ∨ (j = i ∧ v = x) ∨ (i < j ∧ j ≤ L.length ∧ L[j - 1]? = some v) := by
  unfold insL at h
  have hl : (L.take i).length = i := by rw [List.length_take]; omega
  rcases Nat.lt_or_ge j i with hj | hj
  · rw [List.getElem?_append_left (by omega), List.getElem?_take_of_lt hj] at h
    exact .inl ⟨hj, h⟩
  · rw [List.getElem?_append_right (by omega), hl] at h
    rcases Nat.lt_or_ge i j with hj2 | hj2
    · rw [show j - i = (j - 1 - i) + 1 by omega, List.getElem?_cons_succ, List.getElem?_drop, show i + (j - 1 - i) = j - 1 by omega] at h
      have := (List.getElem?_eq_some_iff.1 h).1
      exact .inr (.inr ⟨hj2, by omega, h⟩)
    · obtain rfl : j = i := by omega
      rw [Nat.sub_self, List.getElem?_cons_zero] at h
      injection h with h
      exact .inr (.inl ⟨rfl, h.symm⟩)

/-- Behind the last thing. -/
theorem same_last {w : World} {b off c : Nat} {cs : Array Value} {t : TypeId} {fz : Nat × Nat} {L : List Value} {x : Value} (hb : w.heap[b]? = some (.cells cs t fz)) (hL : Laid cs off L) (hc : L.length + 1 ≤ c) (hs : off + c ≤ cs.size) :
    SameP b off c cs t fz (insL L L.length x) w (.returned (.slice (some ⟨b, off, none⟩) (L.length + 1) c)) (w.setCells b (off + L.length) [x]) := by
  obtain ⟨cs', g1, g2, g3, g4, g5, g6⟩ := setCells_row b [x] (off + L.length) w cs hb
  obtain ⟨q1, q2, q3, q4⟩ := setCells_out b [x] (off + L.length) w
  refine ⟨cs', by rw [insL_len L x (Nat.le_refl _)], g1, g2, g4, g3, by rw [insL_len L x (Nat.le_refl _)]; exact hc, fun j v hj => ?_, ⟨q1, q2, q3, Nat.le_of_eq q4.symm⟩⟩
  rcases insL_get (Nat.le_refl _) hj with ⟨h1, h2⟩ | ⟨h1, h2⟩ | ⟨h1, h2, _⟩
  · rw [g5 _ (by omega)]; exact hL j v h2
  · have := g6 0 (by omega) (by simp)
    rw [h1, h2]
    simpa using this
  · omega

/-- In the middle. -/
theorem same_mid {w : World} {b off c i : Nat} {cs : Array Value} {t : TypeId} {fz : Nat × Nat} {L : List Value} {x : Value} (hb : w.heap[b]? = some (.cells cs t fz)) (hL : Laid cs off L) (hi : i < L.length) (hc : L.length + 1 ≤ c) (hs : off + c ≤ cs.size) :
    SameP b off c cs t fz (insL L i x) w (.returned (.slice (some ⟨b, off, none⟩) (L.length + 1) c)) ((w.drew.setCells b (off + (i + 1)) (L.drop i)).setCells b (off + i) [x]) := by
  obtain ⟨c1, a1, a2, a3, a4, a5, a6⟩ := setCells_row b (L.drop i) (off + (i + 1)) w.drew cs hb
  obtain ⟨p1, p2, p3, p4⟩ := setCells_out b (L.drop i) (off + (i + 1)) w.drew
  obtain ⟨cs', g1, g2, g3, g4, g5, g6⟩ := setCells_row b [x] (off + i) _ c1 a1
  obtain ⟨q1, q2, q3, q4⟩ := setCells_out b [x] (off + i) (w.drew.setCells b (off + (i + 1)) (L.drop i))
  have hl := insL_len L x (Nat.le_of_lt hi)
  refine ⟨cs', by rw [hl], g1, g2.trans a2, g4.trans a4, fun c' hc' => (g3 c' hc').trans (a3 c' hc'), by rw [hl]; exact hc, fun j v hj => ?_, ⟨q1.trans p1, q2.trans p2, q3.trans p3, ?_⟩⟩
  · rcases insL_get (Nat.le_of_lt hi) hj with ⟨h1, h2⟩ | ⟨h1, h2⟩ | ⟨h1, h3, h2⟩
    · rw [g5 _ (by omega), a5 _ (by omega)]; exact hL j v h2
    · have := g6 0 (by omega) (by simp)
      rw [h1, h2]
      simpa using this
    · rw [g5 _ (by simp; omega)]
      have := a6 (j - (i + 1)) (by omega) (by rw [List.length_drop]; omega)
      rw [List.getElem?_drop, show off + (i + 1) + (j - (i + 1)) = off + j by omega, show i + (j - (i + 1)) = j - 1 by omega] at this
      rw [this, h2]
  · rw [q4, p4]
    exact Nat.le_succ _

/-- A new row, behind the last thing. -/
theorem new_more {w : World} {L : List Value} {x : Value} {G : Nat} (Z : Array Value) (t : TypeId) (hG : L.length + 1 ≤ G) (hZ : G ≤ L.length + 1 + Z.size) :
    NewP (insL L L.length x) w (.returned (.slice (some ⟨w.heap.size, 0, none⟩) (L.length + 1) G)) (w.drew.alloc (.cells ((L ++ [x]).toArray ++ Z) t)) := by
  have hl := insL_len L x (Nat.le_refl _)
  have he : insL L L.length x = L ++ [x] := by simp [insL]
  refine ⟨_, t, G, by rw [hl], rfl, by rw [hl]; exact hG, by simp; omega, fun j v hj => ?_, ⟨rfl, rfl, rfl, Nat.le_succ _⟩⟩
  rw [he] at hj
  have := (List.getElem?_eq_some_iff.1 hj).1
  rw [Nat.zero_add, Array.getElem?_append_left (by simpa using this)]
  simpa using hj

/-- A new row, in the middle. -/
theorem new_mid {w : World} {L : List Value} {x : Value} {i G : Nat} (R : Array Value) (t : TypeId) (hi : i < L.length) (hG : L.length + 1 ≤ G) (hR : G ≤ R.size) (hL : ∀ j, j < i → R[j]? = L[j]?) :
    NewP (insL L i x) w (.returned (.slice (some ⟨w.heap.size, 0, none⟩) (L.length + 1) G)) ((((w.alloc (.cells R t)).drew.setCells w.heap.size i [x]).drew).setCells w.heap.size (i + 1) (L.drop i)) := by
  have h0 : ((w.alloc (.cells R t)).drew).heap[w.heap.size]? = some (.cells R t (0, 0)) := by
    show (w.heap.push _)[w.heap.size]? = _
    rw [Array.getElem?_push_size]
  have hs0 : ((w.alloc (.cells R t)).drew).heap.size = w.heap.size + 1 := by
    show (w.heap.push _).size = _
    rw [Array.size_push]
  have ho0 : ∀ c, c < w.heap.size → ((w.alloc (.cells R t)).drew).heap[c]? = w.heap[c]? := fun c hc => by
    show (w.heap.push _)[c]? = _
    rw [Array.getElem?_push_lt hc, Array.getElem?_eq_getElem hc]
  obtain ⟨c1, a1, a2, a3, a4, a5, a6⟩ := setCells_row w.heap.size [x] i _ R h0
  obtain ⟨p1, p2, p3, p4⟩ := setCells_out w.heap.size [x] i ((w.alloc (.cells R t)).drew)
  obtain ⟨cs', g1, g2, g3, g4, g5, g6⟩ := setCells_row w.heap.size (L.drop i) (i + 1) (((w.alloc (.cells R t)).drew.setCells w.heap.size i [x]).drew) c1 a1
  obtain ⟨q1, q2, q3, q4⟩ := setCells_out w.heap.size (L.drop i) (i + 1) (((w.alloc (.cells R t)).drew.setCells w.heap.size i [x]).drew)
  have hl := insL_len L x (Nat.le_of_lt hi)
  refine ⟨cs', t, G, by rw [hl], ?_, by rw [hl]; exact hG, by rw [g2, a2]; exact hR, fun j v hj => ?_, ⟨q1.trans p1, q2.trans p2, q3.trans p3, ?_⟩⟩
  · apply Array.ext_getElem?
    intro c
    rcases Nat.lt_trichotomy c w.heap.size with hc | hc | hc
    · rw [g3 c (by omega), Array.getElem?_push_lt hc]
      exact (a3 c (by omega)).trans ((ho0 c hc).trans (Array.getElem?_eq_getElem hc))
    · subst hc
      rw [g1]
      simp
    · rw [Array.getElem?_eq_none (by rw [g4]; show (World.setCells _ _ _ _).heap.size ≤ c; rw [a4, hs0]; omega), Array.getElem?_eq_none (by simp; omega)]
  · rw [Nat.zero_add]
    rcases insL_get (Nat.le_of_lt hi) hj with ⟨h1, h2⟩ | ⟨h1, h2⟩ | ⟨h1, h3, h2⟩
    · rw [g5 _ (by omega), a5 _ (by omega), hL j h1]; exact h2
    · rw [g5 _ (by omega), h1, h2]
      have := a6 0 (by omega) (by simp)
      simpa using this
    · have := g6 (j - (i + 1)) (by omega) (by rw [List.length_drop]; omega)
      rw [List.getElem?_drop, show i + 1 + (j - (i + 1)) = j by omega, show i + (j - (i + 1)) = j - 1 by omega] at this
      rw [this, h2]
  · rw [q4]
    show w.drawn ≤ (World.setCells _ _ _ _).drawn + 1
    rw [p4]
    show w.drawn ≤ w.drawn + 1 + 1
    omega

end Go.Proofs.Ytmfpkgcphlilmaa.AM
