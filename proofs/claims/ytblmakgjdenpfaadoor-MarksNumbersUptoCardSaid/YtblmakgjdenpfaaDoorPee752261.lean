/- Parts of proofs: lemmas, joined. -/
import Derived.Test.YtblmakgjdenpfaaDoorPe33d9d09
set_option linter.unusedVariables false
set_option linter.unusedSimpArgs false
set_option linter.unusedSectionVars false
namespace Go.Proofs.YtblmakgjdenpfaaDoor.AM
open Go
variable {α : Type} [Inhabited α] {q : Pl} {enc : α → List Value} {val : α → Value} {cv : Value} {key : α → Int} {idx : α → Int}
def Bl (bs : Nat) : List (List α) → Prop
  | [] => True
  | A :: r => 0 < A.length ∧ A.length ≤ bs ∧ (r ≠ [] → A.length = bs) ∧ Bl bs r
def Far (idx : α → Int) (A B : List α) : Prop := ∀ x ∈ A, ∀ y ∈ B, idx x < idx y
theorem Bl.snoc {bs : Nat} : ∀ {L : List (List α)}, (∀ A ∈ L, A.length = bs) → 0 < bs → ∀ {R : List (List α)}, Bl bs R → Bl bs (L ++ R)
  | [], _, _, _, h => h
  | A :: r, h, hb, R, hR => by
    have h1 := h A (by simp)
    exact ⟨by omega, by omega, fun _ => h1, Bl.snoc (fun B hB => h B (List.mem_cons_of_mem _ hB)) hb hR⟩
set_option maxHeartbeats 4000000 in
theorem stable_eq (hc : CmpS q enc val cv key) {O : List α} {n : Nat} (hn : O.length = n) (hn2 : n < 1000000000) (hO : O.Pairwise (fun x y => idx x < idx y)) :
    ∃ Z : List α, Z.Perm O ∧ Z.Pairwise (ltK key idx) ∧ callO PX 80 [(q.s n).val 1, .int .i64 n, cv] (q.H enc O) = some (.tuple #[], q.H enc Z) := by
  have hlen : (q.s n).len = n := rfl
  have hset := hc.isF.set
  have hlc1 := hc.isF.lc1
  have hloc := hc.isF.loc
  suffices hw : WpC PX 80 [(q.s n).val 1, .int .i64 n, cv] (q.H enc O) fun v h1 => v = .tuple #[] ∧ ∃ Z : List α, Z.Perm O ∧ Z.Pairwise (ltK key idx) ∧ h1 = q.H enc Z by
    obtain ⟨v, h1, e, rfl, Z, z1, z2, rfl⟩ := hw
    exact ⟨Z, z1, z2, e⟩
  refine wpc_fn (px_ext rfl) (px_fn fn_slices_stableCmpFunc_rune) rfl ?_
  unfold LF_slices_stableCmpFunc_rune
  simp only [argFr]
  (refine W_g (Aj hset (Aj hlc1 hloc)) ?_; (repeat' first | apply Cj.mk | exact Nl.nl) <;> intros)
  refine wp_loop (fun w fr lc h1 => ∃ (L : List (List α)) (R : List α) (a b : Int), w = R.length ∧ (∀ A ∈ L, A.length = 20) ∧ (∀ A ∈ L, A.Pairwise (ltK key idx)) ∧ L.Pairwise (Far idx) ∧ (∀ A ∈ L, Far idx A R) ∧ R.Pairwise (fun x y => idx x < idx y) ∧ (L.flatten ++ R).Perm O ∧
      a = L.flatten.length ∧ b = a + 20 ∧ fr = [(0, (q.s n).val 1), (1, .int .i64 n), (2, cv), (6, .int .i64 20), (7, .int .i64 a), (8, .int .i64 b)] ∧ lc = [] ∧ h1 = q.H enc (L.flatten ++ R)) O.length
    ⟨[], O, 0, 20, rfl, by simp, by simp, List.Pairwise.nil, by simp, hO, .refl _, rfl, rfl, rfl, rfl, rfl⟩ ?_
  rintro w fr lc h1 ⟨L, R, a, b, rfl, hL1, hL2, hL3, hL4, hR, hP, ha, hb, rfl, rfl, rfl⟩
  have hl := hP.length_eq
  rw [hn, List.length_append] at hl
  by_cases hbn : b ≤ n
  · have hR20 : 20 ≤ R.length := by omega
    have hRe : R = R.take 20 ++ R.drop 20 := (List.take_append_drop 20 R).symm
    obtain ⟨Z, z1, z2, z3⟩ := insertion_eq (idx := idx) hc (P := L.flatten) (X := R.take 20) (S := R.drop 20) (n := n) (a := a) (b := b) (by simp only [List.length_append, List.length_take, List.length_drop]; omega) (by omega) ha (by rw [List.length_take]; omega) (hR.sublist (List.take_sublist _ _))
    have hDe : L.flatten ++ R = L.flatten ++ R.take 20 ++ R.drop 20 := by rw [List.append_assoc, ← hRe]
    have hZl : Z.length = 20 := by rw [z1.length_eq, List.length_take]; omega
    rw [← hDe] at z3
    have hmz : ∀ x ∈ Z, x ∈ R := fun x hx => List.mem_of_mem_take (z1.mem_iff.1 hx)
    have hpw := List.pairwise_append.1 (hRe ▸ hR : (R.take 20 ++ R.drop 20).Pairwise (fun x y => idx x < idx y))
    (refine W_g (Aj hset (Aj hlc1 (Aj hloc z3))) ?_; (repeat' first | apply Cj.mk | exact Nl.nl) <;> intros)
    refine ⟨(R.drop 20).length, by rw [List.length_drop]; omega, L ++ [Z], R.drop 20, b, b + 20, rfl, fun A hA => ?_, fun A hA => ?_, List.pairwise_append.2 ⟨hL3, by simp, fun A hA B hB x hx y hy => ?_⟩, fun A hA x hx y hy => ?_, hpw.2.1, ?_, ?_, rfl, rfl, rfl, by simp⟩
    · rcases List.mem_append.1 hA with hA | hA
      · exact hL1 A hA
      · rw [List.mem_singleton.1 hA]; exact hZl
    · rcases List.mem_append.1 hA with hA | hA
      · exact hL2 A hA
      · rw [List.mem_singleton.1 hA]; exact z2
    · rw [List.mem_singleton.1 hB] at hy
      exact hL4 A hA x hx y (hmz y hy)
    · rcases List.mem_append.1 hA with hA | hA
      · exact hL4 A hA x hx y (List.mem_of_mem_drop hy)
      · rw [List.mem_singleton.1 hA] at hx
        exact hpw.2.2 x (z1.mem_iff.1 hx) y hy
    · refine List.Perm.trans ?_ hP
      rw [hDe]
      simp only [List.flatten_append, List.flatten_cons, List.flatten_nil, List.append_nil]
      exact List.Perm.append_right _ (List.Perm.append_left _ z1)
    · simp only [List.flatten_append, List.flatten_cons, List.flatten_nil, List.append_nil, List.length_append]; omega
  · obtain ⟨Z, z1, z2, z3⟩ := insertion_eq (idx := idx) hc (P := L.flatten) (X := R) (S := []) (n := n) (a := a) (b := n) (by simp only [List.length_append, List.length_nil]; omega) (by omega) ha (by omega) hR
    rw [List.append_nil, List.append_nil] at z3
    have hZl := z1.length_eq
    (refine W_g (Aj hset (Aj hlc1 (Aj hloc z3))) ?_; (repeat' first | apply Cj.mk | exact Nl.nl) <;> intros)
    refine wp_loop (fun w fr lc h1 => ∃ (bs : Nat) (L : List (List α)), w = n - bs ∧ 20 ≤ bs ∧ bs ≤ 2 * n + 20 ∧ Bl bs L ∧ (∀ A ∈ L, A.Pairwise (ltK key idx)) ∧ L.Pairwise (Far idx) ∧ L.flatten.Perm O ∧
        fr = [(0, (q.s n).val 1), (1, .int .i64 n), (2, cv), (6, .int .i64 bs)] ∧ lc = [] ∧ h1 = q.H enc L.flatten) (n - 20) ?_ ?_
    · by_cases hZ0 : Z = []
      · refine ⟨20, L, rfl, by omega, by omega, ?_, hL2, hL3, ?_, rfl, rfl, by rw [hZ0, List.append_nil]⟩
        · have := Bl.snoc (bs := 20) hL1 (by omega) (R := []) trivial
          rwa [List.append_nil] at this
        · refine List.Perm.trans ?_ hP
          rw [List.eq_nil_of_length_eq_zero (l := R) (by rw [← hZl, hZ0]; rfl), List.append_nil]
      · refine ⟨20, L ++ [Z], rfl, by omega, by omega, Bl.snoc hL1 (by omega) ⟨List.length_pos_iff.2 hZ0, by omega, fun h => absurd rfl h, trivial⟩, fun A hA => ?_, List.pairwise_append.2 ⟨hL3, by simp, fun A hA B hB x hx y hy => ?_⟩, ?_, rfl, rfl, by simp⟩
        · rcases List.mem_append.1 hA with hA | hA
          · exact hL2 A hA
          · rw [List.mem_singleton.1 hA]; exact z2
        · rw [List.mem_singleton.1 hB] at hy
          exact hL4 A hA x hx y (z1.mem_iff.1 hy)
        · refine List.Perm.trans ?_ hP
          simp only [List.flatten_append, List.flatten_cons, List.flatten_nil, List.append_nil]
          exact List.Perm.append_left _ z1
    clear hL1 hL2 hL3 hL4 hR hP ha hb hl hbn z1 z2 z3 hZl
    rintro w fr lc h1 ⟨bs, L, rfl, hbs, hbs2, hBl, hLs, hLf, hP, rfl, rfl, rfl⟩
    by_cases hbn : bs < n
    rotate_left
    · (refine W_g (Aj hset (Aj hlc1 hloc)) ?_; (repeat' first | apply Cj.mk | exact Nl.nl) <;> intros)
      refine ⟨rfl, L.flatten, hP, ?_, rfl⟩
      have hl := hP.length_eq
      match L, hBl, hLs, hl with
      | [], _, _, _ => simp
      | [A], _, h, _ => simpa using h A (by simp)
      | A :: B :: r, hBl, _, hl =>
        obtain ⟨_, _, b3, b4, _⟩ := hBl
        have := b3 (by simp)
        simp only [List.flatten_cons, List.length_append] at hl
        omega
    · (refine W_g (Aj hset (Aj hlc1 hloc)) ?_; (repeat' first | apply Cj.mk | exact Nl.nl) <;> intros)
      refine wp_loop (fun w fr lc h1 => ∃ (M : List (List α)) (R : List (List α)) (a b : Int), w = R.length ∧ (∀ A ∈ M, A.length = 2 * bs) ∧ Bl bs R ∧ (∀ A ∈ M ++ R, A.Pairwise (ltK key idx)) ∧ (M ++ R).Pairwise (Far idx) ∧ (M ++ R).flatten.Perm O ∧ a = M.flatten.length ∧ b = a + 2 * bs ∧
          fr = [(0, (q.s n).val 1), (1, .int .i64 n), (2, cv), (6, .int .i64 bs), (7, .int .i64 a), (8, .int .i64 b)] ∧ lc = [] ∧ h1 = q.H enc (M ++ R).flatten) L.length
        ⟨[], L, 0, 2 * bs, rfl, by simp, hBl, hLs, hLf, hP, rfl, by omega, rfl, rfl, rfl⟩ ?_
      clear hBl hLs hLf hP
      rintro w fr lc h1 ⟨M, R, a, b, rfl, hM, hBl, hMs, hMf, hP, ha, hb, rfl, rfl, rfl⟩
      have hl := hP.length_eq
      rw [hn, List.flatten_append, List.length_append] at hl
      have hmerge : ∀ A B R', R = A :: B :: R' → ∃ Z : List α, Z.length = A.length + B.length ∧ callO PX 122 [(q.s n).val 1, .int .i64 a, .int .i64 (a + A.length), .int .i64 (a + A.length + B.length), cv] (q.H enc (M ++ R).flatten) = some (.tuple #[], q.H enc (M ++ (Z :: R')).flatten) ∧
          (∀ A ∈ M ++ (Z :: R'), A.Pairwise (ltK key idx)) ∧ (M ++ (Z :: R')).Pairwise (Far idx) ∧ (M ++ (Z :: R')).flatten.Perm O := by
        rintro A B R' rfl
        obtain ⟨b1, b2, b3, b4, b5, b6, b7⟩ := hBl
        have hp := List.pairwise_append.1 hMf
        have hp2 := List.pairwise_cons.1 hp.2.1
        have hp3 := List.pairwise_cons.1 hp2.2
        have hAB : Far idx A B := hp2.1 B (by simp)
        simp only [List.flatten_cons, List.length_append] at hl
        obtain ⟨Z, z1, z2, z3⟩ := merge_eq (n := n) hc (by omega) _ M.flatten A B R'.flatten a (a + A.length) (a + A.length + B.length) (Nat.le_refl _) (by simp only [List.length_append]; omega) ha (by omega) (by omega) b1 b4 (hMs A (by simp)) (hMs B (by simp)) hAB
        have e1 : (M ++ A :: B :: R').flatten = M.flatten ++ A ++ B ++ R'.flatten := by simp
        have e2 : (M ++ Z :: R').flatten = M.flatten ++ Z ++ R'.flatten := by simp
        have hmem : ∀ x ∈ Z, x ∈ A ∨ x ∈ B := fun x hx => by have := z1.mem_iff.1 hx; simpa using this
        refine ⟨Z, by rw [z1.length_eq, List.length_append], by rw [e1, e2]; exact z3, fun C hC => ?_, List.pairwise_append.2 ⟨hp.1, List.pairwise_cons.2 ⟨fun C hC x hx y hy => ?_, hp3.2⟩, fun C hC E hE x hx y hy => ?_⟩, ?_⟩
        · rcases List.mem_append.1 hC with hC | hC
          · exact hMs C (by simp [hC])
          · rcases List.mem_cons.1 hC with rfl | hC
            · exact z2
            · exact hMs C (by simp [hC])
        · rcases hmem x hx with h | h
          · exact hp2.1 C (by simp [hC]) x h y hy
          · exact hp3.1 C hC x h y hy
        · rcases List.mem_cons.1 hE with rfl | hE
          · rcases hmem y hy with h | h
            · exact hp.2.2 C hC A (by simp) x hx y h
            · exact hp.2.2 C hC B (by simp) x hx y h
          · exact hp.2.2 C hC E (by simp [hE]) x hx y hy
        · refine List.Perm.trans ?_ hP
          rw [e1, e2]
          refine List.Perm.append_right _ ?_
          rw [List.append_assoc]
          exact List.Perm.append_left _ z1
      by_cases hbn2 : b ≤ n
      · match R, hBl, hl, hmerge with
        | [], _, hl, _ => simp only [List.flatten_nil, List.length_nil] at hl; omega
        | [A], hBl, hl, _ =>
          have := hBl.2.1
          simp only [List.flatten_cons, List.flatten_nil, List.append_nil] at hl; omega
        | A :: B :: R', hBl, hl, hmerge =>
          obtain ⟨b1, b2, b3, b4, b5, b6, b7⟩ := hBl
          obtain ⟨Z, z0, z1, z2, z3, z4⟩ := hmerge A B R' rfl
          have hA := b3 (by simp)
          simp only [List.flatten_cons, List.length_append] at hl
          have hB : B.length = bs := by
            by_cases hR' : R' = []
            · subst hR'; simp only [List.flatten_nil, List.length_nil] at hl; omega
            · exact b6 hR'
          rw [hA, show a + (bs : Int) + B.length = b by omega] at z1
          (refine W_g (Aj hset (Aj hlc1 (Aj hloc z1))) ?_; (repeat' first | apply Cj.mk | exact Nl.nl) <;> intros)
          refine ⟨R'.length, by simp; omega, M ++ [Z], R', b, b + 2 * bs, rfl, fun C hC => ?_, b7, by simpa using z2, by simpa using z3, by simpa using z4, by simp only [List.flatten_append, List.flatten_cons, List.flatten_nil, List.append_nil, List.length_append]; omega, rfl, rfl, rfl, by simp⟩
          rcases List.mem_append.1 hC with hC | hC
          · exact hM C hC
          · rw [List.mem_singleton.1 hC]; omega
      · match R, hBl, hl, hmerge, hMs, hMf, hP with
        | [], _, hl, _, hMs, hMf, hP =>
          simp only [List.flatten_nil, List.length_nil] at hl
          (refine W_g (Aj hset (Aj hlc1 hloc)) ?_; (repeat' first | apply Cj.mk | exact Nl.nl) <;> intros)
          refine ⟨n - 2 * bs, by omega, 2 * bs, M, rfl, by omega, by omega, ?_, by simpa using hMs, by simpa using hMf, by simpa using hP, by simp only [Int.natCast_mul]; congr 6; omega, rfl, by simp⟩
          have := Bl.snoc (bs := 2 * bs) hM (by omega) (R := []) trivial
          rwa [List.append_nil] at this
        | [A], hBl, hl, _, hMs, hMf, hP =>
          have b1 := hBl.1
          have b2 := hBl.2.1
          simp only [List.flatten_cons, List.flatten_nil, List.append_nil] at hl
          (refine W_g (Aj hset (Aj hlc1 hloc)) ?_; (repeat' first | apply Cj.mk | exact Nl.nl) <;> intros)
          exact ⟨n - 2 * bs, by omega, 2 * bs, M ++ [A], rfl, by omega, by omega, Bl.snoc hM (by omega) ⟨b1, by omega, fun h => absurd rfl h, trivial⟩, hMs, hMf, hP, by simp only [Int.natCast_mul]; congr 6; omega, rfl, rfl⟩
        | [A, B], hBl, hl, hmerge, hMs, hMf, hP =>
          obtain ⟨b1, b2, b3, b4, b5, b6, b7⟩ := hBl
          obtain ⟨Z, z0, z1, z2, z3, z4⟩ := hmerge A B [] rfl
          have hA := b3 (by simp)
          simp only [List.flatten_cons, List.flatten_nil, List.append_nil, List.length_append] at hl
          rw [hA, show a + (bs : Int) + B.length = n by omega] at z1
          (refine W_g (Aj hset (Aj hlc1 (Aj hloc z1))) ?_; (repeat' first | apply Cj.mk | exact Nl.nl) <;> intros)
          exact ⟨n - 2 * bs, by omega, 2 * bs, M ++ [Z], rfl, by omega, by omega, Bl.snoc hM (by omega) ⟨by omega, by omega, fun h => absurd rfl h, trivial⟩, z2, z3, z4, by simp only [Int.natCast_mul]; congr 6; omega, rfl, rfl⟩
        | A :: B :: C :: R', hBl, hl, _, _, _, _ =>
          obtain ⟨b1, b2, b3, b4, b5, b6, b7⟩ := hBl
          have hA := b3 (by simp)
          have hB := b6 (by simp)
          simp only [List.flatten_cons, List.length_append] at hl
          omega
theorem sortStable_eq (hc : CmpS q enc val cv key) {O : List α} {n : Nat} (hn : O.length = n) (hn2 : n < 1000000000) (hO : O.Pairwise (fun x y => idx x < idx y)) :
    ∃ Z : List α, Z.Perm O ∧ Z.Pairwise (ltK key idx) ∧ callO PX 47 [(q.s n).val 1, cv] (q.H enc O) = some (.tuple #[], q.H enc Z) := by
  have hlen : (q.s n).len = n := rfl
  have hset := hc.isF.set
  have hlc1 := hc.isF.lc1
  have hloc := hc.isF.loc
  obtain ⟨Z, z1, z2, z3⟩ := stable_eq hc hn hn2 hO
  refine ⟨Z, z1, z2, ?_⟩
  apply WpC.eqn
  refine wpc_fn (px_ext rfl) (px_fn fn_slices_SortStableFunc_rune_rune) rfl ?_
  unfold LF_slices_SortStableFunc_rune_rune
  simp only [argFr]
  (refine W_g (Aj hset (Aj hlc1 (Aj hloc (Aj hlen z3)))) ?_; (repeat' first | apply Cj.mk | exact Nl.nl) <;> intros)
  exact ⟨rfl, rfl⟩
end Go.Proofs.YtblmakgjdenpfaaDoor.AM
namespace Go.Proofs.YtblmakgjdenpfaaDoor.AM
open Go
section
variable {p : Prg} {fr : Fr} {lc : Lc} {h : AH} {Q : Post}
theorem wp_spotsG {β : Type} {n : Nat} {keep : List Nat} {sts : List St} {b : LCode} {L : Nat → Lc} (F : Nat → Fr) (K : Nat) (s : ByteArray) (l : Bytes) (J : Nat → AH → Prop) (g : Nat → Nat × Nat → Option β) (hl : l = s.data.toList)
    (hf0 : AgF (F 0) fr) (hk : ∀ i, okS keep ((F i).map (·.1)) n sts = true) (hL : ∀ n, setL lc K (.siter s n) = L n) (h0 : lc = L 0) (hJ : J 0 h)
    (more : ∀ i (hi : i < (spots l).length) h, J i h → (∀ w, g i (spots l)[i] = some w → scanL (spots l) g = some w) →
      WpS p keep sts (F i) (L (posn l i)) h (thenQ p b (loopQ (fun fr' lc' h' => g i (spots l)[i] = none ∧ AgF (F (i + 1)) fr' ∧ lc' = L (posn l (i + 1)) ∧ J (i + 1) h') Q) .norm))
    (fin : ∀ h, J (spots l).length h → scanL (spots l) g = none → WpS p keep sts (F (spots l).length) (L l.length) h (thenQ p b (loopQ (fun _ _ _ => False) Q) .norm)) : Wp p (.loop (.seq (R n keep sts) b)) fr lc h Q := by
  refine wp_scanL (spots l) g (fun i fr lc' h => AgF (F i) fr ∧ lc' = L (posn l i) ∧ J i h) ⟨hf0, by rw [posn_zero]; exact h0, hJ⟩ ?_ ?_
  · rintro fr _ h ⟨ha, rfl, hj⟩ fn
    rw [posn_all]
    exact wp_seq (wp_RA ha (hk _) (fin h hj fn))
  · rintro i hi fr _ h ⟨ha, rfl, hj⟩ hit
    refine wp_mono (wp_seq (wp_RA ha (hk _) (more i hi h hj hit))) fun ex fr lc h hq => ?_
    have hq := hq.out
    cases ex with
    | norm => exact ⟨⟨hq.1, hq.2.1, hq.2.2.1, hq.2.2.2⟩⟩
    | exit j => exact ⟨hq⟩
    | ret => exact ⟨hq⟩
end
abbrev clT (T : Tab) (c : Nat) : Int := classI T c
def prevC (T : Tab) (l : Bytes) : Nat → Int
  | 0 => 0
  | i + 1 => clT T ((spots l).getD i (0, 0)).1
theorem prevC_succ {T : Tab} {l : Bytes} {i : Nat} (hi : i < (spots l).length) : prevC T l (i + 1) = clT T ((spots l)[i]).1 := by
  simp only [prevC, List.getD_eq_getElem?_getD, List.getElem?_eq_getElem hi, Option.getD_some]
def firstM (T : Tab) (l : Bytes) : Option (Nat × Nat) := scanL (spots l) fun i x => if 0 < clT T x.1 ∧ clT T x.1 < prevC T l i then some (posn l i, i) else none
def plV : Option (Nat × Nat) → Value
  | some (a, b) => .tuple (List.toArray [.agg (List.toArray [.int .i64 a, .int .i64 b]), .bool true])
  | none => .tuple (List.toArray [.agg (List.toArray [.int .i64 0, .int .i64 0]), .bool false])
theorem marksFirst_eq {h : AH} {k B : Nat} {s6 : Sl} {T : Tab} (bk : BkAt h k B s6 T) (s : ByteArray) (hs : s.size ≤ 1048576) : callO PX 26 [.pointer (some ⟨k, 0, none⟩), .string s] h = some (plV (firstM T s.data.toList), h) := by
  have e1 := class_eq bk
  obtain ⟨l, hl⟩ : ∃ l, l = s.data.toList := ⟨_, rfl⟩
  have hz : l.length = s.size := by rw [hl]; rfl
  have hn := spots_len l
  rw [← hl]
  apply WpC.eqn
  refine wpc_fn (px_ext rfl) (px_fn fn_marks_First) rfl ?_
  unfold LF_marks_First
  simp only [argFr]
  unfold firstM
  (refine W_x @ev_rngS ?_; (repeat' first | apply Cj.mk | exact Nl.nl) <;> intros)
  refine wp_spotsG (fun i => [(0, .pointer (some ⟨k, 0, none⟩)), (4, .pointer (some ⟨8, 0, some 1⟩)), (6, .int .i64 (prevC T l i)), (7, .int .i64 i), (15, .pointer (some ⟨30, 0, some 1⟩))]) 30 s l (fun _ h' => h' = h)
    (fun i x => if 0 < clT T x.1 ∧ clT T x.1 < prevC T l i then some (posn l i, i) else none) hl (by repeat' first | exact True.intro | refine And.intro rfl ?_) (fun _ => rfl) (by intro n; simp only [setL, push_cast, Nat.reduceEqDiff, ↓reduceIte, reduceCtorEq, Nat.reduceAdd, Nat.reduceMul, Nat.reduceLeDiff]; rfl) rfl rfl (fun i hi h1 hh hit => ?_) fun h1 hh fin => ?_
  · subst hh
    (refine W_x trivial ?_; (repeat' first | apply Cj.mk | exact Nl.nl) <;> intros)
    refine wo_next hl rfl hi ?_
    have hp := prevC_succ (T := T) hi
    have hpn : posn l i ≤ 1048576 := by have := (posn_lt hi).1; omega
    generalize (spots l)[i] = y at hit hp
    have e2 := e1 (y.1 : Nat)
    rw [show classI T (y.1 : Nat) = clT T y.1 from rfl] at e2
    (refine W_x e2 ?_; (repeat' first | apply Cj.mk | exact Nl.nl) <;> intros)
    · rw [hit _ (if_pos (by omega))]
      exact ⟨rfl, rfl⟩
    all_goals exact ⟨if_neg (by omega), by rw [hp]; exact (by repeat' first | exact True.intro | refine And.intro rfl ?_), rfl, rfl⟩
  · subst hh
    (refine W_x trivial ?_; (repeat' first | apply Cj.mk | exact Nl.nl) <;> intros)
    refine wo_nextE hl rfl ?_
    (refine W_x trivial ?_; (repeat' first | apply Cj.mk | exact Nl.nl) <;> intros)
    rw [fin]
    exact ⟨rfl, rfl⟩
theorem ref8First_eq {S : TS} {T : Tab} {h : AH} (t : TabAt h S T) (s : ByteArray) (hs : s.size ≤ 1048576) : callO PX 27 [.agg S.vs.toArray, .string s] h = some (plV (firstM T s.data.toList), h) := by
  have e1 := class6_eq t
  obtain ⟨l, hl⟩ : ∃ l, l = s.data.toList := ⟨_, rfl⟩
  have hz : l.length = s.size := by rw [hl]; rfl
  have hn := spots_len l
  rw [← hl]
  apply WpC.eqn
  refine wpc_fn (px_ext rfl) (px_fn fn_guiseref8_First) rfl ?_
  unfold LF_guiseref8_First
  simp only [argFr]
  unfold firstM
  unfold TS.vs at e1 ⊢
  (refine W_x @ev_rngS ?_; (repeat' first | apply Cj.mk | exact Nl.nl) <;> intros)
  refine wp_spotsG (fun i => [(2, .pointer (some ⟨4, 0, some 1⟩)), (4, .pointer (some ⟨8, 0, some 1⟩)), (6, .int .i64 (prevC T l i)), (7, .int .i64 i), (12, .pointer (some ⟨24, 0, some 1⟩))]) 24 s l (fun _ h' => h' = h)
    (fun i x => if 0 < clT T x.1 ∧ clT T x.1 < prevC T l i then some (posn l i, i) else none) hl (by repeat' first | exact True.intro | refine And.intro rfl ?_) (fun _ => rfl) (by intro n; simp only [setL, push_cast, Nat.reduceEqDiff, ↓reduceIte, reduceCtorEq, Nat.reduceAdd, Nat.reduceMul, Nat.reduceLeDiff]; rfl) rfl rfl (fun i hi h1 hh hit => ?_) fun h1 hh fin => ?_
  · subst hh
    (refine W_x trivial ?_; (repeat' first | apply Cj.mk | exact Nl.nl) <;> intros)
    refine wo_next hl rfl hi ?_
    have hp := prevC_succ (T := T) hi
    have hpn : posn l i ≤ 1048576 := by have := (posn_lt hi).1; omega
    generalize (spots l)[i] = y at hit hp
    have e2 := e1 (y.1 : Nat)
    rw [show classI T (y.1 : Nat) = clT T y.1 from rfl] at e2
    (refine W_x e2 ?_; (repeat' first | apply Cj.mk | exact Nl.nl) <;> intros)
    · rw [hit _ (if_pos (by omega))]
      exact ⟨rfl, rfl⟩
    all_goals exact ⟨if_neg (by omega), by rw [hp]; exact (by repeat' first | exact True.intro | refine And.intro rfl ?_), rfl, rfl⟩
  · subst hh
    (refine W_x trivial ?_; (repeat' first | apply Cj.mk | exact Nl.nl) <;> intros)
    refine wo_nextE hl rfl ?_
    (refine W_x trivial ?_; (repeat' first | apply Cj.mk | exact Nl.nl) <;> intros)
    rw [fin]
    exact ⟨rfl, rfl⟩
end Go.Proofs.YtblmakgjdenpfaaDoor.AM
namespace Go.Proofs.YtblmakgjdenpfaaDoor.AM
open Go
section
variable {p : Prg} {fr : Fr} {lc : Lc} {h : AH} {Q : Post}
theorem wp_spotsS {σ β : Type} {n : Nat} {keep : List Nat} {sts : List St} {b : LCode} (F : Nat → σ → Fr) (L : Nat → σ → Lc) (s : ByteArray) (l : Bytes) (J : Nat → σ → AH → Prop) (g : Nat → Nat × Nat → Option β) (st0 : σ) (hl : l = s.data.toList)
    (hf0 : AgF (F 0 st0) fr) (hk : ∀ i st, okS keep ((F i st).map (·.1)) n sts = true) (h0 : lc = L 0 st0) (hJ : J 0 st0 h)
    (more : ∀ i (hi : i < (spots l).length) st h, J i st h → (∀ w, g i (spots l)[i] = some w → scanL (spots l) g = some w) →
      WpS p keep sts (F i st) (L (posn l i) st) h (thenQ p b (loopQ (fun fr' lc' h' => g i (spots l)[i] = none ∧ ∃ st', AgF (F (i + 1) st') fr' ∧ lc' = L (posn l (i + 1)) st' ∧ J (i + 1) st' h') Q) .norm))
    (fin : ∀ st h, J (spots l).length st h → scanL (spots l) g = none → WpS p keep sts (F (spots l).length st) (L l.length st) h (thenQ p b (loopQ (fun _ _ _ => False) Q) .norm)) : Wp p (.loop (.seq (R n keep sts) b)) fr lc h Q := by
  refine wp_scanL (spots l) g (fun i fr lc' h => ∃ st, AgF (F i st) fr ∧ lc' = L (posn l i) st ∧ J i st h) ⟨st0, hf0, by rw [posn_zero]; exact h0, hJ⟩ ?_ ?_
  · rintro fr _ h ⟨st, ha, rfl, hj⟩ fn
    rw [posn_all]
    exact wp_seq (wp_RA ha (hk _ _) (fin st h hj fn))
  · rintro i hi fr _ h ⟨st, ha, rfl, hj⟩ hit
    refine wp_mono (wp_seq (wp_RA ha (hk _ _) (more i hi st h hj hit))) fun ex fr lc h hq => ?_
    have hq := hq.out
    cases ex with
    | norm => exact ⟨⟨hq.1, hq.2⟩⟩
    | exit j => exact ⟨hq⟩
    | ret => exact ⟨hq⟩
theorem wp_forS {σ α β : Type} {a : LCode} (F : Nat → σ → Fr) (L : Nat → σ → Lc) (l : List α) (J : Nat → σ → AH → Prop) (g : Nat → α → Option β) (st0 : σ) (h0 : fr = F 0 st0) (hc : lc = L 0 st0) (hJ : J 0 st0 h)
    (more : ∀ i (hi : i < l.length) st h, J i st h → (∀ w, g i l[i] = some w → scanL l g = some w) → Wp p a (F i st) (L i st) h (loopQ (fun fr' lc' h' => g i l[i] = none ∧ ∃ st', fr' = F (i + 1) st' ∧ lc' = L (i + 1) st' ∧ J (i + 1) st' h') Q))
    (fin : ∀ st h, J l.length st h → scanL l g = none → Wp p a (F l.length st) (L l.length st) h (loopQ (fun _ _ _ => False) Q)) : Wp p (.loop a) fr lc h Q := by
  refine wp_scanL l g (fun i fr lc' h => ∃ st, fr = F i st ∧ lc' = L i st ∧ J i st h) ⟨st0, h0, hc, hJ⟩ ?_ ?_
  · rintro _ _ h ⟨st, rfl, rfl, hj⟩ fn
    exact fin st h hj fn
  · rintro i hi _ _ h ⟨st, rfl, rfl, hj⟩ hit
    refine wp_mono (more i hi st h hj hit) fun ex fr lc h hq => ?_
    have hq := hq.out
    cases ex with
    | norm => exact ⟨⟨hq.1, hq.2⟩⟩
    | exit j => exact ⟨hq⟩
    | ret => exact ⟨hq⟩
end
theorem runesB_take {l : Bytes} {i : Nat} (hi : i < (spots l).length) : (runesB l).take (i + 1) = (runesB l).take i ++ [((spots l)[i]).1] := by
  have hl : i < (runesB l).length := by rw [runesB, List.length_map]; exact hi
  rw [take_snoc hl]
  simp [runesB]
theorem runesB_len (l : Bytes) : (runesB l).length = (spots l).length := by rw [runesB, List.length_map]
theorem ref8Runes_spec (s : ByteArray) (hs : s.size ≤ 1048576) (h : AH) : WpC PX 53 [.string s] h fun v h' => ∃ sl, v = sl.val 1 ∧ FOwn h h' 1 sl ((runesB s.data.toList).map rnV) := by
  obtain ⟨l, hl⟩ : ∃ l, l = s.data.toList := ⟨_, rfl⟩
  have hz : l.length = s.size := by rw [hl]; rfl
  have hn := spots_len l
  rw [← hl]
  refine wpc_fn (px_ext rfl) (px_fn fn_guiseref8_Runes) rfl ?_
  unfold LF_guiseref8_Runes
  simp only [argFr]
  (refine W_x @ev_rngS ?_; (repeat' first | apply Cj.mk | exact Nl.nl) <;> intros)
  refine wp_spotsS (fun i sl => [(3, sl.val 1), (7, .pointer (some ⟨14, 0, some 1⟩))]) (fun n _ => [(14, .siter s n)]) s l (fun i sl h' => FOwn h h' 1 sl (((runesB l).take i).map rnV)) (fun _ _ => (none : Option Unit)) Sl.nil hl (by repeat' first | exact True.intro | refine And.intro rfl ?_) (fun _ _ => rfl) rfl (FOwn.nil (Kp.refl h))
    (fun i hi sl h1 fo hit => ?_) fun sl h1 fo fin => ?_
  · (refine W_x trivial ?_; (repeat' first | apply Cj.mk | exact Nl.nl) <;> intros)
    refine wo_next hl rfl hi ?_
    have ht := runesB_take hi
    generalize (spots l)[i] = y at ht
    (refine W_x trivial ?_; (repeat' first | apply Cj.mk | exact Nl.nl) <;> intros)
    refine wo_app1 (cs := rnV y.1) fo rfl rfl (by decide) (by decide) (by rw [List.length_map, List.length_take]; omega) fun s2 h2 f2 => ?_
    (refine W_x trivial ?_; (repeat' first | apply Cj.mk | exact Nl.nl) <;> intros)
    refine ⟨rfl, s2, (by repeat' first | exact True.intro | refine And.intro rfl ?_), rfl, ?_⟩
    rw [ht, List.map_append]
    exact f2
  · (refine W_x trivial ?_; (repeat' first | apply Cj.mk | exact Nl.nl) <;> intros)
    refine wo_nextE hl rfl ?_
    (refine W_x trivial ?_; (repeat' first | apply Cj.mk | exact Nl.nl) <;> intros)
    refine ⟨sl, rfl, ?_⟩
    rw [← runesB_len, List.take_length] at fo
    exact fo
theorem encs_snoc (B : List Nat) (c : Nat) : encs (B ++ [c]) = encs B ++ encN c := by
  rw [encs_append]
  simp [encs]
theorem encs_lenle (L : List Nat) : (encs L).length ≤ 4 * L.length := by
  induction L with
  | nil => simp [encs]
  | cons c L ih =>
    have := (encN_len c).2
    rw [encs_cons, List.length_append, List.length_cons]
    omega
theorem ref8Text_spec {s : Sl} {B : List Nat} {h : AH} (rd : Reads h 1 s (B.map rnV)) (hB : ∀ c ∈ B, RuneN c) (hn : B.length ≤ 10000000) : WpC PX 51 [s.val 1] h fun v h' => v = .string (bs (encs B)) ∧ Kp h h' := by
  have hs := rd.len
  refine wpc_fn (px_ext rfl) (px_fn fn_guiseref8_Text) rfl ?_
  unfold LF_guiseref8_Text
  simp only [argFr]
  (refine W_x hs ?_; (repeat' first | apply Cj.mk | exact Nl.nl) <;> intros)
  refine wp_forS (fun i sl => [(0, s.val 1), (3, sl.val 1), (4, .int .i64 i)]) (fun _ _ => []) B (fun i sl h' => FOwn h h' 1 sl ((encs (B.take i)).map byteV)) (fun _ _ => (none : Option Unit)) Sl.nil rfl rfl (by simpa [encs] using FOwn.nil (Kp.refl h)) (fun i hi sl h1 fo hit => ?_) fun sl h1 fo fin => ?_
  · have g0 := fun lc => rd_map (lc := lc) (rd.kp fo.kp) hi
    have hr := hB _ (List.getElem_mem hi)
    have ht := take_snoc hi
    generalize B[i] = c at g0 hr ht
    unfold rnV at g0
    have hl := encs_lenle (B.take i)
    rw [List.length_take] at hl
    obtain ⟨e, he⟩ : ∃ e, e = Utf8.encode (c : Int) := ⟨_, rfl⟩
    have he1 : e = bs (encN c) := he.trans (enc_bs hr)
    have he2 : e.size ≤ 4 := by rw [he1, bs_size]; exact (encN_len c).2
    have he3 : e.data.toList = encN c := by rw [he1, bs_l]
    clear he1
    (refine W_x (Aj hs (Aj g0 he.symm)) ?_; (repeat' first | apply Cj.mk | exact Nl.nl) <;> intros)
    refine wo_appT fo (by decide) (by rw [List.length_map]; omega) fun s2 h2 f2 => ?_
    rw [he3] at f2
    (refine W_x trivial ?_; (repeat' first | apply Cj.mk | exact Nl.nl) <;> intros)
    refine ⟨rfl, s2, rfl, rfl, ?_⟩
    rw [ht, encs_snoc, List.map_append]
    exact f2
  · have hb := fun lc => b2s_own (lc := lc) fo.own
    (refine W_x (Aj hs hb) ?_; (repeat' first | apply Cj.mk | exact Nl.nl) <;> intros)
    rw [List.take_length]
    exact ⟨rfl, fo.kp⟩
end Go.Proofs.YtblmakgjdenpfaaDoor.AM
namespace Go.Proofs.YtblmakgjdenpfaaDoor.AM
open Go
theorem ordered_of {cl : Nat → Int} : ∀ {l : List Nat}, (∀ j (hj : j + 1 < l.length), ¬ (0 < cl l[j + 1] ∧ cl l[j + 1] < cl (l[j]'(by omega)))) → Ordered cl l
  | [], _ => trivial
  | [a], _ => trivial
  | a :: c :: t, h => ⟨h 0 (by simp), ordered_of (l := c :: t) fun j hj => h (j + 1) (by simpa using hj)⟩
theorem swap_at {D : List Nat} {j : Nat} (hj : j + 1 < D.length) : D = D.take j ++ D[j] :: D[j + 1] :: D.drop (j + 2) ∧ (D.set (j + 1) D[j]).set j D[j + 1] = D.take j ++ D[j + 1] :: D[j] :: D.drop (j + 2) := by
  have h1 : D = D.take j ++ D[j] :: D[j + 1] :: D.drop (j + 2) := by
    conv => lhs; rw [← List.take_append_drop j D, List.drop_eq_getElem_cons (by omega), List.drop_eq_getElem_cons hj]
  refine ⟨h1, ?_⟩
  generalize hx : D[j] = x at h1 ⊢
  generalize hy : D[j + 1] = y at h1 ⊢
  have hp : (D.take j).length = j := by rw [List.length_take]; omega
  generalize D.take j = P at h1 hp ⊢
  generalize D.drop (j + 2) = S at h1 ⊢
  subst h1
  subst hp
  simp
theorem ref8Sorted_spec {S : TS} {T : Tab} {h : AH} (t : TabAt h S T) {s : Sl} {B : List Nat} (rd : Reads h 1 s (B.map rnV)) (hn : B.length ≤ 10000000) :
    WpC PX 52 [.agg S.vs.toArray, s.val 1] h fun v h' => ∃ sl, v = sl.val 1 ∧ FOwn h h' 1 sl ((ord (clT T) B).map rnV) := by
  refine wpc_fn (px_ext rfl) (px_fn fn_guiseref8_Sorted) rfl ?_
  unfold LF_guiseref8_Sorted
  simp only [argFr]
  unfold TS.vs
  (refine W_x trivial ?_; (repeat' first | apply Cj.mk | exact Nl.nl) <;> intros)
  refine wo_appL (s := .at h.n 0 0) (t := s) (xss := []) (yss := B.map rnV) (FOwn.make (n := 0) (z := List.replicate 1 undef) (Kp.refl h) (by simp)) (rd.kp ((Kp.refl h).push _)) (by decide) (by decide) (by simp; omega) fun sl h1 fo => ?_
  rw [List.nil_append] at fo
  (refine W_x trivial ?_; (repeat' first | apply Cj.mk | exact Nl.nl) <;> intros)
  refine wp_loopB (fun w fr lc g => ∃ (D : List Nat) (again : Bool), w = (if again then inv (clT T) D + 1 else 0) ∧ D.length = B.length ∧ ord (clT T) D = ord (clT T) B ∧ (again = false → Ordered (clT T) D) ∧ FOwn h g 1 sl (D.map rnV) ∧
    fr = [(2, .pointer (some ⟨4, 0, some 1⟩)), (5, sl.val 1), (6, .bool again)] ∧ lc = [(4, .cells false [S.s0.val 2, S.s1.val 2, S.s2.val 2, S.s3.val 3, S.s4.val 2, S.s5.val 2, S.s6.val 2, S.s7.val 2])]) (inv (clT T) B + 1) _ (by repeat' first | exact True.intro | refine And.intro rfl ?_) ⟨B, true, rfl, rfl, rfl, (fun q => by cases q), fo, rfl, rfl⟩ (fun w f0 lc h ⟨_, _, _, _, _, _, _, e, _⟩ => by rw [e]; rfl) ?_
  rintro w fr lc g ⟨D, again, rfl, hD, ho, hf, fo, rfl, rfl⟩
  cases again
  · (refine W_x trivial ?_; (repeat' first | apply Cj.mk | exact Nl.nl) <;> intros)
    refine ⟨sl, rfl, ?_⟩
    rw [← ho, ord_of_ordered (hf rfl)]
    exact fo
  · have sll := fo.own.1
    rw [List.length_map] at sll
    (refine W_x trivial ?_; (repeat' first | apply Cj.mk | exact Nl.nl) <;> intros)
    refine wp_loop (fun w fr lc g => ∃ (j : Nat) (E : List Nat) (again : Bool), w = D.length - j ∧ E.length = D.length ∧ ord (clT T) E = ord (clT T) D ∧ (again = false → E = D ∧ ∀ i (hi : i + 1 < D.length), i < j → ¬ (0 < clT T D[i + 1] ∧ clT T D[i + 1] < clT T (D[i]'(by omega)))) ∧ (again = true → inv (clT T) E < inv (clT T) D) ∧ FOwn h g 1 sl (E.map rnV) ∧
      fr = [(2, .pointer (some ⟨4, 0, some 1⟩)), (5, sl.val 1), (6, .bool again), (7, .int .i64 ((j : Int) + 1))] ∧ lc = [(4, .cells false [S.s0.val 2, S.s1.val 2, S.s2.val 2, S.s3.val 3, S.s4.val 2, S.s5.val 2, S.s6.val 2, S.s7.val 2])]) D.length
      ⟨0, D, false, rfl, rfl, rfl, fun _ => ⟨rfl, fun i hi h0 => by omega⟩, (fun q => by cases q), fo, rfl, rfl⟩ ?_
    rintro w fr lc g ⟨j, E, again, rfl, hE, hoE, hf1, hf2, fo, rfl, rfl⟩
    by_cases hj : j + 1 < E.length
    · have rdE := fo.reads
      have g0 := fun lc => rd_map (lc := lc) rdE (i := j) (by omega)
      have g1 := fun lc => rd_map (lc := lc) rdE hj
      have tt := t.kp fo.kp
      have e1 := class6_eq tt
      unfold TS.vs at e1
      obtain ⟨hs1, hs2⟩ := swap_at hj
      have hj0 : j < E.length := by omega
      have sw := fun (h1 : 0 < clT T E[j + 1]) (h2 : clT T E[j + 1] < clT T E[j]) => ord_swap (cl := clT T) (a := E[j]) (c := E[j + 1]) h1 h2 (E.take j) (E.drop (j + 2))
      have iw := fun (h1 : 0 < clT T E[j + 1]) (h2 : clT T E[j + 1] < clT T E[j]) => inv_swap (cl := clT T) (a := E[j]) (c := E[j + 1]) h1 h2 (E.drop (j + 2)) (E.take j)
      rw [← hs1, ← hs2] at sw iw
      have e2 := e1 (E[j] : Nat)
      have e3 := e1 (E[j + 1] : Nat)
      rw [show classI T (E[j] : Nat) = clT T E[j] from rfl] at e2
      rw [show classI T (E[j + 1] : Nat) = clT T E[j + 1] from rfl] at e3
      obtain ⟨g2, hw1, f1⟩ := fo.set (i := j + 1) (by rw [List.length_map]; exact hj) (vs := rnV E[j]) rfl
      obtain ⟨g3, hw2, f2⟩ := f1.set (i := j) (by rw [List.length_set, List.length_map]; omega) (vs := rnV E[j + 1]) rfl
      rw [← List.map_set, ← List.map_set] at f2
      have hix : ((j : Int) + 1 - 1).toNat = j := by omega
      have hix1 : ((j : Int) + 1).toNat = j + 1 := by omega
      have hEj : again = false → ∀ hi : j + 1 < D.length, E[j + 1] = D[j + 1] ∧ E[j] = D[j]'(by omega) := fun q hi => by
        have := (hf1 q).1
        subst this
        exact ⟨rfl, rfl⟩
      generalize E[j] = x at *
      generalize E[j + 1] = y at *
      unfold rnV at g0 g1 hw1 hw2
      (refine W_x (Aj sll (Aj hix (Aj hix1 (Aj g0 (Aj g1 (Aj e2 (Aj e3 (Aj hw1 hw2)))))))) ?_; (repeat' first | apply Cj.mk | exact Nl.nl) <;> intros)
      · have hs := sw (by omega) (by omega)
        have hi := iw (by omega) (by omega)
        refine ⟨_, by omega, j + 1, (E.set (j + 1) x).set j y, true, rfl, by rw [List.length_set, List.length_set]; exact hE, by rw [← hs]; exact hoE, (fun q => by cases q), fun _ => ?_, f2, by simp only [Int.natCast_add]; rfl, rfl⟩
        cases again with
        | true => have := hf2 rfl; omega
        | false => rw [← (hf1 rfl).1]; omega
      all_goals
        refine ⟨_, by omega, j + 1, E, again, rfl, hE, hoE, fun q => ⟨(hf1 q).1, fun i hi hij => ?_⟩, hf2, fo, by simp only [Int.natCast_add]; rfl, rfl⟩
        rcases Nat.lt_or_ge i j with h5 | h5
        · exact (hf1 q).2 i hi h5
        · have h6 : i = j := by omega
          subst h6
          rw [← (hEj q hi).1, ← (hEj q hi).2]
          omega
    · (refine W_x sll ?_; (repeat' first | apply Cj.mk | exact Nl.nl) <;> intros)
      refine ⟨_, ?_, _, (by repeat' first | exact True.intro | refine And.intro rfl ?_), E, again, rfl, by omega, by rw [hoE, ho], fun q => ?_, fo, rfl, rfl⟩
      · cases again with
        | true => have := hf2 rfl; simp only [if_true]; omega
        | false => simp
      · rw [(hf1 q).1]
        exact ordered_of fun i hi => (hf1 q).2 i hi (by omega)
theorem ord_rune {cl : Nat → Int} {L : List Nat} (h : ∀ c ∈ L, RuneN c) : ∀ c ∈ ord cl L, RuneN c := fun c hc => h c (ord_mem.1 hc)
def orderB (T : Tab) (l : Bytes) : Bytes := encs (ord (clT T) (runesB l))
theorem ref8Order_spec {S : TS} {T : Tab} {h : AH} (t : TabAt h S T) (s : ByteArray) (hs : s.size ≤ 1048576) : WpC PX 28 [.agg S.vs.toArray, .string s] h fun v h' => v = .string (bs (orderB T s.data.toList)) ∧ Kp h h' := by
  have hz : s.data.toList.length = s.size := rfl
  have hn := spots_len s.data.toList
  have hl := runesB_len s.data.toList
  obtain ⟨_, g1, e1, s1, rfl, f1⟩ := ref8Runes_spec s hs h
  obtain ⟨_, g2, e2, s2, rfl, f2⟩ := ref8Sorted_spec (t.kp f1.kp) f1.reads (by omega)
  obtain ⟨_, g3, e3, rfl, k3⟩ := ref8Text_spec f2.reads (ord_rune (runesB_rune _)) (by rw [ord_length]; omega)
  refine wpc_fn (px_ext rfl) (px_fn fn_guiseref8_Order) rfl ?_
  unfold LF_guiseref8_Order
  simp only [argFr]
  unfold TS.vs at *
  (refine W_y (Aj e1 (Aj e2 e3)) ?_; (repeat' first | apply Cj.mk | exact Nl.nl) <;> intros)
  exact ⟨rfl, (f1.kp.trans f2.kp).trans k3⟩
end Go.Proofs.YtblmakgjdenpfaaDoor.AM
namespace Go.Proofs.YtblmakgjdenpfaaDoor.AM
open Go
section
variable {cl : Nat → Int}
theorem insR_split {r : Nat} : ∀ (A B : List Nat), (∀ s ∈ A, 0 < cl r ∧ cl r < cl s) → (∀ b ∈ B, ¬ (0 < cl r ∧ cl r < cl b)) → insR cl (A ++ B) r = A ++ r :: B
  | [], [], _, _ => rfl
  | [], b :: B, _, h => by simp only [List.nil_append, insR]; rw [if_neg (h b (by simp))]
  | a :: A, B, h, g => by
    simp only [List.cons_append, insR]
    rw [if_pos (h a (by simp)), insR_split A B (fun s hs => h s (by simp [hs])) g]
theorem ord_snoc (l : List Nat) (r : Nat) : ord cl (l ++ [r]) = (insR cl (ord cl l).reverse r).reverse := by
  unfold ord
  rw [List.foldl_append, List.foldl_cons, List.foldl_nil, List.reverse_reverse]
theorem sorted_ord : ∀ (n : Nat) (O Z : List (Nat × Nat)), O.length = n → O.Pairwise (fun x y => (x.2 : Int) < y.2) → Z.Perm O → Z.Pairwise (ltK (fun x => cl x.1) fun x => (x.2 : Int)) → (∀ x ∈ O, 0 < cl x.1) → Z.map (·.1) = ord cl (O.map (·.1))
  | 0, O, Z, hn, _, hp, _, _ => by
    have : O = [] := List.eq_nil_of_length_eq_zero hn
    subst this
    rw [hp.eq_nil]
    rfl
  | n + 1, O, Z, hn, ho, hp, hz, hc => by
    rcases List.eq_nil_or_concat O with rfl | ⟨O', x, rfl⟩
    · simp at hn
    · rw [List.concat_eq_append] at *
      rw [List.length_append, List.length_singleton] at hn
      have hx : x ∈ Z := hp.mem_iff.2 (by simp)
      obtain ⟨P, S, rfl⟩ := List.append_of_mem hx
      have hp' : (P ++ S).Perm O' := by
        have h1 := hp.symm.trans List.perm_middle
        have h2 : (O' ++ [x]).Perm (x :: O') := List.perm_append_singleton x O'
        exact (List.Perm.cons_inv (h2.symm.trans h1)).symm
      have ho' := List.pairwise_append.1 ho
      have hz1 := List.pairwise_append.1 hz
      have hz2 := List.pairwise_cons.1 hz1.2.1
      have ih := sorted_ord n O' (P ++ S) (by omega) ho'.1 hp' (hz.sublist (by simp)) fun y hy => hc y (by simp [hy])
      have hcx := hc x (by simp)
      rw [List.map_append, List.map_cons, List.map_append, List.map_cons, List.map_nil, ord_snoc, ← ih, List.map_append, List.reverse_append]
      rw [insR_split]
      · simp
      · intro s hs
        rw [List.mem_reverse] at hs
        obtain ⟨y, hy, rfl⟩ := List.mem_map.1 hs
        have h1 := hz2.1 y hy
        have h2 := ho'.2.2 y (hp'.mem_iff.1 (by simp [hy])) x (by simp)
        unfold ltK at h1
        simp only at h1
        omega
      · intro s hs
        rw [List.mem_reverse] at hs
        obtain ⟨y, hy, rfl⟩ := List.mem_map.1 hs
        have h1 := hz1.2.2 y hy x (by simp)
        unfold ltK at h1
        simp only at h1
        omega
theorem ordered_append : ∀ {A B : List Nat}, Ordered cl A → Ordered cl B → (∀ a b, A.getLast? = some a → B.head? = some b → ¬ (0 < cl b ∧ cl b < cl a)) → Ordered cl (A ++ B)
  | [], B, _, hB, _ => hB
  | [a], [], _, _, _ => trivial
  | [a], b :: B, _, hB, h => ⟨h a b rfl rfl, hB⟩
  | a :: c :: A, B, hA, hB, h => ⟨hA.1, ordered_append (A := c :: A) hA.2 hB fun x y hx hy => h x y (by rw [List.getLast?_cons_cons]; exact hx) hy⟩
end
theorem Tr.set_self : ∀ (f : Nat) (t : Tr) (k : Nat) (o : AObj), k < f → t.get k = some o → Tr.set f t k (some o) = t
  | 0, t, k, o, h, _ => by omega
  | f + 1, .e, k, o, _, h => by simp [Tr.get] at h
  | f + 1, .n l v r, k, o, hk, h => by
    simp only [Tr.get] at h
    by_cases h0 : k = 0
    · rw [if_pos h0] at h
      simp only [Tr.set, if_pos h0, h]
    · rw [if_neg h0] at h
      by_cases h1 : k % 2 = 1
      · rw [if_pos h1] at h
        simp only [Tr.set, if_neg h0, if_pos h1, Tr.set_self f l (k / 2) o (by omega) h]
      · rw [if_neg h1] at h
        simp only [Tr.set, if_neg h0, if_neg h1, Tr.set_self f r (k / 2 - 1) o (by omega) h]
theorem AH.set_self {h : AH} {b : Nat} {o : AObj} (e : h.get b = some o) : h.set b o = h := by
  have hb := AH.get_lt e
  simp only [AH.get, hb, if_true] at e
  simp only [AH.set, AH.put, Tr.set_self (b + 1) h.m b o (by omega) e]
end Go.Proofs.YtblmakgjdenpfaaDoor.AM
namespace Go.Proofs.YtblmakgjdenpfaaDoor.AM
open Go
theorem isNaNi_eq (n : Int) (h : AH) : callO PX 81 [.int .i64 n] h = some (.bool false, h) := by
  apply WpC.eqn
  refine wpc_fn (px_ext rfl) (px_fn fn_cmp_isNaN_int) rfl ?_
  unfold LF_cmp_isNaN_int
  simp only [argFr]
  (refine W_x trivial ?_; (repeat' first | apply Cj.mk | exact Nl.nl) <;> intros)
  all_goals exact ⟨rfl, rfl⟩
def cmpI (x y : Int) : Int := if x < y then -1 else if y < x then 1 else 0
theorem compareI_eq (x y : Int) (h : AH) : callO PX 49 [.int .i64 x, .int .i64 y] h = some (.int .i64 (cmpI x y), h) := by
  have e := fun n => isNaNi_eq n
  apply WpC.eqn
  refine wpc_fn (px_ext rfl) (px_fn fn_cmp_Compare_int) rfl ?_
  unfold LF_cmp_Compare_int
  simp only [argFr]
  (refine W_x e ?_; (repeat' first | apply Cj.mk | exact Nl.nl) <;> intros)
  all_goals (refine ⟨?_, rfl⟩; unfold cmpI; congr 1; (repeat' split) <;> omega)
abbrev rpV (x : Nat × Nat) : List Value := rnV x.1
theorem cmp_marks (q : Pl) {T : Tab} {k B c : Nat} {s6 : Sl} (hb : ∀ D, BkAt (q.H rpV D) k B s6 T) (hc : ∀ D, (q.H rpV D).get c = some (.cells false [.pointer (some ⟨k, 0, none⟩)])) :
    CmpS q rpV (fun x => .int .i32 x.1) (.func (.func 48) #[] #[.pointer (some ⟨c, 0, none⟩)]) (fun x : Nat × Nat => clT T x.1) where
  len := fun x => rfl
  cells := fun x => rfl
  ok := fun x => rfl
  okv := fun x => rfl
  cvf := ⟨_, .inr ⟨c, 0, rfl⟩⟩
  run := fun x y D => by
    refine ⟨cmpI (clT T x.1) (clT T y.1), ?_, by unfold cmpI; (repeat' split) <;> omega, by unfold cmpI; (repeat' split) <;> omega, by unfold cmpI; (repeat' split) <;> omega⟩
    have e := fun a b => compareI_eq a b
    have e1 := class_eq (hb D)
    have g := hc D
    show callO PX 48 [.int .i32 x.1, .int .i32 y.1, .pointer (some ⟨c, 0, none⟩)] _ = _
    apply WpC.eqn
    refine wpc_fn (px_ext rfl) (px_fn fn_marks_Order_1) rfl ?_
    unfold LF_marks_Order_1
    simp only [argFr]
    (refine W_y (Aj e (Aj e1 g)) ?_; (repeat' first | apply Cj.mk | exact Nl.nl) <;> intros)
    exact ⟨rfl, rfl⟩
  vw := fun x => rfl
  rdw := fun x => rfl
def sl3 (e : Nat) (v a b c : Value) : Option Value := (POp.sl e (.c v) (some (.c a)) (some (.c b)) (some (.c c))).ev []
theorem ev_sl3 {fr : Fr} {e : Nat} {x a b c : Opd} : (POp.sl e x (some a) (some b) (some c)).ev fr = sl3 e (opd fr x) (opd fr a) (opd fr b) (opd fr c) := rfl
attribute [push_cast] ev_sl3
theorem sl3_val {bk o n : Nat} {i j m : Int} (h0 : 0 ≤ i) (h1 : i ≤ j) (h2 : j ≤ m) (h3 : m ≤ n) : sl3 1 ((Sl.at bk o n).val 1) (.int .i64 i) (.int .i64 j) (.int .i64 m) = some ((Sl.at bk (o + i.toNat) (j - i).toNat).val 1) := by
  obtain ⟨i, rfl⟩ := Int.eq_ofNat_of_zero_le h0
  obtain ⟨j, rfl⟩ := Int.eq_ofNat_of_zero_le (Int.le_trans h0 h1)
  obtain ⟨m, rfl⟩ := Int.eq_ofNat_of_zero_le (Int.le_trans h0 (Int.le_trans h1 h2))
  have a1 : i ≤ j := by omega
  have a2 : j ≤ m := by omega
  have a3 : m ≤ n := by omega
  simp [sl3, POp.ev, opd, Sl.val, optInt, asNat, ptrOff, a1, a2, a3]
theorem sort_run {h g : AH} {k B c i j : Nat} {s6 sl : Sl} {T : Tab} {D : List Nat} (bk : BkAt h k B s6 T) (hc : h.get c = some (.cells false [.pointer (some ⟨k, 0, none⟩)])) (fo : FOwn h g 1 sl (D.map rnV)) (hij : i < j) (hj : j ≤ D.length) (hn : D.length < 1000000000)
    (hm : ∀ x ∈ (D.drop i).take (j - i), 0 < clT T x) :
    ∃ (w : Sl) (g' : AH), sl3 1 (sl.val 1) (.int .i64 i) (.int .i64 j) (.int .i64 j) = some (w.val 1) ∧ callO PX 47 [w.val 1, .func (.func 48) #[] #[.pointer (some ⟨c, 0, none⟩)]] g = some (.tuple #[], g') ∧
      FOwn h g' 1 sl ((D.take i ++ ord (clT T) ((D.drop i).take (j - i)) ++ D.drop j).map rnV) := by
  have hlen := fo.own.1
  have hnew := fo.new
  have hkp := fo.kp
  rw [List.length_map] at hlen
  cases sl with
  | nil => simp [Sl.len] at hlen; omega
  | «at» b o n =>
    simp only [Sl.len] at hlen
    obtain ⟨h1, h2, pre, h3, h4⟩ := fo.own
    have hnb := hnew b rfl
    have hbg := AH.get_lt h3
    obtain ⟨M, hM⟩ : ∃ M, M = (D.drop i).take (j - i) := ⟨_, rfl⟩
    have hMl : M.length = j - i := by rw [hM, List.length_take, List.length_drop]; omega
    have hD : D = D.take i ++ M ++ D.drop j := by
      rw [hM]
      conv => lhs; rw [← List.take_append_drop i D, ← List.take_append_drop (j - i) (D.drop i), List.drop_drop, show i + (j - i) = j by omega]
      rw [List.append_assoc]
    rw [← hM] at hm ⊢
    let q : Pl := ⟨g, b, pre ++ ((D.take i).map rnV).flatten, ((D.drop j).map rnV).flatten, hbg⟩
    have hfm : ∀ Z : List (Nat × Nat), Z.map rpV = (Z.map (·.1)).map rnV := fun Z => by rw [List.map_map]; rfl
    have hO : M.zipIdx.map (·.1) = M := List.zipIdx_map_fst 0 M
    have hfl : (D.map rnV).flatten = ((D.take i).map rnV).flatten ++ ((M.map rnV).flatten ++ ((D.drop j).map rnV).flatten) := by
      conv => lhs; rw [hD]
      simp only [List.map_append, List.flatten_append, List.append_assoc]
    have hH : q.H rpV M.zipIdx = g := by
      show g.set b (.cells false (pre ++ ((D.take i).map rnV).flatten ++ (M.zipIdx.map rpV).flatten ++ ((D.drop j).map rnV).flatten)) = g
      rw [hfm, hO]
      refine AH.set_self ?_
      rw [h3, hfl]
      simp only [List.append_assoc]
    have kpq : ∀ E, Kp h (q.H rpV E) := fun E => ⟨hkp.1, fun x hx => by
      show (g.set b _).get x = _
      rw [AH.get_set_ne _ (by omega)]
      exact hkp.2 x hx⟩
    have hcq := AH.get_lt hc
    obtain ⟨Z, z1, z2, z3⟩ := sortStable_eq (idx := fun x : Nat × Nat => (x.2 : Int)) (cmp_marks q (T := T) (k := k) (B := B) (c := c) (s6 := s6) (fun E => bk.kp (kpq E)) (fun E => (kpq E).get hc)) (O := M.zipIdx) (n := M.length) (by simp) (by omega) (by
      rw [List.pairwise_iff_getElem]
      intro x y hx hy hxy
      simp only [List.getElem_zipIdx]
      omega)
    have hmz : ∀ x ∈ M.zipIdx, 0 < clT T x.1 := fun x hx => hm _ (by rw [← hO]; exact List.mem_map_of_mem hx)
    have hZ := sorted_ord (cl := clT T) _ M.zipIdx Z rfl (by
      rw [List.pairwise_iff_getElem]
      intro x y hx hy hxy
      simp only [List.getElem_zipIdx]
      omega) z1 z2 hmz
    rw [hO] at hZ
    rw [hH] at z3
    have hl1 : ∀ l : List Nat, ((l.map rnV).flatten).length = l.length := fun l => by rw [flatten_len (e := 1) (fun x hx => by obtain ⟨y, _, rfl⟩ := List.mem_map.1 hx; rfl), List.length_map, Nat.mul_one]
    have hqs : q.s M.length = .at b (o + i) (j - i) := by
      show Sl.at b (pre ++ ((D.take i).map rnV).flatten).length _ = _
      rw [List.length_append, hl1, List.length_take, h4, hMl, Nat.min_eq_left (by omega)]
    have hs := sl3_val (bk := b) (o := o) (n := n) (i := i) (j := j) (m := j) (by omega) (by omega) (by omega) (by omega)
    rw [show ((j : Int) - i).toNat = j - i by omega, Int.toNat_natCast] at hs
    rw [hqs] at z3
    refine ⟨_, _, hs, z3, ⟨⟨by simp only [Sl.len, List.length_map, List.length_append, ord_length, hMl, List.length_take, List.length_drop]; omega, fun x hx => by obtain ⟨y, _, rfl⟩ := List.mem_map.1 hx; rfl, pre, ?_, h4⟩, kpq Z, hnew⟩⟩
    rw [q.get]
    show some (AObj.cells false ((pre ++ ((D.take i).map rnV).flatten) ++ (Z.map rpV).flatten ++ ((D.drop j).map rnV).flatten)) = _
    rw [hfm, hZ]
    simp only [List.map_append, List.flatten_append, List.append_assoc]
set_option maxHeartbeats 1000000 in
theorem marksOrder_spec {h : AH} {k B : Nat} {s6 : Sl} {T : Tab} (bk : BkAt h k B s6 T) (s : ByteArray) (hs : s.size ≤ 1048576) : WpC PX 25 [.pointer (some ⟨k, 0, none⟩), .string s] h fun v h' => v = .string (bs (orderB T s.data.toList)) ∧ Kp h h' := by
  have hz : s.data.toList.length = s.size := rfl
  have hn := spots_len s.data.toList
  have hl := runesB_len s.data.toList
  have hr := runesB_rune s.data.toList
  unfold orderB
  refine wpc_fn (px_ext rfl) (px_fn fn_marks_Order) rfl ?_
  unfold LF_marks_Order
  simp only [argFr]
  (refine W_x trivial ?_; (repeat' first | apply Cj.mk | exact Nl.nl) <;> intros)
  refine wo_s2r (h0 := h.push (.cells false [.pointer (some ⟨k, 0, none⟩)])) (Kp.refl _) (by omega) fun sl g fo => ?_
  have bk1 := bk.kp ((Kp.refl h).push (.cells false [.pointer (some ⟨k, 0, none⟩)]))
  have hbox : (h.push (.cells false [.pointer (some ⟨k, 0, none⟩)])).get h.n = some (.cells false [.pointer (some ⟨k, 0, none⟩)]) := AH.get_push_same h _
  have kp0 : Kp h (h.push (.cells false [.pointer (some ⟨k, 0, none⟩)])) := (Kp.refl h).push _
  generalize h.push (.cells false [.pointer (some ⟨k, 0, none⟩)]) = h1 at fo bk1 hbox kp0
  generalize h.n = c at hbox
  generalize runesB s.data.toList = L at fo hl hr
  (refine W_x trivial ?_; (repeat' first | apply Cj.mk | exact Nl.nl) <;> intros)
  refine wp_loop (fun w fr lc g => ∃ (A R : List Nat), w = R.length ∧ A.length + R.length = L.length ∧ ord (clT T) (A ++ R) = ord (clT T) L ∧ Ordered (clT T) A ∧ (A = [] ∨ R = [] ∨ (∃ a A', A = A' ++ [a] ∧ clT T a ≤ 0) ∨ (∃ a R', R = a :: R' ∧ clT T a ≤ 0)) ∧ FOwn h1 g 1 sl ((A ++ R).map rnV) ∧
    fr = [(2, .pointer (some ⟨c, 0, none⟩)), (5, sl.val 1), (6, .int .i64 A.length)] ∧ lc = []) L.length ⟨[], L, rfl, by simp, rfl, trivial, .inl rfl, fo, rfl, rfl⟩ ?_
  rintro w fr lc g ⟨A, R, rfl, hAR, ho, hA, hb, fo, rfl, rfl⟩
  have sll := fo.own.1
  rw [List.length_map, List.length_append] at sll
  have hbx := fo.kp.get hbox
  have e1 := class_eq (bk1.kp fo.kp)
  cases R with
  | nil =>
    rw [List.append_nil] at fo ho
    rw [List.length_nil, Nat.add_zero] at sll
    have hg := fun lc => r2s_own (lc := lc) fo.own (fun x hx => hr x (by rw [← ord_mem (cl := clT T), ← ho]; exact ord_mem.2 hx))
    (refine W_x (Aj sll hg) ?_; (repeat' first | apply Cj.mk | exact Nl.nl) <;> intros)
    refine ⟨?_, kp0.trans fo.kp⟩
    rw [← ho, ord_of_ordered hA]
  | cons r R =>
    rw [List.length_cons] at sll hAR
    have hi : A.length < (A ++ r :: R).length := by rw [List.length_append, List.length_cons]; omega
    have g0 := fun lc => rd_map (lc := lc) fo.reads hi
    have hget : (A ++ r :: R)[A.length] = r := by simp
    rw [hget] at g0
    have e2 := e1 (r : Nat)
    rw [show classI T (r : Nat) = clT T r from rfl] at e2
    unfold rnV at g0
    (refine W_x (Aj sll (Aj hbx (Aj g0 e2))) ?_; (repeat' first | apply Cj.mk | exact Nl.nl) <;> intros)
    · have hb' : A = [] ∨ (∃ a A', A = A' ++ [a] ∧ clT T a ≤ 0) := by
        rcases hb with hb | hb | hb | ⟨a, R', e, ha⟩
        · exact .inl hb
        · cases hb
        · exact .inr hb
        · injection e with e e2
          subst e
          omega
      refine wp_loopB (fun w f0 lc g' => ∃ (m : Nat) (j : Int), j = (A.length : Int) + 1 + m ∧ w = R.length - m ∧ m ≤ R.length ∧ (∀ x ∈ R.take m, 0 < clT T x) ∧ f0 = [(2, .pointer (some ⟨c, 0, none⟩)), (5, sl.val 1), (6, .int .i64 A.length), (7, .int .i64 j)] ∧ lc = [] ∧ g' = g) R.length _ (by repeat' first | exact True.intro | refine And.intro rfl ?_)
        ⟨0, (A.length : Int) + 1, by omega, rfl, Nat.zero_le _, by simp, rfl, rfl, rfl⟩ (fun w f0 lc h ⟨_, _, _, _, _, _, e, _, _⟩ => by rw [e]; rfl) ?_
      rintro w f0 lc g' ⟨m, j, hj, rfl, hm, hM, rfl, rfl, rfl⟩
      have fin : (m = R.length ∨ ∃ hm : m < R.length, clT T R[m] ≤ 0) → ∃ (w : Sl) (g2 : AH), sl3 1 (sl.val 1) (.int .i64 A.length) (.int .i64 j) (.int .i64 j) = some (w.val 1) ∧
          callO PX 47 [w.val 1, .func (.func 48) #[] #[.pointer (some ⟨c, 0, none⟩)]] g' = some (.tuple #[], g2) ∧
          ∃ A' : List Nat, (A'.length : Int) = j ∧ A'.length + (R.drop m).length = L.length ∧ ord (clT T) (A' ++ R.drop m) = ord (clT T) L ∧ Ordered (clT T) A' ∧ (A' = [] ∨ R.drop m = [] ∨ (∃ a A2, A' = A2 ++ [a] ∧ clT T a ≤ 0) ∨ (∃ a R', R.drop m = a :: R' ∧ clT T a ≤ 0)) ∧ FOwn h1 g2 1 sl ((A' ++ R.drop m).map rnV) := fun hend => by
        have hcut : R.drop m = [] ∨ ∃ a R', R.drop m = a :: R' ∧ clT T a ≤ 0 := by
          rcases hend with e | ⟨hlt, e⟩
          · exact .inl (by rw [e, List.drop_length])
          · exact .inr ⟨_, _, List.drop_eq_getElem_cons hlt, e⟩
        have hd : ((A ++ r :: R).drop A.length).take (A.length + 1 + m - A.length) = r :: R.take m := by
          rw [List.drop_left, show A.length + 1 + m - A.length = m + 1 by omega, List.take_succ_cons]
        have hpos : ∀ x ∈ r :: R.take m, 0 < clT T x := fun x hx => by
          rcases List.mem_cons.1 hx with rfl | hx
          · assumption
          · exact hM x hx
        obtain ⟨w, g2, q1, q2, q3⟩ := sort_run (i := A.length) (j := A.length + 1 + m) bk1 hbox fo (by omega) (by rw [List.length_append, List.length_cons]; omega) (by rw [List.length_append, List.length_cons]; omega) (by rw [hd]; exact hpos)
        have hd2 : (A ++ r :: R).drop (A.length + 1 + m) = R.drop m := by
          rw [show A.length + 1 + m = A.length + (m + 1) by omega, ← List.drop_drop, List.drop_left, List.drop_succ_cons]
        rw [hd, List.take_left, hd2] at q3
        refine ⟨w, g2, by rw [hj]; simpa using q1, q2, A ++ ord (clT T) (r :: R.take m), ?_, ?_, ?_, ?_, ?_, q3⟩
        · rw [List.length_append, ord_length, List.length_cons, List.length_take]; omega
        · rw [List.length_append, ord_length, List.length_cons, List.length_take, List.length_drop]; omega
        · rw [← ho]
          have e : A ++ r :: R = A ++ ((r :: R.take m) ++ R.drop m) := by simp
          have hc2 : ∀ {X : List Nat}, (A = [] ∨ X = [] ∨ (∃ a p', A = p' ++ [a] ∧ clT T a ≤ 0) ∨ (∃ a q', X = a :: q' ∧ clT T a ≤ 0)) := by
            rcases hb' with h | h
            · exact .inl h
            · exact .inr (.inr (.inl h))
          have hc3 : ∀ {X : List Nat}, (X = [] ∨ R.drop m = [] ∨ (∃ a p', X = p' ++ [a] ∧ clT T a ≤ 0) ∨ (∃ a q', R.drop m = a :: q' ∧ clT T a ≤ 0)) := by
            rcases hcut with h | h
            · exact .inr (.inl h)
            · exact .inr (.inr (.inr h))
          rw [e, List.append_assoc, ord_append hc2, ord_append hc3, ord_append hc2, ord_append hc3, ord_ord]
        · refine ordered_append hA (ord_ordered _) fun a b ha hb2 => ?_
          have hbp : 0 < clT T b := hpos b (ord_mem.1 (List.mem_of_head? hb2))
          rcases hb' with rfl | ⟨a', A2, rfl, ha'⟩
          · cases ha
          · rw [List.getLast?_concat] at ha
            injection ha with ha
            subst ha
            omega
        · exact .inr (hcut.imp id .inr)
      by_cases hlt : m < R.length
      · have hi2 : A.length + 1 + m < (A ++ r :: R).length := by rw [List.length_append, List.length_cons]; omega
        have g1 := fun lc => rd_map (lc := lc) fo.reads hi2
        have hget2 : (A ++ r :: R)[A.length + 1 + m] = R[m] := by
          rw [List.getElem_append_right (by omega)]
          simp only [show A.length + 1 + m - A.length = m + 1 by omega, List.getElem_cons_succ]
        rw [hget2] at g1
        have ht := take_snoc hlt
        generalize hy : R[m] = y at g1 ht
        have e3 := e1 (y : Nat)
        rw [show classI T (y : Nat) = clT T y from rfl] at e3
        unfold rnV at g1
        have hix : j.toNat = A.length + 1 + m := by omega
        (refine W_x (Aj sll (Aj hbx (Aj hix (Aj g1 e3)))) ?_; (repeat' first | apply Cj.mk | exact Nl.nl) <;> intros)
        · refine ⟨_, by omega, [(2, .pointer (some ⟨c, 0, none⟩)), (5, sl.val 1), (6, .int .i64 A.length), (7, .int .i64 (j + 1))], (by repeat' first | exact True.intro | refine And.intro rfl ?_), m + 1, j + 1, by omega, rfl, by omega, fun x hx => ?_, rfl, rfl, rfl⟩
          rw [ht] at hx
          rcases List.mem_append.1 hx with hx | hx
          · exact hM x hx
          · rw [List.mem_singleton.1 hx]; assumption
        · obtain ⟨w, g2, q1, q2, A', a1, a2, a3, a4, a5, a6⟩ := fin (.inr ⟨hlt, by rw [hy]; omega⟩)
          (refine W_x (Aj q1 q2) ?_; (repeat' first | apply Cj.mk | exact Nl.nl) <;> intros)
          exact ⟨_, by rw [List.length_cons, List.length_drop]; omega, A', R.drop m, rfl, a2, a3, a4, a5, a6, by rw [a1], rfl⟩
      · obtain ⟨w, g2, q1, q2, A', a1, a2, a3, a4, a5, a6⟩ := fin (.inl (by omega))
        (refine W_x (Aj sll (Aj hbx (Aj q1 q2))) ?_; (repeat' first | apply Cj.mk | exact Nl.nl) <;> intros)
        exact ⟨_, by rw [List.length_cons, List.length_drop]; omega, A', R.drop m, rfl, a2, a3, a4, a5, a6, by rw [a1], rfl⟩
    · refine ⟨R.length, by simp, A ++ [r], R, rfl, by rw [List.length_append, List.length_singleton]; omega, by rw [List.append_assoc]; exact ho, ?_, .inr (.inr (.inl ⟨r, A, rfl, by omega⟩)), by rw [List.append_assoc]; exact fo, by simp only [List.length_append, List.length_singleton, Int.natCast_add]; rfl, rfl⟩
      exact ordered_append hA trivial fun a b _ hb2 => by
        injection hb2 with hb2
        subst hb2
        omega
end Go.Proofs.YtblmakgjdenpfaaDoor.AM
namespace Go.Proofs.YtblmakgjdenpfaaDoor.AM
open Go
theorem of_house {h : AH} {S : TS} (t : TabAt h S houseT) (u : U8T h) (hg : 2 ≤ h.n) : WpC PX 9 [.agg S.vs.toArray] h fun v h' => Kp h h' ∧ ∃ k B S, v = .tuple (List.toArray [.pointer (some ⟨k, 0, none⟩), .bool true, .bool true]) ∧ BookAt h' k B S houseT ∧ h.n ≤ B ∧ h.n ≤ k :=
  (of_spec t u hg).mono fun v h' ⟨k, q⟩ => ⟨k, by rwa [if_pos house_good] at q⟩
theorem house8_spec (h : AH) : WpC PX 29 [] h fun v h' => ∃ S, v = .agg S.vs.toArray ∧ TabAt h' S houseT ∧ Kp h h' := by
  obtain ⟨_, g, e, S, rfl, t, k⟩ := house_spec h
  unfold TS.vs at e
  refine wpc_fn (px_ext rfl) (px_fn fn_guiselaw8_house) rfl ?_
  unfold LF_guiselaw8_house
  simp only [argFr]
  (refine W_x e ?_; (repeat' first | apply Cj.mk | exact Nl.nl) <;> intros)
  exact ⟨S, rfl, t, k⟩
theorem known8_a : (bs (orderB houseT [97, 204, 129, 204, 163])) = ⟨#[97, 204, 163, 204, 129]⟩ := by
  have : orderB houseT [97, 204, 129, 204, 163] = [97, 204, 163, 204, 129] := by decide +kernel
  rw [this]; rfl
theorem known8_b : (bs (orderB houseT [255])) = ⟨#[239, 191, 189]⟩ := by
  have : orderB houseT [255] = [239, 191, 189] := by decide +kernel
  rw [this]; rfl
theorem known8_spec {h : AH} (u : U8T h) (hg : 2 ≤ h.n) : WpC PX 21 [] h fun v h' => v = .bool true ∧ Kp h h' := by
  obtain ⟨_, g, e, S, rfl, t, k⟩ := house8_spec h
  obtain ⟨_, g1, e1, k1, kk, B, S1, rfl, bk, _, _⟩ := of_house t (u.kp k) (Nat.le_trans hg k.1)
  obtain ⟨_, g2, e2, rfl, k2⟩ := marksOrder_spec bk.bk ⟨#[97, 204, 129, 204, 163]⟩ (by decide)
  obtain ⟨_, g3, e3, rfl, k3⟩ := marksOrder_spec (bk.kp k2).bk ⟨#[255]⟩ (by decide)
  have q2 := known8_a
  have q3 := known8_b
  unfold TS.vs at *
  refine wpc_fn (px_ext rfl) (px_fn fn_guiselaw8_known) rfl ?_
  unfold LF_guiselaw8_known
  simp only [argFr]
  simp only [q2] at e2
  simp only [q3] at e3
  (refine W_x (Aj e (Aj e1 (Aj e2 e3))) ?_; (repeat' first | apply Cj.mk | exact Nl.nl) <;> intros)
  exact ⟨rfl, ((k.trans k1).trans k2).trans k3⟩
end Go.Proofs.YtblmakgjdenpfaaDoor.AM
namespace Go.Proofs.YtblmakgjdenpfaaDoor.AM
open Go
def LF_guiselaw8_MarksNumbers : LFunc :=
  .mk 0 [.tmp 0] (.seq (R 999 [0] [.set 0 (.cv (.bool false))]) (.seq (R 11 [0, 1, 2] [.set 10 (xc1 9 (xc0 29)), .tmp 13 (xex 0 (.sl 10)), .tmp 14
  (xex 1 (.sl 10)), .tmp 15 (xex 2 (.sl 10)), .set 1 (.sl 13), .set 2 (.sl 14), .set 3 (.sl 15)]) (.seq (.seq (R 16 [0, 1, 26] [.tmp 26 (.or (.or (xu .not (.va 2)) (xb .neq (xc2
  25 (.va 1) (.cv (.string ⟨#[204, 163, 97, 204, 129, 98, 204, 163]⟩))) (.cv (.string ⟨#[204, 163, 97, 204, 129, 98, 204, 163]⟩)))) (xb .neq (xc2 25 (.cv
  (.pointer none)) (.cv (.string ⟨#[97]⟩))) (.cv (.string ⟨#[]⟩))))]) (.cond (.s 26) (.seq (R 999 [0] [.set 0 (.cv (.bool false))]) .ret) .skip)) (.seq (R 28 [0, 4, 5] [.set 27 (xc2
  26 (.va 1) (.cv (.string ⟨#[97, 204, 129, 204, 163]⟩))), .tmp 30 (xex 0 (.sl 27)), .tmp 31 (xex 1 (.sl 27)), .at 4, .tmp 4 (xnl 4 [.int .i64 0, .int .i64 0]), .run
  (xst 2 (.sl 4) (.sl 30)), .tmp 5 (.va 31)]) (.seq (R 33 [0, 4, 5, 6, 7] [.set 32 (xc2 26 (.cv (.pointer none)) (.cv (.string ⟨#[97, 204, 129, 204, 163]⟩))), .tmp 34
  (xex 0 (.sl 32)), .tmp 35 (xex 1 (.sl 32)), .at 6, .tmp 6 (xnl 6 [.int .i64 0, .int .i64 0]), .run (xst 2 (.sl 6) (.sl 34)), .tmp 7 (.va 35)]) (.seq (R 36 [0, 4, 5, 6, 7, 8] [.set
  8 (xc2 30 (.cv (.pointer none)) (.cv (.string ⟨#[97]⟩)))]) (.seq (.seq (R 37 [0, 4, 5, 6, 7, 8, 38] [.tmp 38 (.op (.p (.eqk false .func (.s 0) (.s 1))) (.cons (.va
  8) (.cv .nilFunc)))]) (.cond (.s 38) (.seq (R 999 [0] [.set 0 (.cv (.bool false))]) .ret) .skip)) (.seq (R 9 [0, 4, 5, 6, 7, 8, 9] [.tmp 9 (xnh [.int .i64 0]), .run (xst 1 (.sl 9)
  (xi 0))]) (.seq (.seq (R 39 [0, 4, 5, 6, 7, 9, 39] [.tmp 39 (.va 8)]) (.block 0 (.rangeF (.s 39) [40] .skip (.block 1 (R 41 [] [.run (xst 1 (.sl 9) (xb .add (xld (.sl 9)) (xi
  1)))]))))) (.seq (R 43 [0] [.set 0 (.and (.and (.and (.and (.and (.va 5) (.op (.p (.eqA false [.int, .int] (.s 0) (.s 1))) (.cons (xln 2 (.sl 4)) (.op (.p (.build [.int .i64 0,
  .int .i64 0] [(0, 1, .s 0), (1, 1, .s 1)])) (.cons (xi 3) (xi 2)))))) (xu .not (.va 7))) (.op (.p (.eqA false [.int, .int] (.s 0) (.s 1))) (.cons (xln 2 (.sl 6)) (.op (.p (.build
  [.int .i64 0, .int .i64 0] [])) .nil)))) (xb .eql (xld (.sl 9)) (xi 0))) (xc0 21))]) .ret))))))))))
theorem fn_guiselaw8_MarksNumbers : (autoPrg Tryd.prog).fn 8 = some LF_guiselaw8_MarksNumbers := by kernel_rfl
def LF_marks_Clusters : LFunc :=
  .mk 2 [.tmp 4] (.seq (R 2 [2, 3] [.tmp 2 (xbh 1 (.sl 0)), .tmp 3 (xbh 1 (.sl 1)), .set 4 (.cv .nilFunc)]) (.seq (R 5 [4] [.set 4 (.op (.p (.mkfn (.func 54) []
  [.s 0, .s 1])) (.cons (.sl 2) (.sl 3)))]) .ret))
theorem fn_marks_Clusters : (autoPrg Tryd.prog).fn 30 = some LF_marks_Clusters := by kernel_rfl
def LF_marks_Clusters_1 : LFunc :=
  .mk 3 [] (.seq (R 3 [1, 2, 3] [.tmp 3 (xbh 1 (.sl 0))]) (.seq (.seq (R 8 [1, 2, 3, 9] [.tmp 9 (.op (.p (.eqk false .ptr (.s 0) (.s 1))) (.cons (xld (.sl 1)) (.cv (.pointer
  none))))]) (.cond (.s 9) .ret .skip)) (.seq (R 4 [1, 2, 3, 4] [.tmp 4 (xnh [.int .i64 0, .int .i64 0, .string ⟨#[]⟩, .int .i64 0, .int .i64 0, .int .i32 0, .bool false])]) (.seq
  (R 5 [1, 2, 3, 4, 5] [.tmp 5 (xnh [.int .i64 0]), .run (xst 1 (.sl 5) (xi 0))]) (.seq (.seq (R 10 [1, 2, 3, 4, 5, 11] [.tmp 11 (xc1 55 (xld (.sl 2)))]) (.block 0
  (.rangeF (.s 11) [12, 13] (.seq (R 6 [1, 2, 3, 4, 5, 6, 13] [.tmp 6 (.va 12)]) (R 7 [1, 2, 3, 4, 5, 6, 7] [.tmp 7 (xnl 7 [.int .i32 0, .int .i64 0, .bool false]), .run (xst 3 (.sl
  7) (.sl 13))])) (.block 1 (.seq (.seq (R 14 [2, 3, 4, 5, 6, 7, 18] [.tmp 18 (xb .eql (xc2 24 (xld (.sl 1)) (xld (xfa 0 (.sl 7)))) (xi 0))]) (.cond (.s 18)
  (.seq (.seq (R 19 [2, 4, 5, 6, 7, 27] [.tmp 27 (.and (xb .gtr (xld (xfa 3 (.sl 4))) (xi 0)) (xu .not (xv1 (xld (.sl 3)) (xln 7 (.sl 4)))))]) (.cond (.s 27) .ret .skip)) (R 28 [2,
  4, 5, 6, 7] [.run (xst 7 (.sl 4) (.op (.p (.build [.int .i64 0, .int .i64 0, .string ⟨#[]⟩, .int .i64 0, .int .i64 0, .int .i32 0, .bool false] [(0, 2, .s 0), (5, 1, .s 1), (6, 1,
  .s 2)])) (.cons (.op (.p (.build [.int .i64 0, .int .i64 0] [(0, 1, .s 0), (1, 1, .s 1)])) (.cons (.va 6) (xld (.sl 5)))) (.cons (xld (xfa 0 (.sl 7))) (.cv (.bool true))))))])) (R
  34 [2, 4, 5, 6, 7] [.tmp 36 (xb .add (xld (xfa 4 (.sl 4))) (xi 1)), .tmp 37 (xfa 4 (.sl 4)), .run (xst 1 (.sl 37) (.sl 36))]))) (.seq (R 38 [2, 4, 5, 6, 7] [.tmp 40 (xb .add (xld
  (xfa 3 (.sl 4))) (xi 1)), .tmp 41 (xfa 3 (.sl 4)), .run (xst 1 (.sl 41) (.sl 40))]) (.seq (R 42 [5] [.tmp 50 (.op (.p (.slS (.s 0) (some (.s 1)) (some (.s 2)))) (.cons (xld (.sl
  2)) (.cons (xld (xfa 0 (xfa 0 (.sl 4)))) (xb .add (.va 6) (xld (xfa 1 (.sl 7))))))), .tmp 51 (xfa 2 (.sl 4)), .run (xst 1 (.sl 51) (.sl 50))]) (R 52 [] [.run (xst 1 (.sl 5) (xb
  .add (xld (.sl 5)) (xi 1)))])))))))) (.seq (R 54 [3, 4, 56] [.tmp 56 (xb .gtr (xld (xfa 3 (.sl 4))) (xi 0))]) (.cond (.s 56) (R 57 [] [.tmp 59 (xv1 (xld (.sl 3)) (xln 7 (.sl
  4)))]) .skip)))))))
theorem fn_marks_Clusters_1 : (autoPrg Tryd.prog).fn 54 = some LF_marks_Clusters_1 := by kernel_rfl
end Go.Proofs.YtblmakgjdenpfaaDoor.AM
namespace Go.Proofs.YtblmakgjdenpfaaDoor.AM
open Go
theorem orderNil_eq (s : ByteArray) (h : AH) : callO PX 25 [.pointer none, .string s] h = some (.string ⟨#[]⟩, h.push (.cells false [.pointer none])) := by
  apply WpC.eqn
  refine wpc_fn (px_ext rfl) (px_fn fn_marks_Order) rfl ?_
  unfold LF_marks_Order
  simp only [argFr]
  (refine W_x trivial ?_; (repeat' first | apply Cj.mk | exact Nl.nl) <;> intros)
  exact ⟨rfl, rfl⟩
theorem firstNil_eq (s : ByteArray) (h : AH) : callO PX 26 [.pointer none, .string s] h = some (plV none, h) := by
  apply WpC.eqn
  refine wpc_fn (px_ext rfl) (px_fn fn_marks_First) rfl ?_
  unfold LF_marks_First
  simp only [argFr]
  (refine W_x trivial ?_; (repeat' first | apply Cj.mk | exact Nl.nl) <;> intros)
  exact ⟨rfl, rfl⟩
theorem clusters_eq (q : Value) (s : ByteArray) (h : AH) (hq : ∃ o, q = .pointer o ∧ ∀ a, o = some a → ∃ k, a = ⟨k, 0, none⟩) : callO PX 30 [q, .string s] h = some (.func (.func 54) #[] #[.pointer (some ⟨h.n, 0, none⟩), .pointer (some ⟨h.n + 1, 0, none⟩)], (h.push (.cells false [q])).push (.cells false [.string s])) := by
  obtain ⟨o, rfl, ho⟩ := hq
  apply WpC.eqn
  cases o with
  | none =>
    refine wpc_fn (px_ext rfl) (px_fn fn_marks_Clusters) rfl ?_
    unfold LF_marks_Clusters
    simp only [argFr]
    (refine W_x trivial ?_; (repeat' first | apply Cj.mk | exact Nl.nl) <;> intros)
    exact ⟨rfl, rfl⟩
  | some a =>
    obtain ⟨k, rfl⟩ := ho a rfl
    refine wpc_fn (px_ext rfl) (px_fn fn_marks_Clusters) rfl ?_
    unfold LF_marks_Clusters
    simp only [argFr]
    (refine W_x trivial ?_; (repeat' first | apply Cj.mk | exact Nl.nl) <;> intros)
    exact ⟨rfl, rfl⟩
theorem Kp.fmK {h h1 h2 : AH} {T : Nat → Prop} (k : Kp h h1) (hT : ∀ b, T b → h.n < b ∧ b < h1.n) (f : Fm h.n T h1 h2) : Kp h h2 :=
  ⟨Nat.le_trans k.1 f.n, fun b hb => by rw [f.keep b (by have := k.1; omega) (fun t => by have := hT b t; omega) (by omega), k.2 b hb]⟩
theorem PF.push {T : Nat → Prop} (h : AH) (o : AObj) : PF T h (h.push o) := ⟨by rw [AH.push_n]; omega, fun b hb _ => AH.get_push_ne _ (by omega)⟩
theorem wp_range0 {p : Prg} {fr : Fr} {lc : Lc} {h : AH} {Q : Post} {D : AH → Prop} {fo : Opd} {params : List Nat} {body : LCode} {g : FuncId} {ca cb : Array Value} (hf : opd fr fo = .func (.func g) ca cb)
    (hs : Seq p (.func (.func g) ca cb) ([] : List Unit) (fun _ => [undef]) D) (hn : params.length = 1) (hD : ∀ h1, Kp h h1 → D h1) (fin : ∀ h1, Kp h h1 → Q .norm fr lc h1) : Wp p (.rangeF fo params .skip body) fr lc h Q :=
  wp_range (F := fun _ _ h1 => Kp h h1) (G := fun _ _ _ => False) (A := fun _ => (params.zip [undef]).reverse ++ okFr fr) (L := fun _ => []) hf hs (fun _ => hn.symm) (fun i T T' h1 h2 hf hT fm _ => hf.fmK hT fm) (fun ex T T' h1 h2 hf _ _ _ => hf)
    (fun i T h1 hf => hD _ hf) (fun x h1 => wp_skip ⟨rfl, rfl, rfl, rfl⟩) (Kp.refl _) (fun i hi => by simp at hi) (fun T h1 hf hT hlt => fin _ hf) (fun ex T h1 _ hf => hf.elim)
theorem clustersNil_seq (p2 p3 : Nat) : Seq PX (.func (.func 54) #[] #[.pointer (some ⟨p2, 0, none⟩), .pointer (some ⟨p3, 0, none⟩)]) ([] : List Unit) (fun _ => [undef]) fun h => h.get p2 = some (.cells false [.pointer none]) := by
  intro yv I E h hyv hvs cons hD h0
  have d := hD _ _ _ h0
  have hdl := AH.get_lt d
  have hset := hyv.set
  have hlc1 := hyv.lc1
  have hvc := hyv.vc
  have hck := hyv.cell
  refine wpV_fn ?_
  refine wpc_fn (px_ext rfl) (px_fn fn_marks_Clusters_1) rfl ?_
  unfold LF_marks_Clusters_1
  simp only [argFr, List.nil_append, List.cons_append]
  (refine W_x (Aj hset (Aj hlc1 (Aj hvc (Aj hck d)))) ?_; (repeat' first | apply Cj.mk | exact Nl.nl) <;> intros)
  exact ⟨fun _ => False, .inl (cons.frI _ _ _ _ _ h0 (PF.push _ _) fun b hb => hb.elim)⟩
set_option maxRecDepth 100000 in
theorem marksNumbers_run {h : AH} (u : U8T h) (hg : 2 ≤ h.n) : WpC PX 8 [] h fun v _ => v = .bool true := by
  obtain ⟨_, g, e, S, rfl, t, k⟩ := house8_spec h
  obtain ⟨_, g1, e1, k1, kk, B, S1, rfl, bk, _, _⟩ := of_house t (u.kp k) (Nat.le_trans hg k.1)
  obtain ⟨_, g2, e2, rfl, k2⟩ := marksOrder_spec bk.bk ⟨#[204, 163, 97, 204, 129, 98, 204, 163]⟩ (by decide)
  have e3 := orderNil_eq ⟨#[97]⟩ g2
  have k3 : Kp g2 (g2.push (.cells false [.pointer none])) := (Kp.refl _).push _
  generalize g2.push (.cells false [.pointer none]) = g3 at e3 k3
  have bk3 := (bk.kp k2).kp k3
  have e4 := marksFirst_eq bk3.bk ⟨#[97, 204, 129, 204, 163]⟩ (by decide)
  have e5 := firstNil_eq ⟨#[97, 204, 129, 204, 163]⟩ g3
  have e6 := clusters_eq (.pointer none) ⟨#[97]⟩ g3 ⟨none, rfl, fun a ha => by cases ha⟩
  have k6 : Kp g3 ((g3.push (.cells false [.pointer none])).push (.cells false [.string ⟨#[97]⟩])) := ((Kp.refl _).push _).push _
  have b6 : ((g3.push (.cells false [.pointer none])).push (.cells false [.string ⟨#[97]⟩])).get g3.n = some (.cells false [.pointer none]) := by
    rw [AH.get_push_ne _ (by rw [AH.push_n]; omega), AH.get_push_same]
  generalize (g3.push (.cells false [.pointer none])).push (.cells false [.string ⟨#[97]⟩]) = g6 at e6 k6 b6
  have q2 : bs (orderB houseT [204, 163, 97, 204, 129, 98, 204, 163]) = ⟨#[204, 163, 97, 204, 129, 98, 204, 163]⟩ := by
    have : orderB houseT [204, 163, 97, 204, 129, 98, 204, 163] = [204, 163, 97, 204, 129, 98, 204, 163] := by decide +kernel
    rw [this]; rfl
  have q4 : firstM houseT [97, 204, 129, 204, 163] = some (3, 2) := by decide +kernel
  simp only [q2] at e2
  simp only [q4, plV] at e4
  simp only [plV] at e5
  have k06 := (((k.trans k1).trans k2).trans k3).trans k6
  unfold TS.vs at *
  refine wpc_fn (px_ext rfl) (px_fn fn_guiselaw8_MarksNumbers) rfl ?_
  unfold LF_guiselaw8_MarksNumbers
  simp only [argFr]
  (refine W_x (Aj e (Aj e1 (Aj e2 (Aj e3 (Aj e4 (Aj e5 e6)))))) ?_; (repeat' first | apply Cj.mk | exact Nl.nl) <;> intros)
  have k7 : Kp g6 ((g6.push (.cells false [.int .i64 0])).set g6.n (.cells false [.int .i64 0])) := ((Kp.refl g6).push _).setNew _ (Nat.le_refl _)
  have b7 : ((g6.push (.cells false [.int .i64 0])).set g6.n (.cells false [.int .i64 0])).get g6.n = some (.cells false [.int .i64 0]) := AH.get_set_same _ (by rw [AH.push_n]; omega)
  generalize (g6.push (.cells false [.int .i64 0])).set g6.n (.cells false [.int .i64 0]) = g7 at k7 b7 ⊢
  refine wp_range0 rfl (clustersNil_seq g3.n (g3.n + 1)) rfl (fun h1 hf => (k7.trans hf).get b6) fun h1 hf => ?_
  obtain ⟨_, g9, e9, rfl, k9⟩ := known8_spec (u.kp ((k06.trans k7).trans hf)) (Nat.le_trans hg ((k06.trans k7).trans hf).1)
  have hb := hf.get b7
  (refine W_x (Aj hb e9) ?_; (repeat' first | apply Cj.mk | exact Nl.nl) <;> intros)
  rfl
end Go.Proofs.YtblmakgjdenpfaaDoor.AM
