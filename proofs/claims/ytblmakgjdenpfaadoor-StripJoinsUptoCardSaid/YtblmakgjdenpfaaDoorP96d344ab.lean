/- Parts of proofs: lemmas, joined. -/
import Derived.Test.YtblmakgjdenpfaaDoorPb41147af
set_option linter.unusedVariables false
set_option linter.unusedSimpArgs false
set_option linter.unusedSectionVars false
namespace Go.Proofs.YtblmakgjdenpfaaDoor.AM
open Go
variable {α : Type} [Inhabited α] {q : Pl} {enc : α → List Value} {val : α → Value} {cv : Value} {key : α → Int} {idx : α → Int}
def Bl (bs : Nat) : List (List α) → Prop
  | [] => True
  | A :: r => 0 < A.length ∧ A.length ≤ bs ∧ (r ≠ [] → A.length = bs) ∧ Bl bs r
def Far (idx : α → Int) (A B : List α) : Prop := ∀ x ∈ A, ∀ y ∈ B, idx x < idx y
theorem Bl.snoc {bs : Nat} : ∀ {L : List (List α)}, (∀ A ∈ L, A.length = bs) → 0 < bs → ∀ {R : List (List α)}, Bl bs R → Bl bs (L ++ R)
  | [], _, _, _, h => h
  | A :: r, h, hb, R, hR => by
    have h1 := h A (by simp)
    exact ⟨by omega, by omega, fun _ => h1, Bl.snoc (fun B hB => h B (List.mem_cons_of_mem _ hB)) hb hR⟩
set_option maxHeartbeats 4000000 in
theorem stable_eq (hc : CmpS q enc val cv key) {O : List α} {n : Nat} (hn : O.length = n) (hn2 : n < 1000000000) (hO : O.Pairwise (fun x y => idx x < idx y)) :
    ∃ Z : List α, Z.Perm O ∧ Z.Pairwise (ltK key idx) ∧ callO PX 80 [(q.s n).val 1, .int .i64 n, cv] (q.H enc O) = some (.tuple #[], q.H enc Z) := by
  have hlen : (q.s n).len = n := rfl
  have hset := hc.isF.set
  have hlc1 := hc.isF.lc1
  have hloc := hc.isF.loc
  suffices hw : WpC PX 80 [(q.s n).val 1, .int .i64 n, cv] (q.H enc O) fun v h1 => v = .tuple #[] ∧ ∃ Z : List α, Z.Perm O ∧ Z.Pairwise (ltK key idx) ∧ h1 = q.H enc Z by
    obtain ⟨v, h1, e, rfl, Z, z1, z2, rfl⟩ := hw
    exact ⟨Z, z1, z2, e⟩
  refine wpc_fn (px_ext rfl) (px_fn fn_slices_stableCmpFunc_rune) rfl ?_
  unfold LF_slices_stableCmpFunc_rune
  simp only [argFr]
  (refine W_g (Aj hset (Aj hlc1 hloc)) ?_; (repeat' first | apply Cj.mk | exact Nl.nl) <;> intros)
  refine wp_loop (fun w fr lc h1 => ∃ (L : List (List α)) (R : List α) (a b : Int), w = R.length ∧ (∀ A ∈ L, A.length = 20) ∧ (∀ A ∈ L, A.Pairwise (ltK key idx)) ∧ L.Pairwise (Far idx) ∧ (∀ A ∈ L, Far idx A R) ∧ R.Pairwise (fun x y => idx x < idx y) ∧ (L.flatten ++ R).Perm O ∧
      a = L.flatten.length ∧ b = a + 20 ∧ fr = [(0, (q.s n).val 1), (1, .int .i64 n), (2, cv), (6, .int .i64 20), (7, .int .i64 a), (8, .int .i64 b)] ∧ lc = [] ∧ h1 = q.H enc (L.flatten ++ R)) O.length
    ⟨[], O, 0, 20, rfl, by simp, by simp, List.Pairwise.nil, by simp, hO, .refl _, rfl, rfl, rfl, rfl, rfl⟩ ?_
  rintro w fr lc h1 ⟨L, R, a, b, rfl, hL1, hL2, hL3, hL4, hR, hP, ha, hb, rfl, rfl, rfl⟩
  have hl := hP.length_eq
  rw [hn, List.length_append] at hl
  by_cases hbn : b ≤ n
  · have hR20 : 20 ≤ R.length := by omega
    have hRe : R = R.take 20 ++ R.drop 20 := (List.take_append_drop 20 R).symm
    obtain ⟨Z, z1, z2, z3⟩ := insertion_eq (idx := idx) hc (P := L.flatten) (X := R.take 20) (S := R.drop 20) (n := n) (a := a) (b := b) (by simp only [List.length_append, List.length_take, List.length_drop]; omega) (by omega) ha (by rw [List.length_take]; omega) (hR.sublist (List.take_sublist _ _))
    have hDe : L.flatten ++ R = L.flatten ++ R.take 20 ++ R.drop 20 := by rw [List.append_assoc, ← hRe]
    have hZl : Z.length = 20 := by rw [z1.length_eq, List.length_take]; omega
    rw [← hDe] at z3
    have hmz : ∀ x ∈ Z, x ∈ R := fun x hx => List.mem_of_mem_take (z1.mem_iff.1 hx)
    have hpw := List.pairwise_append.1 (hRe ▸ hR : (R.take 20 ++ R.drop 20).Pairwise (fun x y => idx x < idx y))
    (refine W_g (Aj hset (Aj hlc1 (Aj hloc z3))) ?_; (repeat' first | apply Cj.mk | exact Nl.nl) <;> intros)
    refine ⟨(R.drop 20).length, by rw [List.length_drop]; omega, L ++ [Z], R.drop 20, b, b + 20, rfl, fun A hA => ?_, fun A hA => ?_, List.pairwise_append.2 ⟨hL3, by simp, fun A hA B hB x hx y hy => ?_⟩, fun A hA x hx y hy => ?_, hpw.2.1, ?_, ?_, rfl, rfl, rfl, by simp⟩
    · rcases List.mem_append.1 hA with hA | hA
      · exact hL1 A hA
      · rw [List.mem_singleton.1 hA]; exact hZl
    · rcases List.mem_append.1 hA with hA | hA
      · exact hL2 A hA
      · rw [List.mem_singleton.1 hA]; exact z2
    · rw [List.mem_singleton.1 hB] at hy
      exact hL4 A hA x hx y (hmz y hy)
    · rcases List.mem_append.1 hA with hA | hA
      · exact hL4 A hA x hx y (List.mem_of_mem_drop hy)
      · rw [List.mem_singleton.1 hA] at hx
        exact hpw.2.2 x (z1.mem_iff.1 hx) y hy
    · refine List.Perm.trans ?_ hP
      rw [hDe]
      simp only [List.flatten_append, List.flatten_cons, List.flatten_nil, List.append_nil]
      exact List.Perm.append_right _ (List.Perm.append_left _ z1)
    · simp only [List.flatten_append, List.flatten_cons, List.flatten_nil, List.append_nil, List.length_append]; omega
  · obtain ⟨Z, z1, z2, z3⟩ := insertion_eq (idx := idx) hc (P := L.flatten) (X := R) (S := []) (n := n) (a := a) (b := n) (by simp only [List.length_append, List.length_nil]; omega) (by omega) ha (by omega) hR
    rw [List.append_nil, List.append_nil] at z3
    have hZl := z1.length_eq
    (refine W_g (Aj hset (Aj hlc1 (Aj hloc z3))) ?_; (repeat' first | apply Cj.mk | exact Nl.nl) <;> intros)
    refine wp_loop (fun w fr lc h1 => ∃ (bs : Nat) (L : List (List α)), w = n - bs ∧ 20 ≤ bs ∧ bs ≤ 2 * n + 20 ∧ Bl bs L ∧ (∀ A ∈ L, A.Pairwise (ltK key idx)) ∧ L.Pairwise (Far idx) ∧ L.flatten.Perm O ∧
        fr = [(0, (q.s n).val 1), (1, .int .i64 n), (2, cv), (6, .int .i64 bs)] ∧ lc = [] ∧ h1 = q.H enc L.flatten) (n - 20) ?_ ?_
    · by_cases hZ0 : Z = []
      · refine ⟨20, L, rfl, by omega, by omega, ?_, hL2, hL3, ?_, rfl, rfl, by rw [hZ0, List.append_nil]⟩
        · have := Bl.snoc (bs := 20) hL1 (by omega) (R := []) trivial
          rwa [List.append_nil] at this
        · refine List.Perm.trans ?_ hP
          rw [List.eq_nil_of_length_eq_zero (l := R) (by rw [← hZl, hZ0]; rfl), List.append_nil]
      · refine ⟨20, L ++ [Z], rfl, by omega, by omega, Bl.snoc hL1 (by omega) ⟨List.length_pos_iff.2 hZ0, by omega, fun h => absurd rfl h, trivial⟩, fun A hA => ?_, List.pairwise_append.2 ⟨hL3, by simp, fun A hA B hB x hx y hy => ?_⟩, ?_, rfl, rfl, by simp⟩
        · rcases List.mem_append.1 hA with hA | hA
          · exact hL2 A hA
          · rw [List.mem_singleton.1 hA]; exact z2
        · rw [List.mem_singleton.1 hB] at hy
          exact hL4 A hA x hx y (z1.mem_iff.1 hy)
        · refine List.Perm.trans ?_ hP
          simp only [List.flatten_append, List.flatten_cons, List.flatten_nil, List.append_nil]
          exact List.Perm.append_left _ z1
    clear hL1 hL2 hL3 hL4 hR hP ha hb hl hbn z1 z2 z3 hZl
    rintro w fr lc h1 ⟨bs, L, rfl, hbs, hbs2, hBl, hLs, hLf, hP, rfl, rfl, rfl⟩
    by_cases hbn : bs < n
    rotate_left
    · (refine W_g (Aj hset (Aj hlc1 hloc)) ?_; (repeat' first | apply Cj.mk | exact Nl.nl) <;> intros)
      refine ⟨rfl, L.flatten, hP, ?_, rfl⟩
      have hl := hP.length_eq
      match L, hBl, hLs, hl with
      | [], _, _, _ => simp
      | [A], _, h, _ => simpa using h A (by simp)
      | A :: B :: r, hBl, _, hl =>
        obtain ⟨_, _, b3, b4, _⟩ := hBl
        have := b3 (by simp)
        simp only [List.flatten_cons, List.length_append] at hl
        omega
    · (refine W_g (Aj hset (Aj hlc1 hloc)) ?_; (repeat' first | apply Cj.mk | exact Nl.nl) <;> intros)
      refine wp_loop (fun w fr lc h1 => ∃ (M : List (List α)) (R : List (List α)) (a b : Int), w = R.length ∧ (∀ A ∈ M, A.length = 2 * bs) ∧ Bl bs R ∧ (∀ A ∈ M ++ R, A.Pairwise (ltK key idx)) ∧ (M ++ R).Pairwise (Far idx) ∧ (M ++ R).flatten.Perm O ∧ a = M.flatten.length ∧ b = a + 2 * bs ∧
          fr = [(0, (q.s n).val 1), (1, .int .i64 n), (2, cv), (6, .int .i64 bs), (7, .int .i64 a), (8, .int .i64 b)] ∧ lc = [] ∧ h1 = q.H enc (M ++ R).flatten) L.length
        ⟨[], L, 0, 2 * bs, rfl, by simp, hBl, hLs, hLf, hP, rfl, by omega, rfl, rfl, rfl⟩ ?_
      clear hBl hLs hLf hP
      rintro w fr lc h1 ⟨M, R, a, b, rfl, hM, hBl, hMs, hMf, hP, ha, hb, rfl, rfl, rfl⟩
      have hl := hP.length_eq
      rw [hn, List.flatten_append, List.length_append] at hl
      have hmerge : ∀ A B R', R = A :: B :: R' → ∃ Z : List α, Z.length = A.length + B.length ∧ callO PX 122 [(q.s n).val 1, .int .i64 a, .int .i64 (a + A.length), .int .i64 (a + A.length + B.length), cv] (q.H enc (M ++ R).flatten) = some (.tuple #[], q.H enc (M ++ (Z :: R')).flatten) ∧
          (∀ A ∈ M ++ (Z :: R'), A.Pairwise (ltK key idx)) ∧ (M ++ (Z :: R')).Pairwise (Far idx) ∧ (M ++ (Z :: R')).flatten.Perm O := by
        rintro A B R' rfl
        obtain ⟨b1, b2, b3, b4, b5, b6, b7⟩ := hBl
        have hp := List.pairwise_append.1 hMf
        have hp2 := List.pairwise_cons.1 hp.2.1
        have hp3 := List.pairwise_cons.1 hp2.2
        have hAB : Far idx A B := hp2.1 B (by simp)
        simp only [List.flatten_cons, List.length_append] at hl
        obtain ⟨Z, z1, z2, z3⟩ := merge_eq (n := n) hc (by omega) _ M.flatten A B R'.flatten a (a + A.length) (a + A.length + B.length) (Nat.le_refl _) (by simp only [List.length_append]; omega) ha (by omega) (by omega) b1 b4 (hMs A (by simp)) (hMs B (by simp)) hAB
        have e1 : (M ++ A :: B :: R').flatten = M.flatten ++ A ++ B ++ R'.flatten := by simp
        have e2 : (M ++ Z :: R').flatten = M.flatten ++ Z ++ R'.flatten := by simp
        have hmem : ∀ x ∈ Z, x ∈ A ∨ x ∈ B := fun x hx => by have := z1.mem_iff.1 hx; simpa using this
        refine ⟨Z, by rw [z1.length_eq, List.length_append], by rw [e1, e2]; exact z3, fun C hC => ?_, List.pairwise_append.2 ⟨hp.1, List.pairwise_cons.2 ⟨fun C hC x hx y hy => ?_, hp3.2⟩, fun C hC E hE x hx y hy => ?_⟩, ?_⟩
        · rcases List.mem_append.1 hC with hC | hC
          · exact hMs C (by simp [hC])
          · rcases List.mem_cons.1 hC with rfl | hC
            · exact z2
            · exact hMs C (by simp [hC])
        · rcases hmem x hx with h | h
          · exact hp2.1 C (by simp [hC]) x h y hy
          · exact hp3.1 C hC x h y hy
        · rcases List.mem_cons.1 hE with rfl | hE
          · rcases hmem y hy with h | h
            · exact hp.2.2 C hC A (by simp) x hx y h
            · exact hp.2.2 C hC B (by simp) x hx y h
          · exact hp.2.2 C hC E (by simp [hE]) x hx y hy
        · refine List.Perm.trans ?_ hP
          rw [e1, e2]
          refine List.Perm.append_right _ ?_
          rw [List.append_assoc]
          exact List.Perm.append_left _ z1
      by_cases hbn2 : b ≤ n
      · match R, hBl, hl, hmerge with
        | [], _, hl, _ => simp only [List.flatten_nil, List.length_nil] at hl; omega
        | [A], hBl, hl, _ =>
          have := hBl.2.1
          simp only [List.flatten_cons, List.flatten_nil, List.append_nil] at hl; omega
        | A :: B :: R', hBl, hl, hmerge =>
          obtain ⟨b1, b2, b3, b4, b5, b6, b7⟩ := hBl
          obtain ⟨Z, z0, z1, z2, z3, z4⟩ := hmerge A B R' rfl
          have hA := b3 (by simp)
          simp only [List.flatten_cons, List.length_append] at hl
          have hB : B.length = bs := by
            by_cases hR' : R' = []
            · subst hR'; simp only [List.flatten_nil, List.length_nil] at hl; omega
            · exact b6 hR'
          rw [hA, show a + (bs : Int) + B.length = b by omega] at z1
          (refine W_g (Aj hset (Aj hlc1 (Aj hloc z1))) ?_; (repeat' first | apply Cj.mk | exact Nl.nl) <;> intros)
          refine ⟨R'.length, by simp; omega, M ++ [Z], R', b, b + 2 * bs, rfl, fun C hC => ?_, b7, by simpa using z2, by simpa using z3, by simpa using z4, by simp only [List.flatten_append, List.flatten_cons, List.flatten_nil, List.append_nil, List.length_append]; omega, rfl, rfl, rfl, by simp⟩
          rcases List.mem_append.1 hC with hC | hC
          · exact hM C hC
          · rw [List.mem_singleton.1 hC]; omega
      · match R, hBl, hl, hmerge, hMs, hMf, hP with
        | [], _, hl, _, hMs, hMf, hP =>
          simp only [List.flatten_nil, List.length_nil] at hl
          (refine W_g (Aj hset (Aj hlc1 hloc)) ?_; (repeat' first | apply Cj.mk | exact Nl.nl) <;> intros)
          refine ⟨n - 2 * bs, by omega, 2 * bs, M, rfl, by omega, by omega, ?_, by simpa using hMs, by simpa using hMf, by simpa using hP, by simp only [Int.natCast_mul]; congr 6; omega, rfl, by simp⟩
          have := Bl.snoc (bs := 2 * bs) hM (by omega) (R := []) trivial
          rwa [List.append_nil] at this
        | [A], hBl, hl, _, hMs, hMf, hP =>
          have b1 := hBl.1
          have b2 := hBl.2.1
          simp only [List.flatten_cons, List.flatten_nil, List.append_nil] at hl
          (refine W_g (Aj hset (Aj hlc1 hloc)) ?_; (repeat' first | apply Cj.mk | exact Nl.nl) <;> intros)
          exact ⟨n - 2 * bs, by omega, 2 * bs, M ++ [A], rfl, by omega, by omega, Bl.snoc hM (by omega) ⟨b1, by omega, fun h => absurd rfl h, trivial⟩, hMs, hMf, hP, by simp only [Int.natCast_mul]; congr 6; omega, rfl, rfl⟩
        | [A, B], hBl, hl, hmerge, hMs, hMf, hP =>
          obtain ⟨b1, b2, b3, b4, b5, b6, b7⟩ := hBl
          obtain ⟨Z, z0, z1, z2, z3, z4⟩ := hmerge A B [] rfl
          have hA := b3 (by simp)
          simp only [List.flatten_cons, List.flatten_nil, List.append_nil, List.length_append] at hl
          rw [hA, show a + (bs : Int) + B.length = n by omega] at z1
          (refine W_g (Aj hset (Aj hlc1 (Aj hloc z1))) ?_; (repeat' first | apply Cj.mk | exact Nl.nl) <;> intros)
          exact ⟨n - 2 * bs, by omega, 2 * bs, M ++ [Z], rfl, by omega, by omega, Bl.snoc hM (by omega) ⟨by omega, by omega, fun h => absurd rfl h, trivial⟩, z2, z3, z4, by simp only [Int.natCast_mul]; congr 6; omega, rfl, rfl⟩
        | A :: B :: C :: R', hBl, hl, _, _, _, _ =>
          obtain ⟨b1, b2, b3, b4, b5, b6, b7⟩ := hBl
          have hA := b3 (by simp)
          have hB := b6 (by simp)
          simp only [List.flatten_cons, List.length_append] at hl
          omega
theorem sortStable_eq (hc : CmpS q enc val cv key) {O : List α} {n : Nat} (hn : O.length = n) (hn2 : n < 1000000000) (hO : O.Pairwise (fun x y => idx x < idx y)) :
    ∃ Z : List α, Z.Perm O ∧ Z.Pairwise (ltK key idx) ∧ callO PX 47 [(q.s n).val 1, cv] (q.H enc O) = some (.tuple #[], q.H enc Z) := by
  have hlen : (q.s n).len = n := rfl
  have hset := hc.isF.set
  have hlc1 := hc.isF.lc1
  have hloc := hc.isF.loc
  obtain ⟨Z, z1, z2, z3⟩ := stable_eq hc hn hn2 hO
  refine ⟨Z, z1, z2, ?_⟩
  apply WpC.eqn
  refine wpc_fn (px_ext rfl) (px_fn fn_slices_SortStableFunc_rune_rune) rfl ?_
  unfold LF_slices_SortStableFunc_rune_rune
  simp only [argFr]
  (refine W_g (Aj hset (Aj hlc1 (Aj hloc (Aj hlen z3)))) ?_; (repeat' first | apply Cj.mk | exact Nl.nl) <;> intros)
  exact ⟨rfl, rfl⟩
end Go.Proofs.YtblmakgjdenpfaaDoor.AM
namespace Go.Proofs.YtblmakgjdenpfaaDoor.AM
open Go
section
variable {p : Prg} {fr : Fr} {lc : Lc} {h : AH} {Q : Post}
theorem wp_spotsG {β : Type} {n : Nat} {keep : List Nat} {sts : List St} {b : LCode} {L : Nat → Lc} (F : Nat → Fr) (K : Nat) (s : ByteArray) (l : Bytes) (J : Nat → AH → Prop) (g : Nat → Nat × Nat → Option β) (hl : l = s.data.toList)
    (hf0 : AgF (F 0) fr) (hk : ∀ i, okS keep ((F i).map (·.1)) n sts = true) (hL : ∀ n, setL lc K (.siter s n) = L n) (h0 : lc = L 0) (hJ : J 0 h)
    (more : ∀ i (hi : i < (spots l).length) h, J i h → (∀ w, g i (spots l)[i] = some w → scanL (spots l) g = some w) →
      WpS p keep sts (F i) (L (posn l i)) h (thenQ p b (loopQ (fun fr' lc' h' => g i (spots l)[i] = none ∧ AgF (F (i + 1)) fr' ∧ lc' = L (posn l (i + 1)) ∧ J (i + 1) h') Q) .norm))
    (fin : ∀ h, J (spots l).length h → scanL (spots l) g = none → WpS p keep sts (F (spots l).length) (L l.length) h (thenQ p b (loopQ (fun _ _ _ => False) Q) .norm)) : Wp p (.loop (.seq (R n keep sts) b)) fr lc h Q := by
  refine wp_scanL (spots l) g (fun i fr lc' h => AgF (F i) fr ∧ lc' = L (posn l i) ∧ J i h) ⟨hf0, by rw [posn_zero]; exact h0, hJ⟩ ?_ ?_
  · rintro fr _ h ⟨ha, rfl, hj⟩ fn
    rw [posn_all]
    exact wp_seq (wp_RA ha (hk _) (fin h hj fn))
  · rintro i hi fr _ h ⟨ha, rfl, hj⟩ hit
    refine wp_mono (wp_seq (wp_RA ha (hk _) (more i hi h hj hit))) fun ex fr lc h hq => ?_
    have hq := hq.out
    cases ex with
    | norm => exact ⟨⟨hq.1, hq.2.1, hq.2.2.1, hq.2.2.2⟩⟩
    | exit j => exact ⟨hq⟩
    | ret => exact ⟨hq⟩
end
abbrev clT (T : Tab) (c : Nat) : Int := classI T c
def prevC (T : Tab) (l : Bytes) : Nat → Int
  | 0 => 0
  | i + 1 => clT T ((spots l).getD i (0, 0)).1
theorem prevC_succ {T : Tab} {l : Bytes} {i : Nat} (hi : i < (spots l).length) : prevC T l (i + 1) = clT T ((spots l)[i]).1 := by
  simp only [prevC, List.getD_eq_getElem?_getD, List.getElem?_eq_getElem hi, Option.getD_some]
def firstM (T : Tab) (l : Bytes) : Option (Nat × Nat) := scanL (spots l) fun i x => if 0 < clT T x.1 ∧ clT T x.1 < prevC T l i then some (posn l i, i) else none
def plV : Option (Nat × Nat) → Value
  | some (a, b) => .tuple (List.toArray [.agg (List.toArray [.int .i64 a, .int .i64 b]), .bool true])
  | none => .tuple (List.toArray [.agg (List.toArray [.int .i64 0, .int .i64 0]), .bool false])
theorem marksFirst_eq {h : AH} {k B : Nat} {s6 : Sl} {T : Tab} (bk : BkAt h k B s6 T) (s : ByteArray) (hs : s.size ≤ 1048576) : callO PX 26 [.pointer (some ⟨k, 0, none⟩), .string s] h = some (plV (firstM T s.data.toList), h) := by
  have e1 := class_eq bk
  obtain ⟨l, hl⟩ : ∃ l, l = s.data.toList := ⟨_, rfl⟩
  have hz : l.length = s.size := by rw [hl]; rfl
  have hn := spots_len l
  rw [← hl]
  apply WpC.eqn
  refine wpc_fn (px_ext rfl) (px_fn fn_marks_First) rfl ?_
  unfold LF_marks_First
  simp only [argFr]
  unfold firstM
  (refine W_x @ev_rngS ?_; (repeat' first | apply Cj.mk | exact Nl.nl) <;> intros)
  refine wp_spotsG (fun i => [(0, .pointer (some ⟨k, 0, none⟩)), (4, .pointer (some ⟨8, 0, some 1⟩)), (6, .int .i64 (prevC T l i)), (7, .int .i64 i), (15, .pointer (some ⟨30, 0, some 1⟩))]) 30 s l (fun _ h' => h' = h)
    (fun i x => if 0 < clT T x.1 ∧ clT T x.1 < prevC T l i then some (posn l i, i) else none) hl (by repeat' first | exact True.intro | refine And.intro rfl ?_) (fun _ => rfl) (by intro n; simp only [setL, push_cast, Nat.reduceEqDiff, ↓reduceIte, reduceCtorEq, Nat.reduceAdd, Nat.reduceMul, Nat.reduceLeDiff]; rfl) rfl rfl (fun i hi h1 hh hit => ?_) fun h1 hh fin => ?_
  · subst hh
    (refine W_x trivial ?_; (repeat' first | apply Cj.mk | exact Nl.nl) <;> intros)
    refine wo_next hl rfl hi ?_
    have hp := prevC_succ (T := T) hi
    have hpn : posn l i ≤ 1048576 := by have := (posn_lt hi).1; omega
    generalize (spots l)[i] = y at hit hp
    have e2 := e1 (y.1 : Nat)
    rw [show classI T (y.1 : Nat) = clT T y.1 from rfl] at e2
    (refine W_x e2 ?_; (repeat' first | apply Cj.mk | exact Nl.nl) <;> intros)
    · rw [hit _ (if_pos (by omega))]
      exact ⟨rfl, rfl⟩
    all_goals exact ⟨if_neg (by omega), by rw [hp]; exact (by repeat' first | exact True.intro | refine And.intro rfl ?_), rfl, rfl⟩
  · subst hh
    (refine W_x trivial ?_; (repeat' first | apply Cj.mk | exact Nl.nl) <;> intros)
    refine wo_nextE hl rfl ?_
    (refine W_x trivial ?_; (repeat' first | apply Cj.mk | exact Nl.nl) <;> intros)
    rw [fin]
    exact ⟨rfl, rfl⟩
end Go.Proofs.YtblmakgjdenpfaaDoor.AM
namespace Go.Proofs.YtblmakgjdenpfaaDoor.AM
open Go
section
variable {p : Prg} {fr : Fr} {lc : Lc} {h : AH} {Q : Post}
theorem wp_spotsS {σ β : Type} {n : Nat} {keep : List Nat} {sts : List St} {b : LCode} (F : Nat → σ → Fr) (L : Nat → σ → Lc) (s : ByteArray) (l : Bytes) (J : Nat → σ → AH → Prop) (g : Nat → Nat × Nat → Option β) (st0 : σ) (hl : l = s.data.toList)
    (hf0 : AgF (F 0 st0) fr) (hk : ∀ i st, okS keep ((F i st).map (·.1)) n sts = true) (h0 : lc = L 0 st0) (hJ : J 0 st0 h)
    (more : ∀ i (hi : i < (spots l).length) st h, J i st h → (∀ w, g i (spots l)[i] = some w → scanL (spots l) g = some w) →
      WpS p keep sts (F i st) (L (posn l i) st) h (thenQ p b (loopQ (fun fr' lc' h' => g i (spots l)[i] = none ∧ ∃ st', AgF (F (i + 1) st') fr' ∧ lc' = L (posn l (i + 1)) st' ∧ J (i + 1) st' h') Q) .norm))
    (fin : ∀ st h, J (spots l).length st h → scanL (spots l) g = none → WpS p keep sts (F (spots l).length st) (L l.length st) h (thenQ p b (loopQ (fun _ _ _ => False) Q) .norm)) : Wp p (.loop (.seq (R n keep sts) b)) fr lc h Q := by
  refine wp_scanL (spots l) g (fun i fr lc' h => ∃ st, AgF (F i st) fr ∧ lc' = L (posn l i) st ∧ J i st h) ⟨st0, hf0, by rw [posn_zero]; exact h0, hJ⟩ ?_ ?_
  · rintro fr _ h ⟨st, ha, rfl, hj⟩ fn
    rw [posn_all]
    exact wp_seq (wp_RA ha (hk _ _) (fin st h hj fn))
  · rintro i hi fr _ h ⟨st, ha, rfl, hj⟩ hit
    refine wp_mono (wp_seq (wp_RA ha (hk _ _) (more i hi st h hj hit))) fun ex fr lc h hq => ?_
    have hq := hq.out
    cases ex with
    | norm => exact ⟨⟨hq.1, hq.2⟩⟩
    | exit j => exact ⟨hq⟩
    | ret => exact ⟨hq⟩
theorem wp_forS {σ α β : Type} {a : LCode} (F : Nat → σ → Fr) (L : Nat → σ → Lc) (l : List α) (J : Nat → σ → AH → Prop) (g : Nat → α → Option β) (st0 : σ) (h0 : fr = F 0 st0) (hc : lc = L 0 st0) (hJ : J 0 st0 h)
    (more : ∀ i (hi : i < l.length) st h, J i st h → (∀ w, g i l[i] = some w → scanL l g = some w) → Wp p a (F i st) (L i st) h (loopQ (fun fr' lc' h' => g i l[i] = none ∧ ∃ st', fr' = F (i + 1) st' ∧ lc' = L (i + 1) st' ∧ J (i + 1) st' h') Q))
    (fin : ∀ st h, J l.length st h → scanL l g = none → Wp p a (F l.length st) (L l.length st) h (loopQ (fun _ _ _ => False) Q)) : Wp p (.loop a) fr lc h Q := by
  refine wp_scanL l g (fun i fr lc' h => ∃ st, fr = F i st ∧ lc' = L i st ∧ J i st h) ⟨st0, h0, hc, hJ⟩ ?_ ?_
  · rintro _ _ h ⟨st, rfl, rfl, hj⟩ fn
    exact fin st h hj fn
  · rintro i hi _ _ h ⟨st, rfl, rfl, hj⟩ hit
    refine wp_mono (more i hi st h hj hit) fun ex fr lc h hq => ?_
    have hq := hq.out
    cases ex with
    | norm => exact ⟨⟨hq.1, hq.2⟩⟩
    | exit j => exact ⟨hq⟩
    | ret => exact ⟨hq⟩
end
theorem runesB_len (l : Bytes) : (runesB l).length = (spots l).length := by rw [runesB, List.length_map]
theorem encs_snoc (B : List Nat) (c : Nat) : encs (B ++ [c]) = encs B ++ encN c := by
  rw [encs_append]
  simp [encs]
theorem encs_lenle (L : List Nat) : (encs L).length ≤ 4 * L.length := by
  induction L with
  | nil => simp [encs]
  | cons c L ih =>
    have := (encN_len c).2
    rw [encs_cons, List.length_append, List.length_cons]
    omega
end Go.Proofs.YtblmakgjdenpfaaDoor.AM
namespace Go.Proofs.YtblmakgjdenpfaaDoor.AM
open Go
def orderB (T : Tab) (l : Bytes) : Bytes := encs (ord (clT T) (runesB l))
end Go.Proofs.YtblmakgjdenpfaaDoor.AM
namespace Go.Proofs.YtblmakgjdenpfaaDoor.AM
open Go
section
variable {cl : Nat → Int}
theorem insR_split {r : Nat} : ∀ (A B : List Nat), (∀ s ∈ A, 0 < cl r ∧ cl r < cl s) → (∀ b ∈ B, ¬ (0 < cl r ∧ cl r < cl b)) → insR cl (A ++ B) r = A ++ r :: B
  | [], [], _, _ => rfl
  | [], b :: B, _, h => by simp only [List.nil_append, insR]; rw [if_neg (h b (by simp))]
  | a :: A, B, h, g => by
    simp only [List.cons_append, insR]
    rw [if_pos (h a (by simp)), insR_split A B (fun s hs => h s (by simp [hs])) g]
theorem ord_snoc (l : List Nat) (r : Nat) : ord cl (l ++ [r]) = (insR cl (ord cl l).reverse r).reverse := by
  unfold ord
  rw [List.foldl_append, List.foldl_cons, List.foldl_nil, List.reverse_reverse]
theorem sorted_ord : ∀ (n : Nat) (O Z : List (Nat × Nat)), O.length = n → O.Pairwise (fun x y => (x.2 : Int) < y.2) → Z.Perm O → Z.Pairwise (ltK (fun x => cl x.1) fun x => (x.2 : Int)) → (∀ x ∈ O, 0 < cl x.1) → Z.map (·.1) = ord cl (O.map (·.1))
  | 0, O, Z, hn, _, hp, _, _ => by
    have : O = [] := List.eq_nil_of_length_eq_zero hn
    subst this
    rw [hp.eq_nil]
    rfl
  | n + 1, O, Z, hn, ho, hp, hz, hc => by
    rcases List.eq_nil_or_concat O with rfl | ⟨O', x, rfl⟩
    · simp at hn
    · rw [List.concat_eq_append] at *
      rw [List.length_append, List.length_singleton] at hn
      have hx : x ∈ Z := hp.mem_iff.2 (by simp)
      obtain ⟨P, S, rfl⟩ := List.append_of_mem hx
      have hp' : (P ++ S).Perm O' := by
        have h1 := hp.symm.trans List.perm_middle
        have h2 : (O' ++ [x]).Perm (x :: O') := List.perm_append_singleton x O'
        exact (List.Perm.cons_inv (h2.symm.trans h1)).symm
      have ho' := List.pairwise_append.1 ho
      have hz1 := List.pairwise_append.1 hz
      have hz2 := List.pairwise_cons.1 hz1.2.1
      have ih := sorted_ord n O' (P ++ S) (by omega) ho'.1 hp' (hz.sublist (by simp)) fun y hy => hc y (by simp [hy])
      have hcx := hc x (by simp)
      rw [List.map_append, List.map_cons, List.map_append, List.map_cons, List.map_nil, ord_snoc, ← ih, List.map_append, List.reverse_append]
      rw [insR_split]
      · simp
      · intro s hs
        rw [List.mem_reverse] at hs
        obtain ⟨y, hy, rfl⟩ := List.mem_map.1 hs
        have h1 := hz2.1 y hy
        have h2 := ho'.2.2 y (hp'.mem_iff.1 (by simp [hy])) x (by simp)
        unfold ltK at h1
        simp only at h1
        omega
      · intro s hs
        rw [List.mem_reverse] at hs
        obtain ⟨y, hy, rfl⟩ := List.mem_map.1 hs
        have h1 := hz1.2.2 y hy x (by simp)
        unfold ltK at h1
        simp only at h1
        omega
theorem ordered_append : ∀ {A B : List Nat}, Ordered cl A → Ordered cl B → (∀ a b, A.getLast? = some a → B.head? = some b → ¬ (0 < cl b ∧ cl b < cl a)) → Ordered cl (A ++ B)
  | [], B, _, hB, _ => hB
  | [a], [], _, _, _ => trivial
  | [a], b :: B, _, hB, h => ⟨h a b rfl rfl, hB⟩
  | a :: c :: A, B, hA, hB, h => ⟨hA.1, ordered_append (A := c :: A) hA.2 hB fun x y hx hy => h x y (by rw [List.getLast?_cons_cons]; exact hx) hy⟩
end
theorem Tr.set_self : ∀ (f : Nat) (t : Tr) (k : Nat) (o : AObj), k < f → t.get k = some o → Tr.set f t k (some o) = t
  | 0, t, k, o, h, _ => by omega
  | f + 1, .e, k, o, _, h => by simp [Tr.get] at h
  | f + 1, .n l v r, k, o, hk, h => by
    simp only [Tr.get] at h
    by_cases h0 : k = 0
    · rw [if_pos h0] at h
      simp only [Tr.set, if_pos h0, h]
    · rw [if_neg h0] at h
      by_cases h1 : k % 2 = 1
      · rw [if_pos h1] at h
        simp only [Tr.set, if_neg h0, if_pos h1, Tr.set_self f l (k / 2) o (by omega) h]
      · rw [if_neg h1] at h
        simp only [Tr.set, if_neg h0, if_neg h1, Tr.set_self f r (k / 2 - 1) o (by omega) h]
theorem AH.set_self {h : AH} {b : Nat} {o : AObj} (e : h.get b = some o) : h.set b o = h := by
  have hb := AH.get_lt e
  simp only [AH.get, hb, if_true] at e
  simp only [AH.set, AH.put, Tr.set_self (b + 1) h.m b o (by omega) e]
end Go.Proofs.YtblmakgjdenpfaaDoor.AM
namespace Go.Proofs.YtblmakgjdenpfaaDoor.AM
open Go
theorem isNaNi_eq (n : Int) (h : AH) : callO PX 81 [.int .i64 n] h = some (.bool false, h) := by
  apply WpC.eqn
  refine wpc_fn (px_ext rfl) (px_fn fn_cmp_isNaN_int) rfl ?_
  unfold LF_cmp_isNaN_int
  simp only [argFr]
  (refine W_x trivial ?_; (repeat' first | apply Cj.mk | exact Nl.nl) <;> intros)
  all_goals exact ⟨rfl, rfl⟩
def cmpI (x y : Int) : Int := if x < y then -1 else if y < x then 1 else 0
theorem compareI_eq (x y : Int) (h : AH) : callO PX 49 [.int .i64 x, .int .i64 y] h = some (.int .i64 (cmpI x y), h) := by
  have e := fun n => isNaNi_eq n
  apply WpC.eqn
  refine wpc_fn (px_ext rfl) (px_fn fn_cmp_Compare_int) rfl ?_
  unfold LF_cmp_Compare_int
  simp only [argFr]
  (refine W_x e ?_; (repeat' first | apply Cj.mk | exact Nl.nl) <;> intros)
  all_goals (refine ⟨?_, rfl⟩; unfold cmpI; congr 1; (repeat' split) <;> omega)
abbrev rpV (x : Nat × Nat) : List Value := rnV x.1
theorem cmp_marks (q : Pl) {T : Tab} {k B c : Nat} {s6 : Sl} (hb : ∀ D, BkAt (q.H rpV D) k B s6 T) (hc : ∀ D, (q.H rpV D).get c = some (.cells false [.pointer (some ⟨k, 0, none⟩)])) :
    CmpS q rpV (fun x => .int .i32 x.1) (.func (.func 48) #[] #[.pointer (some ⟨c, 0, none⟩)]) (fun x : Nat × Nat => clT T x.1) where
  len := fun x => rfl
  cells := fun x => rfl
  ok := fun x => rfl
  okv := fun x => rfl
  cvf := ⟨_, .inr ⟨c, 0, rfl⟩⟩
  run := fun x y D => by
    refine ⟨cmpI (clT T x.1) (clT T y.1), ?_, by unfold cmpI; (repeat' split) <;> omega, by unfold cmpI; (repeat' split) <;> omega, by unfold cmpI; (repeat' split) <;> omega⟩
    have e := fun a b => compareI_eq a b
    have e1 := class_eq (hb D)
    have g := hc D
    show callO PX 48 [.int .i32 x.1, .int .i32 y.1, .pointer (some ⟨c, 0, none⟩)] _ = _
    apply WpC.eqn
    refine wpc_fn (px_ext rfl) (px_fn fn_marks_Order_1) rfl ?_
    unfold LF_marks_Order_1
    simp only [argFr]
    (refine W_y (Aj e (Aj e1 g)) ?_; (repeat' first | apply Cj.mk | exact Nl.nl) <;> intros)
    exact ⟨rfl, rfl⟩
  vw := fun x => rfl
  rdw := fun x => rfl
def sl3 (e : Nat) (v a b c : Value) : Option Value := (POp.sl e (.c v) (some (.c a)) (some (.c b)) (some (.c c))).ev []
theorem ev_sl3 {fr : Fr} {e : Nat} {x a b c : Opd} : (POp.sl e x (some a) (some b) (some c)).ev fr = sl3 e (opd fr x) (opd fr a) (opd fr b) (opd fr c) := rfl
attribute [push_cast] ev_sl3
theorem sl3_val {bk o n : Nat} {i j m : Int} (h0 : 0 ≤ i) (h1 : i ≤ j) (h2 : j ≤ m) (h3 : m ≤ n) : sl3 1 ((Sl.at bk o n).val 1) (.int .i64 i) (.int .i64 j) (.int .i64 m) = some ((Sl.at bk (o + i.toNat) (j - i).toNat).val 1) := by
  obtain ⟨i, rfl⟩ := Int.eq_ofNat_of_zero_le h0
  obtain ⟨j, rfl⟩ := Int.eq_ofNat_of_zero_le (Int.le_trans h0 h1)
  obtain ⟨m, rfl⟩ := Int.eq_ofNat_of_zero_le (Int.le_trans h0 (Int.le_trans h1 h2))
  have a1 : i ≤ j := by omega
  have a2 : j ≤ m := by omega
  have a3 : m ≤ n := by omega
  simp [sl3, POp.ev, opd, Sl.val, optInt, asNat, ptrOff, a1, a2, a3]
theorem sort_run {h g : AH} {k B c i j : Nat} {s6 sl : Sl} {T : Tab} {D : List Nat} (bk : BkAt h k B s6 T) (hc : h.get c = some (.cells false [.pointer (some ⟨k, 0, none⟩)])) (fo : FOwn h g 1 sl (D.map rnV)) (hij : i < j) (hj : j ≤ D.length) (hn : D.length < 1000000000)
    (hm : ∀ x ∈ (D.drop i).take (j - i), 0 < clT T x) :
    ∃ (w : Sl) (g' : AH), sl3 1 (sl.val 1) (.int .i64 i) (.int .i64 j) (.int .i64 j) = some (w.val 1) ∧ callO PX 47 [w.val 1, .func (.func 48) #[] #[.pointer (some ⟨c, 0, none⟩)]] g = some (.tuple #[], g') ∧
      FOwn h g' 1 sl ((D.take i ++ ord (clT T) ((D.drop i).take (j - i)) ++ D.drop j).map rnV) := by
  have hlen := fo.own.1
  have hnew := fo.new
  have hkp := fo.kp
  rw [List.length_map] at hlen
  cases sl with
  | nil => simp [Sl.len] at hlen; omega
  | «at» b o n =>
    simp only [Sl.len] at hlen
    obtain ⟨h1, h2, pre, h3, h4⟩ := fo.own
    have hnb := hnew b rfl
    have hbg := AH.get_lt h3
    obtain ⟨M, hM⟩ : ∃ M, M = (D.drop i).take (j - i) := ⟨_, rfl⟩
    have hMl : M.length = j - i := by rw [hM, List.length_take, List.length_drop]; omega
    have hD : D = D.take i ++ M ++ D.drop j := by
      rw [hM]
      conv => lhs; rw [← List.take_append_drop i D, ← List.take_append_drop (j - i) (D.drop i), List.drop_drop, show i + (j - i) = j by omega]
      rw [List.append_assoc]
    rw [← hM] at hm ⊢
    let q : Pl := ⟨g, b, pre ++ ((D.take i).map rnV).flatten, ((D.drop j).map rnV).flatten, hbg⟩
    have hfm : ∀ Z : List (Nat × Nat), Z.map rpV = (Z.map (·.1)).map rnV := fun Z => by rw [List.map_map]; rfl
    have hO : M.zipIdx.map (·.1) = M := List.zipIdx_map_fst 0 M
    have hfl : (D.map rnV).flatten = ((D.take i).map rnV).flatten ++ ((M.map rnV).flatten ++ ((D.drop j).map rnV).flatten) := by
      conv => lhs; rw [hD]
      simp only [List.map_append, List.flatten_append, List.append_assoc]
    have hH : q.H rpV M.zipIdx = g := by
      show g.set b (.cells false (pre ++ ((D.take i).map rnV).flatten ++ (M.zipIdx.map rpV).flatten ++ ((D.drop j).map rnV).flatten)) = g
      rw [hfm, hO]
      refine AH.set_self ?_
      rw [h3, hfl]
      simp only [List.append_assoc]
    have kpq : ∀ E, Kp h (q.H rpV E) := fun E => ⟨hkp.1, fun x hx => by
      show (g.set b _).get x = _
      rw [AH.get_set_ne _ (by omega)]
      exact hkp.2 x hx⟩
    have hcq := AH.get_lt hc
    obtain ⟨Z, z1, z2, z3⟩ := sortStable_eq (idx := fun x : Nat × Nat => (x.2 : Int)) (cmp_marks q (T := T) (k := k) (B := B) (c := c) (s6 := s6) (fun E => bk.kp (kpq E)) (fun E => (kpq E).get hc)) (O := M.zipIdx) (n := M.length) (by simp) (by omega) (by
      rw [List.pairwise_iff_getElem]
      intro x y hx hy hxy
      simp only [List.getElem_zipIdx]
      omega)
    have hmz : ∀ x ∈ M.zipIdx, 0 < clT T x.1 := fun x hx => hm _ (by rw [← hO]; exact List.mem_map_of_mem hx)
    have hZ := sorted_ord (cl := clT T) _ M.zipIdx Z rfl (by
      rw [List.pairwise_iff_getElem]
      intro x y hx hy hxy
      simp only [List.getElem_zipIdx]
      omega) z1 z2 hmz
    rw [hO] at hZ
    rw [hH] at z3
    have hl1 : ∀ l : List Nat, ((l.map rnV).flatten).length = l.length := fun l => by rw [flatten_len (e := 1) (fun x hx => by obtain ⟨y, _, rfl⟩ := List.mem_map.1 hx; rfl), List.length_map, Nat.mul_one]
    have hqs : q.s M.length = .at b (o + i) (j - i) := by
      show Sl.at b (pre ++ ((D.take i).map rnV).flatten).length _ = _
      rw [List.length_append, hl1, List.length_take, h4, hMl, Nat.min_eq_left (by omega)]
    have hs := sl3_val (bk := b) (o := o) (n := n) (i := i) (j := j) (m := j) (by omega) (by omega) (by omega) (by omega)
    rw [show ((j : Int) - i).toNat = j - i by omega, Int.toNat_natCast] at hs
    rw [hqs] at z3
    refine ⟨_, _, hs, z3, ⟨⟨by simp only [Sl.len, List.length_map, List.length_append, ord_length, hMl, List.length_take, List.length_drop]; omega, fun x hx => by obtain ⟨y, _, rfl⟩ := List.mem_map.1 hx; rfl, pre, ?_, h4⟩, kpq Z, hnew⟩⟩
    rw [q.get]
    show some (AObj.cells false ((pre ++ ((D.take i).map rnV).flatten) ++ (Z.map rpV).flatten ++ ((D.drop j).map rnV).flatten)) = _
    rw [hfm, hZ]
    simp only [List.map_append, List.flatten_append, List.append_assoc]
set_option maxHeartbeats 1000000 in
theorem marksOrder_spec {h : AH} {k B : Nat} {s6 : Sl} {T : Tab} (bk : BkAt h k B s6 T) (s : ByteArray) (hs : s.size ≤ 100000000) : WpC PX 25 [.pointer (some ⟨k, 0, none⟩), .string s] h fun v h' => v = .string (bs (orderB T s.data.toList)) ∧ Kp h h' := by
  have hz : s.data.toList.length = s.size := rfl
  have hn := spots_len s.data.toList
  have hl := runesB_len s.data.toList
  have hr := runesB_rune s.data.toList
  unfold orderB
  refine wpc_fn (px_ext rfl) (px_fn fn_marks_Order) rfl ?_
  unfold LF_marks_Order
  simp only [argFr]
  (refine W_x trivial ?_; (repeat' first | apply Cj.mk | exact Nl.nl) <;> intros)
  refine wo_s2r (h0 := h.push (.cells false [.pointer (some ⟨k, 0, none⟩)])) (Kp.refl _) (by omega) fun sl g fo => ?_
  have bk1 := bk.kp ((Kp.refl h).push (.cells false [.pointer (some ⟨k, 0, none⟩)]))
  have hbox : (h.push (.cells false [.pointer (some ⟨k, 0, none⟩)])).get h.n = some (.cells false [.pointer (some ⟨k, 0, none⟩)]) := AH.get_push_same h _
  have kp0 : Kp h (h.push (.cells false [.pointer (some ⟨k, 0, none⟩)])) := (Kp.refl h).push _
  generalize h.push (.cells false [.pointer (some ⟨k, 0, none⟩)]) = h1 at fo bk1 hbox kp0
  generalize h.n = c at hbox
  generalize runesB s.data.toList = L at fo hl hr
  (refine W_x trivial ?_; (repeat' first | apply Cj.mk | exact Nl.nl) <;> intros)
  refine wp_loop (fun w fr lc g => ∃ (A R : List Nat), w = R.length ∧ A.length + R.length = L.length ∧ ord (clT T) (A ++ R) = ord (clT T) L ∧ Ordered (clT T) A ∧ (A = [] ∨ R = [] ∨ (∃ a A', A = A' ++ [a] ∧ clT T a ≤ 0) ∨ (∃ a R', R = a :: R' ∧ clT T a ≤ 0)) ∧ FOwn h1 g 1 sl ((A ++ R).map rnV) ∧
    fr = [(2, .pointer (some ⟨c, 0, none⟩)), (5, sl.val 1), (6, .int .i64 A.length)] ∧ lc = []) L.length ⟨[], L, rfl, by simp, rfl, trivial, .inl rfl, fo, rfl, rfl⟩ ?_
  rintro w fr lc g ⟨A, R, rfl, hAR, ho, hA, hb, fo, rfl, rfl⟩
  have sll := fo.own.1
  rw [List.length_map, List.length_append] at sll
  have hbx := fo.kp.get hbox
  have e1 := class_eq (bk1.kp fo.kp)
  cases R with
  | nil =>
    rw [List.append_nil] at fo ho
    rw [List.length_nil, Nat.add_zero] at sll
    have hg := fun lc => r2s_own (lc := lc) fo.own (fun x hx => hr x (by rw [← ord_mem (cl := clT T), ← ho]; exact ord_mem.2 hx))
    (refine W_x (Aj sll hg) ?_; (repeat' first | apply Cj.mk | exact Nl.nl) <;> intros)
    refine ⟨?_, kp0.trans fo.kp⟩
    rw [← ho, ord_of_ordered hA]
  | cons r R =>
    rw [List.length_cons] at sll hAR
    have hi : A.length < (A ++ r :: R).length := by rw [List.length_append, List.length_cons]; omega
    have g0 := fun lc => rd_map (lc := lc) fo.reads hi
    have hget : (A ++ r :: R)[A.length] = r := by simp
    rw [hget] at g0
    have e2 := e1 (r : Nat)
    rw [show classI T (r : Nat) = clT T r from rfl] at e2
    unfold rnV at g0
    (refine W_x (Aj sll (Aj hbx (Aj g0 e2))) ?_; (repeat' first | apply Cj.mk | exact Nl.nl) <;> intros)
    · have hb' : A = [] ∨ (∃ a A', A = A' ++ [a] ∧ clT T a ≤ 0) := by
        rcases hb with hb | hb | hb | ⟨a, R', e, ha⟩
        · exact .inl hb
        · cases hb
        · exact .inr hb
        · injection e with e e2
          subst e
          omega
      refine wp_loopB (fun w f0 lc g' => ∃ (m : Nat) (j : Int), j = (A.length : Int) + 1 + m ∧ w = R.length - m ∧ m ≤ R.length ∧ (∀ x ∈ R.take m, 0 < clT T x) ∧ f0 = [(2, .pointer (some ⟨c, 0, none⟩)), (5, sl.val 1), (6, .int .i64 A.length), (7, .int .i64 j)] ∧ lc = [] ∧ g' = g) R.length _ (by repeat' first | exact True.intro | refine And.intro rfl ?_)
        ⟨0, (A.length : Int) + 1, by omega, rfl, Nat.zero_le _, by simp, rfl, rfl, rfl⟩ (fun w f0 lc h ⟨_, _, _, _, _, _, e, _, _⟩ => by rw [e]; rfl) ?_
      rintro w f0 lc g' ⟨m, j, hj, rfl, hm, hM, rfl, rfl, rfl⟩
      have fin : (m = R.length ∨ ∃ hm : m < R.length, clT T R[m] ≤ 0) → ∃ (w : Sl) (g2 : AH), sl3 1 (sl.val 1) (.int .i64 A.length) (.int .i64 j) (.int .i64 j) = some (w.val 1) ∧
          callO PX 47 [w.val 1, .func (.func 48) #[] #[.pointer (some ⟨c, 0, none⟩)]] g' = some (.tuple #[], g2) ∧
          ∃ A' : List Nat, (A'.length : Int) = j ∧ A'.length + (R.drop m).length = L.length ∧ ord (clT T) (A' ++ R.drop m) = ord (clT T) L ∧ Ordered (clT T) A' ∧ (A' = [] ∨ R.drop m = [] ∨ (∃ a A2, A' = A2 ++ [a] ∧ clT T a ≤ 0) ∨ (∃ a R', R.drop m = a :: R' ∧ clT T a ≤ 0)) ∧ FOwn h1 g2 1 sl ((A' ++ R.drop m).map rnV) := fun hend => by
        have hcut : R.drop m = [] ∨ ∃ a R', R.drop m = a :: R' ∧ clT T a ≤ 0 := by
          rcases hend with e | ⟨hlt, e⟩
          · exact .inl (by rw [e, List.drop_length])
          · exact .inr ⟨_, _, List.drop_eq_getElem_cons hlt, e⟩
        have hd : ((A ++ r :: R).drop A.length).take (A.length + 1 + m - A.length) = r :: R.take m := by
          rw [List.drop_left, show A.length + 1 + m - A.length = m + 1 by omega, List.take_succ_cons]
        have hpos : ∀ x ∈ r :: R.take m, 0 < clT T x := fun x hx => by
          rcases List.mem_cons.1 hx with rfl | hx
          · assumption
          · exact hM x hx
        obtain ⟨w, g2, q1, q2, q3⟩ := sort_run (i := A.length) (j := A.length + 1 + m) bk1 hbox fo (by omega) (by rw [List.length_append, List.length_cons]; omega) (by rw [List.length_append, List.length_cons]; omega) (by rw [hd]; exact hpos)
        have hd2 : (A ++ r :: R).drop (A.length + 1 + m) = R.drop m := by
          rw [show A.length + 1 + m = A.length + (m + 1) by omega, ← List.drop_drop, List.drop_left, List.drop_succ_cons]
        rw [hd, List.take_left, hd2] at q3
        refine ⟨w, g2, by rw [hj]; simpa using q1, q2, A ++ ord (clT T) (r :: R.take m), ?_, ?_, ?_, ?_, ?_, q3⟩
        · rw [List.length_append, ord_length, List.length_cons, List.length_take]; omega
        · rw [List.length_append, ord_length, List.length_cons, List.length_take, List.length_drop]; omega
        · rw [← ho]
          have e : A ++ r :: R = A ++ ((r :: R.take m) ++ R.drop m) := by simp
          have hc2 : ∀ {X : List Nat}, (A = [] ∨ X = [] ∨ (∃ a p', A = p' ++ [a] ∧ clT T a ≤ 0) ∨ (∃ a q', X = a :: q' ∧ clT T a ≤ 0)) := by
            rcases hb' with h | h
            · exact .inl h
            · exact .inr (.inr (.inl h))
          have hc3 : ∀ {X : List Nat}, (X = [] ∨ R.drop m = [] ∨ (∃ a p', X = p' ++ [a] ∧ clT T a ≤ 0) ∨ (∃ a q', R.drop m = a :: q' ∧ clT T a ≤ 0)) := by
            rcases hcut with h | h
            · exact .inr (.inl h)
            · exact .inr (.inr (.inr h))
          rw [e, List.append_assoc, ord_append hc2, ord_append hc3, ord_append hc2, ord_append hc3, ord_ord]
        · refine ordered_append hA (ord_ordered _) fun a b ha hb2 => ?_
          have hbp : 0 < clT T b := hpos b (ord_mem.1 (List.mem_of_head? hb2))
          rcases hb' with rfl | ⟨a', A2, rfl, ha'⟩
          · cases ha
          · rw [List.getLast?_concat] at ha
            injection ha with ha
            subst ha
            omega
        · exact .inr (hcut.imp id .inr)
      by_cases hlt : m < R.length
      · have hi2 : A.length + 1 + m < (A ++ r :: R).length := by rw [List.length_append, List.length_cons]; omega
        have g1 := fun lc => rd_map (lc := lc) fo.reads hi2
        have hget2 : (A ++ r :: R)[A.length + 1 + m] = R[m] := by
          rw [List.getElem_append_right (by omega)]
          simp only [show A.length + 1 + m - A.length = m + 1 by omega, List.getElem_cons_succ]
        rw [hget2] at g1
        have ht := take_snoc hlt
        generalize hy : R[m] = y at g1 ht
        have e3 := e1 (y : Nat)
        rw [show classI T (y : Nat) = clT T y from rfl] at e3
        unfold rnV at g1
        have hix : j.toNat = A.length + 1 + m := by omega
        (refine W_x (Aj sll (Aj hbx (Aj hix (Aj g1 e3)))) ?_; (repeat' first | apply Cj.mk | exact Nl.nl) <;> intros)
        · refine ⟨_, by omega, [(2, .pointer (some ⟨c, 0, none⟩)), (5, sl.val 1), (6, .int .i64 A.length), (7, .int .i64 (j + 1))], (by repeat' first | exact True.intro | refine And.intro rfl ?_), m + 1, j + 1, by omega, rfl, by omega, fun x hx => ?_, rfl, rfl, rfl⟩
          rw [ht] at hx
          rcases List.mem_append.1 hx with hx | hx
          · exact hM x hx
          · rw [List.mem_singleton.1 hx]; assumption
        · obtain ⟨w, g2, q1, q2, A', a1, a2, a3, a4, a5, a6⟩ := fin (.inr ⟨hlt, by rw [hy]; omega⟩)
          (refine W_x (Aj q1 q2) ?_; (repeat' first | apply Cj.mk | exact Nl.nl) <;> intros)
          exact ⟨_, by rw [List.length_cons, List.length_drop]; omega, A', R.drop m, rfl, a2, a3, a4, a5, a6, by rw [a1], rfl⟩
      · obtain ⟨w, g2, q1, q2, A', a1, a2, a3, a4, a5, a6⟩ := fin (.inl (by omega))
        (refine W_x (Aj sll (Aj hbx (Aj q1 q2))) ?_; (repeat' first | apply Cj.mk | exact Nl.nl) <;> intros)
        exact ⟨_, by rw [List.length_cons, List.length_drop]; omega, A', R.drop m, rfl, a2, a3, a4, a5, a6, by rw [a1], rfl⟩
    · refine ⟨R.length, by simp, A ++ [r], R, rfl, by rw [List.length_append, List.length_singleton]; omega, by rw [List.append_assoc]; exact ho, ?_, .inr (.inr (.inl ⟨r, A, rfl, by omega⟩)), by rw [List.append_assoc]; exact fo, by simp only [List.length_append, List.length_singleton, Int.natCast_add]; rfl, rfl⟩
      exact ordered_append hA trivial fun a b _ hb2 => by
        injection hb2 with hb2
        subst hb2
        omega
end Go.Proofs.YtblmakgjdenpfaaDoor.AM
namespace Go.Proofs.YtblmakgjdenpfaaDoor.AM
open Go
theorem of_house {h : AH} {S : TS} (t : TabAt h S houseT) (u : U8T h) (hg : 2 ≤ h.n) : WpC PX 9 [.agg S.vs.toArray] h fun v h' => Kp h h' ∧ ∃ k B S, v = .tuple (List.toArray [.pointer (some ⟨k, 0, none⟩), .bool true, .bool true]) ∧ BookAt h' k B S houseT ∧ h.n ≤ B ∧ h.n ≤ k :=
  (of_spec t u hg).mono fun v h' ⟨k, q⟩ => ⟨k, by rwa [if_pos house_good] at q⟩
theorem house8_spec (h : AH) : WpC PX 29 [] h fun v h' => ∃ S, v = .agg S.vs.toArray ∧ TabAt h' S houseT ∧ Kp h h' := by
  obtain ⟨_, g, e, S, rfl, t, k⟩ := house_spec h
  unfold TS.vs at e
  refine wpc_fn (px_ext rfl) (px_fn fn_guiselaw8_house) rfl ?_
  unfold LF_guiselaw8_house
  simp only [argFr]
  (refine W_x e ?_; (repeat' first | apply Cj.mk | exact Nl.nl) <;> intros)
  exact ⟨S, rfl, t, k⟩
theorem known8_a : (bs (orderB houseT [97, 204, 129, 204, 163])) = ⟨#[97, 204, 163, 204, 129]⟩ := by
  have : orderB houseT [97, 204, 129, 204, 163] = [97, 204, 163, 204, 129] := by decide +kernel
  rw [this]; rfl
theorem known8_b : (bs (orderB houseT [255])) = ⟨#[239, 191, 189]⟩ := by
  have : orderB houseT [255] = [239, 191, 189] := by decide +kernel
  rw [this]; rfl
theorem known8_spec {h : AH} (u : U8T h) (hg : 2 ≤ h.n) : WpC PX 21 [] h fun v h' => v = .bool true ∧ Kp h h' := by
  obtain ⟨_, g, e, S, rfl, t, k⟩ := house8_spec h
  obtain ⟨_, g1, e1, k1, kk, B, S1, rfl, bk, _, _⟩ := of_house t (u.kp k) (Nat.le_trans hg k.1)
  obtain ⟨_, g2, e2, rfl, k2⟩ := marksOrder_spec bk.bk ⟨#[97, 204, 129, 204, 163]⟩ (by decide)
  obtain ⟨_, g3, e3, rfl, k3⟩ := marksOrder_spec (bk.kp k2).bk ⟨#[255]⟩ (by decide)
  have q2 := known8_a
  have q3 := known8_b
  unfold TS.vs at *
  refine wpc_fn (px_ext rfl) (px_fn fn_guiselaw8_known) rfl ?_
  unfold LF_guiselaw8_known
  simp only [argFr]
  simp only [q2] at e2
  simp only [q3] at e3
  (refine W_x (Aj e (Aj e1 (Aj e2 e3))) ?_; (repeat' first | apply Cj.mk | exact Nl.nl) <;> intros)
  exact ⟨rfl, ((k.trans k1).trans k2).trans k3⟩
end Go.Proofs.YtblmakgjdenpfaaDoor.AM
namespace Go.Proofs.YtblmakgjdenpfaaDoor.AM
open Go
theorem good_check {T : Tab} (h : goodB T = true) : checkW T = none := by
  unfold goodB at h
  simp only [Bool.and_eq_true, Option.isNone_iff_eq_none] at h
  exact h.2
theorem good_marks {T : Tab} (h : goodB T = true) : ∀ x ∈ T.marks, runeI x.1 = true ∧ 1 ≤ x.2 ∧ x.2 ≤ 254 := by
  intro x hx
  have hf := (checkW_none (good_check h)).2.1
  unfold formsW at hf
  simp only [Option.or_eq_none_iff] at hf
  obtain ⟨i, hi, rfl⟩ := List.mem_iff_getElem.1 hx
  have := scanL_none hf.2.2.1 i hi
  split at this
  · cases this
  · rename_i h1
    split at this
    · cases this
    · exact ⟨by simpa using h1, by omega, by omega⟩
theorem class_range {T : Tab} (h : goodB T = true) (r : Int) : 0 ≤ classI T r ∧ classI T r ≤ 254 := by
  unfold classI
  cases hs : scanL T.marks fun _ x => if x.1 = r then some x.2 else none with
  | none => simp
  | some w =>
    obtain ⟨i, hi, e⟩ := scanL_some hs
    split at e
    · injection e with e
      have := good_marks h _ (List.getElem_mem hi)
      simp only [Option.getD_some]
      omega
    · cases e
section
variable {cl : Nat → Int}
end
end Go.Proofs.YtblmakgjdenpfaaDoor.AM
namespace Go.Proofs.YtblmakgjdenpfaaDoor.AM
open Go
def LF_utf8_DecodeRuneInString : LFunc :=
  .mk 1 [.tmp 2, .tmp 3] (.seq (R 999 [0] [.set 2 (xr 0), .set 3 (xi 0)]) (.seq (.seq (R 4 [0, 10] [.tmp 10 (.and (xb .neq (.va 0) (.cv (.string ⟨#[]⟩))) (xb .lss (xis (.va 0) (xi
  0)) (.cv (.int .u8 128))))]) (.cond (.s 10) (.seq (R 11 [2, 3] [.set 2 (xcn .i32 (xis (.va 0) (xi 0))), .set 3 (xi 1)]) .ret) (R 15 [2, 3] [.set 14 (xc1
  79 (.va 0)), .tmp 17 (xex 0 (.sl 14)), .tmp 18 (xex 1 (.sl 14)), .set 2 (.sl 17), .set 3 (.sl 18)]))) .ret))
theorem fn_utf8_DecodeRuneInString : (autoPrg Tryd.prog).fn 46 = some LF_utf8_DecodeRuneInString := by kernel_rfl
def LF_utf8_decodeRuneInStringSlow : LFunc :=
  .mk 1 [.tmp 2, .tmp 3] (.seq (R 999 [0] [.set 2 (xr 0), .set 3 (xi 0)]) (.seq (R 13 [0, 4] [.set 4 (xsl (.va 0))]) (.seq (.seq (R 15 [0, 4, 16] [.tmp 16 (xb .lss (.va 4) (xi 1))])
  (.cond (.s 16) (.seq (R 999 [2, 3] [.set 2 (xr 65533), .set 3 (xi 0)]) .ret) .skip)) (.seq (R 17 [0, 4, 5] [.set 5 (xis (.va 0) (xi 0))]) (.seq (R 19 [0, 4, 5, 6] [.set 6 (xld
  (.op (.p (.iaddrA 256 1 (.s 0) (.s 1))) (.cons (.cv (.pointer (some (.mk 0 0 none)))) (.va 5))))]) (.seq (.seq (R 22 [0, 4, 5, 6, 23] [.tmp 23 (xb .geq (.va
  6) (.cv (.int .u8 240)))]) (.cond (.s 23) (.seq (R 24 [0, 7] [.set 7 (xb .shr (xb .shl (xcn .i32 (.va 6)) (.cv (.int .u64 31))) (.cv (.int .u64 31)))]) (.seq (R 28 [2, 3] [.set 2
  (xb .or (xb .andNot (xcn .i32 (xis (.va 0) (xi 0))) (.va 7)) (xb .and (xr 65533) (.va 7))), .set 3 (xi 1)]) .ret)) .skip)) (.seq (R 36 [0, 4, 5, 6, 8] [.set 8 (xcn .i64 (xb .and
  (.va 6) (.cv (.int .u8 7))))]) (.seq (R 39 [0, 4, 5, 8, 9] [.tmp 42 (xln 2 (.op (.p (.iaddrA 16 2 (.s 0) (.s 1))) (.cons (.cv (.pointer (some (.mk 1
  0 none)))) (xb .shr (.va 6) (.cv (.int .u64 4)))))), .at 9, .tmp 9 (xnl 9 [.int .u8 0, .int .u8 0]), .run (xst 2 (.sl 9) (.sl 42))]) (.seq (.seq (R 43 [0, 5, 8, 9, 45] [.tmp 45
  (xb .lss (.va 4) (.va 8))]) (.cond (.s 45) (.seq (R 999 [2, 3] [.set 2 (xr 65533), .set 3 (xi 1)]) .ret) .skip)) (.seq (R 46 [0, 5, 8, 9, 10] [.set 10 (xis (.va 0) (xi 1))]) (.seq
  (.seq (R 48 [0, 5, 8, 10, 57] [.tmp 57 (.or (xb .lss (.va 10) (xld (xfa 0 (.sl 9)))) (xb .lss (xld (xfa 1 (.sl 9))) (.va 10)))]) (.cond (.s 57) (.seq (R 999 [2, 3] [.set 2 (xr
  65533), .set 3 (xi 1)]) .ret) .skip)) (.seq (.seq (R 58 [0, 5, 8, 10, 59] [.tmp 59 (xb .leq (.va 8) (xi 2))]) (.cond (.s 59) (.seq (R 60 [2, 3] [.set 2 (xb .or (xb .shl (xcn .i32
  (xb .and (.va 5) (.cv (.int .u8 31)))) (.cv (.int .u64 6))) (xcn .i32 (xb .and (.va 10) (.cv (.int .u8 63))))), .set 3 (xi 2)]) .ret) .skip)) (.seq (R 68 [0, 5, 8, 10, 11] [.set
  11 (xis (.va 0) (xi 2))]) (.seq (.seq (R 70 [0, 5, 8, 10, 11, 75] [.tmp 75 (.or (xb .lss (.va 11) (.cv (.int .u8 128))) (xb .lss (.cv (.int .u8 191)) (.va 11)))]) (.cond (.s 75)
  (.seq (R 999 [2, 3] [.set 2 (xr 65533), .set 3 (xi 1)]) .ret) .skip)) (.seq (.seq (R 76 [0, 5, 10, 11, 77] [.tmp 77 (xb .leq (.va 8) (xi 3))]) (.cond (.s 77) (.seq (R 78 [2, 3]
  [.set 2 (xb .or (xb .or (xb .shl (xcn .i32 (xb .and (.va 5) (.cv (.int .u8 15)))) (.cv (.int .u64 12))) (xb .shl (xcn .i32 (xb .and (.va 10) (.cv (.int .u8 63)))) (.cv (.int .u64
  6)))) (xcn .i32 (xb .and (.va 11) (.cv (.int .u8 63))))), .set 3 (xi 3)]) .ret) .skip)) (.seq (R 91 [5, 10, 11, 12] [.set 12 (xis (.va 0) (xi 3))]) (.seq (.seq (R 93 [5, 10, 11,
  12, 98] [.tmp 98 (.or (xb .lss (.va 12) (.cv (.int .u8 128))) (xb .lss (.cv (.int .u8 191)) (.va 12)))]) (.cond (.s 98) (.seq (R 999 [2, 3] [.set 2 (xr 65533), .set 3 (xi 1)])
  .ret) .skip)) (.seq (R 99 [2, 3] [.set 2 (xb .or (xb .or (xb .or (xb .shl (xcn .i32 (xb .and (.va 5) (.cv (.int .u8 7)))) (.cv (.int .u64 18))) (xb .shl (xcn .i32 (xb .and (.va
  10) (.cv (.int .u8 63)))) (.cv (.int .u64 12)))) (xb .shl (xcn .i32 (xb .and (.va 11) (.cv (.int .u8 63)))) (.cv (.int .u64 6)))) (xcn .i32 (xb .and (.va 12) (.cv (.int .u8
  63))))), .set 3 (xi 4)]) .ret))))))))))))))))))
theorem fn_utf8_decodeRuneInStringSlow : (autoPrg Tryd.prog).fn 79 = some LF_utf8_decodeRuneInStringSlow := by kernel_rfl
end Go.Proofs.YtblmakgjdenpfaaDoor.AM
namespace Go.Proofs.YtblmakgjdenpfaaDoor.AM
open Go
inductive SeqD (l : Bytes) : Prop
  | one (h : bat l 0 < 128) (e : dec1 l = (bat l 0, 1))
  | two (a : 192 ≤ bat l 0) (b : bat l 0 < 224) (n : 1 < l.length) (c1 : 128 ≤ bat l 1 ∧ bat l 1 < 192) (r : 128 ≤ (bat l 0 - 192) * 64 + (bat l 1 - 128)) (e : dec1 l = ((bat l 0 - 192) * 64 + (bat l 1 - 128), 2))
  | three (a : 224 ≤ bat l 0) (b : bat l 0 < 240) (n : 2 < l.length) (c1 : 128 ≤ bat l 1 ∧ bat l 1 < 192) (c2 : 128 ≤ bat l 2 ∧ bat l 2 < 192) (r : 2048 ≤ ((bat l 0 - 224) * 64 + (bat l 1 - 128)) * 64 + (bat l 2 - 128))
      (v : RuneN (((bat l 0 - 224) * 64 + (bat l 1 - 128)) * 64 + (bat l 2 - 128))) (e : dec1 l = (((bat l 0 - 224) * 64 + (bat l 1 - 128)) * 64 + (bat l 2 - 128), 3))
  | four (a : 240 ≤ bat l 0) (b : bat l 0 < 248) (n : 3 < l.length) (c1 : 128 ≤ bat l 1 ∧ bat l 1 < 192) (c2 : 128 ≤ bat l 2 ∧ bat l 2 < 192) (c3 : 128 ≤ bat l 3 ∧ bat l 3 < 192)
      (r : 65536 ≤ (((bat l 0 - 240) * 64 + (bat l 1 - 128)) * 64 + (bat l 2 - 128)) * 64 + (bat l 3 - 128)) (v : RuneN ((((bat l 0 - 240) * 64 + (bat l 1 - 128)) * 64 + (bat l 2 - 128)) * 64 + (bat l 3 - 128)))
      (e : dec1 l = ((((bat l 0 - 240) * 64 + (bat l 1 - 128)) * 64 + (bat l 2 - 128)) * 64 + (bat l 3 - 128), 4))
  | bad (e : dec1 l = (65533, 1)) (h : 128 ≤ bat l 0)
      (h2 : 192 ≤ bat l 0 → bat l 0 < 224 → 1 < l.length → 128 ≤ bat l 1 → bat l 1 < 192 → (bat l 0 - 192) * 64 + (bat l 1 - 128) < 128)
      (h3 : 224 ≤ bat l 0 → bat l 0 < 240 → 2 < l.length → 128 ≤ bat l 1 → bat l 1 < 192 → 128 ≤ bat l 2 → bat l 2 < 192 → ((bat l 0 - 224) * 64 + (bat l 1 - 128)) * 64 + (bat l 2 - 128) < 2048 ∨ ¬ RuneN (((bat l 0 - 224) * 64 + (bat l 1 - 128)) * 64 + (bat l 2 - 128)))
      (h4 : 240 ≤ bat l 0 → bat l 0 < 248 → 3 < l.length → 128 ≤ bat l 1 → bat l 1 < 192 → 128 ≤ bat l 2 → bat l 2 < 192 → 128 ≤ bat l 3 → bat l 3 < 192 →
        (((bat l 0 - 240) * 64 + (bat l 1 - 128)) * 64 + (bat l 2 - 128)) * 64 + (bat l 3 - 128) < 65536 ∨ ¬ RuneN ((((bat l 0 - 240) * 64 + (bat l 1 - 128)) * 64 + (bat l 2 - 128)) * 64 + (bat l 3 - 128)))
theorem seqD (l : Bytes) : SeqD l := by
  have h0 := bat_lt l 0
  have h1 := bat_lt l 1
  have h2 := bat_lt l 2
  have h3 := bat_lt l 3
  have g1 := bcont_iff (l := l) (k := 1)
  have g2 := bcont_iff (l := l) (k := 2)
  have g3 := bcont_iff (l := l) (k := 3)
  have val := fun c => valid_iff c
  obtain ⟨d, hd⟩ : ∃ d, dec1 l = d := ⟨_, rfl⟩
  have hd' := hd
  unfold dec1 at hd'
  by_cases c0 : bat l 0 < 128
  · rw [if_pos c0] at hd'
    exact .one c0 (hd.trans hd'.symm)
  rw [if_neg c0] at hd'
  by_cases c1 : (bat l 0 / 32 == 6 && bcont l 1) = true
  · rw [if_pos c1] at hd'
    simp only [Bool.and_eq_true, beq_iff_eq, g1] at c1
    by_cases c2 : bat l 0 % 32 * 64 + bat l 1 % 64 ≥ 128
    · rw [if_pos c2, show bat l 0 % 32 * 64 + bat l 1 % 64 = (bat l 0 - 192) * 64 + (bat l 1 - 128) by omega] at hd'
      exact .two (by omega) (by omega) (by omega) (by omega) (by omega) (hd.trans hd'.symm)
    · rw [if_neg c2] at hd'
      exact .bad (hd.trans hd'.symm) (by omega) (fun _ _ _ _ _ => by omega) (fun _ _ => by omega) (fun _ _ => by omega)
  rw [if_neg c1] at hd'
  simp only [Bool.and_eq_true, beq_iff_eq, g1] at c1
  by_cases c2 : (bat l 0 / 16 == 14 && bcont l 1 && bcont l 2) = true
  · rw [if_pos c2] at hd'
    simp only [Bool.and_eq_true, beq_iff_eq, g1, g2] at c2
    have e : bat l 0 % 16 * 4096 + bat l 1 % 64 * 64 + bat l 2 % 64 = ((bat l 0 - 224) * 64 + (bat l 1 - 128)) * 64 + (bat l 2 - 128) := by omega
    rw [e] at hd'
    by_cases c3 : (decide (((bat l 0 - 224) * 64 + (bat l 1 - 128)) * 64 + (bat l 2 - 128) ≥ 2048) && Utf8.valid ((((bat l 0 - 224) * 64 + (bat l 1 - 128)) * 64 + (bat l 2 - 128) : Nat))) = true
    · rw [if_pos c3] at hd'
      simp only [Bool.and_eq_true, decide_eq_true_eq, val] at c3
      exact .three (by omega) (by omega) (by omega) (by omega) (by omega) (by omega) c3.2 (hd.trans hd'.symm)
    · rw [if_neg c3] at hd'
      simp only [Bool.and_eq_true, decide_eq_true_eq, val] at c3
      exact .bad (hd.trans hd'.symm) (by omega) (fun _ _ => by omega) (fun _ _ _ _ _ _ _ => by
        by_cases hr : RuneN (((bat l 0 - 224) * 64 + (bat l 1 - 128)) * 64 + (bat l 2 - 128))
        · exact .inl (Nat.lt_of_not_le fun h => c3 ⟨h, hr⟩)
        · exact .inr hr) (fun _ _ => by omega)
  rw [if_neg c2] at hd'
  simp only [Bool.and_eq_true, beq_iff_eq, g1, g2] at c2
  by_cases c3 : (bat l 0 / 8 == 30 && bcont l 1 && bcont l 2 && bcont l 3) = true
  · rw [if_pos c3] at hd'
    simp only [Bool.and_eq_true, beq_iff_eq, g1, g2, g3] at c3
    have e : bat l 0 % 8 * 262144 + bat l 1 % 64 * 4096 + bat l 2 % 64 * 64 + bat l 3 % 64 = (((bat l 0 - 240) * 64 + (bat l 1 - 128)) * 64 + (bat l 2 - 128)) * 64 + (bat l 3 - 128) := by omega
    rw [e] at hd'
    by_cases c4 : (decide ((((bat l 0 - 240) * 64 + (bat l 1 - 128)) * 64 + (bat l 2 - 128)) * 64 + (bat l 3 - 128) ≥ 65536) && Utf8.valid (((((bat l 0 - 240) * 64 + (bat l 1 - 128)) * 64 + (bat l 2 - 128)) * 64 + (bat l 3 - 128) : Nat))) = true
    · rw [if_pos c4] at hd'
      simp only [Bool.and_eq_true, decide_eq_true_eq, val] at c4
      exact .four (by omega) (by omega) (by omega) (by omega) (by omega) (by omega) (by omega) c4.2 (hd.trans hd'.symm)
    · rw [if_neg c4] at hd'
      simp only [Bool.and_eq_true, decide_eq_true_eq, val] at c4
      exact .bad (hd.trans hd'.symm) (by omega) (fun _ _ => by omega) (fun _ _ => by omega) (fun _ _ _ _ _ _ _ _ _ => by
        by_cases hr : RuneN ((((bat l 0 - 240) * 64 + (bat l 1 - 128)) * 64 + (bat l 2 - 128)) * 64 + (bat l 3 - 128))
        · exact .inl (Nat.lt_of_not_le fun h => c4 ⟨h, hr⟩)
        · exact .inr hr)
  rw [if_neg c3] at hd'
  simp only [Bool.and_eq_true, beq_iff_eq, g1, g2, g3] at c3
  exact .bad (hd.trans hd'.symm) (by omega) (fun _ _ _ _ _ => by omega) (fun _ _ _ _ _ _ _ => by omega) (fun _ _ _ _ _ _ _ _ _ => by omega)
theorem and_u8 {x m : Nat} (hx : x < 256) (hm : m < 256) : binA .and (.int .u8 x) (.int .u8 m) = some (.int .u8 ((x &&& m : Nat) : Int)) := by
  have hl : (x &&& m) < 2 ^ 8 := Nat.and_lt_two_pow x hm
  show some (Value.int .u8 (IntKind.u8.wrap (BitVec.ofInt 8 (x : Int) &&& BitVec.ofInt 8 (m : Int)).toNat)) = _
  have e : (BitVec.ofInt 8 (x : Int) &&& BitVec.ofInt 8 (m : Int)).toNat = x &&& m := by
    rw [BitVec.toNat_and, show BitVec.ofInt 8 (x : Int) = BitVec.ofNat 8 x from BitVec.ofInt_natCast .., show BitVec.ofInt 8 (m : Int) = BitVec.ofNat 8 m from BitVec.ofInt_natCast .., BitVec.toNat_ofNat, BitVec.toNat_ofNat, Nat.mod_eq_of_lt hx, Nat.mod_eq_of_lt hm]
  rw [e, wrap_u8 (by omega) (by omega)]
theorem and63 {x y : Nat} (hx : x < 256) (h : y = x % 64) : binA .and (.int .u8 x) (.int .u8 63) = some (.int .u8 y) := by
  rw [h, ← Nat.and_two_pow_sub_one_eq_mod x 6]
  exact and_u8 (m := 63) hx (by decide)
theorem and31 {x y : Nat} (hx : x < 256) (h : y = x % 32) : binA .and (.int .u8 x) (.int .u8 31) = some (.int .u8 y) := by
  rw [h, ← Nat.and_two_pow_sub_one_eq_mod x 5]
  exact and_u8 (m := 31) hx (by decide)
theorem and15 {x y : Nat} (hx : x < 256) (h : y = x % 16) : binA .and (.int .u8 x) (.int .u8 15) = some (.int .u8 y) := by
  rw [h, ← Nat.and_two_pow_sub_one_eq_mod x 4]
  exact and_u8 (m := 15) hx (by decide)
theorem and7 {x y : Nat} (hx : x < 256) (h : y = x % 8) : binA .and (.int .u8 x) (.int .u8 7) = some (.int .u8 y) := by
  rw [h, ← Nat.and_two_pow_sub_one_eq_mod x 3]
  exact and_u8 (m := 7) hx (by decide)
theorem dshl6 {v z : Nat} (h : z = v * 64) (hz : z < 2147483648) : binA .shl (.int .i32 v) (.int .u64 6) = some (.int .i32 z) := by
  show some (Value.int .i32 (IntKind.i32.wrap ((v : Int) * 64))) = _
  rw [wrap_i32 (by omega) (by omega), h]
  simp
theorem dshl12 {v z : Nat} (h : z = v * 4096) (hz : z < 2147483648) : binA .shl (.int .i32 v) (.int .u64 12) = some (.int .i32 z) := by
  show some (Value.int .i32 (IntKind.i32.wrap ((v : Int) * 4096))) = _
  rw [wrap_i32 (by omega) (by omega), h]
  simp
theorem dshl18 {v z : Nat} (h : z = v * 262144) (hz : z < 2147483648) : binA .shl (.int .i32 v) (.int .u64 18) = some (.int .i32 z) := by
  show some (Value.int .i32 (IntKind.i32.wrap ((v : Int) * 262144))) = _
  rw [wrap_i32 (by omega) (by omega), h]
  simp
theorem or_i32 {a b q k z : Nat} (ha : a = q * 2 ^ k) (hb : b < 2 ^ k) (hz : z = a + b) (hl : z < 2147483648) : binA .or (.int .i32 a) (.int .i32 b) = some (.int .i32 z) := by
  have e0 : a ||| b = z := by rw [hz, ha, ← Nat.shiftLeft_eq, Nat.shiftLeft_add_eq_or_of_lt hb]
  show some (Value.int .i32 (IntKind.i32.wrap (BitVec.ofInt 32 (a : Int) ||| BitVec.ofInt 32 (b : Int)).toNat)) = _
  have e : (BitVec.ofInt 32 (a : Int) ||| BitVec.ofInt 32 (b : Int)).toNat = z := by
    rw [BitVec.toNat_or, show BitVec.ofInt 32 (a : Int) = BitVec.ofNat 32 a from BitVec.ofInt_natCast .., show BitVec.ofInt 32 (b : Int) = BitVec.ofNat 32 b from BitVec.ofInt_natCast .., BitVec.toNat_ofNat, BitVec.toNat_ofNat, Nat.mod_eq_of_lt (by omega), Nat.mod_eq_of_lt (by omega), e0]
  rw [e, wrap_i32 (by omega) (by omega)]
theorem msk1 : binA .shl (.int .i32 241) (.int .u64 31) = some (.int .i32 (-2147483648)) := rfl
theorem msk2 : binA .shr (.int .i32 (-2147483648)) (.int .u64 31) = some (.int .i32 (-1)) := rfl
theorem msk3 (x : Int) : binA .andNot (.int .i32 x) (.int .i32 (-1)) = some (.int .i32 0) := by
  show some (Value.int .i32 (IntKind.i32.wrap (BitVec.ofInt 32 x &&& ~~~ BitVec.ofInt 32 (-1)).toNat)) = _
  have : ~~~ BitVec.ofInt 32 (-1) = 0#32 := by decide
  rw [this]
  simp
  rfl
theorem msk4 : binA .and (.int .i32 65533) (.int .i32 (-1)) = some (.int .i32 65533) := rfl
theorem msk5 : binA .or (.int .i32 0) (.int .i32 65533) = some (.int .i32 65533) := rfl
end Go.Proofs.YtblmakgjdenpfaaDoor.AM
namespace Go.Proofs.YtblmakgjdenpfaaDoor.AM
open Go
set_option maxRecDepth 20000 in
set_option maxHeartbeats 4000000 in
theorem decodeSlow_eq (t : ByteArray) (h1 : AH) (hT : U8T h1) (hsz : t.size < 100000000) (hx : 128 ≤ bat t.data.toList 0) : callO PX 79 [.string t] h1 = some (.tuple (List.toArray [.int .i32 (dec1 t.data.toList).1, .int .i64 (dec1 t.data.toList).2]), h1) := by
  obtain ⟨l, hl⟩ : ∃ l, l = t.data.toList := ⟨_, rfl⟩
  have hll : l.length = t.size := by rw [hl]; rfl
  rw [← hl] at hx ⊢
  have g2 := seqD l
  have hne : 0 < t.size := by
    rcases Nat.eq_zero_or_pos t.size with h0 | h0
    · have hn : l = [] := List.eq_nil_of_length_eq_zero (by omega)
      rw [hn] at hx
      simp [bat] at hx
    · exact h0
  obtain ⟨x0, q0⟩ : ∃ x, bat l 0 = x := ⟨_, rfl⟩
  obtain ⟨x1, q1⟩ : ∃ x, bat l 1 = x := ⟨_, rfl⟩
  obtain ⟨x2, q2⟩ : ∃ x, bat l 2 = x := ⟨_, rfl⟩
  obtain ⟨x3, q3⟩ : ∃ x, bat l 3 = x := ⟨_, rfl⟩
  have c0 := bat_lt l 0
  have c1 := bat_lt l 1
  have c2 := bat_lt l 2
  have c3 := bat_lt l 3
  rw [q0] at c0 hx
  rw [q1] at c1
  rw [q2] at c2
  rw [q3] at c3
  have rf := fun lc => rd_first hT lc c0
  have ra := fun j lc => rd_accept hT lc j
  simp only [acceptZ] at ra
  apply WpC.eqn
  refine wpc_fn (px_ext rfl) (px_fn fn_utf8_decodeRuneInStringSlow) rfl ?_
  unfold LF_utf8_decodeRuneInStringSlow
  simp only [argFr]
  rcases fst_cls ⟨x0, c0⟩ (by simp only; omega) with ⟨a1, a2, hz⟩ | ⟨a1, hz⟩ | ⟨a1, hz⟩ | ⟨a1, a2, a3, hz⟩ | ⟨a1, hz⟩ | ⟨a1, hz⟩ | ⟨a1, a2, hz⟩ | ⟨a1, hz⟩
  all_goals simp only at hz
  · have rf : ∀ lc, Mem.rd ⟨lc, h1⟩ ⟨0, x0, none⟩ 1 = some [.int .u8 2] := fun lc => by rw [rf lc, hz]; rfl
    have e1 := u8a 2 2 (by simp)
    have e2 := u8s 2 0 (by simp)
    have r0 : ∀ lc, Mem.rd ⟨lc, h1⟩ ⟨1, 0, none⟩ 2 = some [.int .u8 128, .int .u8 191] := fun lc => ra 0 lc
    simp only at a1 a2
    rcases g2 with ⟨a, e⟩ | ⟨a, b, n, d1, r, e⟩ | ⟨a, b, n, d1, d2, r, v, e⟩ | ⟨a, b, n, d1, d2, d3, r, v, e⟩ | ⟨e, hh, b2, b3, b4⟩
    · rw [q0] at a; omega
    · simp only [q0, q1] at a b d1 r e
      obtain ⟨y0, hy0⟩ : ∃ y, y = x0 % 32 := ⟨_, rfl⟩
      obtain ⟨y1, hy1⟩ : ∃ y, y = x1 % 64 := ⟨_, rfl⟩
      obtain ⟨z0, hz0⟩ : ∃ z, z = y0 * 64 := ⟨_, rfl⟩
      obtain ⟨r0', hr0⟩ : ∃ z, z = z0 + y1 := ⟨_, rfl⟩
      have b0 := and31 c0 hy0
      have b1 := and63 c1 hy1
      have b2 := dshl6 hz0 (by omega)
      have b3 := or_i32 (k := 6) hz0 (by omega) hr0 (by omega)
      have hv : (x0 - 192) * 64 + (x1 - 128) = r0' := by omega
      rw [e, hv]
      (refine W_x (Aj hl.symm (Aj q0 (Aj q1 (Aj q2 (Aj q3 (Aj rf (Aj e1 (Aj e2 (Aj r0 (Aj b0 (Aj b1 (Aj b2 b3)))))))))))) ?_; (repeat' first | apply Cj.mk | exact Nl.nl) <;> intros)
      exact ⟨rfl, rfl⟩
    · simp only [q0, q1, q2] at a b d1 d2 r v e
      omega
    · simp only [q0, q1, q2, q3] at a b d1 d2 d3 r v e
      omega
    · simp only [q0, q1, q2, q3] at hh b2 b3 b4
      unfold RuneN at b3 b4
      rw [e]
      (refine W_x (Aj hl.symm (Aj q0 (Aj q1 (Aj q2 (Aj q3 (Aj rf (Aj e1 (Aj e2 r0)))))))) ?_; (repeat' first | apply Cj.mk | exact Nl.nl) <;> intros)
      all_goals first | exact ⟨rfl, rfl⟩ | (exfalso; omega)
  · have rf : ∀ lc, Mem.rd ⟨lc, h1⟩ ⟨0, x0, none⟩ 1 = some [.int .u8 19] := fun lc => by rw [rf lc, hz]; rfl
    have e1 := u8a 19 3 (by simp)
    have e2 := u8s 19 1 (by simp)
    have r0 : ∀ lc, Mem.rd ⟨lc, h1⟩ ⟨1, 2, none⟩ 2 = some [.int .u8 160, .int .u8 191] := fun lc => ra 1 lc
    simp only at a1
    rcases g2 with ⟨a, e⟩ | ⟨a, b, n, d1, r, e⟩ | ⟨a, b, n, d1, d2, r, v, e⟩ | ⟨a, b, n, d1, d2, d3, r, v, e⟩ | ⟨e, hh, b2, b3, b4⟩
    · rw [q0] at a; omega
    · simp only [q0, q1] at a b d1 r e
      omega
    · simp only [q0, q1, q2] at a b d1 d2 r v e
      unfold RuneN at v
      obtain ⟨y0, hy0⟩ : ∃ y, y = x0 % 16 := ⟨_, rfl⟩
      obtain ⟨y1, hy1⟩ : ∃ y, y = x1 % 64 := ⟨_, rfl⟩
      obtain ⟨y2, hy2⟩ : ∃ y, y = x2 % 64 := ⟨_, rfl⟩
      obtain ⟨z0, hz0⟩ : ∃ z, z = y0 * 4096 := ⟨_, rfl⟩
      obtain ⟨z1, hz1⟩ : ∃ z, z = y1 * 64 := ⟨_, rfl⟩
      obtain ⟨s1, hs1⟩ : ∃ z, z = z0 + z1 := ⟨_, rfl⟩
      obtain ⟨r0', hr0⟩ : ∃ z, z = s1 + y2 := ⟨_, rfl⟩
      have b0 := and15 c0 hy0
      have b1 := and63 c1 hy1
      have b2 := and63 c2 hy2
      have b3 := dshl12 hz0 (by omega)
      have b4 := dshl6 hz1 (by omega)
      have b5 := or_i32 (k := 12) hz0 (by omega) hs1 (by omega)
      have b6 := or_i32 (q := y0 * 64 + y1) (k := 6) (show s1 = (y0 * 64 + y1) * 2 ^ 6 by omega) (by omega) hr0 (by omega)
      have hv : ((x0 - 224) * 64 + (x1 - 128)) * 64 + (x2 - 128) = r0' := by omega
      rw [e, hv]
      (refine W_x (Aj hl.symm (Aj q0 (Aj q1 (Aj q2 (Aj q3 (Aj rf (Aj e1 (Aj e2 (Aj r0 (Aj b0 (Aj b1 (Aj b2 (Aj b3 (Aj b4 (Aj b5 b6))))))))))))))) ?_; (repeat' first | apply Cj.mk | exact Nl.nl) <;> intros)
      exact ⟨rfl, rfl⟩
    · simp only [q0, q1, q2, q3] at a b d1 d2 d3 r v e
      omega
    · simp only [q0, q1, q2, q3] at hh b2 b3 b4
      unfold RuneN at b3 b4
      rw [e]
      (refine W_x (Aj hl.symm (Aj q0 (Aj q1 (Aj q2 (Aj q3 (Aj rf (Aj e1 (Aj e2 r0)))))))) ?_; (repeat' first | apply Cj.mk | exact Nl.nl) <;> intros)
      all_goals first | exact ⟨rfl, rfl⟩ | (exfalso; omega)
  · have rf : ∀ lc, Mem.rd ⟨lc, h1⟩ ⟨0, x0, none⟩ 1 = some [.int .u8 35] := fun lc => by rw [rf lc, hz]; rfl
    have e1 := u8a 35 3 (by simp)
    have e2 := u8s 35 2 (by simp)
    have r0 : ∀ lc, Mem.rd ⟨lc, h1⟩ ⟨1, 4, none⟩ 2 = some [.int .u8 128, .int .u8 159] := fun lc => ra 2 lc
    simp only at a1
    rcases g2 with ⟨a, e⟩ | ⟨a, b, n, d1, r, e⟩ | ⟨a, b, n, d1, d2, r, v, e⟩ | ⟨a, b, n, d1, d2, d3, r, v, e⟩ | ⟨e, hh, b2, b3, b4⟩
    · rw [q0] at a; omega
    · simp only [q0, q1] at a b d1 r e
      omega
    · simp only [q0, q1, q2] at a b d1 d2 r v e
      unfold RuneN at v
      obtain ⟨y0, hy0⟩ : ∃ y, y = x0 % 16 := ⟨_, rfl⟩
      obtain ⟨y1, hy1⟩ : ∃ y, y = x1 % 64 := ⟨_, rfl⟩
      obtain ⟨y2, hy2⟩ : ∃ y, y = x2 % 64 := ⟨_, rfl⟩
      obtain ⟨z0, hz0⟩ : ∃ z, z = y0 * 4096 := ⟨_, rfl⟩
      obtain ⟨z1, hz1⟩ : ∃ z, z = y1 * 64 := ⟨_, rfl⟩
      obtain ⟨s1, hs1⟩ : ∃ z, z = z0 + z1 := ⟨_, rfl⟩
      obtain ⟨r0', hr0⟩ : ∃ z, z = s1 + y2 := ⟨_, rfl⟩
      have b0 := and15 c0 hy0
      have b1 := and63 c1 hy1
      have b2 := and63 c2 hy2
      have b3 := dshl12 hz0 (by omega)
      have b4 := dshl6 hz1 (by omega)
      have b5 := or_i32 (k := 12) hz0 (by omega) hs1 (by omega)
      have b6 := or_i32 (q := y0 * 64 + y1) (k := 6) (show s1 = (y0 * 64 + y1) * 2 ^ 6 by omega) (by omega) hr0 (by omega)
      have hv : ((x0 - 224) * 64 + (x1 - 128)) * 64 + (x2 - 128) = r0' := by omega
      rw [e, hv]
      (refine W_x (Aj hl.symm (Aj q0 (Aj q1 (Aj q2 (Aj q3 (Aj rf (Aj e1 (Aj e2 (Aj r0 (Aj b0 (Aj b1 (Aj b2 (Aj b3 (Aj b4 (Aj b5 b6))))))))))))))) ?_; (repeat' first | apply Cj.mk | exact Nl.nl) <;> intros)
      exact ⟨rfl, rfl⟩
    · simp only [q0, q1, q2, q3] at a b d1 d2 d3 r v e
      omega
    · simp only [q0, q1, q2, q3] at hh b2 b3 b4
      unfold RuneN at b3 b4
      rw [e]
      (refine W_x (Aj hl.symm (Aj q0 (Aj q1 (Aj q2 (Aj q3 (Aj rf (Aj e1 (Aj e2 r0)))))))) ?_; (repeat' first | apply Cj.mk | exact Nl.nl) <;> intros)
      all_goals first | exact ⟨rfl, rfl⟩ | (exfalso; omega)
  · have rf : ∀ lc, Mem.rd ⟨lc, h1⟩ ⟨0, x0, none⟩ 1 = some [.int .u8 3] := fun lc => by rw [rf lc, hz]; rfl
    have e1 := u8a 3 3 (by simp)
    have e2 := u8s 3 0 (by simp)
    have r0 : ∀ lc, Mem.rd ⟨lc, h1⟩ ⟨1, 0, none⟩ 2 = some [.int .u8 128, .int .u8 191] := fun lc => ra 0 lc
    simp only at a1 a2 a3
    rcases g2 with ⟨a, e⟩ | ⟨a, b, n, d1, r, e⟩ | ⟨a, b, n, d1, d2, r, v, e⟩ | ⟨a, b, n, d1, d2, d3, r, v, e⟩ | ⟨e, hh, b2, b3, b4⟩
    · rw [q0] at a; omega
    · simp only [q0, q1] at a b d1 r e
      omega
    · simp only [q0, q1, q2] at a b d1 d2 r v e
      unfold RuneN at v
      obtain ⟨y0, hy0⟩ : ∃ y, y = x0 % 16 := ⟨_, rfl⟩
      obtain ⟨y1, hy1⟩ : ∃ y, y = x1 % 64 := ⟨_, rfl⟩
      obtain ⟨y2, hy2⟩ : ∃ y, y = x2 % 64 := ⟨_, rfl⟩
      obtain ⟨z0, hz0⟩ : ∃ z, z = y0 * 4096 := ⟨_, rfl⟩
      obtain ⟨z1, hz1⟩ : ∃ z, z = y1 * 64 := ⟨_, rfl⟩
      obtain ⟨s1, hs1⟩ : ∃ z, z = z0 + z1 := ⟨_, rfl⟩
      obtain ⟨r0', hr0⟩ : ∃ z, z = s1 + y2 := ⟨_, rfl⟩
      have b0 := and15 c0 hy0
      have b1 := and63 c1 hy1
      have b2 := and63 c2 hy2
      have b3 := dshl12 hz0 (by omega)
      have b4 := dshl6 hz1 (by omega)
      have b5 := or_i32 (k := 12) hz0 (by omega) hs1 (by omega)
      have b6 := or_i32 (q := y0 * 64 + y1) (k := 6) (show s1 = (y0 * 64 + y1) * 2 ^ 6 by omega) (by omega) hr0 (by omega)
      have hv : ((x0 - 224) * 64 + (x1 - 128)) * 64 + (x2 - 128) = r0' := by omega
      rw [e, hv]
      (refine W_x (Aj hl.symm (Aj q0 (Aj q1 (Aj q2 (Aj q3 (Aj rf (Aj e1 (Aj e2 (Aj r0 (Aj b0 (Aj b1 (Aj b2 (Aj b3 (Aj b4 (Aj b5 b6))))))))))))))) ?_; (repeat' first | apply Cj.mk | exact Nl.nl) <;> intros)
      exact ⟨rfl, rfl⟩
    · simp only [q0, q1, q2, q3] at a b d1 d2 d3 r v e
      omega
    · simp only [q0, q1, q2, q3] at hh b2 b3 b4
      unfold RuneN at b3 b4
      rw [e]
      (refine W_x (Aj hl.symm (Aj q0 (Aj q1 (Aj q2 (Aj q3 (Aj rf (Aj e1 (Aj e2 r0)))))))) ?_; (repeat' first | apply Cj.mk | exact Nl.nl) <;> intros)
      all_goals first | exact ⟨rfl, rfl⟩ | (exfalso; omega)
  · have rf : ∀ lc, Mem.rd ⟨lc, h1⟩ ⟨0, x0, none⟩ 1 = some [.int .u8 52] := fun lc => by rw [rf lc, hz]; rfl
    have e1 := u8a 52 4 (by simp)
    have e2 := u8s 52 3 (by simp)
    have r0 : ∀ lc, Mem.rd ⟨lc, h1⟩ ⟨1, 6, none⟩ 2 = some [.int .u8 144, .int .u8 191] := fun lc => ra 3 lc
    simp only at a1
    rcases g2 with ⟨a, e⟩ | ⟨a, b, n, d1, r, e⟩ | ⟨a, b, n, d1, d2, r, v, e⟩ | ⟨a, b, n, d1, d2, d3, r, v, e⟩ | ⟨e, hh, b2, b3, b4⟩
    · rw [q0] at a; omega
    · simp only [q0, q1] at a b d1 r e
      omega
    · simp only [q0, q1, q2] at a b d1 d2 r v e
      omega
    · simp only [q0, q1, q2, q3] at a b d1 d2 d3 r v e
      unfold RuneN at v
      obtain ⟨y0, hy0⟩ : ∃ y, y = x0 % 8 := ⟨_, rfl⟩
      obtain ⟨y1, hy1⟩ : ∃ y, y = x1 % 64 := ⟨_, rfl⟩
      obtain ⟨y2, hy2⟩ : ∃ y, y = x2 % 64 := ⟨_, rfl⟩
      obtain ⟨y3, hy3⟩ : ∃ y, y = x3 % 64 := ⟨_, rfl⟩
      obtain ⟨z0, hz0⟩ : ∃ z, z = y0 * 262144 := ⟨_, rfl⟩
      obtain ⟨z1, hz1⟩ : ∃ z, z = y1 * 4096 := ⟨_, rfl⟩
      obtain ⟨z2, hz2⟩ : ∃ z, z = y2 * 64 := ⟨_, rfl⟩
      obtain ⟨s1, hs1⟩ : ∃ z, z = z0 + z1 := ⟨_, rfl⟩
      obtain ⟨s2, hs2⟩ : ∃ z, z = s1 + z2 := ⟨_, rfl⟩
      obtain ⟨r0', hr0⟩ : ∃ z, z = s2 + y3 := ⟨_, rfl⟩
      have b0 := and7 c0 hy0
      have b1 := and63 c1 hy1
      have b2 := and63 c2 hy2
      have b2' := and63 c3 hy3
      have b3 := dshl18 hz0 (by omega)
      have b4 := dshl12 hz1 (by omega)
      have b4' := dshl6 hz2 (by omega)
      have b5 := or_i32 (k := 18) hz0 (by omega) hs1 (by omega)
      have b6 := or_i32 (q := y0 * 64 + y1) (k := 12) (show s1 = (y0 * 64 + y1) * 2 ^ 12 by omega) (by omega) hs2 (by omega)
      have b7 := or_i32 (q := (y0 * 64 + y1) * 64 + y2) (k := 6) (show s2 = ((y0 * 64 + y1) * 64 + y2) * 2 ^ 6 by omega) (by omega) hr0 (by omega)
      have hv : (((x0 - 240) * 64 + (x1 - 128)) * 64 + (x2 - 128)) * 64 + (x3 - 128) = r0' := by omega
      rw [e, hv]
      (refine W_x (Aj hl.symm (Aj q0 (Aj q1 (Aj q2 (Aj q3 (Aj rf (Aj e1 (Aj e2 (Aj r0 (Aj b0 (Aj b1 (Aj b2 (Aj b2' (Aj b3 (Aj b4 (Aj b4' (Aj b5 (Aj b6 b7)))))))))))))))))) ?_; (repeat' first | apply Cj.mk | exact Nl.nl) <;> intros)
      exact ⟨rfl, rfl⟩
    · simp only [q0, q1, q2, q3] at hh b2 b3 b4
      unfold RuneN at b3 b4
      rw [e]
      (refine W_x (Aj hl.symm (Aj q0 (Aj q1 (Aj q2 (Aj q3 (Aj rf (Aj e1 (Aj e2 r0)))))))) ?_; (repeat' first | apply Cj.mk | exact Nl.nl) <;> intros)
      all_goals first | exact ⟨rfl, rfl⟩ | (exfalso; omega)
  · have rf : ∀ lc, Mem.rd ⟨lc, h1⟩ ⟨0, x0, none⟩ 1 = some [.int .u8 68] := fun lc => by rw [rf lc, hz]; rfl
    have e1 := u8a 68 4 (by simp)
    have e2 := u8s 68 4 (by simp)
    have r0 : ∀ lc, Mem.rd ⟨lc, h1⟩ ⟨1, 8, none⟩ 2 = some [.int .u8 128, .int .u8 143] := fun lc => ra 4 lc
    simp only at a1
    rcases g2 with ⟨a, e⟩ | ⟨a, b, n, d1, r, e⟩ | ⟨a, b, n, d1, d2, r, v, e⟩ | ⟨a, b, n, d1, d2, d3, r, v, e⟩ | ⟨e, hh, b2, b3, b4⟩
    · rw [q0] at a; omega
    · simp only [q0, q1] at a b d1 r e
      omega
    · simp only [q0, q1, q2] at a b d1 d2 r v e
      omega
    · simp only [q0, q1, q2, q3] at a b d1 d2 d3 r v e
      unfold RuneN at v
      obtain ⟨y0, hy0⟩ : ∃ y, y = x0 % 8 := ⟨_, rfl⟩
      obtain ⟨y1, hy1⟩ : ∃ y, y = x1 % 64 := ⟨_, rfl⟩
      obtain ⟨y2, hy2⟩ : ∃ y, y = x2 % 64 := ⟨_, rfl⟩
      obtain ⟨y3, hy3⟩ : ∃ y, y = x3 % 64 := ⟨_, rfl⟩
      obtain ⟨z0, hz0⟩ : ∃ z, z = y0 * 262144 := ⟨_, rfl⟩
      obtain ⟨z1, hz1⟩ : ∃ z, z = y1 * 4096 := ⟨_, rfl⟩
      obtain ⟨z2, hz2⟩ : ∃ z, z = y2 * 64 := ⟨_, rfl⟩
      obtain ⟨s1, hs1⟩ : ∃ z, z = z0 + z1 := ⟨_, rfl⟩
      obtain ⟨s2, hs2⟩ : ∃ z, z = s1 + z2 := ⟨_, rfl⟩
      obtain ⟨r0', hr0⟩ : ∃ z, z = s2 + y3 := ⟨_, rfl⟩
      have b0 := and7 c0 hy0
      have b1 := and63 c1 hy1
      have b2 := and63 c2 hy2
      have b2' := and63 c3 hy3
      have b3 := dshl18 hz0 (by omega)
      have b4 := dshl12 hz1 (by omega)
      have b4' := dshl6 hz2 (by omega)
      have b5 := or_i32 (k := 18) hz0 (by omega) hs1 (by omega)
      have b6 := or_i32 (q := y0 * 64 + y1) (k := 12) (show s1 = (y0 * 64 + y1) * 2 ^ 12 by omega) (by omega) hs2 (by omega)
      have b7 := or_i32 (q := (y0 * 64 + y1) * 64 + y2) (k := 6) (show s2 = ((y0 * 64 + y1) * 64 + y2) * 2 ^ 6 by omega) (by omega) hr0 (by omega)
      have hv : (((x0 - 240) * 64 + (x1 - 128)) * 64 + (x2 - 128)) * 64 + (x3 - 128) = r0' := by omega
      rw [e, hv]
      (refine W_x (Aj hl.symm (Aj q0 (Aj q1 (Aj q2 (Aj q3 (Aj rf (Aj e1 (Aj e2 (Aj r0 (Aj b0 (Aj b1 (Aj b2 (Aj b2' (Aj b3 (Aj b4 (Aj b4' (Aj b5 (Aj b6 b7)))))))))))))))))) ?_; (repeat' first | apply Cj.mk | exact Nl.nl) <;> intros)
      exact ⟨rfl, rfl⟩
    · simp only [q0, q1, q2, q3] at hh b2 b3 b4
      unfold RuneN at b3 b4
      rw [e]
      (refine W_x (Aj hl.symm (Aj q0 (Aj q1 (Aj q2 (Aj q3 (Aj rf (Aj e1 (Aj e2 r0)))))))) ?_; (repeat' first | apply Cj.mk | exact Nl.nl) <;> intros)
      all_goals first | exact ⟨rfl, rfl⟩ | (exfalso; omega)
  · have rf : ∀ lc, Mem.rd ⟨lc, h1⟩ ⟨0, x0, none⟩ 1 = some [.int .u8 4] := fun lc => by rw [rf lc, hz]; rfl
    have e1 := u8a 4 4 (by simp)
    have e2 := u8s 4 0 (by simp)
    have r0 : ∀ lc, Mem.rd ⟨lc, h1⟩ ⟨1, 0, none⟩ 2 = some [.int .u8 128, .int .u8 191] := fun lc => ra 0 lc
    simp only at a1 a2
    rcases g2 with ⟨a, e⟩ | ⟨a, b, n, d1, r, e⟩ | ⟨a, b, n, d1, d2, r, v, e⟩ | ⟨a, b, n, d1, d2, d3, r, v, e⟩ | ⟨e, hh, b2, b3, b4⟩
    · rw [q0] at a; omega
    · simp only [q0, q1] at a b d1 r e
      omega
    · simp only [q0, q1, q2] at a b d1 d2 r v e
      omega
    · simp only [q0, q1, q2, q3] at a b d1 d2 d3 r v e
      unfold RuneN at v
      obtain ⟨y0, hy0⟩ : ∃ y, y = x0 % 8 := ⟨_, rfl⟩
      obtain ⟨y1, hy1⟩ : ∃ y, y = x1 % 64 := ⟨_, rfl⟩
      obtain ⟨y2, hy2⟩ : ∃ y, y = x2 % 64 := ⟨_, rfl⟩
      obtain ⟨y3, hy3⟩ : ∃ y, y = x3 % 64 := ⟨_, rfl⟩
      obtain ⟨z0, hz0⟩ : ∃ z, z = y0 * 262144 := ⟨_, rfl⟩
      obtain ⟨z1, hz1⟩ : ∃ z, z = y1 * 4096 := ⟨_, rfl⟩
      obtain ⟨z2, hz2⟩ : ∃ z, z = y2 * 64 := ⟨_, rfl⟩
      obtain ⟨s1, hs1⟩ : ∃ z, z = z0 + z1 := ⟨_, rfl⟩
      obtain ⟨s2, hs2⟩ : ∃ z, z = s1 + z2 := ⟨_, rfl⟩
      obtain ⟨r0', hr0⟩ : ∃ z, z = s2 + y3 := ⟨_, rfl⟩
      have b0 := and7 c0 hy0
      have b1 := and63 c1 hy1
      have b2 := and63 c2 hy2
      have b2' := and63 c3 hy3
      have b3 := dshl18 hz0 (by omega)
      have b4 := dshl12 hz1 (by omega)
      have b4' := dshl6 hz2 (by omega)
      have b5 := or_i32 (k := 18) hz0 (by omega) hs1 (by omega)
      have b6 := or_i32 (q := y0 * 64 + y1) (k := 12) (show s1 = (y0 * 64 + y1) * 2 ^ 12 by omega) (by omega) hs2 (by omega)
      have b7 := or_i32 (q := (y0 * 64 + y1) * 64 + y2) (k := 6) (show s2 = ((y0 * 64 + y1) * 64 + y2) * 2 ^ 6 by omega) (by omega) hr0 (by omega)
      have hv : (((x0 - 240) * 64 + (x1 - 128)) * 64 + (x2 - 128)) * 64 + (x3 - 128) = r0' := by omega
      rw [e, hv]
      (refine W_x (Aj hl.symm (Aj q0 (Aj q1 (Aj q2 (Aj q3 (Aj rf (Aj e1 (Aj e2 (Aj r0 (Aj b0 (Aj b1 (Aj b2 (Aj b2' (Aj b3 (Aj b4 (Aj b4' (Aj b5 (Aj b6 b7)))))))))))))))))) ?_; (repeat' first | apply Cj.mk | exact Nl.nl) <;> intros)
      exact ⟨rfl, rfl⟩
    · simp only [q0, q1, q2, q3] at hh b2 b3 b4
      unfold RuneN at b3 b4
      rw [e]
      (refine W_x (Aj hl.symm (Aj q0 (Aj q1 (Aj q2 (Aj q3 (Aj rf (Aj e1 (Aj e2 r0)))))))) ?_; (repeat' first | apply Cj.mk | exact Nl.nl) <;> intros)
      all_goals first | exact ⟨rfl, rfl⟩ | (exfalso; omega)
  · have rf : ∀ lc, Mem.rd ⟨lc, h1⟩ ⟨0, x0, none⟩ 1 = some [.int .u8 241] := fun lc => by rw [rf lc, hz]; rfl
    simp only at a1
    have m1 := msk1
    have m2 := msk2
    have m3 := msk3 (x0 : Nat)
    have m4 := msk4
    have m5 := msk5
    rcases g2 with ⟨a, e⟩ | ⟨a, b, n, d1, r, e⟩ | ⟨a, b, n, d1, d2, r, v, e⟩ | ⟨a, b, n, d1, d2, d3, r, v, e⟩ | ⟨e, hh, b2, b3, b4⟩
    · rw [q0] at a; omega
    · simp only [q0, q1] at a b d1 r e
      omega
    · simp only [q0, q1, q2] at a b d1 d2 r v e
      omega
    · simp only [q0, q1, q2, q3] at a b d1 d2 d3 r v e
      unfold RuneN at v
      omega
    · rw [e]
      (refine W_x (Aj hl.symm (Aj q0 (Aj rf (Aj m1 (Aj m2 (Aj m3 (Aj m4 m5))))))) ?_; (repeat' first | apply Cj.mk | exact Nl.nl) <;> intros)
      exact ⟨rfl, rfl⟩
end Go.Proofs.YtblmakgjdenpfaaDoor.AM
namespace Go.Proofs.YtblmakgjdenpfaaDoor.AM
open Go
def LF_utf_Spots : LFunc :=
  .mk 1 [.tmp 2] (.seq (R 1 [1] [.tmp 1 (xbh 1 (.sl 0)), .set 2 (.cv .nilFunc)]) (.seq (R 3 [2] [.set 2 (.op (.p (.mkfn (.func 82) [] [.s 0])) (.sl 1))]) .ret))
theorem fn_utf_Spots : (autoPrg Tryd.prog).fn 55 = some LF_utf_Spots := by kernel_rfl
def LF_utf_Spots_1 : LFunc :=
  .mk 2 [] (.seq (R 6 [0, 1, 7] [.tmp 7 (.op (.e (.rngS 7 (.s 0))) (xld (.sl 1)))]) (.block 0 (.loop (.seq (R 8 [0, 1, 7, 8, 9] [.tmp 8 (.op (.e (.nxtS (.s 0))) (.sl 7)), .tmp 9
  (xex 0 (.sl 8))]) (.seq (.cond (.s 9) .skip (.exit 0)) (.block 1 (.seq (R 10 [0, 1, 3, 4, 7] [.tmp 10 (xex 1 (.sl 8)), .tmp 11 (xex 2 (.sl 8)), .set 3 (.sl 10), .set 4 (.sl 11)])
  (.seq (R 12 [0, 1, 3, 4, 5, 7] [.set 5 (xc1 83 (.va 4))]) (.seq (.seq (R 14 [0, 1, 3, 4, 5, 7, 24] [.tmp 24 (.and (xb .eql (.va 4) (xr 65533)) (xu .not (xc2
  84 (.op (.p (.slS (.s 0) (some (.s 1)) none)) (.cons (xld (.sl 1)) (.va 3))) (.op (.p (.i2s (.s 0))) (.va 4)))))]) (.cond (.s 24) (R 999 [0, 1, 3, 4, 5, 7]
  [.set 5 (xi 1)]) .skip)) (.seq (R 25 [0, 1, 7, 31] [.tmp 31 (xu .not (xv2 (.va 0) (.va 3) (xc2 45 (.va 4) (.va 5))))]) (.cond (.s 31) .ret .skip)))))))))))
theorem fn_utf_Spots_1 : (autoPrg Tryd.prog).fn 82 = some LF_utf_Spots_1 := by kernel_rfl
def LF_utf8_RuneLen : LFunc :=
  .mk 1 [.tmp 2] (.seq (R 999 [0] [.set 2 (xi 0)]) (.seq (.block 0 (.seq (R 4 [0, 3] [.set 3 (xb .lss (.va 0) (xr 0))]) (.cond (.s 3) (.seq (R 999 [2] [.set 2 (xi (-1))]) .ret)
  (.seq (R 7 [0, 6] [.set 6 (xb .leq (.va 0) (xr 127))]) (.cond (.s 6) (.seq (R 999 [2] [.set 2 (xi 1)]) .ret) (.seq (R 10 [0, 9] [.set 9 (xb .leq (.va 0) (xr 2047))]) (.cond (.s 9)
  (.seq (R 999 [2] [.set 2 (xi 2)]) .ret) (.seq (R 13 [0, 12] [.set 12 (.and (xb .leq (xr 55296) (.va 0)) (xb .leq (.va 0) (xr 57343)))]) (.cond (.s 12) (.seq (R 999 [2] [.set 2 (xi
  (-1))]) .ret) (.seq (R 20 [0, 19] [.set 19 (xb .leq (.va 0) (xr 65535))]) (.cond (.s 19) (.seq (R 999 [2] [.set 2 (xi 3)]) .ret) (.seq (R 23 [22] [.set 22 (xb .leq (.va 0) (xr
  1114111))]) (.cond (.s 22) (.seq (R 999 [2] [.set 2 (xi 4)]) .ret) .skip))))))))))))) (.seq (R 999 [2] [.set 2 (xi (-1))]) .ret)))
theorem fn_utf8_RuneLen : (autoPrg Tryd.prog).fn 83 = some LF_utf8_RuneLen := by kernel_rfl
def LF_strings_HasPrefix : LFunc :=
  .mk 2 [.tmp 4] (.seq (R 999 [0, 1] [.set 4 (.cv (.bool false))]) (.seq (R 5 [4] [.set 4 (xc2 123 (.va 0) (.va 1))]) .ret))
theorem fn_strings_HasPrefix : (autoPrg Tryd.prog).fn 84 = some LF_strings_HasPrefix := by kernel_rfl
def LF_internal_stringslite_HasPrefix : LFunc :=
  .mk 2 [.tmp 4] (.seq (R 999 [0, 1] [.set 4 (.cv (.bool false))]) (.seq (R 5 [4] [.set 4 (.and (xb .geq (xsl (.va 0)) (xsl (.va 1))) (xb .eql (.op (.p (.slS (.s 0) none (some (.s
  1)))) (.cons (.va 0) (xsl (.va 1)))) (.va 1)))]) .ret))
theorem fn_internal_stringslite_HasPrefix : (autoPrg Tryd.prog).fn 123 = some LF_internal_stringslite_HasPrefix := by kernel_rfl
def LF_utf_spot : LFunc :=
  .mk 2 [.cell 4 (some 3)] (.seq (R 4 [0, 1, 4] [.tmp 4 (xnl 4 [.int .i32 0, .int .i64 0, .bool false])]) (.seq (R 5 [4] [.run (xst 3 (.sl 4) (.op (.p (.build [.int .i32 0, .int
  .i64 0, .bool false] [(0, 1, .s 0), (1, 1, .s 1), (2, 1, .s 2)])) (.cons (.va 0) (.cons (.va 1) (.and (xb .eql (.va 0) (xr 65533)) (xb .eql (.va 1) (xi 1)))))))]) .ret))
theorem fn_utf_spot : (autoPrg Tryd.prog).fn 45 = some LF_utf_spot := by kernel_rfl
end Go.Proofs.YtblmakgjdenpfaaDoor.AM
namespace Go.Proofs.YtblmakgjdenpfaaDoor.AM
open Go
theorem runeLen_eq (c : Nat) (hc : RuneN c) (h : AH) : callO PX 83 [.int .i32 c] h = some (.int .i64 (encN c).length, h) := by
  have hle : c ≤ 0x10FFFF := by unfold RuneN at hc; omega
  have hl : (encN c).length = if c < 0x80 then 1 else if c < 0x800 then 2 else if c < 0x10000 then 3 else 4 := by
    unfold encN
    split
    · rfl
    · split
      · rfl
      · split <;> rfl
  unfold RuneN at hc
  apply WpC.eqn
  refine wpc_fn (px_ext rfl) (px_fn fn_utf8_RuneLen) rfl ?_
  unfold LF_utf8_RuneLen
  simp only [argFr]
  (refine W_x trivial ?_; (repeat' first | apply Cj.mk | exact Nl.nl) <;> intros)
  all_goals
    refine ⟨?_, rfl⟩
    rw [hl]
    congr 1
    repeat' split
    all_goals first | rfl | omega
theorem hasPrefix0_eq (a b : ByteArray) (h : AH) : callO PX 123 [.string a, .string b] h = some (.bool (decide (b.size ≤ a.size ∧ a.extract 0 b.size = b)), h) := by
  apply WpC.eqn
  refine wpc_fn (px_ext rfl) (px_fn fn_internal_stringslite_HasPrefix) rfl ?_
  unfold LF_internal_stringslite_HasPrefix
  simp only [argFr]
  (refine W_x trivial ?_; (repeat' first | apply Cj.mk | exact Nl.nl) <;> intros)
  all_goals (refine ⟨?_, rfl⟩; congr 1; symm)
  · rename_i g1 g2; exact decide_eq_true ⟨by omega, g2⟩
  · rename_i g1 g2; exact decide_eq_false (fun h => g2 h.2)
  · rename_i g1; exact decide_eq_false (fun h => g1 (by omega))
theorem hasPrefix_eq (a b : ByteArray) (h : AH) : callO PX 84 [.string a, .string b] h = some (.bool (decide (b.size ≤ a.size ∧ a.extract 0 b.size = b)), h) := by
  have e := hasPrefix0_eq a b
  apply WpC.eqn
  refine wpc_fn (px_ext rfl) (px_fn fn_strings_HasPrefix) rfl ?_
  unfold LF_strings_HasPrefix
  simp only [argFr]
  (refine W_x e ?_; (repeat' first | apply Cj.mk | exact Nl.nl) <;> intros)
  all_goals (refine ⟨?_, rfl⟩; congr 1; symm; first | exact decide_eq_true (by assumption) | exact decide_eq_false (by assumption))
theorem spot_eq (r n : Nat) (h : AH) : callO PX 45 [.int .i32 r, .int .i64 n] h = some (spotV (r, n), h) := by
  apply WpC.eqn
  refine wpc_fn (px_ext rfl) (px_fn fn_utf_spot) rfl ?_
  unfold LF_utf_spot
  simp only [argFr]
  (refine W_x trivial ?_; (repeat' first | apply Cj.mk | exact Nl.nl) <;> intros)
  all_goals
    refine ⟨?_, rfl⟩
    have hb : ∀ t : Bool, (t = true ↔ (r = 65533 ∧ n = 1)) → isBad2 (r, n) = t := fun t ht => by
      unfold isBad2
      rw [Bool.eq_iff_iff, ht]
      simp only [Bool.and_eq_true, beq_iff_eq]
    unfold spotV
    first
    | (have e : r = 65533 ∧ n = 1 := by omega
       rw [hb true (iff_of_true rfl e)]
       done)
    | (have e : ¬ (r = 65533 ∧ n = 1) := by omega
       rw [hb false (iff_of_false (by decide) e)]
       done)
theorem spotsMk_eq (s : ByteArray) (h : AH) : callO PX 55 [.string s] h = some (.func (.func 82) #[] #[.pointer (some ⟨h.n, 0, none⟩)], h.push (.cells false [.string s])) := by
  apply WpC.eqn
  refine wpc_fn (px_ext rfl) (px_fn fn_utf_Spots) rfl ?_
  unfold LF_utf_Spots
  simp only [argFr]
  (refine W_x trivial ?_; (repeat' first | apply Cj.mk | exact Nl.nl) <;> intros)
  exact ⟨rfl, rfl⟩
theorem spots_seq (s : ByteArray) (bx : Nat) (hsz : s.size ≤ 140737488351232) :
    SeqP PX (.func (.func 82) #[] #[.pointer (some ⟨bx, 0, none⟩)]) (spotsL s.data.toList) spotE (fun h => h.get bx = some (.cells false [.string s])) := by
  intro yv I E h hyv hvs hstep hD h0
  have d1 : h.get bx = some (.cells false [.string s]) := hD _ _ h0
  have hset := hyv.set
  have hlc1 := hyv.lc1
  refine wpV_fn ?_
  refine wpc_fn (px_ext rfl) (px_fn fn_utf_Spots_1) rfl ?_
  unfold LF_utf_Spots_1
  simp only [argFr, List.nil_append, List.cons_append]
  obtain ⟨l, hl⟩ : ∃ l, l = s.data.toList := ⟨_, rfl⟩
  rw [← hl] at hstep ⊢
  have hll : l.length = s.size := by rw [hl]; rfl
  (refine W_x (Aj d1 (Aj hset (Aj hlc1 @ev_rngS))) ?_; (repeat' first | apply Cj.mk | exact Nl.nl) <;> intros)
  refine wp_spotsS (fun _ _ => [(0, yv), (1, .pointer (some ⟨bx, 0, none⟩)), (7, .pointer (some ⟨14, 0, some 1⟩))]) (fun n _ => [(14, .siter s n)]) s l (fun i _ h1 => I i h1) (fun _ _ => (none : Option Unit)) () hl (by repeat' first | exact True.intro | refine And.intro rfl ?_) (fun _ _ => rfl) rfl h0 (fun i hil _ h1 hI hit => ?_) fun _ h1 hI fin => ?_
  · have d1 : h1.get bx = some (.cells false [.string s]) := hD _ _ hI
    obtain ⟨p1, p2, p3⟩ := posn_lt hil
    have hst := hstep i (by rw [spotsL_len]; exact hil) h1 hI
    rw [spotsL_get (by rw [spotsL_len]; exact hil)] at hst
    have hdc := dec_cases p3
    have hbad : (spots l)[i].1 = 65533 → ((encN 65533).length ≤ (l.drop (posn l i)).length ∧ (l.drop (posn l i)).take (encN 65533).length = encN 65533 ↔ (spots l)[i].2 = 3) := fun e => by
      rcases hdc with ⟨c, rest, hc, e1, e2⟩ | ⟨e1, e2⟩
      · rw [p2] at e2
        rw [e2] at e
        simp only at e
        subst e
        rw [e2, e1, encN_bad, List.take_left' encN_bad]
        simp [encN_bad]
      · rw [p2] at e1
        rw [e1, encN_bad]
        constructor
        · rintro ⟨h1, h2⟩
          exfalso
          refine e2 65533 ((l.drop (posn l i)).drop 3) rune_bad ?_
          rw [← h2, List.take_append_drop]
        · intro h; simp at h
    have hgood : (spots l)[i].1 ≠ 65533 → (spots l)[i].2 = (encN (spots l)[i].1).length := fun e => by
      rcases hdc with ⟨c, rest, hc, e1, e2⟩ | ⟨e1, e2⟩
      · rw [p2] at e2; rw [e2]
      · rw [p2] at e1; rw [e1] at e; exact absurd rfl e
    have hw3 : (spots l)[i].1 = 65533 → (spots l)[i].2 = 3 ∨ (spots l)[i].2 = 1 := fun e => by
      rcases hdc with ⟨c, rest, hc, e1, e2⟩ | ⟨e1, e2⟩
      · rw [p2] at e2
        rw [e2] at e
        simp only at e
        subst e
        rw [e2]; exact .inl encN_bad
      · rw [p2] at e1; rw [e1]; exact .inr rfl
    have hru : RuneN (spots l)[i].1 := runesB_rune l _ (List.mem_map.2 ⟨_, List.getElem_mem hil, rfl⟩)
    (refine W_x (Aj hset hlc1) ?_; (repeat' first | apply Cj.mk | exact Nl.nl) <;> intros)
    refine wo_next hl rfl hil ?_
    generalize (spots l)[i] = x at hst hbad hgood hw3 hru
    have hcast : ((Utf8.encode ((65533 : Nat) : Int))).data.toList = encN 65533 := encode_eq rune_bad
    have hpre : x.1 = 65533 → (decide ((Utf8.encode (x.1 : Int)).size ≤ (s.extract (posn l i) s.size).size ∧ (s.extract (posn l i) s.size).extract 0 (Utf8.encode (x.1 : Int)).size = Utf8.encode (x.1 : Int))) = decide (x.2 = 3) := fun e => by
      refine decide_eq_decide.2 ?_
      rw [← hbad e, e]
      have z1 : (Utf8.encode ((65533 : Nat) : Int)).size = (encN 65533).length := by rw [ba_size, hcast]
      have z2 : (s.extract (posn l i) s.size).data.toList = l.drop (posn l i) := by
        rw [ba_extract _ _ _ (Nat.le_refl _), ← hl, ← hll, ← List.length_drop, List.take_length]
      have z3 : (s.extract (posn l i) s.size).size = (l.drop (posn l i)).length := by rw [ba_size, z2]
      rw [z1, z3]
      constructor
      · rintro ⟨a, b⟩
        refine ⟨a, ?_⟩
        have : ((s.extract (posn l i) s.size).extract 0 (encN 65533).length).data.toList = (Utf8.encode ((65533 : Nat) : Int)).data.toList := by rw [b]
        rw [ba_extract _ _ _ (by omega), z2, hcast] at this
        simpa using this
      · rintro ⟨a, b⟩
        refine ⟨a, ba_ext ?_⟩
        rw [ba_extract _ _ _ (by omega), z2, hcast]
        simpa using b
    have el := runeLen_eq x.1 hru
    have es := fun n => spot_eq x.1 n
    by_cases e : x.1 = 65533
    · have hpre := hpre e
      have hw4 := hw3 e
      obtain ⟨c, w⟩ := x
      simp only at e hpre hw4 hst
      have hci : (c : Int) = 65533 := by omega
      have el2 : ∀ h, callO PX 83 [.int .i32 c] h = some (.int .i64 3, h) := fun h => by
        have := el h
        simp only at this
        rw [this, e, encN_bad]
        rfl
      have eh2 : ∀ h, callO PX 84 [.string (s.extract (posn l i) s.size), .string (Utf8.encode c)] h = some (.bool (decide (w = 3)), h) := fun h => by
        have := hasPrefix_eq (s.extract (posn l i) s.size) (Utf8.encode (c : Int)) h
        rw [hpre] at this
        exact this
      have es2 : ∀ h, callO PX 45 [.int .i32 c, .int .i64 3] h = some (spotV (c, 3), h) := fun h => spot_eq c 3 h
      have es3 : ∀ h, callO PX 45 [.int .i32 c, .int .i64 1] h = some (spotV (c, 1), h) := fun h => spot_eq c 1 h
      have hpl : ((posn l i : Nat) : Int) ≤ (s.size : Int) := by omega
      rcases hw4 with rfl | rfl
      all_goals
        simp only [decide_true, show decide (1 = 3) = false from rfl] at eh2
        (refine W_x (Aj hset (Aj hlc1 (Aj d1 (Aj el2 (Aj eh2 (Aj es2 es3)))))) ?_; (repeat' first | apply Cj.mk | exact Nl.nl) <;> intros)
        refine wo_callV (fv := yv) rfl rfl rfl ?_
        refine hst.mono ?_
        rintro v h2 hor
        rcases hor with ⟨rfl, hI2⟩ | ⟨rfl, hE⟩
        · (refine W_x (Aj hset hlc1) ?_; (repeat' first | apply Cj.mk | exact Nl.nl) <;> intros)
          exact ⟨rfl, (), (by repeat' first | exact True.intro | refine And.intro rfl ?_), rfl, hI2⟩
        · (refine W_x (Aj hset hlc1) ?_; (repeat' first | apply Cj.mk | exact Nl.nl) <;> intros)
          exact .inr hE
    · have hgd := hgood e
      rw [← hgd] at el
      have es2 := es x.2
      have hne : ¬ (x.1 : Int) = 65533 := by omega
      (refine W_x (Aj hset (Aj hlc1 (Aj el es2))) ?_; (repeat' first | apply Cj.mk | exact Nl.nl) <;> intros)
      refine wo_callV (fv := yv) rfl rfl rfl ?_
      refine hst.mono ?_
      rintro v h2 hor
      rcases hor with ⟨rfl, hI2⟩ | ⟨rfl, hE⟩
      · (refine W_x (Aj hset hlc1) ?_; (repeat' first | apply Cj.mk | exact Nl.nl) <;> intros)
        exact ⟨rfl, (), (by repeat' first | exact True.intro | refine And.intro rfl ?_), rfl, hI2⟩
      · (refine W_x (Aj hset hlc1) ?_; (repeat' first | apply Cj.mk | exact Nl.nl) <;> intros)
        exact .inr hE
  · (refine W_x (Aj hset hlc1) ?_; (repeat' first | apply Cj.mk | exact Nl.nl) <;> intros)
    refine wo_nextE hl rfl ?_
    (refine W_x (Aj hset hlc1) ?_; (repeat' first | apply Cj.mk | exact Nl.nl) <;> intros)
    exact .inl (by rw [spotsL_len]; exact hI)
end Go.Proofs.YtblmakgjdenpfaaDoor.AM
namespace Go.Proofs.YtblmakgjdenpfaaDoor.AM
open Go
theorem posn_cons {l : Bytes} (hl : l ≠ []) (i : Nat) : posn l (i + 1) = (dec1 l).2 + posn (l.drop (dec1 l).2) i := by
  unfold posn
  rw [spots_cons hl, List.take_succ_cons, List.map_cons, List.sum_cons]
theorem spots_take : ∀ (i : Nat) (l : Bytes), i ≤ (spots l).length → spots (l.take (posn l i)) = (spots l).take i
  | 0, l, _ => by rw [posn_zero]; simp [spots_nil]
  | i + 1, l, h => by
    have hl : l ≠ [] := fun e => by subst e; simp [spots_nil] at h
    have h' : i ≤ (spots (l.drop (dec1 l).2)).length := by rw [spots_cons hl, List.length_cons] at h; omega
    have ih := spots_take i (l.drop (dec1 l).2) h'
    rw [posn_cons hl, spots_cons hl, List.take_succ_cons, ← ih]
    rcases dec_cases hl with ⟨c, rest, hc, e1, e2⟩ | ⟨e1, e2⟩
    · have hd : l.drop (dec1 l).2 = rest := by rw [e2, e1]; simp
      rw [hd, e2]
      simp only
      conv => lhs; rw [e1]
      rw [List.take_append, List.take_of_length_le (by omega), show (encN c).length + posn rest i - (encN c).length = posn rest i by omega, spots_enc hc]
    · rw [e1]
      simp only
      have hne : l.take (1 + posn (l.drop 1) i) ≠ [] := by
        cases l with
        | nil => exact absurd rfl hl
        | cons a l => simp [Nat.add_comm]
      have hb : dec1 (l.take (1 + posn (l.drop 1) i)) = (0xFFFD, 1) := by
        rcases dec_cases hne with ⟨c, rest, hc, q1, _⟩ | ⟨q1, _⟩
        · exfalso
          refine e2 c (rest ++ l.drop (1 + posn (l.drop 1) i)) hc ?_
          conv => lhs; rw [← List.take_append_drop (1 + posn (l.drop 1) i) l, q1]
          rw [List.append_assoc]
        · exact q1
      rw [spots_cons hne, hb]
      simp only
      rw [List.drop_take, show 1 + posn (l.drop 1) i - 1 = posn (l.drop 1) i by omega]
theorem posn_drop {l : Bytes} {i : Nat} (hi : i ≤ (spots l).length) (k : Nat) (hk : i + k ≤ (spots l).length) : posn (l.drop (posn l i)) k = posn l (i + k) - posn l i := by
  have h := (spots_drop l i hi).1
  unfold posn at h ⊢
  rw [h, List.take_add, List.map_append, List.sum_append]
  omega
theorem posn_mono {l : Bytes} {i j : Nat} (h : i ≤ j) : posn l i ≤ posn l j := by
  unfold posn
  obtain ⟨d, rfl⟩ := Nat.exists_eq_add_of_le h
  rw [List.take_add, List.map_append, List.sum_append]
  omega
theorem runesB_cut {l : Bytes} {i k : Nat} (h : i + k ≤ (spots l).length) : runesB ((l.drop (posn l i)).take (posn l (i + k) - posn l i)) = ((runesB l).drop i).take k := by
  have h1 := (spots_drop l i (by omega)).1
  have h2 := spots_take k (l.drop (posn l i)) (by rw [h1, List.length_drop]; omega)
  rw [posn_drop (by omega) k h] at h2
  unfold runesB
  rw [h2, h1, List.map_take, List.map_drop]
end Go.Proofs.YtblmakgjdenpfaaDoor.AM
namespace Go.Proofs.YtblmakgjdenpfaaDoor.AM
open Go
def LF_utf_Cut : LFunc :=
  .mk 2 [.tmp 4, .tmp 5] (.seq (R 999 [0, 1] [.set 4 (.cv (.string ⟨#[]⟩)), .set 5 (.cv (.string ⟨#[]⟩))]) (.seq (R 9 [0, 1] [.set 1 (.op (.p (.mm false [.s 0, .s 1])) (.cons (.op
  (.p (.mm true [.s 0, .s 1])) (.cons (.va 1) (xi 0))) (xsl (.va 0))))]) (.seq (.seq (R 14 [0, 1, 6] [.set 6 (.op (.p (.mm true [.s 0, .s 1])) (.cons (xb .add (xb .sub (.va 1) (xi
  4)) (xi 1)) (xi 0)))]) (.block 0 (.loop (.seq (.seq (R 18 [0, 1, 6, 20] [.tmp 20 (xb .lss (.va 6) (.va 1))]) (.cond (.s 20) .skip (.exit 0))) (.seq (.block 1 (.seq (R 24 [0, 1, 6,
  7, 8] [.set 23 (xc1 46 (.op (.p (.slS (.s 0) (some (.s 1)) none)) (.cons (.va 0) (.va 6)))), .tmp 28 (xex 0 (.sl 23)), .tmp 29 (xex 1 (.sl 23)), .set 7
  (.sl 28), .set 8 (.sl 29)]) (.seq (R 30 [0, 1, 6, 42] [.tmp 42 (.and (.and (xb .gtr (.va 8) (xi 1)) (xb .geq (.va 7) (xr 0))) (xb .gtr (xb .add (.va 6) (.va 8)) (.va 1)))]) (.cond
  (.s 42) (R 43 [0, 1, 6] [.set 1 (.va 6)]) .skip)))) (R 21 [0, 1, 6] [.set 6 (xb .add (.va 6) (xi 1))])))))) (.seq (R 44 [4, 5] [.tmp 46 (.op (.p (.slS (.s 0) none (some (.s 1))))
  (.cons (.va 0) (.va 1))), .tmp 49 (.op (.p (.slS (.s 0) (some (.s 1)) none)) (.cons (.va 0) (.va 1))), .set 4 (.sl 46), .set 5 (.sl 49)]) .ret))))
theorem fn_utf_Cut : (autoPrg Tryd.prog).fn 76 = some LF_utf_Cut := by kernel_rfl
def LF_utf_Bound : LFunc :=
  .mk 2 [.tmp 4] (.seq (R 999 [0, 1] [.set 4 (.cv (.bool false))]) (.seq (.seq (R 7 [0, 1, 14] [.tmp 14 (.or (xb .lss (.va 1) (xi 0)) (xb .gtr (.va 1) (xsl (.va 0))))]) (.cond (.s
  14) (.seq (R 999 [4] [.set 4 (.cv (.bool false))]) .ret) .skip)) (.seq (R 16 [1, 5] [.set 15 (xc2 76 (.va 0) (.va 1)), .tmp 19 (xex 0 (.sl 15)), .tmp 20 (xex 1 (.sl 15)),
  .set 5 (.sl 19), .set 6 (.sl 20)]) (.seq (R 21 [4] [.set 4 (xb .eql (xsl (.va 5)) (.va 1))]) .ret))))
theorem fn_utf_Bound : (autoPrg Tryd.prog).fn 39 = some LF_utf_Bound := by kernel_rfl
def LF_utf_First : LFunc :=
  .mk 1 [.cell 2 (some 3), .tmp 3] (.seq (R 2 [0, 2] [.tmp 2 (xnl 2 [.int .i32 0, .int .i64 0, .bool false]), .set 3 (.cv (.bool false))]) (.seq (.seq (R 4 [0, 2, 5] [.tmp 5 (xb
  .eql (.va 0) (.cv (.string ⟨#[]⟩)))]) (.cond (.s 5) (.seq (R 6 [2, 3] [.run (xst 3 (.sl 2) (.op (.p (.build [.int .i32 0, .int .i64 0, .bool false] [])) .nil)), .set 3 (.cv (.bool
  false))]) .ret) .skip)) (.seq (R 7 [2, 3] [.tmp 8 (xc1 46 (.va 0)), .run (xst 3 (.sl 2) (xc2 45 (xex 0 (.sl 8)) (xex 1 (.sl 8)))), .set 3 (.cv
  (.bool true))]) .ret)))
theorem fn_utf_First : (autoPrg Tryd.prog).fn 19 = some LF_utf_First := by kernel_rfl
end Go.Proofs.YtblmakgjdenpfaaDoor.AM
