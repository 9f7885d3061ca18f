/- Parts of proofs: lemmas, joined. -/
import Derived.Test.YtblmakgjdenpfaaDoorPb41147af
set_option linter.unusedVariables false
set_option linter.unusedSimpArgs false
set_option linter.unusedSectionVars false
namespace Go.Proofs.YtblmakgjdenpfaaDoor.AM
open Go
variable {α : Type} [Inhabited α] {q : Pl} {enc : α → List Value} {val : α → Value} {cv : Value} {key : α → Int} {idx : α → Int}
def Bl (bs : Nat) : List (List α) → Prop
  | [] => True
  | A :: r => 0 < A.length ∧ A.length ≤ bs ∧ (r ≠ [] → A.length = bs) ∧ Bl bs r
def Far (idx : α → Int) (A B : List α) : Prop := ∀ x ∈ A, ∀ y ∈ B, idx x < idx y
theorem Bl.snoc {bs : Nat} : ∀ {L : List (List α)}, (∀ A ∈ L, A.length = bs) → 0 < bs → ∀ {R : List (List α)}, Bl bs R → Bl bs (L ++ R)
  | [], _, _, _, h => h
  | A :: r, h, hb, R, hR => by
    have h1 := h A (by simp)
    exact ⟨by omega, by omega, fun _ => h1, Bl.snoc (fun B hB => h B (List.mem_cons_of_mem _ hB)) hb hR⟩
set_option maxHeartbeats 4000000 in
theorem stable_eq (hc : CmpS q enc val cv key) {O : List α} {n : Nat} (hn : O.length = n) (hn2 : n < 1000000000) (hO : O.Pairwise (fun x y => idx x < idx y)) :
    ∃ Z : List α, Z.Perm O ∧ Z.Pairwise (ltK key idx) ∧ callO PX 80 [(q.s n).val 1, .int .i64 n, cv] (q.H enc O) = some (.tuple #[], q.H enc Z) := by
  have hlen : (q.s n).len = n := rfl
  have hset := hc.isF.set
  have hlc1 := hc.isF.lc1
  have hloc := hc.isF.loc
  suffices hw : WpC PX 80 [(q.s n).val 1, .int .i64 n, cv] (q.H enc O) fun v h1 => v = .tuple #[] ∧ ∃ Z : List α, Z.Perm O ∧ Z.Pairwise (ltK key idx) ∧ h1 = q.H enc Z by
    obtain ⟨v, h1, e, rfl, Z, z1, z2, rfl⟩ := hw
    exact ⟨Z, z1, z2, e⟩
  refine wpc_fn (px_ext rfl) (px_fn fn_slices_stableCmpFunc_rune) rfl ?_
  unfold LF_slices_stableCmpFunc_rune
  simp only [argFr]
  (refine W_g (Aj hset (Aj hlc1 hloc)) ?_; (repeat' first | apply Cj.mk | exact Nl.nl) <;> intros)
  refine wp_loop (fun w fr lc h1 => ∃ (L : List (List α)) (R : List α) (a b : Int), w = R.length ∧ (∀ A ∈ L, A.length = 20) ∧ (∀ A ∈ L, A.Pairwise (ltK key idx)) ∧ L.Pairwise (Far idx) ∧ (∀ A ∈ L, Far idx A R) ∧ R.Pairwise (fun x y => idx x < idx y) ∧ (L.flatten ++ R).Perm O ∧
      a = L.flatten.length ∧ b = a + 20 ∧ fr = [(0, (q.s n).val 1), (1, .int .i64 n), (2, cv), (6, .int .i64 20), (7, .int .i64 a), (8, .int .i64 b)] ∧ lc = [] ∧ h1 = q.H enc (L.flatten ++ R)) O.length
    ⟨[], O, 0, 20, rfl, by simp, by simp, List.Pairwise.nil, by simp, hO, .refl _, rfl, rfl, rfl, rfl, rfl⟩ ?_
  rintro w fr lc h1 ⟨L, R, a, b, rfl, hL1, hL2, hL3, hL4, hR, hP, ha, hb, rfl, rfl, rfl⟩
  have hl := hP.length_eq
  rw [hn, List.length_append] at hl
  by_cases hbn : b ≤ n
  · have hR20 : 20 ≤ R.length := by omega
    have hRe : R = R.take 20 ++ R.drop 20 := (List.take_append_drop 20 R).symm
    obtain ⟨Z, z1, z2, z3⟩ := insertion_eq (idx := idx) hc (P := L.flatten) (X := R.take 20) (S := R.drop 20) (n := n) (a := a) (b := b) (by simp only [List.length_append, List.length_take, List.length_drop]; omega) (by omega) ha (by rw [List.length_take]; omega) (hR.sublist (List.take_sublist _ _))
    have hDe : L.flatten ++ R = L.flatten ++ R.take 20 ++ R.drop 20 := by rw [List.append_assoc, ← hRe]
    have hZl : Z.length = 20 := by rw [z1.length_eq, List.length_take]; omega
    rw [← hDe] at z3
    have hmz : ∀ x ∈ Z, x ∈ R := fun x hx => List.mem_of_mem_take (z1.mem_iff.1 hx)
    have hpw := List.pairwise_append.1 (hRe ▸ hR : (R.take 20 ++ R.drop 20).Pairwise (fun x y => idx x < idx y))
    (refine W_g (Aj hset (Aj hlc1 (Aj hloc z3))) ?_; (repeat' first | apply Cj.mk | exact Nl.nl) <;> intros)
    refine ⟨(R.drop 20).length, by rw [List.length_drop]; omega, L ++ [Z], R.drop 20, b, b + 20, rfl, fun A hA => ?_, fun A hA => ?_, List.pairwise_append.2 ⟨hL3, by simp, fun A hA B hB x hx y hy => ?_⟩, fun A hA x hx y hy => ?_, hpw.2.1, ?_, ?_, rfl, rfl, rfl, by simp⟩
    · rcases List.mem_append.1 hA with hA | hA
      · exact hL1 A hA
      · rw [List.mem_singleton.1 hA]; exact hZl
    · rcases List.mem_append.1 hA with hA | hA
      · exact hL2 A hA
      · rw [List.mem_singleton.1 hA]; exact z2
    · rw [List.mem_singleton.1 hB] at hy
      exact hL4 A hA x hx y (hmz y hy)
    · rcases List.mem_append.1 hA with hA | hA
      · exact hL4 A hA x hx y (List.mem_of_mem_drop hy)
      · rw [List.mem_singleton.1 hA] at hx
        exact hpw.2.2 x (z1.mem_iff.1 hx) y hy
    · refine List.Perm.trans ?_ hP
      rw [hDe]
      simp only [List.flatten_append, List.flatten_cons, List.flatten_nil, List.append_nil]
      exact List.Perm.append_right _ (List.Perm.append_left _ z1)
    · simp only [List.flatten_append, List.flatten_cons, List.flatten_nil, List.append_nil, List.length_append]; omega
  · obtain ⟨Z, z1, z2, z3⟩ := insertion_eq (idx := idx) hc (P := L.flatten) (X := R) (S := []) (n := n) (a := a) (b := n) (by simp only [List.length_append, List.length_nil]; omega) (by omega) ha (by omega) hR
    rw [List.append_nil, List.append_nil] at z3
    have hZl := z1.length_eq
    (refine W_g (Aj hset (Aj hlc1 (Aj hloc z3))) ?_; (repeat' first | apply Cj.mk | exact Nl.nl) <;> intros)
    refine wp_loop (fun w fr lc h1 => ∃ (bs : Nat) (L : List (List α)), w = n - bs ∧ 20 ≤ bs ∧ bs ≤ 2 * n + 20 ∧ Bl bs L ∧ (∀ A ∈ L, A.Pairwise (ltK key idx)) ∧ L.Pairwise (Far idx) ∧ L.flatten.Perm O ∧
        fr = [(0, (q.s n).val 1), (1, .int .i64 n), (2, cv), (6, .int .i64 bs)] ∧ lc = [] ∧ h1 = q.H enc L.flatten) (n - 20) ?_ ?_
    · by_cases hZ0 : Z = []
      · refine ⟨20, L, rfl, by omega, by omega, ?_, hL2, hL3, ?_, rfl, rfl, by rw [hZ0, List.append_nil]⟩
        · have := Bl.snoc (bs := 20) hL1 (by omega) (R := []) trivial
          rwa [List.append_nil] at this
        · refine List.Perm.trans ?_ hP
          rw [List.eq_nil_of_length_eq_zero (l := R) (by rw [← hZl, hZ0]; rfl), List.append_nil]
      · refine ⟨20, L ++ [Z], rfl, by omega, by omega, Bl.snoc hL1 (by omega) ⟨List.length_pos_iff.2 hZ0, by omega, fun h => absurd rfl h, trivial⟩, fun A hA => ?_, List.pairwise_append.2 ⟨hL3, by simp, fun A hA B hB x hx y hy => ?_⟩, ?_, rfl, rfl, by simp⟩
        · rcases List.mem_append.1 hA with hA | hA
          · exact hL2 A hA
          · rw [List.mem_singleton.1 hA]; exact z2
        · rw [List.mem_singleton.1 hB] at hy
          exact hL4 A hA x hx y (z1.mem_iff.1 hy)
        · refine List.Perm.trans ?_ hP
          simp only [List.flatten_append, List.flatten_cons, List.flatten_nil, List.append_nil]
          exact List.Perm.append_left _ z1
    clear hL1 hL2 hL3 hL4 hR hP ha hb hl hbn z1 z2 z3 hZl
    rintro w fr lc h1 ⟨bs, L, rfl, hbs, hbs2, hBl, hLs, hLf, hP, rfl, rfl, rfl⟩
    by_cases hbn : bs < n
    rotate_left
    · (refine W_g (Aj hset (Aj hlc1 hloc)) ?_; (repeat' first | apply Cj.mk | exact Nl.nl) <;> intros)
      refine ⟨rfl, L.flatten, hP, ?_, rfl⟩
      have hl := hP.length_eq
      match L, hBl, hLs, hl with
      | [], _, _, _ => simp
      | [A], _, h, _ => simpa using h A (by simp)
      | A :: B :: r, hBl, _, hl =>
        obtain ⟨_, _, b3, b4, _⟩ := hBl
        have := b3 (by simp)
        simp only [List.flatten_cons, List.length_append] at hl
        omega
    · (refine W_g (Aj hset (Aj hlc1 hloc)) ?_; (repeat' first | apply Cj.mk | exact Nl.nl) <;> intros)
      refine wp_loop (fun w fr lc h1 => ∃ (M : List (List α)) (R : List (List α)) (a b : Int), w = R.length ∧ (∀ A ∈ M, A.length = 2 * bs) ∧ Bl bs R ∧ (∀ A ∈ M ++ R, A.Pairwise (ltK key idx)) ∧ (M ++ R).Pairwise (Far idx) ∧ (M ++ R).flatten.Perm O ∧ a = M.flatten.length ∧ b = a + 2 * bs ∧
          fr = [(0, (q.s n).val 1), (1, .int .i64 n), (2, cv), (6, .int .i64 bs), (7, .int .i64 a), (8, .int .i64 b)] ∧ lc = [] ∧ h1 = q.H enc (M ++ R).flatten) L.length
        ⟨[], L, 0, 2 * bs, rfl, by simp, hBl, hLs, hLf, hP, rfl, by omega, rfl, rfl, rfl⟩ ?_
      clear hBl hLs hLf hP
      rintro w fr lc h1 ⟨M, R, a, b, rfl, hM, hBl, hMs, hMf, hP, ha, hb, rfl, rfl, rfl⟩
      have hl := hP.length_eq
      rw [hn, List.flatten_append, List.length_append] at hl
      have hmerge : ∀ A B R', R = A :: B :: R' → ∃ Z : List α, Z.length = A.length + B.length ∧ callO PX 122 [(q.s n).val 1, .int .i64 a, .int .i64 (a + A.length), .int .i64 (a + A.length + B.length), cv] (q.H enc (M ++ R).flatten) = some (.tuple #[], q.H enc (M ++ (Z :: R')).flatten) ∧
          (∀ A ∈ M ++ (Z :: R'), A.Pairwise (ltK key idx)) ∧ (M ++ (Z :: R')).Pairwise (Far idx) ∧ (M ++ (Z :: R')).flatten.Perm O := by
        rintro A B R' rfl
        obtain ⟨b1, b2, b3, b4, b5, b6, b7⟩ := hBl
        have hp := List.pairwise_append.1 hMf
        have hp2 := List.pairwise_cons.1 hp.2.1
        have hp3 := List.pairwise_cons.1 hp2.2
        have hAB : Far idx A B := hp2.1 B (by simp)
        simp only [List.flatten_cons, List.length_append] at hl
        obtain ⟨Z, z1, z2, z3⟩ := merge_eq (n := n) hc (by omega) _ M.flatten A B R'.flatten a (a + A.length) (a + A.length + B.length) (Nat.le_refl _) (by simp only [List.length_append]; omega) ha (by omega) (by omega) b1 b4 (hMs A (by simp)) (hMs B (by simp)) hAB
        have e1 : (M ++ A :: B :: R').flatten = M.flatten ++ A ++ B ++ R'.flatten := by simp
        have e2 : (M ++ Z :: R').flatten = M.flatten ++ Z ++ R'.flatten := by simp
        have hmem : ∀ x ∈ Z, x ∈ A ∨ x ∈ B := fun x hx => by have := z1.mem_iff.1 hx; simpa using this
        refine ⟨Z, by rw [z1.length_eq, List.length_append], by rw [e1, e2]; exact z3, fun C hC => ?_, List.pairwise_append.2 ⟨hp.1, List.pairwise_cons.2 ⟨fun C hC x hx y hy => ?_, hp3.2⟩, fun C hC E hE x hx y hy => ?_⟩, ?_⟩
        · rcases List.mem_append.1 hC with hC | hC
          · exact hMs C (by simp [hC])
          · rcases List.mem_cons.1 hC with rfl | hC
            · exact z2
            · exact hMs C (by simp [hC])
        · rcases hmem x hx with h | h
          · exact hp2.1 C (by simp [hC]) x h y hy
          · exact hp3.1 C hC x h y hy
        · rcases List.mem_cons.1 hE with rfl | hE
          · rcases hmem y hy with h | h
            · exact hp.2.2 C hC A (by simp) x hx y h
            · exact hp.2.2 C hC B (by simp) x hx y h
          · exact hp.2.2 C hC E (by simp [hE]) x hx y hy
        · refine List.Perm.trans ?_ hP
          rw [e1, e2]
          refine List.Perm.append_right _ ?_
          rw [List.append_assoc]
          exact List.Perm.append_left _ z1
      by_cases hbn2 : b ≤ n
      · match R, hBl, hl, hmerge with
        | [], _, hl, _ => simp only [List.flatten_nil, List.length_nil] at hl; omega
        | [A], hBl, hl, _ =>
          have := hBl.2.1
          simp only [List.flatten_cons, List.flatten_nil, List.append_nil] at hl; omega
        | A :: B :: R', hBl, hl, hmerge =>
          obtain ⟨b1, b2, b3, b4, b5, b6, b7⟩ := hBl
          obtain ⟨Z, z0, z1, z2, z3, z4⟩ := hmerge A B R' rfl
          have hA := b3 (by simp)
          simp only [List.flatten_cons, List.length_append] at hl
          have hB : B.length = bs := by
            by_cases hR' : R' = []
            · subst hR'; simp only [List.flatten_nil, List.length_nil] at hl; omega
            · exact b6 hR'
          rw [hA, show a + (bs : Int) + B.length = b by omega] at z1
          (refine W_g (Aj hset (Aj hlc1 (Aj hloc z1))) ?_; (repeat' first | apply Cj.mk | exact Nl.nl) <;> intros)
          refine ⟨R'.length, by simp; omega, M ++ [Z], R', b, b + 2 * bs, rfl, fun C hC => ?_, b7, by simpa using z2, by simpa using z3, by simpa using z4, by simp only [List.flatten_append, List.flatten_cons, List.flatten_nil, List.append_nil, List.length_append]; omega, rfl, rfl, rfl, by simp⟩
          rcases List.mem_append.1 hC with hC | hC
          · exact hM C hC
          · rw [List.mem_singleton.1 hC]; omega
      · match R, hBl, hl, hmerge, hMs, hMf, hP with
        | [], _, hl, _, hMs, hMf, hP =>
          simp only [List.flatten_nil, List.length_nil] at hl
          (refine W_g (Aj hset (Aj hlc1 hloc)) ?_; (repeat' first | apply Cj.mk | exact Nl.nl) <;> intros)
          refine ⟨n - 2 * bs, by omega, 2 * bs, M, rfl, by omega, by omega, ?_, by simpa using hMs, by simpa using hMf, by simpa using hP, by simp only [Int.natCast_mul]; congr 6; omega, rfl, by simp⟩
          have := Bl.snoc (bs := 2 * bs) hM (by omega) (R := []) trivial
          rwa [List.append_nil] at this
        | [A], hBl, hl, _, hMs, hMf, hP =>
          have b1 := hBl.1
          have b2 := hBl.2.1
          simp only [List.flatten_cons, List.flatten_nil, List.append_nil] at hl
          (refine W_g (Aj hset (Aj hlc1 hloc)) ?_; (repeat' first | apply Cj.mk | exact Nl.nl) <;> intros)
          exact ⟨n - 2 * bs, by omega, 2 * bs, M ++ [A], rfl, by omega, by omega, Bl.snoc hM (by omega) ⟨b1, by omega, fun h => absurd rfl h, trivial⟩, hMs, hMf, hP, by simp only [Int.natCast_mul]; congr 6; omega, rfl, rfl⟩
        | [A, B], hBl, hl, hmerge, hMs, hMf, hP =>
          obtain ⟨b1, b2, b3, b4, b5, b6, b7⟩ := hBl
          obtain ⟨Z, z0, z1, z2, z3, z4⟩ := hmerge A B [] rfl
          have hA := b3 (by simp)
          simp only [List.flatten_cons, List.flatten_nil, List.append_nil, List.length_append] at hl
          rw [hA, show a + (bs : Int) + B.length = n by omega] at z1
          (refine W_g (Aj hset (Aj hlc1 (Aj hloc z1))) ?_; (repeat' first | apply Cj.mk | exact Nl.nl) <;> intros)
          exact ⟨n - 2 * bs, by omega, 2 * bs, M ++ [Z], rfl, by omega, by omega, Bl.snoc hM (by omega) ⟨by omega, by omega, fun h => absurd rfl h, trivial⟩, z2, z3, z4, by simp only [Int.natCast_mul]; congr 6; omega, rfl, rfl⟩
        | A :: B :: C :: R', hBl, hl, _, _, _, _ =>
          obtain ⟨b1, b2, b3, b4, b5, b6, b7⟩ := hBl
          have hA := b3 (by simp)
          have hB := b6 (by simp)
          simp only [List.flatten_cons, List.length_append] at hl
          omega
theorem sortStable_eq (hc : CmpS q enc val cv key) {O : List α} {n : Nat} (hn : O.length = n) (hn2 : n < 1000000000) (hO : O.Pairwise (fun x y => idx x < idx y)) :
    ∃ Z : List α, Z.Perm O ∧ Z.Pairwise (ltK key idx) ∧ callO PX 47 [(q.s n).val 1, cv] (q.H enc O) = some (.tuple #[], q.H enc Z) := by
  have hlen : (q.s n).len = n := rfl
  have hset := hc.isF.set
  have hlc1 := hc.isF.lc1
  have hloc := hc.isF.loc
  obtain ⟨Z, z1, z2, z3⟩ := stable_eq hc hn hn2 hO
  refine ⟨Z, z1, z2, ?_⟩
  apply WpC.eqn
  refine wpc_fn (px_ext rfl) (px_fn fn_slices_SortStableFunc_rune_rune) rfl ?_
  unfold LF_slices_SortStableFunc_rune_rune
  simp only [argFr]
  (refine W_g (Aj hset (Aj hlc1 (Aj hloc (Aj hlen z3)))) ?_; (repeat' first | apply Cj.mk | exact Nl.nl) <;> intros)
  exact ⟨rfl, rfl⟩
end Go.Proofs.YtblmakgjdenpfaaDoor.AM
namespace Go.Proofs.YtblmakgjdenpfaaDoor.AM
open Go
section
variable {p : Prg} {fr : Fr} {lc : Lc} {h : AH} {Q : Post}
theorem wp_spotsG {β : Type} {n : Nat} {keep : List Nat} {sts : List St} {b : LCode} {L : Nat → Lc} (F : Nat → Fr) (K : Nat) (s : ByteArray) (l : Bytes) (J : Nat → AH → Prop) (g : Nat → Nat × Nat → Option β) (hl : l = s.data.toList)
    (hf0 : AgF (F 0) fr) (hk : ∀ i, okS keep ((F i).map (·.1)) n sts = true) (hL : ∀ n, setL lc K (.siter s n) = L n) (h0 : lc = L 0) (hJ : J 0 h)
    (more : ∀ i (hi : i < (spots l).length) h, J i h → (∀ w, g i (spots l)[i] = some w → scanL (spots l) g = some w) →
      WpS p keep sts (F i) (L (posn l i)) h (thenQ p b (loopQ (fun fr' lc' h' => g i (spots l)[i] = none ∧ AgF (F (i + 1)) fr' ∧ lc' = L (posn l (i + 1)) ∧ J (i + 1) h') Q) .norm))
    (fin : ∀ h, J (spots l).length h → scanL (spots l) g = none → WpS p keep sts (F (spots l).length) (L l.length) h (thenQ p b (loopQ (fun _ _ _ => False) Q) .norm)) : Wp p (.loop (.seq (R n keep sts) b)) fr lc h Q := by
  refine wp_scanL (spots l) g (fun i fr lc' h => AgF (F i) fr ∧ lc' = L (posn l i) ∧ J i h) ⟨hf0, by rw [posn_zero]; exact h0, hJ⟩ ?_ ?_
  · rintro fr _ h ⟨ha, rfl, hj⟩ fn
    rw [posn_all]
    exact wp_seq (wp_RA ha (hk _) (fin h hj fn))
  · rintro i hi fr _ h ⟨ha, rfl, hj⟩ hit
    refine wp_mono (wp_seq (wp_RA ha (hk _) (more i hi h hj hit))) fun ex fr lc h hq => ?_
    have hq := hq.out
    cases ex with
    | norm => exact ⟨⟨hq.1, hq.2.1, hq.2.2.1, hq.2.2.2⟩⟩
    | exit j => exact ⟨hq⟩
    | ret => exact ⟨hq⟩
end
abbrev clT (T : Tab) (c : Nat) : Int := classI T c
def prevC (T : Tab) (l : Bytes) : Nat → Int
  | 0 => 0
  | i + 1 => clT T ((spots l).getD i (0, 0)).1
theorem prevC_succ {T : Tab} {l : Bytes} {i : Nat} (hi : i < (spots l).length) : prevC T l (i + 1) = clT T ((spots l)[i]).1 := by
  simp only [prevC, List.getD_eq_getElem?_getD, List.getElem?_eq_getElem hi, Option.getD_some]
def firstM (T : Tab) (l : Bytes) : Option (Nat × Nat) := scanL (spots l) fun i x => if 0 < clT T x.1 ∧ clT T x.1 < prevC T l i then some (posn l i, i) else none
def plV : Option (Nat × Nat) → Value
  | some (a, b) => .tuple (List.toArray [.agg (List.toArray [.int .i64 a, .int .i64 b]), .bool true])
  | none => .tuple (List.toArray [.agg (List.toArray [.int .i64 0, .int .i64 0]), .bool false])
theorem marksFirst_eq {h : AH} {k B : Nat} {s6 : Sl} {T : Tab} (bk : BkAt h k B s6 T) (s : ByteArray) (hs : s.size ≤ 1048576) : callO PX 26 [.pointer (some ⟨k, 0, none⟩), .string s] h = some (plV (firstM T s.data.toList), h) := by
  have e1 := class_eq bk
  obtain ⟨l, hl⟩ : ∃ l, l = s.data.toList := ⟨_, rfl⟩
  have hz : l.length = s.size := by rw [hl]; rfl
  have hn := spots_len l
  rw [← hl]
  apply WpC.eqn
  refine wpc_fn (px_ext rfl) (px_fn fn_marks_First) rfl ?_
  unfold LF_marks_First
  simp only [argFr]
  unfold firstM
  (refine W_x @ev_rngS ?_; (repeat' first | apply Cj.mk | exact Nl.nl) <;> intros)
  refine wp_spotsG (fun i => [(0, .pointer (some ⟨k, 0, none⟩)), (4, .pointer (some ⟨8, 0, some 1⟩)), (6, .int .i64 (prevC T l i)), (7, .int .i64 i), (15, .pointer (some ⟨30, 0, some 1⟩))]) 30 s l (fun _ h' => h' = h)
    (fun i x => if 0 < clT T x.1 ∧ clT T x.1 < prevC T l i then some (posn l i, i) else none) hl (by repeat' first | exact True.intro | refine And.intro rfl ?_) (fun _ => rfl) (by intro n; simp only [setL, push_cast, Nat.reduceEqDiff, ↓reduceIte, reduceCtorEq, Nat.reduceAdd, Nat.reduceMul, Nat.reduceLeDiff]; rfl) rfl rfl (fun i hi h1 hh hit => ?_) fun h1 hh fin => ?_
  · subst hh
    (refine W_x trivial ?_; (repeat' first | apply Cj.mk | exact Nl.nl) <;> intros)
    refine wo_next hl rfl hi ?_
    have hp := prevC_succ (T := T) hi
    have hpn : posn l i ≤ 1048576 := by have := (posn_lt hi).1; omega
    generalize (spots l)[i] = y at hit hp
    have e2 := e1 (y.1 : Nat)
    rw [show classI T (y.1 : Nat) = clT T y.1 from rfl] at e2
    (refine W_x e2 ?_; (repeat' first | apply Cj.mk | exact Nl.nl) <;> intros)
    · rw [hit _ (if_pos (by omega))]
      exact ⟨rfl, rfl⟩
    all_goals exact ⟨if_neg (by omega), by rw [hp]; exact (by repeat' first | exact True.intro | refine And.intro rfl ?_), rfl, rfl⟩
  · subst hh
    (refine W_x trivial ?_; (repeat' first | apply Cj.mk | exact Nl.nl) <;> intros)
    refine wo_nextE hl rfl ?_
    (refine W_x trivial ?_; (repeat' first | apply Cj.mk | exact Nl.nl) <;> intros)
    rw [fin]
    exact ⟨rfl, rfl⟩
end Go.Proofs.YtblmakgjdenpfaaDoor.AM
namespace Go.Proofs.YtblmakgjdenpfaaDoor.AM
open Go
section
variable {p : Prg} {fr : Fr} {lc : Lc} {h : AH} {Q : Post}
theorem wp_spotsS {σ β : Type} {n : Nat} {keep : List Nat} {sts : List St} {b : LCode} (F : Nat → σ → Fr) (L : Nat → σ → Lc) (s : ByteArray) (l : Bytes) (J : Nat → σ → AH → Prop) (g : Nat → Nat × Nat → Option β) (st0 : σ) (hl : l = s.data.toList)
    (hf0 : AgF (F 0 st0) fr) (hk : ∀ i st, okS keep ((F i st).map (·.1)) n sts = true) (h0 : lc = L 0 st0) (hJ : J 0 st0 h)
    (more : ∀ i (hi : i < (spots l).length) st h, J i st h → (∀ w, g i (spots l)[i] = some w → scanL (spots l) g = some w) →
      WpS p keep sts (F i st) (L (posn l i) st) h (thenQ p b (loopQ (fun fr' lc' h' => g i (spots l)[i] = none ∧ ∃ st', AgF (F (i + 1) st') fr' ∧ lc' = L (posn l (i + 1)) st' ∧ J (i + 1) st' h') Q) .norm))
    (fin : ∀ st h, J (spots l).length st h → scanL (spots l) g = none → WpS p keep sts (F (spots l).length st) (L l.length st) h (thenQ p b (loopQ (fun _ _ _ => False) Q) .norm)) : Wp p (.loop (.seq (R n keep sts) b)) fr lc h Q := by
  refine wp_scanL (spots l) g (fun i fr lc' h => ∃ st, AgF (F i st) fr ∧ lc' = L (posn l i) st ∧ J i st h) ⟨st0, hf0, by rw [posn_zero]; exact h0, hJ⟩ ?_ ?_
  · rintro fr _ h ⟨st, ha, rfl, hj⟩ fn
    rw [posn_all]
    exact wp_seq (wp_RA ha (hk _ _) (fin st h hj fn))
  · rintro i hi fr _ h ⟨st, ha, rfl, hj⟩ hit
    refine wp_mono (wp_seq (wp_RA ha (hk _ _) (more i hi st h hj hit))) fun ex fr lc h hq => ?_
    have hq := hq.out
    cases ex with
    | norm => exact ⟨⟨hq.1, hq.2⟩⟩
    | exit j => exact ⟨hq⟩
    | ret => exact ⟨hq⟩
theorem wp_forS {σ α β : Type} {a : LCode} (F : Nat → σ → Fr) (L : Nat → σ → Lc) (l : List α) (J : Nat → σ → AH → Prop) (g : Nat → α → Option β) (st0 : σ) (h0 : fr = F 0 st0) (hc : lc = L 0 st0) (hJ : J 0 st0 h)
    (more : ∀ i (hi : i < l.length) st h, J i st h → (∀ w, g i l[i] = some w → scanL l g = some w) → Wp p a (F i st) (L i st) h (loopQ (fun fr' lc' h' => g i l[i] = none ∧ ∃ st', fr' = F (i + 1) st' ∧ lc' = L (i + 1) st' ∧ J (i + 1) st' h') Q))
    (fin : ∀ st h, J l.length st h → scanL l g = none → Wp p a (F l.length st) (L l.length st) h (loopQ (fun _ _ _ => False) Q)) : Wp p (.loop a) fr lc h Q := by
  refine wp_scanL l g (fun i fr lc' h => ∃ st, fr = F i st ∧ lc' = L i st ∧ J i st h) ⟨st0, h0, hc, hJ⟩ ?_ ?_
  · rintro _ _ h ⟨st, rfl, rfl, hj⟩ fn
    exact fin st h hj fn
  · rintro i hi _ _ h ⟨st, rfl, rfl, hj⟩ hit
    refine wp_mono (more i hi st h hj hit) fun ex fr lc h hq => ?_
    have hq := hq.out
    cases ex with
    | norm => exact ⟨⟨hq.1, hq.2⟩⟩
    | exit j => exact ⟨hq⟩
    | ret => exact ⟨hq⟩
end
theorem runesB_len (l : Bytes) : (runesB l).length = (spots l).length := by rw [runesB, List.length_map]
theorem encs_snoc (B : List Nat) (c : Nat) : encs (B ++ [c]) = encs B ++ encN c := by
  rw [encs_append]
  simp [encs]
theorem encs_lenle (L : List Nat) : (encs L).length ≤ 4 * L.length := by
  induction L with
  | nil => simp [encs]
  | cons c L ih =>
    have := (encN_len c).2
    rw [encs_cons, List.length_append, List.length_cons]
    omega
end Go.Proofs.YtblmakgjdenpfaaDoor.AM
namespace Go.Proofs.YtblmakgjdenpfaaDoor.AM
open Go
def orderB (T : Tab) (l : Bytes) : Bytes := encs (ord (clT T) (runesB l))
end Go.Proofs.YtblmakgjdenpfaaDoor.AM
namespace Go.Proofs.YtblmakgjdenpfaaDoor.AM
open Go
section
variable {cl : Nat → Int}
theorem insR_split {r : Nat} : ∀ (A B : List Nat), (∀ s ∈ A, 0 < cl r ∧ cl r < cl s) → (∀ b ∈ B, ¬ (0 < cl r ∧ cl r < cl b)) → insR cl (A ++ B) r = A ++ r :: B
  | [], [], _, _ => rfl
  | [], b :: B, _, h => by simp only [List.nil_append, insR]; rw [if_neg (h b (by simp))]
  | a :: A, B, h, g => by
    simp only [List.cons_append, insR]
    rw [if_pos (h a (by simp)), insR_split A B (fun s hs => h s (by simp [hs])) g]
theorem ord_snoc (l : List Nat) (r : Nat) : ord cl (l ++ [r]) = (insR cl (ord cl l).reverse r).reverse := by
  unfold ord
  rw [List.foldl_append, List.foldl_cons, List.foldl_nil, List.reverse_reverse]
theorem sorted_ord : ∀ (n : Nat) (O Z : List (Nat × Nat)), O.length = n → O.Pairwise (fun x y => (x.2 : Int) < y.2) → Z.Perm O → Z.Pairwise (ltK (fun x => cl x.1) fun x => (x.2 : Int)) → (∀ x ∈ O, 0 < cl x.1) → Z.map (·.1) = ord cl (O.map (·.1))
  | 0, O, Z, hn, _, hp, _, _ => by
    have : O = [] := List.eq_nil_of_length_eq_zero hn
    subst this
    rw [hp.eq_nil]
    rfl
  | n + 1, O, Z, hn, ho, hp, hz, hc => by
    rcases List.eq_nil_or_concat O with rfl | ⟨O', x, rfl⟩
    · simp at hn
    · rw [List.concat_eq_append] at *
      rw [List.length_append, List.length_singleton] at hn
      have hx : x ∈ Z := hp.mem_iff.2 (by simp)
      obtain ⟨P, S, rfl⟩ := List.append_of_mem hx
      have hp' : (P ++ S).Perm O' := by
        have h1 := hp.symm.trans List.perm_middle
        have h2 : (O' ++ [x]).Perm (x :: O') := List.perm_append_singleton x O'
        exact (List.Perm.cons_inv (h2.symm.trans h1)).symm
      have ho' := List.pairwise_append.1 ho
      have hz1 := List.pairwise_append.1 hz
      have hz2 := List.pairwise_cons.1 hz1.2.1
      have ih := sorted_ord n O' (P ++ S) (by omega) ho'.1 hp' (hz.sublist (by simp)) fun y hy => hc y (by simp [hy])
      have hcx := hc x (by simp)
      rw [List.map_append, List.map_cons, List.map_append, List.map_cons, List.map_nil, ord_snoc, ← ih, List.map_append, List.reverse_append]
      rw [insR_split]
      · simp
      · intro s hs
        rw [List.mem_reverse] at hs
        obtain ⟨y, hy, rfl⟩ := List.mem_map.1 hs
        have h1 := hz2.1 y hy
        have h2 := ho'.2.2 y (hp'.mem_iff.1 (by simp [hy])) x (by simp)
        unfold ltK at h1
        simp only at h1
        omega
      · intro s hs
        rw [List.mem_reverse] at hs
        obtain ⟨y, hy, rfl⟩ := List.mem_map.1 hs
        have h1 := hz1.2.2 y hy x (by simp)
        unfold ltK at h1
        simp only at h1
        omega
theorem ordered_append : ∀ {A B : List Nat}, Ordered cl A → Ordered cl B → (∀ a b, A.getLast? = some a → B.head? = some b → ¬ (0 < cl b ∧ cl b < cl a)) → Ordered cl (A ++ B)
  | [], B, _, hB, _ => hB
  | [a], [], _, _, _ => trivial
  | [a], b :: B, _, hB, h => ⟨h a b rfl rfl, hB⟩
  | a :: c :: A, B, hA, hB, h => ⟨hA.1, ordered_append (A := c :: A) hA.2 hB fun x y hx hy => h x y (by rw [List.getLast?_cons_cons]; exact hx) hy⟩
end
theorem Tr.set_self : ∀ (f : Nat) (t : Tr) (k : Nat) (o : AObj), k < f → t.get k = some o → Tr.set f t k (some o) = t
  | 0, t, k, o, h, _ => by omega
  | f + 1, .e, k, o, _, h => by simp [Tr.get] at h
  | f + 1, .n l v r, k, o, hk, h => by
    simp only [Tr.get] at h
    by_cases h0 : k = 0
    · rw [if_pos h0] at h
      simp only [Tr.set, if_pos h0, h]
    · rw [if_neg h0] at h
      by_cases h1 : k % 2 = 1
      · rw [if_pos h1] at h
        simp only [Tr.set, if_neg h0, if_pos h1, Tr.set_self f l (k / 2) o (by omega) h]
      · rw [if_neg h1] at h
        simp only [Tr.set, if_neg h0, if_neg h1, Tr.set_self f r (k / 2 - 1) o (by omega) h]
theorem AH.set_self {h : AH} {b : Nat} {o : AObj} (e : h.get b = some o) : h.set b o = h := by
  have hb := AH.get_lt e
  simp only [AH.get, hb, if_true] at e
  simp only [AH.set, AH.put, Tr.set_self (b + 1) h.m b o (by omega) e]
end Go.Proofs.YtblmakgjdenpfaaDoor.AM
namespace Go.Proofs.YtblmakgjdenpfaaDoor.AM
open Go
theorem isNaNi_eq (n : Int) (h : AH) : callO PX 81 [.int .i64 n] h = some (.bool false, h) := by
  apply WpC.eqn
  refine wpc_fn (px_ext rfl) (px_fn fn_cmp_isNaN_int) rfl ?_
  unfold LF_cmp_isNaN_int
  simp only [argFr]
  (refine W_x trivial ?_; (repeat' first | apply Cj.mk | exact Nl.nl) <;> intros)
  all_goals exact ⟨rfl, rfl⟩
def cmpI (x y : Int) : Int := if x < y then -1 else if y < x then 1 else 0
theorem compareI_eq (x y : Int) (h : AH) : callO PX 49 [.int .i64 x, .int .i64 y] h = some (.int .i64 (cmpI x y), h) := by
  have e := fun n => isNaNi_eq n
  apply WpC.eqn
  refine wpc_fn (px_ext rfl) (px_fn fn_cmp_Compare_int) rfl ?_
  unfold LF_cmp_Compare_int
  simp only [argFr]
  (refine W_x e ?_; (repeat' first | apply Cj.mk | exact Nl.nl) <;> intros)
  all_goals (refine ⟨?_, rfl⟩; unfold cmpI; congr 1; (repeat' split) <;> omega)
abbrev rpV (x : Nat × Nat) : List Value := rnV x.1
theorem cmp_marks (q : Pl) {T : Tab} {k B c : Nat} {s6 : Sl} (hb : ∀ D, BkAt (q.H rpV D) k B s6 T) (hc : ∀ D, (q.H rpV D).get c = some (.cells false [.pointer (some ⟨k, 0, none⟩)])) :
    CmpS q rpV (fun x => .int .i32 x.1) (.func (.func 48) #[] #[.pointer (some ⟨c, 0, none⟩)]) (fun x : Nat × Nat => clT T x.1) where
  len := fun x => rfl
  cells := fun x => rfl
  ok := fun x => rfl
  okv := fun x => rfl
  cvf := ⟨_, .inr ⟨c, 0, rfl⟩⟩
  run := fun x y D => by
    refine ⟨cmpI (clT T x.1) (clT T y.1), ?_, by unfold cmpI; (repeat' split) <;> omega, by unfold cmpI; (repeat' split) <;> omega, by unfold cmpI; (repeat' split) <;> omega⟩
    have e := fun a b => compareI_eq a b
    have e1 := class_eq (hb D)
    have g := hc D
    show callO PX 48 [.int .i32 x.1, .int .i32 y.1, .pointer (some ⟨c, 0, none⟩)] _ = _
    apply WpC.eqn
    refine wpc_fn (px_ext rfl) (px_fn fn_marks_Order_1) rfl ?_
    unfold LF_marks_Order_1
    simp only [argFr]
    (refine W_y (Aj e (Aj e1 g)) ?_; (repeat' first | apply Cj.mk | exact Nl.nl) <;> intros)
    exact ⟨rfl, rfl⟩
  vw := fun x => rfl
  rdw := fun x => rfl
def sl3 (e : Nat) (v a b c : Value) : Option Value := (POp.sl e (.c v) (some (.c a)) (some (.c b)) (some (.c c))).ev []
theorem ev_sl3 {fr : Fr} {e : Nat} {x a b c : Opd} : (POp.sl e x (some a) (some b) (some c)).ev fr = sl3 e (opd fr x) (opd fr a) (opd fr b) (opd fr c) := rfl
attribute [push_cast] ev_sl3
theorem sl3_val {bk o n : Nat} {i j m : Int} (h0 : 0 ≤ i) (h1 : i ≤ j) (h2 : j ≤ m) (h3 : m ≤ n) : sl3 1 ((Sl.at bk o n).val 1) (.int .i64 i) (.int .i64 j) (.int .i64 m) = some ((Sl.at bk (o + i.toNat) (j - i).toNat).val 1) := by
  obtain ⟨i, rfl⟩ := Int.eq_ofNat_of_zero_le h0
  obtain ⟨j, rfl⟩ := Int.eq_ofNat_of_zero_le (Int.le_trans h0 h1)
  obtain ⟨m, rfl⟩ := Int.eq_ofNat_of_zero_le (Int.le_trans h0 (Int.le_trans h1 h2))
  have a1 : i ≤ j := by omega
  have a2 : j ≤ m := by omega
  have a3 : m ≤ n := by omega
  simp [sl3, POp.ev, opd, Sl.val, optInt, asNat, ptrOff, a1, a2, a3]
theorem sort_run {h g : AH} {k B c i j : Nat} {s6 sl : Sl} {T : Tab} {D : List Nat} (bk : BkAt h k B s6 T) (hc : h.get c = some (.cells false [.pointer (some ⟨k, 0, none⟩)])) (fo : FOwn h g 1 sl (D.map rnV)) (hij : i < j) (hj : j ≤ D.length) (hn : D.length < 1000000000)
    (hm : ∀ x ∈ (D.drop i).take (j - i), 0 < clT T x) :
    ∃ (w : Sl) (g' : AH), sl3 1 (sl.val 1) (.int .i64 i) (.int .i64 j) (.int .i64 j) = some (w.val 1) ∧ callO PX 47 [w.val 1, .func (.func 48) #[] #[.pointer (some ⟨c, 0, none⟩)]] g = some (.tuple #[], g') ∧
      FOwn h g' 1 sl ((D.take i ++ ord (clT T) ((D.drop i).take (j - i)) ++ D.drop j).map rnV) := by
  have hlen := fo.own.1
  have hnew := fo.new
  have hkp := fo.kp
  rw [List.length_map] at hlen
  cases sl with
  | nil => simp [Sl.len] at hlen; omega
  | «at» b o n =>
    simp only [Sl.len] at hlen
    obtain ⟨h1, h2, pre, h3, h4⟩ := fo.own
    have hnb := hnew b rfl
    have hbg := AH.get_lt h3
    obtain ⟨M, hM⟩ : ∃ M, M = (D.drop i).take (j - i) := ⟨_, rfl⟩
    have hMl : M.length = j - i := by rw [hM, List.length_take, List.length_drop]; omega
    have hD : D = D.take i ++ M ++ D.drop j := by
      rw [hM]
      conv => lhs; rw [← List.take_append_drop i D, ← List.take_append_drop (j - i) (D.drop i), List.drop_drop, show i + (j - i) = j by omega]
      rw [List.append_assoc]
    rw [← hM] at hm ⊢
    let q : Pl := ⟨g, b, pre ++ ((D.take i).map rnV).flatten, ((D.drop j).map rnV).flatten, hbg⟩
    have hfm : ∀ Z : List (Nat × Nat), Z.map rpV = (Z.map (·.1)).map rnV := fun Z => by rw [List.map_map]; rfl
    have hO : M.zipIdx.map (·.1) = M := List.zipIdx_map_fst 0 M
    have hfl : (D.map rnV).flatten = ((D.take i).map rnV).flatten ++ ((M.map rnV).flatten ++ ((D.drop j).map rnV).flatten) := by
      conv => lhs; rw [hD]
      simp only [List.map_append, List.flatten_append, List.append_assoc]
    have hH : q.H rpV M.zipIdx = g := by
      show g.set b (.cells false (pre ++ ((D.take i).map rnV).flatten ++ (M.zipIdx.map rpV).flatten ++ ((D.drop j).map rnV).flatten)) = g
      rw [hfm, hO]
      refine AH.set_self ?_
      rw [h3, hfl]
      simp only [List.append_assoc]
    have kpq : ∀ E, Kp h (q.H rpV E) := fun E => ⟨hkp.1, fun x hx => by
      show (g.set b _).get x = _
      rw [AH.get_set_ne _ (by omega)]
      exact hkp.2 x hx⟩
    have hcq := AH.get_lt hc
    obtain ⟨Z, z1, z2, z3⟩ := sortStable_eq (idx := fun x : Nat × Nat => (x.2 : Int)) (cmp_marks q (T := T) (k := k) (B := B) (c := c) (s6 := s6) (fun E => bk.kp (kpq E)) (fun E => (kpq E).get hc)) (O := M.zipIdx) (n := M.length) (by simp) (by omega) (by
      rw [List.pairwise_iff_getElem]
      intro x y hx hy hxy
      simp only [List.getElem_zipIdx]
      omega)
    have hmz : ∀ x ∈ M.zipIdx, 0 < clT T x.1 := fun x hx => hm _ (by rw [← hO]; exact List.mem_map_of_mem hx)
    have hZ := sorted_ord (cl := clT T) _ M.zipIdx Z rfl (by
      rw [List.pairwise_iff_getElem]
      intro x y hx hy hxy
      simp only [List.getElem_zipIdx]
      omega) z1 z2 hmz
    rw [hO] at hZ
    rw [hH] at z3
    have hl1 : ∀ l : List Nat, ((l.map rnV).flatten).length = l.length := fun l => by rw [flatten_len (e := 1) (fun x hx => by obtain ⟨y, _, rfl⟩ := List.mem_map.1 hx; rfl), List.length_map, Nat.mul_one]
    have hqs : q.s M.length = .at b (o + i) (j - i) := by
      show Sl.at b (pre ++ ((D.take i).map rnV).flatten).length _ = _
      rw [List.length_append, hl1, List.length_take, h4, hMl, Nat.min_eq_left (by omega)]
    have hs := sl3_val (bk := b) (o := o) (n := n) (i := i) (j := j) (m := j) (by omega) (by omega) (by omega) (by omega)
    rw [show ((j : Int) - i).toNat = j - i by omega, Int.toNat_natCast] at hs
    rw [hqs] at z3
    refine ⟨_, _, hs, z3, ⟨⟨by simp only [Sl.len, List.length_map, List.length_append, ord_length, hMl, List.length_take, List.length_drop]; omega, fun x hx => by obtain ⟨y, _, rfl⟩ := List.mem_map.1 hx; rfl, pre, ?_, h4⟩, kpq Z, hnew⟩⟩
    rw [q.get]
    show some (AObj.cells false ((pre ++ ((D.take i).map rnV).flatten) ++ (Z.map rpV).flatten ++ ((D.drop j).map rnV).flatten)) = _
    rw [hfm, hZ]
    simp only [List.map_append, List.flatten_append, List.append_assoc]
set_option maxHeartbeats 1000000 in
theorem marksOrder_spec {h : AH} {k B : Nat} {s6 : Sl} {T : Tab} (bk : BkAt h k B s6 T) (s : ByteArray) (hs : s.size ≤ 100000000) : WpC PX 25 [.pointer (some ⟨k, 0, none⟩), .string s] h fun v h' => v = .string (bs (orderB T s.data.toList)) ∧ Kp h h' := by
  have hz : s.data.toList.length = s.size := rfl
  have hn := spots_len s.data.toList
  have hl := runesB_len s.data.toList
  have hr := runesB_rune s.data.toList
  unfold orderB
  refine wpc_fn (px_ext rfl) (px_fn fn_marks_Order) rfl ?_
  unfold LF_marks_Order
  simp only [argFr]
  (refine W_x trivial ?_; (repeat' first | apply Cj.mk | exact Nl.nl) <;> intros)
  refine wo_s2r (h0 := h.push (.cells false [.pointer (some ⟨k, 0, none⟩)])) (Kp.refl _) (by omega) fun sl g fo => ?_
  have bk1 := bk.kp ((Kp.refl h).push (.cells false [.pointer (some ⟨k, 0, none⟩)]))
  have hbox : (h.push (.cells false [.pointer (some ⟨k, 0, none⟩)])).get h.n = some (.cells false [.pointer (some ⟨k, 0, none⟩)]) := AH.get_push_same h _
  have kp0 : Kp h (h.push (.cells false [.pointer (some ⟨k, 0, none⟩)])) := (Kp.refl h).push _
  generalize h.push (.cells false [.pointer (some ⟨k, 0, none⟩)]) = h1 at fo bk1 hbox kp0
  generalize h.n = c at hbox
  generalize runesB s.data.toList = L at fo hl hr
  (refine W_x trivial ?_; (repeat' first | apply Cj.mk | exact Nl.nl) <;> intros)
  refine wp_loop (fun w fr lc g => ∃ (A R : List Nat), w = R.length ∧ A.length + R.length = L.length ∧ ord (clT T) (A ++ R) = ord (clT T) L ∧ Ordered (clT T) A ∧ (A = [] ∨ R = [] ∨ (∃ a A', A = A' ++ [a] ∧ clT T a ≤ 0) ∨ (∃ a R', R = a :: R' ∧ clT T a ≤ 0)) ∧ FOwn h1 g 1 sl ((A ++ R).map rnV) ∧
    fr = [(2, .pointer (some ⟨c, 0, none⟩)), (5, sl.val 1), (6, .int .i64 A.length)] ∧ lc = []) L.length ⟨[], L, rfl, by simp, rfl, trivial, .inl rfl, fo, rfl, rfl⟩ ?_
  rintro w fr lc g ⟨A, R, rfl, hAR, ho, hA, hb, fo, rfl, rfl⟩
  have sll := fo.own.1
  rw [List.length_map, List.length_append] at sll
  have hbx := fo.kp.get hbox
  have e1 := class_eq (bk1.kp fo.kp)
  cases R with
  | nil =>
    rw [List.append_nil] at fo ho
    rw [List.length_nil, Nat.add_zero] at sll
    have hg := fun lc => r2s_own (lc := lc) fo.own (fun x hx => hr x (by rw [← ord_mem (cl := clT T), ← ho]; exact ord_mem.2 hx))
    (refine W_x (Aj sll hg) ?_; (repeat' first | apply Cj.mk | exact Nl.nl) <;> intros)
    refine ⟨?_, kp0.trans fo.kp⟩
    rw [← ho, ord_of_ordered hA]
  | cons r R =>
    rw [List.length_cons] at sll hAR
    have hi : A.length < (A ++ r :: R).length := by rw [List.length_append, List.length_cons]; omega
    have g0 := fun lc => rd_map (lc := lc) fo.reads hi
    have hget : (A ++ r :: R)[A.length] = r := by simp
    rw [hget] at g0
    have e2 := e1 (r : Nat)
    rw [show classI T (r : Nat) = clT T r from rfl] at e2
    unfold rnV at g0
    (refine W_x (Aj sll (Aj hbx (Aj g0 e2))) ?_; (repeat' first | apply Cj.mk | exact Nl.nl) <;> intros)
    · have hb' : A = [] ∨ (∃ a A', A = A' ++ [a] ∧ clT T a ≤ 0) := by
        rcases hb with hb | hb | hb | ⟨a, R', e, ha⟩
        · exact .inl hb
        · cases hb
        · exact .inr hb
        · injection e with e e2
          subst e
          omega
      refine wp_loopB (fun w f0 lc g' => ∃ (m : Nat) (j : Int), j = (A.length : Int) + 1 + m ∧ w = R.length - m ∧ m ≤ R.length ∧ (∀ x ∈ R.take m, 0 < clT T x) ∧ f0 = [(2, .pointer (some ⟨c, 0, none⟩)), (5, sl.val 1), (6, .int .i64 A.length), (7, .int .i64 j)] ∧ lc = [] ∧ g' = g) R.length _ (by repeat' first | exact True.intro | refine And.intro rfl ?_)
        ⟨0, (A.length : Int) + 1, by omega, rfl, Nat.zero_le _, by simp, rfl, rfl, rfl⟩ (fun w f0 lc h ⟨_, _, _, _, _, _, e, _, _⟩ => by rw [e]; rfl) ?_
      rintro w f0 lc g' ⟨m, j, hj, rfl, hm, hM, rfl, rfl, rfl⟩
      have fin : (m = R.length ∨ ∃ hm : m < R.length, clT T R[m] ≤ 0) → ∃ (w : Sl) (g2 : AH), sl3 1 (sl.val 1) (.int .i64 A.length) (.int .i64 j) (.int .i64 j) = some (w.val 1) ∧
          callO PX 47 [w.val 1, .func (.func 48) #[] #[.pointer (some ⟨c, 0, none⟩)]] g' = some (.tuple #[], g2) ∧
          ∃ A' : List Nat, (A'.length : Int) = j ∧ A'.length + (R.drop m).length = L.length ∧ ord (clT T) (A' ++ R.drop m) = ord (clT T) L ∧ Ordered (clT T) A' ∧ (A' = [] ∨ R.drop m = [] ∨ (∃ a A2, A' = A2 ++ [a] ∧ clT T a ≤ 0) ∨ (∃ a R', R.drop m = a :: R' ∧ clT T a ≤ 0)) ∧ FOwn h1 g2 1 sl ((A' ++ R.drop m).map rnV) := fun hend => by
        have hcut : R.drop m = [] ∨ ∃ a R', R.drop m = a :: R' ∧ clT T a ≤ 0 := by
          rcases hend with e | ⟨hlt, e⟩
          · exact .inl (by rw [e, List.drop_length])
          · exact .inr ⟨_, _, List.drop_eq_getElem_cons hlt, e⟩
        have hd : ((A ++ r :: R).drop A.length).take (A.length + 1 + m - A.length) = r :: R.take m := by
          rw [List.drop_left, show A.length + 1 + m - A.length = m + 1 by omega, List.take_succ_cons]
        have hpos : ∀ x ∈ r :: R.take m, 0 < clT T x := fun x hx => by
          rcases List.mem_cons.1 hx with rfl | hx
          · assumption
          · exact hM x hx
        obtain ⟨w, g2, q1, q2, q3⟩ := sort_run (i := A.length) (j := A.length + 1 + m) bk1 hbox fo (by omega) (by rw [List.length_append, List.length_cons]; omega) (by rw [List.length_append, List.length_cons]; omega) (by rw [hd]; exact hpos)
        have hd2 : (A ++ r :: R).drop (A.length + 1 + m) = R.drop m := by
          rw [show A.length + 1 + m = A.length + (m + 1) by omega, ← List.drop_drop, List.drop_left, List.drop_succ_cons]
        rw [hd, List.take_left, hd2] at q3
        refine ⟨w, g2, by rw [hj]; simpa using q1, q2, A ++ ord (clT T) (r :: R.take m), ?_, ?_, ?_, ?_, ?_, q3⟩
        · rw [List.length_append, ord_length, List.length_cons, List.length_take]; omega
        · rw [List.length_append, ord_length, List.length_cons, List.length_take, List.length_drop]; omega
        · rw [← ho]
          have e : A ++ r :: R = A ++ ((r :: R.take m) ++ R.drop m) := by simp
          have hc2 : ∀ {X : List Nat}, (A = [] ∨ X = [] ∨ (∃ a p', A = p' ++ [a] ∧ clT T a ≤ 0) ∨ (∃ a q', X = a :: q' ∧ clT T a ≤ 0)) := by
            rcases hb' with h | h
            · exact .inl h
            · exact .inr (.inr (.inl h))
          have hc3 : ∀ {X : List Nat}, (X = [] ∨ R.drop m = [] ∨ (∃ a p', X = p' ++ [a] ∧ clT T a ≤ 0) ∨ (∃ a q', R.drop m = a :: q' ∧ clT T a ≤ 0)) := by
            rcases hcut with h | h
            · exact .inr (.inl h)
            · exact .inr (.inr (.inr h))
          rw [e, List.append_assoc, ord_append hc2, ord_append hc3, ord_append hc2, ord_append hc3, ord_ord]
        · refine ordered_append hA (ord_ordered _) fun a b ha hb2 => ?_
          have hbp : 0 < clT T b := hpos b (ord_mem.1 (List.mem_of_head? hb2))
          rcases hb' with rfl | ⟨a', A2, rfl, ha'⟩
          · cases ha
          · rw [List.getLast?_concat] at ha
            injection ha with ha
            subst ha
            omega
        · exact .inr (hcut.imp id .inr)
      by_cases hlt : m < R.length
      · have hi2 : A.length + 1 + m < (A ++ r :: R).length := by rw [List.length_append, List.length_cons]; omega
        have g1 := fun lc => rd_map (lc := lc) fo.reads hi2
        have hget2 : (A ++ r :: R)[A.length + 1 + m] = R[m] := by
          rw [List.getElem_append_right (by omega)]
          simp only [show A.length + 1 + m - A.length = m + 1 by omega, List.getElem_cons_succ]
        rw [hget2] at g1
        have ht := take_snoc hlt
        generalize hy : R[m] = y at g1 ht
        have e3 := e1 (y : Nat)
        rw [show classI T (y : Nat) = clT T y from rfl] at e3
        unfold rnV at g1
        have hix : j.toNat = A.length + 1 + m := by omega
        (refine W_x (Aj sll (Aj hbx (Aj hix (Aj g1 e3)))) ?_; (repeat' first | apply Cj.mk | exact Nl.nl) <;> intros)
        · refine ⟨_, by omega, [(2, .pointer (some ⟨c, 0, none⟩)), (5, sl.val 1), (6, .int .i64 A.length), (7, .int .i64 (j + 1))], (by repeat' first | exact True.intro | refine And.intro rfl ?_), m + 1, j + 1, by omega, rfl, by omega, fun x hx => ?_, rfl, rfl, rfl⟩
          rw [ht] at hx
          rcases List.mem_append.1 hx with hx | hx
          · exact hM x hx
          · rw [List.mem_singleton.1 hx]; assumption
        · obtain ⟨w, g2, q1, q2, A', a1, a2, a3, a4, a5, a6⟩ := fin (.inr ⟨hlt, by rw [hy]; omega⟩)
          (refine W_x (Aj q1 q2) ?_; (repeat' first | apply Cj.mk | exact Nl.nl) <;> intros)
          exact ⟨_, by rw [List.length_cons, List.length_drop]; omega, A', R.drop m, rfl, a2, a3, a4, a5, a6, by rw [a1], rfl⟩
      · obtain ⟨w, g2, q1, q2, A', a1, a2, a3, a4, a5, a6⟩ := fin (.inl (by omega))
        (refine W_x (Aj sll (Aj hbx (Aj q1 q2))) ?_; (repeat' first | apply Cj.mk | exact Nl.nl) <;> intros)
        exact ⟨_, by rw [List.length_cons, List.length_drop]; omega, A', R.drop m, rfl, a2, a3, a4, a5, a6, by rw [a1], rfl⟩
    · refine ⟨R.length, by simp, A ++ [r], R, rfl, by rw [List.length_append, List.length_singleton]; omega, by rw [List.append_assoc]; exact ho, ?_, .inr (.inr (.inl ⟨r, A, rfl, by omega⟩)), by rw [List.append_assoc]; exact fo, by simp only [List.length_append, List.length_singleton, Int.natCast_add]; rfl, rfl⟩
      exact ordered_append hA trivial fun a b _ hb2 => by
        injection hb2 with hb2
        subst hb2
        omega
end Go.Proofs.YtblmakgjdenpfaaDoor.AM
namespace Go.Proofs.YtblmakgjdenpfaaDoor.AM
open Go
theorem of_house {h : AH} {S : TS} (t : TabAt h S houseT) (u : U8T h) (hg : 2 ≤ h.n) : WpC PX 9 [.agg S.vs.toArray] h fun v h' => Kp h h' ∧ ∃ k B S, v = .tuple (List.toArray [.pointer (some ⟨k, 0, none⟩), .bool true, .bool true]) ∧ BookAt h' k B S houseT ∧ h.n ≤ B ∧ h.n ≤ k :=
  (of_spec t u hg).mono fun v h' ⟨k, q⟩ => ⟨k, by rwa [if_pos house_good] at q⟩
theorem house8_spec (h : AH) : WpC PX 29 [] h fun v h' => ∃ S, v = .agg S.vs.toArray ∧ TabAt h' S houseT ∧ Kp h h' := by
  obtain ⟨_, g, e, S, rfl, t, k⟩ := house_spec h
  unfold TS.vs at e
  refine wpc_fn (px_ext rfl) (px_fn fn_guiselaw8_house) rfl ?_
  unfold LF_guiselaw8_house
  simp only [argFr]
  (refine W_x e ?_; (repeat' first | apply Cj.mk | exact Nl.nl) <;> intros)
  exact ⟨S, rfl, t, k⟩
theorem known8_a : (bs (orderB houseT [97, 204, 129, 204, 163])) = ⟨#[97, 204, 163, 204, 129]⟩ := by
  have : orderB houseT [97, 204, 129, 204, 163] = [97, 204, 163, 204, 129] := by decide +kernel
  rw [this]; rfl
theorem known8_b : (bs (orderB houseT [255])) = ⟨#[239, 191, 189]⟩ := by
  have : orderB houseT [255] = [239, 191, 189] := by decide +kernel
  rw [this]; rfl
theorem known8_spec {h : AH} (u : U8T h) (hg : 2 ≤ h.n) : WpC PX 21 [] h fun v h' => v = .bool true ∧ Kp h h' := by
  obtain ⟨_, g, e, S, rfl, t, k⟩ := house8_spec h
  obtain ⟨_, g1, e1, k1, kk, B, S1, rfl, bk, _, _⟩ := of_house t (u.kp k) (Nat.le_trans hg k.1)
  obtain ⟨_, g2, e2, rfl, k2⟩ := marksOrder_spec bk.bk ⟨#[97, 204, 129, 204, 163]⟩ (by decide)
  obtain ⟨_, g3, e3, rfl, k3⟩ := marksOrder_spec (bk.kp k2).bk ⟨#[255]⟩ (by decide)
  have q2 := known8_a
  have q3 := known8_b
  unfold TS.vs at *
  refine wpc_fn (px_ext rfl) (px_fn fn_guiselaw8_known) rfl ?_
  unfold LF_guiselaw8_known
  simp only [argFr]
  simp only [q2] at e2
  simp only [q3] at e3
  (refine W_x (Aj e (Aj e1 (Aj e2 e3))) ?_; (repeat' first | apply Cj.mk | exact Nl.nl) <;> intros)
  exact ⟨rfl, ((k.trans k1).trans k2).trans k3⟩
end Go.Proofs.YtblmakgjdenpfaaDoor.AM
namespace Go.Proofs.YtblmakgjdenpfaaDoor.AM
open Go
theorem good_check {T : Tab} (h : goodB T = true) : checkW T = none := by
  unfold goodB at h
  simp only [Bool.and_eq_true, Option.isNone_iff_eq_none] at h
  exact h.2
theorem good_marks {T : Tab} (h : goodB T = true) : ∀ x ∈ T.marks, runeI x.1 = true ∧ 1 ≤ x.2 ∧ x.2 ≤ 254 := by
  intro x hx
  have hf := (checkW_none (good_check h)).2.1
  unfold formsW at hf
  simp only [Option.or_eq_none_iff] at hf
  obtain ⟨i, hi, rfl⟩ := List.mem_iff_getElem.1 hx
  have := scanL_none hf.2.2.1 i hi
  split at this
  · cases this
  · rename_i h1
    split at this
    · cases this
    · exact ⟨by simpa using h1, by omega, by omega⟩
theorem class_range {T : Tab} (h : goodB T = true) (r : Int) : 0 ≤ classI T r ∧ classI T r ≤ 254 := by
  unfold classI
  cases hs : scanL T.marks fun _ x => if x.1 = r then some x.2 else none with
  | none => simp
  | some w =>
    obtain ⟨i, hi, e⟩ := scanL_some hs
    split at e
    · injection e with e
      have := good_marks h _ (List.getElem_mem hi)
      simp only [Option.getD_some]
      omega
    · cases e
section
variable {cl : Nat → Int}
end
end Go.Proofs.YtblmakgjdenpfaaDoor.AM
namespace Go.Proofs.YtblmakgjdenpfaaDoor.AM
open Go
def LF_strings_Builder_WriteRune : LFunc :=
  .mk 2 [.tmp 4, .tmp 5] (.seq (R 999 [0, 1] [.set 4 (xi 0), .set 5 (.cv .nilIface)]) (.seq (R 7 [0, 1] [.tmp 8 (xc1 77 (.va 0))]) (.seq (R 9 [0, 1, 6]
  [.set 6 (xlen (xld (xfa 1 (xnk (.va 0)))))]) (.seq (R 14 [0, 6] [.tmp 14 (.va 0), .tmp 20 (xc2 78 (xld (xfa 1 (xnk (.va 0)))) (.va 1)), .run (xst 1 (xfa 1 (xnk
  (.sl 14))) (.sl 20))]) (.seq (R 23 [4, 5] [.set 4 (xb .sub (xlen (xld (xfa 1 (xnk (.va 0))))) (.va 6)), .set 5 (.cv .nilIface)]) .ret)))))
theorem fn_strings_Builder_WriteRune : (autoPrg Tryd.prog).fn 41 = some LF_strings_Builder_WriteRune := by kernel_rfl
def LF_utf8_AppendRune : LFunc :=
  .mk 2 [.tmp 4] (.seq (R 999 [0, 1] [.set 4 (.cv (.slice none 0 0))]) (.seq (.seq (R 5 [0, 1, 7] [.tmp 7 (xb .leq (xcn .u32 (.va 1)) (.cv (.int .u32 127)))]) (.cond (.s 7) (.seq (R
  8 [4] [.set 4 (.op (.e (.appendT 10 1 1 (.s 0) (.s 1))) (.cons (.va 0) (.op (.e (.litL 11 1 1 [.int .u8 0] [(0, 1, .s 0)])) (xcn .u8 (.va 1)))))]) .ret) .skip)) (.seq (R
  13 [4] [.set 4 (xc2 120 (.va 0) (.va 1))]) .ret)))
theorem fn_utf8_AppendRune : (autoPrg Tryd.prog).fn 78 = some LF_utf8_AppendRune := by kernel_rfl
def LF_utf8_appendRuneNonASCII : LFunc :=
  .mk 2 [.tmp 4] (.seq (R 999 [0, 1] [.set 4 (.cv (.slice none 0 0))]) (.seq (R 6 [0, 1, 5] [.set 5 (xcn .u32 (.va 1))]) (.block 0 (.seq (R 12 [0, 1, 5, 11] [.set 11 (xb .leq (.va
  5) (.cv (.int .u32 2047)))]) (.cond (.s 11) (.seq (R 14 [4] [.set 4 (.op (.e (.appendT 10 1 1 (.s 0) (.s 1))) (.cons (.va 0) (.op (.e (.litL 23 2 1 [.int .u8 0] [(0, 1,
  .s 0), (1, 1, .s 1)])) (.cons (xb .or (.cv (.int .u8 192)) (xcn .u8 (xb .shr (.va 1) (.cv (.int .u64 6))))) (xb .or (.cv (.int .u8 128)) (xb .and (xcn .u8 (.va 1)) (.cv (.int .u8
  63))))))))]) .ret) (.seq (.seq (R 26 [0, 1, 5, 25] [.set 25 (xb .lss (.va 5) (.cv (.int .u32 55296)))]) (.cond (.s 25) .skip (R 28 [0, 1, 5, 25] [.set 25 (.and (xb .lss (.cv (.int
  .u32 57343)) (.va 5)) (xb .leq (.va 5) (.cv (.int .u32 65535))))]))) (.cond (.s 25) (.seq (R 34 [4] [.set 4 (.op (.e (.appendT 10 1 1 (.s 0) (.s 1))) (.cons (.va 0) (.op
  (.e (.litL 48 3 1 [.int .u8 0] [(0, 1, .s 0), (1, 1, .s 1), (2, 1, .s 2)])) (.cons (xb .or (.cv (.int .u8 224)) (xcn .u8 (xb .shr (.va 1) (.cv (.int .u64 12))))) (.cons (xb .or
  (.cv (.int .u8 128)) (xb .and (xcn .u8 (xb .shr (.va 1) (.cv (.int .u64 6)))) (.cv (.int .u8 63)))) (xb .or (.cv (.int .u8 128)) (xb .and (xcn .u8 (.va 1)) (.cv (.int .u8
  63)))))))))]) .ret) (.seq (R 51 [0, 1, 50] [.set 50 (.and (xb .gtr (.va 5) (.cv (.int .u32 65535))) (xb .leq (.va 5) (.cv (.int .u32 1114111))))]) (.cond (.s 50) (.seq (R 57 [4]
  [.set 4 (.op (.e (.appendT 10 1 1 (.s 0) (.s 1))) (.cons (.va 0) (.op (.e (.litL 76 4 1 [.int .u8 0] [(0, 1, .s 0), (1, 1, .s 1), (2, 1, .s 2), (3, 1, .s 3)])) (.cons (xb
  .or (.cv (.int .u8 240)) (xcn .u8 (xb .shr (.va 1) (.cv (.int .u64 18))))) (.cons (xb .or (.cv (.int .u8 128)) (xb .and (xcn .u8 (xb .shr (.va 1) (.cv (.int .u64 12)))) (.cv (.int
  .u8 63)))) (.cons (xb .or (.cv (.int .u8 128)) (xb .and (xcn .u8 (xb .shr (.va 1) (.cv (.int .u64 6)))) (.cv (.int .u8 63)))) (xb .or (.cv (.int .u8 128)) (xb .and (xcn .u8 (.va
  1)) (.cv (.int .u8 63))))))))))]) .ret) (.seq (R 8 [4] [.set 4 (.op (.e (.appendT 10 1 1 (.s 0) (.s 1))) (.cons (.va 0) (.op (.e (.litL 9 3 1 [.int .u8 0] [(0, 1, .s 0),
  (1, 1, .s 1), (2, 1, .s 2)])) (.cons (.cv (.int .u8 239)) (.cons (.cv (.int .u8 191)) (.cv (.int .u8 189)))))))]) .ret))))))))))
theorem fn_utf8_appendRuneNonASCII : (autoPrg Tryd.prog).fn 120 = some LF_utf8_appendRuneNonASCII := by kernel_rfl
end Go.Proofs.YtblmakgjdenpfaaDoor.AM
namespace Go.Proofs.YtblmakgjdenpfaaDoor.AM
open Go
theorem ev_newT {c : CallF} {y : YieldF} {fr : Fr} {lc : Lc} {h : AH} {t : Nat} {z : List Value} : (EOp.newT t z).ev c y fr ⟨lc, h⟩ = some (.pointer (some ⟨h.n, 0, none⟩), ⟨lc, h.push (.tc t z)⟩) := rfl
attribute [push_cast] ev_newT
def bufS (g : Option Nat) (n : Nat) : Sl := match g with
  | none => .nil
  | some g => .at g 0 n
def BufAt (h : AH) (g : Option Nat) (X : Bytes) : Prop := match g with
  | none => X = []
  | some g => X ≠ [] ∧ h.get g = some (.tc 10 (bytesV X))
structure BldAt (h : AH) (b : Nat) (g : Option Nat) (X : Bytes) : Prop where
  p : ∃ p, h.get b = some (.tc 169 [p, (bufS g X.length).val 1]) ∧ (p = .pointer none ∨ p = .pointer (some ⟨b, 0, none⟩))
  u : BufAt h g X
  ne : g ≠ some b
structure BFr (h h' : AH) (b : Nat) (g g' : Option Nat) : Prop where
  n : h.n ≤ h'.n
  keep : ∀ c, c < h.n → c ≠ b → g ≠ some c → h'.get c = h.get c
  new : g' = g ∨ ∃ x, g' = some x ∧ h.n ≤ x
def killO (h : AH) : Option Nat → AH
  | none => h
  | some g => h.kill g
theorem killO_n (h : AH) (g : Option Nat) : (killO h g).n = h.n := by cases g <;> rfl
theorem killO_get {h : AH} {g : Option Nat} {c : Nat} (hc : g ≠ some c) : (killO h g).get c = h.get c := by
  cases g with
  | none => rfl
  | some g => exact AH.get_kill_ne (fun e => hc (by rw [e]))
theorem bytesV_app (X Y : Bytes) : bytesV (X ++ Y) = bytesV X ++ bytesV Y := by simp [bytesV]
theorem bytesV_len (X : Bytes) : (bytesV X).length = X.length := by simp [bytesV]
theorem app_buf {h : AH} {lc : Lc} {g : Option Nat} {X Y : Bytes} {y : Value} {k : Nat} (hb : BufAt h g X) (hk : lenV y = some k) (hy : rdSlice ⟨lc, h⟩ 1 y = some (bytesV Y)) (hl : Y.length = k) (h0 : 0 < k) (hn : X.length + k ≤ 140737488355328) :
    appendG (some 10) 1 1 ⟨lc, h⟩ ((bufS g X.length).val 1) y = some (.slice (some ⟨h.n, 0, none⟩) (X.length + k) 1, ⟨lc, (killO h g).push (.tc 10 (bytesV (X ++ Y)))⟩) := by
  have hlen : (bytesV Y).length = k * 1 := by rw [bytesV_len, hl, Nat.mul_one]
  cases g with
  | none =>
    have hX : X = [] := hb
    subst hX
    simp only [List.length_nil, Nat.zero_add] at hn
    simp only [bufS, Sl.val, appendG, hk, hy, hlen, if_true, AObj.mk, killO, List.nil_append, List.length_nil, Nat.zero_add]
    rw [if_neg (by omega), if_pos ⟨by omega, by decide, by decide⟩]
  | some g =>
    obtain ⟨hX, hg⟩ := hb
    simp only [bufS, Sl.val, appendG, hk, hy, hlen, if_true, AObj.mk, killO]
    rw [if_neg (by omega)]
    simp only [hg, AObj.own, if_true]
    rw [if_pos ⟨by rw [bytesV_len]; omega, by omega, by decide, by decide, trivial⟩, bytesV_app]
    rfl
section
variable {p : Prg} {lc : Lc} {h : AH} {H : Value → Lc → AH → Prop}
theorem wo_appB {g : Option Nat} {X Y : Bytes} {b k : Nat} {cs : List Value} (hb : BufAt h g X) (hl : lget lc b = some (.cells false cs)) (hc : cs = bytesV Y) (hk : Y.length = k) (h0 : 0 < k) (hn : X.length + k ≤ 140737488355328)
    (hq : H (.slice (some ⟨h.n, 0, none⟩) (X.length + k) 1) lc ((killO h g).push (.tc 10 (bytesV (X ++ Y))))) : WpO p (.e (.appendT 10 1 1 (.s 0) (.s 1))) [(bufS g X.length).val 1, .slice (some ⟨b, 0, some 1⟩) k 1] lc h H := by
  refine wo_e (v := .slice (some ⟨h.n, 0, none⟩) (X.length + k) 1) (lc' := lc) ?_ hq
  simp only [EOp.ev, opd_s, fg0, fg1]
  refine app_buf hb rfl ?_ hk h0 hn
  subst hc
  simp only [rdSlice, rd_loc, hl, Nat.mul_one]
  rw [if_neg (by omega), if_pos (by rw [bytesV_len]; omega), List.drop_zero, List.take_of_length_le (by rw [bytesV_len]; omega)]
end
theorem copyCheck_spec {h : AH} {b : Nat} {g : Option Nat} {X : Bytes} (bd : BldAt h b g X) :
    ∃ h1, callO PX 77 [.pointer (some ⟨b, 0, none⟩)] h = some (.tuple #[], h1) ∧ h1.n = h.n ∧ (∀ c, c ≠ b → h1.get c = h.get c) ∧ h1.get b = some (.tc 169 [.pointer (some ⟨b, 0, none⟩), (bufS g X.length).val 1]) := by
  obtain ⟨p, hp, hor⟩ := bd.p
  rw [callO_ext (g := cpyX 84) (by unfold PX; rw [withExt_ext]; rfl)]
  unfold cpyX
  rcases hor with rfl | rfl
  · refine ⟨h.set b (.tc 169 [.pointer (some ⟨b, 0, none⟩), (bufS g X.length).val 1]), ?_, rfl, fun c hc => AH.get_set_ne _ hc, AH.get_set_same _ (AH.get_lt hp)⟩
    simp only [hp]
    rfl
  · refine ⟨h, ?_, rfl, fun c _ => rfl, hp⟩
    simp only [hp]
    simp
theorem bldString_spec {h : AH} {b : Nat} {g : Option Nat} {X : Bytes} (bd : BldAt h b g X) (hX : X.length ≤ 140737488355328) :
    callO PX 42 [.pointer (some ⟨b, 0, none⟩)] h = some (.string (bs X), killO h g) := by
  obtain ⟨p, hp, hor⟩ := bd.p
  rw [callO_ext (g := strX 84 5) (by unfold PX; rw [withExt_ext]; rfl)]
  unfold strX
  simp only [hp]
  cases g with
  | none =>
    have : X = [] := bd.u
    subst this
    rfl
  | some g =>
    obtain ⟨h1, h2⟩ := bd.u
    have hpos : 0 < X.length := List.length_pos_iff.2 h1
    simp only [bufS, Sl.val, h2, bytesX_bytesV, if_true]
    rw [if_pos ⟨trivial, trivial, hpos, hX⟩]
    rfl
end Go.Proofs.YtblmakgjdenpfaaDoor.AM
namespace Go.Proofs.YtblmakgjdenpfaaDoor.AM
open Go
theorem u8_fin : (∀ m : Fin 64, IntKind.u8.wrap ((BitVec.ofInt 8 128 ||| BitVec.ofInt 8 ((m.val : Nat) : Int)).toNat : Int) = ((128 + m.val : Nat) : Int)) ∧ (∀ m : Fin 32, IntKind.u8.wrap ((BitVec.ofInt 8 192 ||| BitVec.ofInt 8 ((m.val : Nat) : Int)).toNat : Int) = ((192 + m.val : Nat) : Int)) ∧
    (∀ m : Fin 16, IntKind.u8.wrap ((BitVec.ofInt 8 224 ||| BitVec.ofInt 8 ((m.val : Nat) : Int)).toNat : Int) = ((224 + m.val : Nat) : Int)) ∧ (∀ m : Fin 8, IntKind.u8.wrap ((BitVec.ofInt 8 240 ||| BitVec.ofInt 8 ((m.val : Nat) : Int)).toNat : Int) = ((240 + m.val : Nat) : Int)) := by
  decide
set_option maxRecDepth 10000 in
theorem u8_and : ∀ m : Fin 256, IntKind.u8.wrap ((BitVec.ofInt 8 ((m.val : Nat) : Int) &&& BitVec.ofInt 8 63).toNat : Int) = ((m.val % 64 : Nat) : Int) := by
  decide
theorem oru128 {m : Nat} (h : m < 64) : binA .or (.int .u8 128) (.int .u8 m) = some (.int .u8 ((128 + m : Nat) : Int)) := congrArg (fun z => some (Value.int .u8 z)) (u8_fin.1 ⟨m, h⟩)
theorem oru192 {m : Nat} (h : m < 32) : binA .or (.int .u8 192) (.int .u8 m) = some (.int .u8 ((192 + m : Nat) : Int)) := congrArg (fun z => some (Value.int .u8 z)) (u8_fin.2.1 ⟨m, h⟩)
theorem oru224 {m : Nat} (h : m < 16) : binA .or (.int .u8 224) (.int .u8 m) = some (.int .u8 ((224 + m : Nat) : Int)) := congrArg (fun z => some (Value.int .u8 z)) (u8_fin.2.2.1 ⟨m, h⟩)
theorem oru240 {m : Nat} (h : m < 8) : binA .or (.int .u8 240) (.int .u8 m) = some (.int .u8 ((240 + m : Nat) : Int)) := congrArg (fun z => some (Value.int .u8 z)) (u8_fin.2.2.2 ⟨m, h⟩)
theorem andu63 {q : Nat} : binA .and (.int .u8 ((q % 256 : Nat) : Int)) (.int .u8 63) = some (.int .u8 ((q % 64 : Nat) : Int)) := by
  have h := u8_and ⟨q % 256, Nat.mod_lt _ (by decide)⟩
  simp only [show q % 256 % 64 = q % 64 by omega] at h
  exact congrArg (fun z => some (Value.int .u8 z)) h
theorem shrs {k : Nat} {c m : Nat} (hk : m = 2 ^ (min k 32)) : binA .shr (.int .i32 c) (.int .u64 k) = some (.int .i32 ((c / m : Nat) : Int)) := by
  show (if (k : Int) < 0 then none else some (Value.int .i32 ((c : Int).fdiv (2 ^ (min (k : Int).toNat 32))))) = _
  rw [if_neg (by omega), Int.fdiv_eq_ediv_of_nonneg _ (Int.le_of_lt (Int.pow_pos (by decide))), hk, Int.toNat_natCast]
  congr 2
theorem wrapu8 (q : Nat) : IntKind.u8.wrap (q : Int) = ((q % 256 : Nat) : Int) := by
  unfold IntKind.wrap
  simp [IntKind.signed, IntKind.bits]
theorem wrapu32 {q : Nat} (h : q < 4294967296) : IntKind.u32.wrap (q : Int) = (q : Int) := by
  unfold IntKind.wrap
  simp [IntKind.signed, IntKind.bits]
  omega
theorem bytesV_ofs : ∀ {l : List Nat}, (∀ m ∈ l, m < 256) → bytesV (l.map UInt8.ofNat) = l.map fun m : Nat => Value.int .u8 m
  | [], _ => rfl
  | m :: l, h => by
    rw [List.map_cons, List.map_cons, ← bytesV_ofs (l := l) fun x hx => h x (by simp [hx])]
    show Value.int .u8 (((UInt8.ofNat m).toNat : Nat) : Int) :: _ = _
    rw [of_small (h m (by simp))]
    rfl
set_option maxRecDepth 20000 in
theorem appRune_spec {c : Nat} (hc : RuneN c) {h : AH} {g : Option Nat} {X : Bytes} (hb : BufAt h g X) (hn : X.length ≤ 140737488355000) :
    callO PX 78 [(bufS g X.length).val 1, .int .i32 c] h = some (.slice (some ⟨h.n, 0, none⟩) (X.length + (encN c).length) 1, (killO h g).push (.tc 10 (bytesV (X ++ encN c)))) := by
  have hc2 : c ≤ 1114111 := by unfold RuneN at hc; omega
  have hsur : ¬ (55296 ≤ c ∧ c ≤ 57343) := by unfold RuneN at hc; omega
  clear hc
  have w8 := wrapu8
  have w32 := wrapu32 (q := c) (by omega)
  apply WpC.eqn
  by_cases g1 : c < 128
  · have he : encN c = [c].map UInt8.ofNat := by unfold encN; rw [if_pos g1]; rfl
    have hv := bytesV_ofs (l := [c]) (fun m hm => by simp at hm; omega)
    rw [← he] at hv
    simp only [List.map_cons, List.map_nil] at hv
    have hm : c % 256 = c := Nat.mod_eq_of_lt (by omega)
    have hl : (encN c).length = 1 := by rw [he]; rfl
    generalize encN c = Y at *
    refine wpc_fn (px_ext rfl) (px_fn fn_utf8_AppendRune) rfl ?_
    unfold LF_utf8_AppendRune
    simp only [argFr]
    (refine W_x (Aj w32 (Aj w8 hm)) ?_; (repeat' first | apply Cj.mk | exact Nl.nl) <;> intros)
    refine wo_appB hb rfl hv.symm hl (by decide) (by omega) ?_
    (refine W_x trivial ?_; (repeat' first | apply Cj.mk | exact Nl.nl) <;> intros)
    rw [hl]
    exact ⟨rfl, rfl⟩
  · obtain ⟨q6, e6⟩ : ∃ q, q = c / 64 := ⟨_, rfl⟩
    obtain ⟨q12, e12⟩ : ∃ q, q = c / 4096 := ⟨_, rfl⟩
    obtain ⟨q18, e18⟩ : ∃ q, q = c / 262144 := ⟨_, rfl⟩
    obtain ⟨x0, d0⟩ : ∃ q, q = c % 256 := ⟨_, rfl⟩
    obtain ⟨x6, d6⟩ : ∃ q, q = q6 % 256 := ⟨_, rfl⟩
    obtain ⟨x12, d12⟩ : ∃ q, q = q12 % 256 := ⟨_, rfl⟩
    obtain ⟨x18, d18⟩ : ∃ q, q = q18 % 256 := ⟨_, rfl⟩
    obtain ⟨r0, f0⟩ : ∃ q, q = c % 64 := ⟨_, rfl⟩
    obtain ⟨r6, f6⟩ : ∃ q, q = q6 % 64 := ⟨_, rfl⟩
    obtain ⟨r12, f12⟩ : ∃ q, q = q12 % 64 := ⟨_, rfl⟩
    have s6 : binA .shr (.int .i32 c) (.int .u64 6) = some (.int .i32 (q6 : Int)) := by rw [e6]; exact shrs (k := 6) (m := 64) rfl
    have s12 : binA .shr (.int .i32 c) (.int .u64 12) = some (.int .i32 (q12 : Int)) := by rw [e12]; exact shrs (k := 12) (m := 4096) rfl
    have s18 : binA .shr (.int .i32 c) (.int .u64 18) = some (.int .i32 (q18 : Int)) := by rw [e18]; exact shrs (k := 18) (m := 262144) rfl
    have w0 : IntKind.u8.wrap (c : Int) = (x0 : Int) := by rw [d0]; exact wrapu8 c
    have w6 : IntKind.u8.wrap (q6 : Int) = (x6 : Int) := by rw [d6]; exact wrapu8 q6
    have w12 : IntKind.u8.wrap (q12 : Int) = (x12 : Int) := by rw [d12]; exact wrapu8 q12
    have w18 : IntKind.u8.wrap (q18 : Int) = (x18 : Int) := by rw [d18]; exact wrapu8 q18
    have a0 : binA .and (.int .u8 x0) (.int .u8 63) = some (.int .u8 (r0 : Int)) := by rw [d0, f0]; exact andu63
    have a6 : binA .and (.int .u8 x6) (.int .u8 63) = some (.int .u8 (r6 : Int)) := by rw [d6, f6]; exact andu63
    have a12 : binA .and (.int .u8 x12) (.int .u8 63) = some (.int .u8 (r12 : Int)) := by rw [d12, f12]; exact andu63
    have o0 := oru128 (m := r0) (by omega)
    have o6 := oru128 (m := r6) (by omega)
    have o12 := oru128 (m := r12) (by omega)
    have hE : encN c = if c < 0x800 then [192 + q6, 128 + r0].map UInt8.ofNat else if c < 0x10000 then [224 + q12, 128 + r6, 128 + r0].map UInt8.ofNat else [240 + q18, 128 + r12, 128 + r6, 128 + r0].map UInt8.ofNat := by
      unfold encN
      rw [if_neg g1, e6, e12, e18, f0, f6, f12, e6, e12]
      rfl
    have b0 : r0 < 64 := by omega
    have b6 : r6 < 64 := by omega
    have b12 : r12 < 64 := by omega
    by_cases g2 : c < 2048
    · have hm : x6 = q6 := by omega
      have p1 := oru192 (m := q6) (by omega)
      have hb1 : q6 < 32 := by omega
      rw [hm] at w6
      rw [if_pos g2] at hE
      clear e6 e12 e18 d0 d6 d12 d18 f0 f6 f12
      have hv := bytesV_ofs (l := [192 + q6, 128 + r0]) (fun m hm => by simp at hm; omega)
      rw [← hE] at hv
      simp only [List.map_cons, List.map_nil, Int.natCast_add, Int.cast_ofNat_Int] at hv
      have hl : (encN c).length = 2 := by rw [hE]; rfl
      have e1 : callO PX 120 [(bufS g X.length).val 1, .int .i32 c] h = some (.slice (some ⟨h.n, 0, none⟩) (X.length + (encN c).length) 1, (killO h g).push (.tc 10 (bytesV (X ++ encN c)))) := by
        generalize encN c = Y at *
        apply WpC.eqn
        refine wpc_fn (px_ext rfl) (px_fn fn_utf8_appendRuneNonASCII) rfl ?_
        unfold LF_utf8_appendRuneNonASCII
        simp only [argFr]
        (refine W_x (Aj w32 (Aj w0 (Aj w6 (Aj s6 (Aj a0 (Aj o0 p1)))))) ?_; (repeat' first | apply Cj.mk | exact Nl.nl) <;> intros)
        all_goals first
        | (exfalso; omega)
        | (refine wo_appB hb rfl hv.symm hl (by decide) (by omega) ?_
           (refine W_x trivial ?_; (repeat' first | apply Cj.mk | exact Nl.nl) <;> intros)
           rw [hl]
           exact ⟨rfl, rfl⟩)
      generalize encN c = Y at *
      refine wpc_fn (px_ext rfl) (px_fn fn_utf8_AppendRune) rfl ?_
      unfold LF_utf8_AppendRune
      simp only [argFr]
      (refine W_x (Aj w32 e1) ?_; (repeat' first | apply Cj.mk | exact Nl.nl) <;> intros)
      exact ⟨rfl, rfl⟩
    · by_cases g3 : c < 65536
      · have hm : x12 = q12 := by omega
        have p1 := oru224 (m := q12) (by omega)
        have hb1 : q12 < 16 := by omega
        rw [hm] at w12
        rw [if_neg g2, if_pos g3] at hE
        clear e6 e12 e18 d0 d6 d12 d18 f0 f6 f12
        have hv := bytesV_ofs (l := [224 + q12, 128 + r6, 128 + r0]) (fun m hm => by simp at hm; omega)
        rw [← hE] at hv
        simp only [List.map_cons, List.map_nil, Int.natCast_add, Int.cast_ofNat_Int] at hv
        have hl : (encN c).length = 3 := by rw [hE]; rfl
        have e1 : callO PX 120 [(bufS g X.length).val 1, .int .i32 c] h = some (.slice (some ⟨h.n, 0, none⟩) (X.length + (encN c).length) 1, (killO h g).push (.tc 10 (bytesV (X ++ encN c)))) := by
          generalize encN c = Y at *
          apply WpC.eqn
          refine wpc_fn (px_ext rfl) (px_fn fn_utf8_appendRuneNonASCII) rfl ?_
          unfold LF_utf8_appendRuneNonASCII
          simp only [argFr]
          (refine W_x (Aj w32 (Aj w0 (Aj w6 (Aj w12 (Aj s6 (Aj s12 (Aj a0 (Aj a6 (Aj o0 (Aj o6 p1)))))))))) ?_; (repeat' first | apply Cj.mk | exact Nl.nl) <;> intros)
          all_goals first
          | (exfalso; omega)
          | (refine wo_appB hb rfl hv.symm hl (by decide) (by omega) ?_
             (refine W_x trivial ?_; (repeat' first | apply Cj.mk | exact Nl.nl) <;> intros)
             rw [hl]
             exact ⟨rfl, rfl⟩)
        generalize encN c = Y at *
        refine wpc_fn (px_ext rfl) (px_fn fn_utf8_AppendRune) rfl ?_
        unfold LF_utf8_AppendRune
        simp only [argFr]
        (refine W_x (Aj w32 e1) ?_; (repeat' first | apply Cj.mk | exact Nl.nl) <;> intros)
        exact ⟨rfl, rfl⟩
      · have hm : x18 = q18 := by omega
        have p1 := oru240 (m := q18) (by omega)
        have hb1 : q18 < 8 := by omega
        rw [hm] at w18
        rw [if_neg g2, if_neg g3] at hE
        clear e6 e12 e18 d0 d6 d12 d18 f0 f6 f12
        have hv := bytesV_ofs (l := [240 + q18, 128 + r12, 128 + r6, 128 + r0]) (fun m hm => by simp at hm; omega)
        rw [← hE] at hv
        simp only [List.map_cons, List.map_nil, Int.natCast_add, Int.cast_ofNat_Int] at hv
        have hl : (encN c).length = 4 := by rw [hE]; rfl
        have e1 : callO PX 120 [(bufS g X.length).val 1, .int .i32 c] h = some (.slice (some ⟨h.n, 0, none⟩) (X.length + (encN c).length) 1, (killO h g).push (.tc 10 (bytesV (X ++ encN c)))) := by
          generalize encN c = Y at *
          apply WpC.eqn
          refine wpc_fn (px_ext rfl) (px_fn fn_utf8_appendRuneNonASCII) rfl ?_
          unfold LF_utf8_appendRuneNonASCII
          simp only [argFr]
          (refine W_x (Aj w32 (Aj w0 (Aj w6 (Aj w12 (Aj w18 (Aj s6 (Aj s12 (Aj s18 (Aj a0 (Aj a6 (Aj a12 (Aj o0 (Aj o6 (Aj o12 p1)))))))))))))) ?_; (repeat' first | apply Cj.mk | exact Nl.nl) <;> intros)
          all_goals first
          | (exfalso; omega)
          | (refine wo_appB hb rfl hv.symm hl (by decide) (by omega) ?_
             (refine W_x trivial ?_; (repeat' first | apply Cj.mk | exact Nl.nl) <;> intros)
             rw [hl]
             exact ⟨rfl, rfl⟩)
        generalize encN c = Y at *
        refine wpc_fn (px_ext rfl) (px_fn fn_utf8_AppendRune) rfl ?_
        unfold LF_utf8_AppendRune
        simp only [argFr]
        (refine W_x (Aj w32 e1) ?_; (repeat' first | apply Cj.mk | exact Nl.nl) <;> intros)
        exact ⟨rfl, rfl⟩
theorem writeRune_spec {c : Nat} (hc : RuneN c) {h : AH} {b : Nat} {g : Option Nat} {X : Bytes} (bd : BldAt h b g X) (hn : X.length ≤ 140737488355000) :
    WpC PX 41 [.pointer (some ⟨b, 0, none⟩), .int .i32 c] h fun v h' => ∃ g', BldAt h' b g' (X ++ encN c) ∧ BFr h h' b g g' := by
  obtain ⟨h1, e1, n1, k1, q1⟩ := copyCheck_spec bd
  have hu := bd.u
  have hne := bd.ne
  have hbn := AH.get_lt q1
  have hb1 : BufAt h1 g X := by
    cases g with
    | none => exact hu
    | some g => exact ⟨hu.1, (k1 g (fun e => hne (by rw [e]))).trans hu.2⟩
  have e2 := appRune_spec hc hb1 hn
  have hl := encN_len c
  generalize encN c = Y at *
  have hk : ((killO h1 g).push (.tc 10 (bytesV (X ++ Y)))).get b = some (.tc 169 [.pointer (some ⟨b, 0, none⟩), (bufS g X.length).val 1]) := by
    rw [AH.get_push_ne _ (by rw [killO_n]; omega), killO_get hne]
    exact q1
  have hK : ∀ c, c < h.n → c ≠ b → g ≠ some c → ((killO h1 g).push (.tc 10 (bytesV (X ++ Y)))).get c = h.get c := fun c hc hcb hg => by
    rw [AH.get_push_ne _ (by rw [killO_n]; omega), killO_get hg]
    exact k1 c hcb
  have hN : ((killO h1 g).push (.tc 10 (bytesV (X ++ Y)))).n = h.n + 1 := by rw [AH.push_n, killO_n, n1]
  have hG : ((killO h1 g).push (.tc 10 (bytesV (X ++ Y)))).get h.n = some (.tc 10 (bytesV (X ++ Y))) := by
    rw [← n1, ← killO_n h1 g]; exact AH.get_push_same _ _
  rw [n1] at e2
  generalize (killO h1 g).push (.tc 10 (bytesV (X ++ Y))) = h2 at *
  have hs : (bufS g X.length).len = X.length := by
    cases g with
    | none => have : X = [] := hu; subst this; rfl
    | some g => rfl
  refine wpc_fn (px_ext rfl) (px_fn fn_strings_Builder_WriteRune) rfl ?_
  unfold LF_strings_Builder_WriteRune
  simp only [argFr]
  (refine W_x (Aj e1 (Aj q1 (Aj e2 (Aj hk hs)))) ?_; (repeat' first | apply Cj.mk | exact Nl.nl) <;> intros)
  refine ⟨some h.n, ⟨⟨_, by rw [AH.get_set_same _ (by omega), List.length_append]; rfl, .inr rfl⟩, ⟨?_, ?_⟩, ?_⟩, ?_, ?_, ?_⟩
  · intro e
    have := congrArg List.length e
    rw [List.length_append, List.length_nil] at this
    omega
  · exact (AH.get_set_ne _ (show h.n ≠ b by omega)).trans hG
  · intro e; injection e with e; omega
  · rw [AH.set_n]; omega
  · intro c hc hcb hg
    rw [AH.get_set_ne _ hcb]
    exact hK c hc hcb hg
  · exact .inr ⟨_, rfl, Nat.le_refl _⟩
end Go.Proofs.YtblmakgjdenpfaaDoor.AM
namespace Go.Proofs.YtblmakgjdenpfaaDoor.AM
open Go
def LF_strip_Strip : LFunc :=
  .mk 2 [.tmp 4] (.seq (R 999 [0, 1] [.set 4 (.cv (.string ⟨#[]⟩))]) (.seq (R 5 [0, 1, 5] [.tmp 5 (.op (.e (.newT 169 [.pointer none, .slice none 0 0])) .nil)])
  (.seq (R 6 [5] [.tmp 9 (xc3 38 (.va 0) (.va 1) (.op (.p (.mkfn (.func 40) [] [.s 0])) (.sl 5)))]) (.seq (R 10 [4] [.set 4 (xc1
  42 (.sl 5))]) .ret))))
theorem fn_strip_Strip : (autoPrg Tryd.prog).fn 16 = some LF_strip_Strip := by kernel_rfl
def LF_strip_Strip_1 : LFunc :=
  .mk 3 [.tmp 5] (.seq (R 3 [1, 2] [.tmp 3 (xbl 3 2 (.sl 0)), .set 5 (.cv (.bool false))]) (.seq (R 6 [] [.tmp 7 (xc2 41 (.sl 2) (.va 1))]) (.seq (R
  999 [5] [.set 5 (.cv (.bool true))]) .ret)))
theorem fn_strip_Strip_1 : (autoPrg Tryd.prog).fn 40 = some LF_strip_Strip_1 := by kernel_rfl
def LF_strip_Seen : LFunc :=
  .mk 2 [.tmp 4] (.seq (R 2 [2, 3] [.tmp 2 (xbh 1 (.sl 0)), .tmp 3 (xbh 1 (.sl 1)), .set 4 (.cv .nilFunc)]) (.seq (R 5 [4] [.set 4 (.op (.p (.mkfn (.func 37) [] [.s 0,
  .s 1])) (.cons (.sl 2) (.sl 3)))]) .ret))
theorem fn_strip_Seen : (autoPrg Tryd.prog).fn 13 = some LF_strip_Seen := by kernel_rfl
def LF_strip_Seen_1 : LFunc :=
  .mk 3 [] (R 4 [] [.tmp 7 (xc3 38 (xld (.sl 1)) (xld (.sl 2)) (.va 0))])
theorem fn_strip_Seen_1 : (autoPrg Tryd.prog).fn 37 = some LF_strip_Seen_1 := by kernel_rfl
def LF_strip_seen : LFunc :=
  .mk 3 [] (.seq (.seq (R 9 [0, 1, 2, 10] [.tmp 10 (.op (.p (.eqk false .ptr (.s 0) (.s 1))) (.cons (.va 0) (.cv (.pointer none))))]) (.cond (.s 10) .ret .skip)) (.seq (R 999 [0, 1,
  2, 6] [.set 6 (xi (-1))]) (.seq (R 11 [0, 2, 6, 12] [.tmp 12 (.op (.e (.rngS 12 (.s 0))) (.va 1))]) (.block 0 (.loop (.seq (R 13 [0, 2, 6, 12, 13, 14] [.tmp 13 (.op (.e (.nxtS (.s
  0))) (.sl 12)), .tmp 14 (xex 0 (.sl 13))]) (.seq (.cond (.s 14) .skip (.exit 0)) (.block 1 (.seq (R 15 [0, 2, 6, 7, 8, 12] [.tmp 15 (xex 1 (.sl 13)), .tmp 16 (xex 2 (.sl 13)),
  .set 7 (.sl 15), .set 8 (.sl 16)]) (.seq (R 17 [0, 2, 6, 7, 8, 12] [.set 6 (xb .add (.va 6) (xi 1))]) (.seq (R 19 [0, 2, 6, 12, 31] [.tmp 31 (.and (xu .not (xc2
  75 (.va 0) (.va 8))) (xu .not (xv2 (.va 2) (.op (.p (.build [.int .i64 0, .int .i64 0] [(0, 1, .s 0), (1, 1, .s 1)])) (.cons (.va 7) (.va 6))) (.va 8))))])
  (.cond (.s 31) .ret .skip))))))))))))
theorem fn_strip_seen : (autoPrg Tryd.prog).fn 38 = some LF_strip_seen := by kernel_rfl
def LF_strip_Count : LFunc :=
  .mk 2 [.tmp 4] (.seq (R 999 [0, 1] [.set 4 (xi 0)]) (.seq (.seq (R 6 [0, 1, 7] [.tmp 7 (.op (.p (.eqk false .ptr (.s 0) (.s 1))) (.cons (.va 0) (.cv (.pointer none))))]) (.cond
  (.s 7) (.seq (R 999 [4] [.set 4 (xi 0)]) .ret) .skip)) (.seq (R 8 [0, 1, 5] [.tmp 9 (xc1 20 (.va 1)), .at 5, .tmp 5 (xnh [.int .i64 0]), .run (xst 1 (.sl 5) (.sl 9))])
  (.seq (R 10 [5] [.tmp 13 (xc3 38 (.va 0) (.va 1) (.op (.p (.mkfn (.func 43) [] [.s 0])) (.sl 5)))]) (.seq (R 14 [4] [.set 4 (xld (.sl 5))]) .ret)))))
theorem fn_strip_Count : (autoPrg Tryd.prog).fn 17 = some LF_strip_Count := by kernel_rfl
def LF_strip_Count_1 : LFunc :=
  .mk 3 [.tmp 5] (.seq (R 3 [2] [.tmp 3 (xbl 3 2 (.sl 0)), .set 5 (.cv (.bool false))]) (.seq (R 6 [] [.run (xst 1 (.sl 2) (xb .sub (xld (.sl 2)) (xi 1)))]) (.seq (R 999 [5] [.set 5
  (.cv (.bool true))]) .ret)))
theorem fn_strip_Count_1 : (autoPrg Tryd.prog).fn 43 = some LF_strip_Count_1 := by kernel_rfl
def LF_strip_Place : LFunc :=
  .mk 3 [.cell 6 (some 2), .tmp 7] (.seq (R 5 [0, 1, 5, 6] [.tmp 5 (xbh 1 (.sl 2)), .tmp 6 (xnl 6 [.int .i64 0, .int .i64 0]), .set 7 (.cv (.bool false))]) (.seq (.seq (R 10 [0, 1,
  5, 6, 15] [.tmp 15 (.or (.op (.p (.eqk false .ptr (.s 0) (.s 1))) (.cons (.va 0) (.cv (.pointer none)))) (xb .lss (xld (.sl 5)) (xi 0)))]) (.cond (.s 15) (.seq (R 16 [6, 7] [.run
  (xst 2 (.sl 6) (.op (.p (.build [.int .i64 0, .int .i64 0] [])) .nil)), .set 7 (.cv (.bool false))]) .ret) .skip)) (.seq (R 8 [0, 1, 5, 6, 8] [.tmp 8 (xnh [.int .i64 0, .int .i64
  0])]) (.seq (R 9 [0, 1, 5, 6, 8, 9] [.tmp 9 (xnh [.bool false]), .run (xst 1 (.sl 9) (.cv (.bool false)))]) (.seq (R 17 [1, 5, 6, 8, 9] [.tmp 20 (xc3 38 (.va 0) (.va
  1) (.op (.p (.mkfn (.func 44) [] [.s 0, .s 1, .s 2])) (.cons (.sl 5) (.cons (.sl 8) (.sl 9)))))]) (.seq (.block 0 (.seq (R 22 [1, 5, 6, 8, 21] [.set 21 (xld (.sl
  9))]) (.cond (.s 21) (.seq (R 23 [6, 7] [.run (xst 2 (.sl 6) (xln 2 (.sl 8))), .set 7 (.cv (.bool true))]) .ret) (.seq (R 25 [1, 6, 24] [.set 24 (xb .gtr (xld (.sl 5)) (xi 0))])
  (.cond (.s 24) (.seq (R 27 [6, 7] [.run (xst 2 (.sl 6) (.op (.p (.build [.int .i64 0, .int .i64 0] [])) .nil)), .set 7 (.cv (.bool false))]) .ret) .skip))))) (.seq (R 28 [6, 7]
  [.run (xst 2 (.sl 6) (.op (.p (.build [.int .i64 0, .int .i64 0] [(0, 1, .s 0), (1, 1, .s 1)])) (.cons (xsl (.va 1)) (xc1 20 (.va 1))))), .set 7 (.cv (.bool true))])
  .ret)))))))
theorem fn_strip_Place : (autoPrg Tryd.prog).fn 18 = some LF_strip_Place := by kernel_rfl
def LF_strip_Place_1 : LFunc :=
  .mk 5 [.tmp 7] (.seq (R 5 [2, 3, 4, 5] [.tmp 5 (xbl 5 2 (.sl 0)), .set 7 (.cv (.bool false))]) (.seq (.region [.mk (some 8) (.r (.load (some 2) (.s 5))) none, .mk (some 9) (.r
  (.load none (.s 2))) none, .mk (some 10) (.p (.bin .eql (.s 9) (.c (.int .i64 0)))) none, .mk none (.e (.store 2 (.s 3) (.s 8))) none, .mk none (.e (.store 1 (.s 4) (.s 10)))
  none] [2, 4] [(1, 4)]) (.seq (R 11 [4] [.run (xst 1 (.sl 2) (xb .sub (xld (.sl 2)) (xi 1)))]) (.seq (R 13 [7] [.set 7 (xu .not (xld (.sl 4)))]) .ret))))
theorem fn_strip_Place_1 : (autoPrg Tryd.prog).fn 44 = some LF_strip_Place_1 := by kernel_rfl
end Go.Proofs.YtblmakgjdenpfaaDoor.AM
namespace Go.Proofs.YtblmakgjdenpfaaDoor.AM
open Go
theorem posn_cons {l : Bytes} (hl : l ≠ []) (i : Nat) : posn l (i + 1) = (dec1 l).2 + posn (l.drop (dec1 l).2) i := by
  unfold posn
  rw [spots_cons hl, List.take_succ_cons, List.map_cons, List.sum_cons]
theorem spots_take : ∀ (i : Nat) (l : Bytes), i ≤ (spots l).length → spots (l.take (posn l i)) = (spots l).take i
  | 0, l, _ => by rw [posn_zero]; simp [spots_nil]
  | i + 1, l, h => by
    have hl : l ≠ [] := fun e => by subst e; simp [spots_nil] at h
    have h' : i ≤ (spots (l.drop (dec1 l).2)).length := by rw [spots_cons hl, List.length_cons] at h; omega
    have ih := spots_take i (l.drop (dec1 l).2) h'
    rw [posn_cons hl, spots_cons hl, List.take_succ_cons, ← ih]
    rcases dec_cases hl with ⟨c, rest, hc, e1, e2⟩ | ⟨e1, e2⟩
    · have hd : l.drop (dec1 l).2 = rest := by rw [e2, e1]; simp
      rw [hd, e2]
      simp only
      conv => lhs; rw [e1]
      rw [List.take_append, List.take_of_length_le (by omega), show (encN c).length + posn rest i - (encN c).length = posn rest i by omega, spots_enc hc]
    · rw [e1]
      simp only
      have hne : l.take (1 + posn (l.drop 1) i) ≠ [] := by
        cases l with
        | nil => exact absurd rfl hl
        | cons a l => simp [Nat.add_comm]
      have hb : dec1 (l.take (1 + posn (l.drop 1) i)) = (0xFFFD, 1) := by
        rcases dec_cases hne with ⟨c, rest, hc, q1, _⟩ | ⟨q1, _⟩
        · exfalso
          refine e2 c (rest ++ l.drop (1 + posn (l.drop 1) i)) hc ?_
          conv => lhs; rw [← List.take_append_drop (1 + posn (l.drop 1) i) l, q1]
          rw [List.append_assoc]
        · exact q1
      rw [spots_cons hne, hb]
      simp only
      rw [List.drop_take, show 1 + posn (l.drop 1) i - 1 = posn (l.drop 1) i by omega]
theorem posn_drop {l : Bytes} {i : Nat} (hi : i ≤ (spots l).length) (k : Nat) (hk : i + k ≤ (spots l).length) : posn (l.drop (posn l i)) k = posn l (i + k) - posn l i := by
  have h := (spots_drop l i hi).1
  unfold posn at h ⊢
  rw [h, List.take_add, List.map_append, List.sum_append]
  omega
theorem posn_mono {l : Bytes} {i j : Nat} (h : i ≤ j) : posn l i ≤ posn l j := by
  unfold posn
  obtain ⟨d, rfl⟩ := Nat.exists_eq_add_of_le h
  rw [List.take_add, List.map_append, List.sum_append]
  omega
theorem runesB_cut {l : Bytes} {i k : Nat} (h : i + k ≤ (spots l).length) : runesB ((l.drop (posn l i)).take (posn l (i + k) - posn l i)) = ((runesB l).drop i).take k := by
  have h1 := (spots_drop l i (by omega)).1
  have h2 := spots_take k (l.drop (posn l i)) (by rw [h1, List.length_drop]; omega)
  rw [posn_drop (by omega) k h] at h2
  unfold runesB
  rw [h2, h1, List.map_take, List.map_drop]
end Go.Proofs.YtblmakgjdenpfaaDoor.AM
namespace Go.Proofs.YtblmakgjdenpfaaDoor.AM
open Go
theorem filter_range_get {p : Nat → Bool} {n i : Nat} (hi : i < n) (hp : p i = true) : ((List.range n).filter p)[((List.range i).filter p).length]? = some i := by
  rw [show n = i + (1 + (n - i - 1)) by omega, List.range_add, List.filter_append, List.getElem?_append_right (Nat.le_refl _), Nat.sub_self, Nat.add_comm 1, List.range_succ_eq_map]
  simp [hp]
theorem filter_range_succ (p : Nat → Bool) (i : Nat) : ((List.range (i + 1)).filter p).length = ((List.range i).filter p).length + (if p i = true then 1 else 0) := by
  rw [List.range_succ, List.filter_append, List.length_append]
  by_cases h : p i = true <;> simp [h]
theorem filter_range_map {α : Type} (q : α → Bool) : ∀ l : List α, ((List.range l.length).filter fun i => (l[i]?).any q).filterMap (fun i => l[i]?) = l.filter q
  | [] => rfl
  | a :: l => by
    have ih := filter_range_map q l
    rw [List.length_cons, List.range_succ_eq_map, List.filter_cons, List.filter_map]
    have e : (fun i => ((a :: l)[i]?).any q) ∘ Nat.succ = fun i => (l[i]?).any q := by
      funext i; simp
    rw [e]
    by_cases h : q a = true
    · simp only [List.getElem?_cons_zero, Option.any_some, h, if_true, List.filterMap_cons, List.filter_cons]
      rw [List.filterMap_map]
      simp only [Function.comp_def, List.getElem?_cons_succ, ih]
    · simp only [List.getElem?_cons_zero, Option.any_some, h, Bool.false_eq_true, if_false, List.filter_cons]
      rw [List.filterMap_map]
      simp only [Function.comp_def, List.getElem?_cons_succ, ih]
def seenI (D : Nat → Bool) (l : Bytes) : List Nat := (List.range (runesB l).length).filter fun i => ((runesB l)[i]?).any fun c => !D c
def seenL (D : Nat → Bool) (l : Bytes) : List (Nat × Nat × Nat) := (seenI D l).map fun i => (posn l i, i, (runesB l).getD i 0)
def keptR (D : Nat → Bool) (l : Bytes) : List Nat := (runesB l).filter fun c => !D c
def stripB (D : Nat → Bool) (l : Bytes) : Bytes := encs (keptR D l)
def seenN (D : Nat → Bool) (l : Bytes) (i : Nat) : Nat := ((List.range i).filter fun i => ((runesB l)[i]?).any fun c => !D c).length
theorem seenI_map (D : Nat → Bool) (l : Bytes) : (seenL D l).map (·.2.2) = keptR D l := by
  have h := filter_range_map (fun c => !D c) (runesB l)
  unfold seenL keptR
  rw [← h, List.map_map]
  show (seenI D l).map (fun i => (runesB l).getD i 0) = (seenI D l).filterMap fun i => (runesB l)[i]?
  have hk : ∀ i ∈ seenI D l, (runesB l)[i]? = some ((runesB l).getD i 0) := fun i hi => by
    have := (List.mem_filter.1 hi).1
    rw [List.mem_range] at this
    simp [List.getD_eq_getElem?_getD, this]
  generalize seenI D l = L at hk ⊢
  induction L with
  | nil => rfl
  | cons i r ih =>
    rw [List.map_cons, List.filterMap_cons, hk i (by simp)]
    simp only
    rw [ih fun j hj => hk j (by simp [hj])]
theorem seenL_len (D : Nat → Bool) (l : Bytes) : (seenL D l).length = (keptR D l).length := by rw [← seenI_map, List.length_map]
theorem seenN_all (D : Nat → Bool) (l : Bytes) : seenN D l (spots l).length = (seenL D l).length := by
  unfold seenN seenL seenI
  rw [List.length_map, runesB_len]
theorem seenN_drop {D : Nat → Bool} {l : Bytes} {i : Nat} (hi : i < (spots l).length) (h : D (spots l)[i].1 = true) : seenN D l (i + 1) = seenN D l i := by
  unfold seenN
  rw [filter_range_succ]
  have : (runesB l)[i]? = some (spots l)[i].1 := by simp [runesB, hi]
  simp [this, h]
theorem seenN_more {D : Nat → Bool} {l : Bytes} {i : Nat} (hi : i < (spots l).length) (h : D (spots l)[i].1 = false) :
    seenN D l (i + 1) = seenN D l i + 1 ∧ ∃ hj : seenN D l i < (seenL D l).length, (seenL D l)[seenN D l i] = (posn l i, i, (spots l)[i].1) := by
  have e : (runesB l)[i]? = some (spots l)[i].1 := by simp [runesB, hi]
  have hp : (((runesB l)[i]?).any fun c => !D c) = true := by simp [e, h]
  have hi' : i < (runesB l).length := by rw [runesB_len]; exact hi
  have hg := filter_range_get (p := fun i => ((runesB l)[i]?).any fun c => !D c) hi' hp
  constructor
  · unfold seenN
    rw [filter_range_succ, if_pos hp]
  · have hL : (seenL D l)[seenN D l i]? = some (posn l i, i, (spots l)[i].1) := by
      unfold seenL seenI seenN
      rw [List.getElem?_map, hg]
      simp [List.getD_eq_getElem?_getD, e]
    obtain ⟨h1, h2⟩ := List.getElem?_eq_some_iff.1 hL
    exact ⟨h1, h2⟩
def placeD (D : Nat → Bool) (l : Bytes) (n : Nat) : Option (Nat × Nat) :=
  if h : n < (seenL D l).length then some ((seenL D l)[n].1, (seenL D l)[n].2.1) else if n = (seenL D l).length then some (l.length, (spots l).length) else none
variable {D : Nat → Bool}
theorem kept_rune (l : Bytes) : ∀ c ∈ keptR D l, RuneN c := fun c hc => runesB_rune l c (List.mem_filter.1 hc).1
theorem runesB_strip (l : Bytes) : runesB (stripB D l) = keptR D l := runesB_of_encs (kept_rune l)
theorem encs_inj {A B : List Nat} (hA : ∀ c ∈ A, RuneN c) (hB : ∀ c ∈ B, RuneN c) (h : encs A = encs B) : A = B := by
  rw [← runesB_of_encs hA, ← runesB_of_encs hB, h]
theorem kept_le (l : Bytes) : (keptR D l).length ≤ (spots l).length := by rw [← runesB_len]; exact List.length_filter_le _ _
theorem runesB_join {a b : Bytes} (h : spots (a ++ b) = spots a ++ spots b) : runesB (a ++ b) = runesB a ++ runesB b := by unfold runesB; rw [h, List.map_append]
theorem strip_join {a b : Bytes} (h : spots (a ++ b) = spots a ++ spots b) : stripB D (a ++ b) = stripB D a ++ stripB D b := by
  unfold stripB keptR
  rw [runesB_join h, List.filter_append]
  simp [encs]
theorem kept_join {a b : Bytes} (h : spots (a ++ b) = spots a ++ spots b) : (keptR D (a ++ b)).length = (keptR D a).length + (keptR D b).length := by
  unfold keptR
  rw [runesB_join h, List.filter_append, List.length_append]
end Go.Proofs.YtblmakgjdenpfaaDoor.AM
namespace Go.Proofs.YtblmakgjdenpfaaDoor.AM
open Go
def LF_utf_Count : LFunc :=
  .mk 1 [.tmp 2] (.seq (R 999 [0] [.set 2 (xi 0)]) (.seq (R 999 [0, 3] [.set 3 (xi 0)]) (.seq (.seq (R 4 [3, 5] [.tmp 5 (.op (.e (.rngS 5 (.s 0))) (.va 0))]) (.block 0 (.loop (.seq
  (R 6 [3, 5, 7] [.tmp 7 (xex 0 (.op (.e (.nxtS (.s 0))) (.sl 5)))]) (.seq (.cond (.s 7) .skip (.exit 0)) (.block 1 (R 8 [3, 5] [.set 3 (xb .add (.va 3) (xi 1))]))))))) (.seq (R 10
  [2] [.set 2 (.va 3)]) .ret))))
theorem fn_utf_Count : (autoPrg Tryd.prog).fn 20 = some LF_utf_Count := by kernel_rfl
end Go.Proofs.YtblmakgjdenpfaaDoor.AM
namespace Go.Proofs.YtblmakgjdenpfaaDoor.AM
open Go
theorem utfCount_eq (s : ByteArray) (hs : s.size ≤ 16777216) (h : AH) : callO PX 20 [.string s] h = some (.int .i64 (spots s.data.toList).length, h) := by
  have hz : s.data.toList.length = s.size := rfl
  have hn := spots_len s.data.toList
  apply WpC.eqn
  refine wpc_fn (px_ext rfl) (px_fn fn_utf_Count) rfl ?_
  unfold LF_utf_Count
  simp only [argFr]
  (refine W_x @ev_rngS ?_; (repeat' first | apply Cj.mk | exact Nl.nl) <;> intros)
  refine wp_spotsS (fun i _ => [(3, .int .i64 i), (5, .pointer (some ⟨10, 0, some 1⟩))]) (fun n _ => [(10, .siter s n)]) s s.data.toList (fun _ _ h' => h' = h) (fun _ _ => (none : Option Unit)) () rfl (by repeat' first | exact True.intro | refine And.intro rfl ?_) (fun _ _ => rfl) rfl rfl (fun i hi _ h1 hh hit => ?_) fun _ h1 hh fin => ?_
  · subst hh
    (refine W_x trivial ?_; (repeat' first | apply Cj.mk | exact Nl.nl) <;> intros)
    refine wo_next rfl rfl hi ?_
    (refine W_x trivial ?_; (repeat' first | apply Cj.mk | exact Nl.nl) <;> intros)
    exact ⟨rfl, (), (by repeat' first | exact True.intro | refine And.intro rfl ?_), rfl, rfl⟩
  · subst hh
    (refine W_x trivial ?_; (repeat' first | apply Cj.mk | exact Nl.nl) <;> intros)
    refine wo_nextE rfl rfl ?_
    (refine W_x trivial ?_; (repeat' first | apply Cj.mk | exact Nl.nl) <;> intros)
    exact ⟨rfl, rfl⟩
end Go.Proofs.YtblmakgjdenpfaaDoor.AM
namespace Go.Proofs.YtblmakgjdenpfaaDoor.AM
open Go
def LF_utf_Spots : LFunc :=
  .mk 1 [.tmp 2] (.seq (R 1 [1] [.tmp 1 (xbh 1 (.sl 0)), .set 2 (.cv .nilFunc)]) (.seq (R 3 [2] [.set 2 (.op (.p (.mkfn (.func 82) [] [.s 0])) (.sl 1))]) .ret))
theorem fn_utf_Spots : (autoPrg Tryd.prog).fn 55 = some LF_utf_Spots := by kernel_rfl
def LF_utf_Spots_1 : LFunc :=
  .mk 2 [] (.seq (R 6 [0, 1, 7] [.tmp 7 (.op (.e (.rngS 7 (.s 0))) (xld (.sl 1)))]) (.block 0 (.loop (.seq (R 8 [0, 1, 7, 8, 9] [.tmp 8 (.op (.e (.nxtS (.s 0))) (.sl 7)), .tmp 9
  (xex 0 (.sl 8))]) (.seq (.cond (.s 9) .skip (.exit 0)) (.block 1 (.seq (R 10 [0, 1, 3, 4, 7] [.tmp 10 (xex 1 (.sl 8)), .tmp 11 (xex 2 (.sl 8)), .set 3 (.sl 10), .set 4 (.sl 11)])
  (.seq (R 12 [0, 1, 3, 4, 5, 7] [.set 5 (xc1 83 (.va 4))]) (.seq (.seq (R 14 [0, 1, 3, 4, 5, 7, 24] [.tmp 24 (.and (xb .eql (.va 4) (xr 65533)) (xu .not (xc2
  84 (.op (.p (.slS (.s 0) (some (.s 1)) none)) (.cons (xld (.sl 1)) (.va 3))) (.op (.p (.i2s (.s 0))) (.va 4)))))]) (.cond (.s 24) (R 999 [0, 1, 3, 4, 5, 7]
  [.set 5 (xi 1)]) .skip)) (.seq (R 25 [0, 1, 7, 31] [.tmp 31 (xu .not (xv2 (.va 0) (.va 3) (xc2 45 (.va 4) (.va 5))))]) (.cond (.s 31) .ret .skip)))))))))))
theorem fn_utf_Spots_1 : (autoPrg Tryd.prog).fn 82 = some LF_utf_Spots_1 := by kernel_rfl
def LF_utf8_RuneLen : LFunc :=
  .mk 1 [.tmp 2] (.seq (R 999 [0] [.set 2 (xi 0)]) (.seq (.block 0 (.seq (R 4 [0, 3] [.set 3 (xb .lss (.va 0) (xr 0))]) (.cond (.s 3) (.seq (R 999 [2] [.set 2 (xi (-1))]) .ret)
  (.seq (R 7 [0, 6] [.set 6 (xb .leq (.va 0) (xr 127))]) (.cond (.s 6) (.seq (R 999 [2] [.set 2 (xi 1)]) .ret) (.seq (R 10 [0, 9] [.set 9 (xb .leq (.va 0) (xr 2047))]) (.cond (.s 9)
  (.seq (R 999 [2] [.set 2 (xi 2)]) .ret) (.seq (R 13 [0, 12] [.set 12 (.and (xb .leq (xr 55296) (.va 0)) (xb .leq (.va 0) (xr 57343)))]) (.cond (.s 12) (.seq (R 999 [2] [.set 2 (xi
  (-1))]) .ret) (.seq (R 20 [0, 19] [.set 19 (xb .leq (.va 0) (xr 65535))]) (.cond (.s 19) (.seq (R 999 [2] [.set 2 (xi 3)]) .ret) (.seq (R 23 [22] [.set 22 (xb .leq (.va 0) (xr
  1114111))]) (.cond (.s 22) (.seq (R 999 [2] [.set 2 (xi 4)]) .ret) .skip))))))))))))) (.seq (R 999 [2] [.set 2 (xi (-1))]) .ret)))
theorem fn_utf8_RuneLen : (autoPrg Tryd.prog).fn 83 = some LF_utf8_RuneLen := by kernel_rfl
def LF_strings_HasPrefix : LFunc :=
  .mk 2 [.tmp 4] (.seq (R 999 [0, 1] [.set 4 (.cv (.bool false))]) (.seq (R 5 [4] [.set 4 (xc2 123 (.va 0) (.va 1))]) .ret))
theorem fn_strings_HasPrefix : (autoPrg Tryd.prog).fn 84 = some LF_strings_HasPrefix := by kernel_rfl
def LF_internal_stringslite_HasPrefix : LFunc :=
  .mk 2 [.tmp 4] (.seq (R 999 [0, 1] [.set 4 (.cv (.bool false))]) (.seq (R 5 [4] [.set 4 (.and (xb .geq (xsl (.va 0)) (xsl (.va 1))) (xb .eql (.op (.p (.slS (.s 0) none (some (.s
  1)))) (.cons (.va 0) (xsl (.va 1)))) (.va 1)))]) .ret))
theorem fn_internal_stringslite_HasPrefix : (autoPrg Tryd.prog).fn 123 = some LF_internal_stringslite_HasPrefix := by kernel_rfl
def LF_utf_spot : LFunc :=
  .mk 2 [.cell 4 (some 3)] (.seq (R 4 [0, 1, 4] [.tmp 4 (xnl 4 [.int .i32 0, .int .i64 0, .bool false])]) (.seq (R 5 [4] [.run (xst 3 (.sl 4) (.op (.p (.build [.int .i32 0, .int
  .i64 0, .bool false] [(0, 1, .s 0), (1, 1, .s 1), (2, 1, .s 2)])) (.cons (.va 0) (.cons (.va 1) (.and (xb .eql (.va 0) (xr 65533)) (xb .eql (.va 1) (xi 1)))))))]) .ret))
theorem fn_utf_spot : (autoPrg Tryd.prog).fn 45 = some LF_utf_spot := by kernel_rfl
end Go.Proofs.YtblmakgjdenpfaaDoor.AM
namespace Go.Proofs.YtblmakgjdenpfaaDoor.AM
open Go
theorem runeLen_eq (c : Nat) (hc : RuneN c) (h : AH) : callO PX 83 [.int .i32 c] h = some (.int .i64 (encN c).length, h) := by
  have hle : c ≤ 0x10FFFF := by unfold RuneN at hc; omega
  have hl : (encN c).length = if c < 0x80 then 1 else if c < 0x800 then 2 else if c < 0x10000 then 3 else 4 := by
    unfold encN
    split
    · rfl
    · split
      · rfl
      · split <;> rfl
  unfold RuneN at hc
  apply WpC.eqn
  refine wpc_fn (px_ext rfl) (px_fn fn_utf8_RuneLen) rfl ?_
  unfold LF_utf8_RuneLen
  simp only [argFr]
  (refine W_x trivial ?_; (repeat' first | apply Cj.mk | exact Nl.nl) <;> intros)
  all_goals
    refine ⟨?_, rfl⟩
    rw [hl]
    congr 1
    repeat' split
    all_goals first | rfl | omega
theorem hasPrefix0_eq (a b : ByteArray) (h : AH) : callO PX 123 [.string a, .string b] h = some (.bool (decide (b.size ≤ a.size ∧ a.extract 0 b.size = b)), h) := by
  apply WpC.eqn
  refine wpc_fn (px_ext rfl) (px_fn fn_internal_stringslite_HasPrefix) rfl ?_
  unfold LF_internal_stringslite_HasPrefix
  simp only [argFr]
  (refine W_x trivial ?_; (repeat' first | apply Cj.mk | exact Nl.nl) <;> intros)
  all_goals (refine ⟨?_, rfl⟩; congr 1; symm)
  · rename_i g1 g2; exact decide_eq_true ⟨by omega, g2⟩
  · rename_i g1 g2; exact decide_eq_false (fun h => g2 h.2)
  · rename_i g1; exact decide_eq_false (fun h => g1 (by omega))
theorem hasPrefix_eq (a b : ByteArray) (h : AH) : callO PX 84 [.string a, .string b] h = some (.bool (decide (b.size ≤ a.size ∧ a.extract 0 b.size = b)), h) := by
  have e := hasPrefix0_eq a b
  apply WpC.eqn
  refine wpc_fn (px_ext rfl) (px_fn fn_strings_HasPrefix) rfl ?_
  unfold LF_strings_HasPrefix
  simp only [argFr]
  (refine W_x e ?_; (repeat' first | apply Cj.mk | exact Nl.nl) <;> intros)
  all_goals (refine ⟨?_, rfl⟩; congr 1; symm; first | exact decide_eq_true (by assumption) | exact decide_eq_false (by assumption))
theorem spot_eq (r n : Nat) (h : AH) : callO PX 45 [.int .i32 r, .int .i64 n] h = some (spotV (r, n), h) := by
  apply WpC.eqn
  refine wpc_fn (px_ext rfl) (px_fn fn_utf_spot) rfl ?_
  unfold LF_utf_spot
  simp only [argFr]
  (refine W_x trivial ?_; (repeat' first | apply Cj.mk | exact Nl.nl) <;> intros)
  all_goals
    refine ⟨?_, rfl⟩
    have hb : ∀ t : Bool, (t = true ↔ (r = 65533 ∧ n = 1)) → isBad2 (r, n) = t := fun t ht => by
      unfold isBad2
      rw [Bool.eq_iff_iff, ht]
      simp only [Bool.and_eq_true, beq_iff_eq]
    unfold spotV
    first
    | (have e : r = 65533 ∧ n = 1 := by omega
       rw [hb true (iff_of_true rfl e)]
       done)
    | (have e : ¬ (r = 65533 ∧ n = 1) := by omega
       rw [hb false (iff_of_false (by decide) e)]
       done)
theorem spotsMk_eq (s : ByteArray) (h : AH) : callO PX 55 [.string s] h = some (.func (.func 82) #[] #[.pointer (some ⟨h.n, 0, none⟩)], h.push (.cells false [.string s])) := by
  apply WpC.eqn
  refine wpc_fn (px_ext rfl) (px_fn fn_utf_Spots) rfl ?_
  unfold LF_utf_Spots
  simp only [argFr]
  (refine W_x trivial ?_; (repeat' first | apply Cj.mk | exact Nl.nl) <;> intros)
  exact ⟨rfl, rfl⟩
theorem spots_seq (s : ByteArray) (bx : Nat) (hsz : s.size ≤ 140737488351232) :
    SeqP PX (.func (.func 82) #[] #[.pointer (some ⟨bx, 0, none⟩)]) (spotsL s.data.toList) spotE (fun h => h.get bx = some (.cells false [.string s])) := by
  intro yv I E h hyv hvs hstep hD h0
  have d1 : h.get bx = some (.cells false [.string s]) := hD _ _ h0
  have hset := hyv.set
  have hlc1 := hyv.lc1
  refine wpV_fn ?_
  refine wpc_fn (px_ext rfl) (px_fn fn_utf_Spots_1) rfl ?_
  unfold LF_utf_Spots_1
  simp only [argFr, List.nil_append, List.cons_append]
  obtain ⟨l, hl⟩ : ∃ l, l = s.data.toList := ⟨_, rfl⟩
  rw [← hl] at hstep ⊢
  have hll : l.length = s.size := by rw [hl]; rfl
  (refine W_x (Aj d1 (Aj hset (Aj hlc1 @ev_rngS))) ?_; (repeat' first | apply Cj.mk | exact Nl.nl) <;> intros)
  refine wp_spotsS (fun _ _ => [(0, yv), (1, .pointer (some ⟨bx, 0, none⟩)), (7, .pointer (some ⟨14, 0, some 1⟩))]) (fun n _ => [(14, .siter s n)]) s l (fun i _ h1 => I i h1) (fun _ _ => (none : Option Unit)) () hl (by repeat' first | exact True.intro | refine And.intro rfl ?_) (fun _ _ => rfl) rfl h0 (fun i hil _ h1 hI hit => ?_) fun _ h1 hI fin => ?_
  · have d1 : h1.get bx = some (.cells false [.string s]) := hD _ _ hI
    obtain ⟨p1, p2, p3⟩ := posn_lt hil
    have hst := hstep i (by rw [spotsL_len]; exact hil) h1 hI
    rw [spotsL_get (by rw [spotsL_len]; exact hil)] at hst
    have hdc := dec_cases p3
    have hbad : (spots l)[i].1 = 65533 → ((encN 65533).length ≤ (l.drop (posn l i)).length ∧ (l.drop (posn l i)).take (encN 65533).length = encN 65533 ↔ (spots l)[i].2 = 3) := fun e => by
      rcases hdc with ⟨c, rest, hc, e1, e2⟩ | ⟨e1, e2⟩
      · rw [p2] at e2
        rw [e2] at e
        simp only at e
        subst e
        rw [e2, e1, encN_bad, List.take_left' encN_bad]
        simp [encN_bad]
      · rw [p2] at e1
        rw [e1, encN_bad]
        constructor
        · rintro ⟨h1, h2⟩
          exfalso
          refine e2 65533 ((l.drop (posn l i)).drop 3) rune_bad ?_
          rw [← h2, List.take_append_drop]
        · intro h; simp at h
    have hgood : (spots l)[i].1 ≠ 65533 → (spots l)[i].2 = (encN (spots l)[i].1).length := fun e => by
      rcases hdc with ⟨c, rest, hc, e1, e2⟩ | ⟨e1, e2⟩
      · rw [p2] at e2; rw [e2]
      · rw [p2] at e1; rw [e1] at e; exact absurd rfl e
    have hw3 : (spots l)[i].1 = 65533 → (spots l)[i].2 = 3 ∨ (spots l)[i].2 = 1 := fun e => by
      rcases hdc with ⟨c, rest, hc, e1, e2⟩ | ⟨e1, e2⟩
      · rw [p2] at e2
        rw [e2] at e
        simp only at e
        subst e
        rw [e2]; exact .inl encN_bad
      · rw [p2] at e1; rw [e1]; exact .inr rfl
    have hru : RuneN (spots l)[i].1 := runesB_rune l _ (List.mem_map.2 ⟨_, List.getElem_mem hil, rfl⟩)
    (refine W_x (Aj hset hlc1) ?_; (repeat' first | apply Cj.mk | exact Nl.nl) <;> intros)
    refine wo_next hl rfl hil ?_
    generalize (spots l)[i] = x at hst hbad hgood hw3 hru
    have hcast : ((Utf8.encode ((65533 : Nat) : Int))).data.toList = encN 65533 := encode_eq rune_bad
    have hpre : x.1 = 65533 → (decide ((Utf8.encode (x.1 : Int)).size ≤ (s.extract (posn l i) s.size).size ∧ (s.extract (posn l i) s.size).extract 0 (Utf8.encode (x.1 : Int)).size = Utf8.encode (x.1 : Int))) = decide (x.2 = 3) := fun e => by
      refine decide_eq_decide.2 ?_
      rw [← hbad e, e]
      have z1 : (Utf8.encode ((65533 : Nat) : Int)).size = (encN 65533).length := by rw [ba_size, hcast]
      have z2 : (s.extract (posn l i) s.size).data.toList = l.drop (posn l i) := by
        rw [ba_extract _ _ _ (Nat.le_refl _), ← hl, ← hll, ← List.length_drop, List.take_length]
      have z3 : (s.extract (posn l i) s.size).size = (l.drop (posn l i)).length := by rw [ba_size, z2]
      rw [z1, z3]
      constructor
      · rintro ⟨a, b⟩
        refine ⟨a, ?_⟩
        have : ((s.extract (posn l i) s.size).extract 0 (encN 65533).length).data.toList = (Utf8.encode ((65533 : Nat) : Int)).data.toList := by rw [b]
        rw [ba_extract _ _ _ (by omega), z2, hcast] at this
        simpa using this
      · rintro ⟨a, b⟩
        refine ⟨a, ba_ext ?_⟩
        rw [ba_extract _ _ _ (by omega), z2, hcast]
        simpa using b
    have el := runeLen_eq x.1 hru
    have es := fun n => spot_eq x.1 n
    by_cases e : x.1 = 65533
    · have hpre := hpre e
      have hw4 := hw3 e
      obtain ⟨c, w⟩ := x
      simp only at e hpre hw4 hst
      have hci : (c : Int) = 65533 := by omega
      have el2 : ∀ h, callO PX 83 [.int .i32 c] h = some (.int .i64 3, h) := fun h => by
        have := el h
        simp only at this
        rw [this, e, encN_bad]
        rfl
      have eh2 : ∀ h, callO PX 84 [.string (s.extract (posn l i) s.size), .string (Utf8.encode c)] h = some (.bool (decide (w = 3)), h) := fun h => by
        have := hasPrefix_eq (s.extract (posn l i) s.size) (Utf8.encode (c : Int)) h
        rw [hpre] at this
        exact this
      have es2 : ∀ h, callO PX 45 [.int .i32 c, .int .i64 3] h = some (spotV (c, 3), h) := fun h => spot_eq c 3 h
      have es3 : ∀ h, callO PX 45 [.int .i32 c, .int .i64 1] h = some (spotV (c, 1), h) := fun h => spot_eq c 1 h
      have hpl : ((posn l i : Nat) : Int) ≤ (s.size : Int) := by omega
      rcases hw4 with rfl | rfl
      all_goals
        simp only [decide_true, show decide (1 = 3) = false from rfl] at eh2
        (refine W_x (Aj hset (Aj hlc1 (Aj d1 (Aj el2 (Aj eh2 (Aj es2 es3)))))) ?_; (repeat' first | apply Cj.mk | exact Nl.nl) <;> intros)
        refine wo_callV (fv := yv) rfl rfl rfl ?_
        refine hst.mono ?_
        rintro v h2 hor
        rcases hor with ⟨rfl, hI2⟩ | ⟨rfl, hE⟩
        · (refine W_x (Aj hset hlc1) ?_; (repeat' first | apply Cj.mk | exact Nl.nl) <;> intros)
          exact ⟨rfl, (), (by repeat' first | exact True.intro | refine And.intro rfl ?_), rfl, hI2⟩
        · (refine W_x (Aj hset hlc1) ?_; (repeat' first | apply Cj.mk | exact Nl.nl) <;> intros)
          exact .inr hE
    · have hgd := hgood e
      rw [← hgd] at el
      have es2 := es x.2
      have hne : ¬ (x.1 : Int) = 65533 := by omega
      (refine W_x (Aj hset (Aj hlc1 (Aj el es2))) ?_; (repeat' first | apply Cj.mk | exact Nl.nl) <;> intros)
      refine wo_callV (fv := yv) rfl rfl rfl ?_
      refine hst.mono ?_
      rintro v h2 hor
      rcases hor with ⟨rfl, hI2⟩ | ⟨rfl, hE⟩
      · (refine W_x (Aj hset hlc1) ?_; (repeat' first | apply Cj.mk | exact Nl.nl) <;> intros)
        exact ⟨rfl, (), (by repeat' first | exact True.intro | refine And.intro rfl ?_), rfl, hI2⟩
      · (refine W_x (Aj hset hlc1) ?_; (repeat' first | apply Cj.mk | exact Nl.nl) <;> intros)
        exact .inr hE
  · (refine W_x (Aj hset hlc1) ?_; (repeat' first | apply Cj.mk | exact Nl.nl) <;> intros)
    refine wo_nextE hl rfl ?_
    (refine W_x (Aj hset hlc1) ?_; (repeat' first | apply Cj.mk | exact Nl.nl) <;> intros)
    exact .inl (by rw [spotsL_len]; exact hI)
end Go.Proofs.YtblmakgjdenpfaaDoor.AM
