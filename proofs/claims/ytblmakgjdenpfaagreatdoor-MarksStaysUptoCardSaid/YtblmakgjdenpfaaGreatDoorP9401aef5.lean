/- Parts of proofs: lemmas, joined. -/
import Derived.Test.YtblmakgjdenpfaaGreatDoorP07254875
set_option linter.unusedVariables false
set_option linter.unusedSimpArgs false
set_option linter.unusedSectionVars false
namespace Go.Proofs.YtblmakgjdenpfaaGreatDoor.AM
open Go
variable {α : Type} [Inhabited α] {q : Pl} {enc : α → List Value} {val : α → Value} {cv : Value} {key : α → Int} {idx : α → Int}
def Bl (bs : Nat) : List (List α) → Prop
  | [] => True
  | A :: r => 0 < A.length ∧ A.length ≤ bs ∧ (r ≠ [] → A.length = bs) ∧ Bl bs r
def Far (idx : α → Int) (A B : List α) : Prop := ∀ x ∈ A, ∀ y ∈ B, idx x < idx y
theorem Bl.snoc {bs : Nat} : ∀ {L : List (List α)}, (∀ A ∈ L, A.length = bs) → 0 < bs → ∀ {R : List (List α)}, Bl bs R → Bl bs (L ++ R)
  | [], _, _, _, h => h
  | A :: r, h, hb, R, hR => by
    have h1 := h A (by simp)
    exact ⟨by omega, by omega, fun _ => h1, Bl.snoc (fun B hB => h B (List.mem_cons_of_mem _ hB)) hb hR⟩
set_option maxHeartbeats 4000000 in
theorem stable_eq (hc : CmpS q enc val cv key) {O : List α} {n : Nat} (hn : O.length = n) (hn2 : n < 1000000000) (hO : O.Pairwise (fun x y => idx x < idx y)) :
    ∃ Z : List α, Z.Perm O ∧ Z.Pairwise (ltK key idx) ∧ callO PX 85 [(q.s n).val 1, .int .i64 n, cv] (q.H enc O) = some (.tuple #[], q.H enc Z) := by
  have hlen : (q.s n).len = n := rfl
  have hset := hc.isF.set
  have hlc1 := hc.isF.lc1
  have hloc := hc.isF.loc
  suffices hw : WpC PX 85 [(q.s n).val 1, .int .i64 n, cv] (q.H enc O) fun v h1 => v = .tuple #[] ∧ ∃ Z : List α, Z.Perm O ∧ Z.Pairwise (ltK key idx) ∧ h1 = q.H enc Z by
    obtain ⟨v, h1, e, rfl, Z, z1, z2, rfl⟩ := hw
    exact ⟨Z, z1, z2, e⟩
  refine wpc_fn (px_ext rfl) (px_fn fn_slices_stableCmpFunc_rune) rfl ?_
  unfold LF_slices_stableCmpFunc_rune
  simp only [argFr]
  (refine W_g (Aj hset (Aj hlc1 hloc)) ?_; (repeat' first | apply Cj.mk | exact Nl.nl) <;> intros)
  refine wp_loop (fun w fr lc h1 => ∃ (L : List (List α)) (R : List α) (a b : Int), w = R.length ∧ (∀ A ∈ L, A.length = 20) ∧ (∀ A ∈ L, A.Pairwise (ltK key idx)) ∧ L.Pairwise (Far idx) ∧ (∀ A ∈ L, Far idx A R) ∧ R.Pairwise (fun x y => idx x < idx y) ∧ (L.flatten ++ R).Perm O ∧
      a = L.flatten.length ∧ b = a + 20 ∧ fr = [(0, (q.s n).val 1), (1, .int .i64 n), (2, cv), (6, .int .i64 20), (7, .int .i64 a), (8, .int .i64 b)] ∧ lc = [] ∧ h1 = q.H enc (L.flatten ++ R)) O.length
    ⟨[], O, 0, 20, rfl, by simp, by simp, List.Pairwise.nil, by simp, hO, .refl _, rfl, rfl, rfl, rfl, rfl⟩ ?_
  rintro w fr lc h1 ⟨L, R, a, b, rfl, hL1, hL2, hL3, hL4, hR, hP, ha, hb, rfl, rfl, rfl⟩
  have hl := hP.length_eq
  rw [hn, List.length_append] at hl
  by_cases hbn : b ≤ n
  · have hR20 : 20 ≤ R.length := by omega
    have hRe : R = R.take 20 ++ R.drop 20 := (List.take_append_drop 20 R).symm
    obtain ⟨Z, z1, z2, z3⟩ := insertion_eq (idx := idx) hc (P := L.flatten) (X := R.take 20) (S := R.drop 20) (n := n) (a := a) (b := b) (by simp only [List.length_append, List.length_take, List.length_drop]; omega) (by omega) ha (by rw [List.length_take]; omega) (hR.sublist (List.take_sublist _ _))
    have hDe : L.flatten ++ R = L.flatten ++ R.take 20 ++ R.drop 20 := by rw [List.append_assoc, ← hRe]
    have hZl : Z.length = 20 := by rw [z1.length_eq, List.length_take]; omega
    rw [← hDe] at z3
    have hmz : ∀ x ∈ Z, x ∈ R := fun x hx => List.mem_of_mem_take (z1.mem_iff.1 hx)
    have hpw := List.pairwise_append.1 (hRe ▸ hR : (R.take 20 ++ R.drop 20).Pairwise (fun x y => idx x < idx y))
    (refine W_g (Aj hset (Aj hlc1 (Aj hloc z3))) ?_; (repeat' first | apply Cj.mk | exact Nl.nl) <;> intros)
    refine ⟨(R.drop 20).length, by rw [List.length_drop]; omega, L ++ [Z], R.drop 20, b, b + 20, rfl, fun A hA => ?_, fun A hA => ?_, List.pairwise_append.2 ⟨hL3, by simp, fun A hA B hB x hx y hy => ?_⟩, fun A hA x hx y hy => ?_, hpw.2.1, ?_, ?_, rfl, rfl, rfl, by simp⟩
    · rcases List.mem_append.1 hA with hA | hA
      · exact hL1 A hA
      · rw [List.mem_singleton.1 hA]; exact hZl
    · rcases List.mem_append.1 hA with hA | hA
      · exact hL2 A hA
      · rw [List.mem_singleton.1 hA]; exact z2
    · rw [List.mem_singleton.1 hB] at hy
      exact hL4 A hA x hx y (hmz y hy)
    · rcases List.mem_append.1 hA with hA | hA
      · exact hL4 A hA x hx y (List.mem_of_mem_drop hy)
      · rw [List.mem_singleton.1 hA] at hx
        exact hpw.2.2 x (z1.mem_iff.1 hx) y hy
    · refine List.Perm.trans ?_ hP
      rw [hDe]
      simp only [List.flatten_append, List.flatten_cons, List.flatten_nil, List.append_nil]
      exact List.Perm.append_right _ (List.Perm.append_left _ z1)
    · simp only [List.flatten_append, List.flatten_cons, List.flatten_nil, List.append_nil, List.length_append]; omega
  · obtain ⟨Z, z1, z2, z3⟩ := insertion_eq (idx := idx) hc (P := L.flatten) (X := R) (S := []) (n := n) (a := a) (b := n) (by simp only [List.length_append, List.length_nil]; omega) (by omega) ha (by omega) hR
    rw [List.append_nil, List.append_nil] at z3
    have hZl := z1.length_eq
    (refine W_g (Aj hset (Aj hlc1 (Aj hloc z3))) ?_; (repeat' first | apply Cj.mk | exact Nl.nl) <;> intros)
    refine wp_loop (fun w fr lc h1 => ∃ (bs : Nat) (L : List (List α)), w = n - bs ∧ 20 ≤ bs ∧ bs ≤ 2 * n + 20 ∧ Bl bs L ∧ (∀ A ∈ L, A.Pairwise (ltK key idx)) ∧ L.Pairwise (Far idx) ∧ L.flatten.Perm O ∧
        fr = [(0, (q.s n).val 1), (1, .int .i64 n), (2, cv), (6, .int .i64 bs)] ∧ lc = [] ∧ h1 = q.H enc L.flatten) (n - 20) ?_ ?_
    · by_cases hZ0 : Z = []
      · refine ⟨20, L, rfl, by omega, by omega, ?_, hL2, hL3, ?_, rfl, rfl, by rw [hZ0, List.append_nil]⟩
        · have := Bl.snoc (bs := 20) hL1 (by omega) (R := []) trivial
          rwa [List.append_nil] at this
        · refine List.Perm.trans ?_ hP
          rw [List.eq_nil_of_length_eq_zero (l := R) (by rw [← hZl, hZ0]; rfl), List.append_nil]
      · refine ⟨20, L ++ [Z], rfl, by omega, by omega, Bl.snoc hL1 (by omega) ⟨List.length_pos_iff.2 hZ0, by omega, fun h => absurd rfl h, trivial⟩, fun A hA => ?_, List.pairwise_append.2 ⟨hL3, by simp, fun A hA B hB x hx y hy => ?_⟩, ?_, rfl, rfl, by simp⟩
        · rcases List.mem_append.1 hA with hA | hA
          · exact hL2 A hA
          · rw [List.mem_singleton.1 hA]; exact z2
        · rw [List.mem_singleton.1 hB] at hy
          exact hL4 A hA x hx y (z1.mem_iff.1 hy)
        · refine List.Perm.trans ?_ hP
          simp only [List.flatten_append, List.flatten_cons, List.flatten_nil, List.append_nil]
          exact List.Perm.append_left _ z1
    clear hL1 hL2 hL3 hL4 hR hP ha hb hl hbn z1 z2 z3 hZl
    rintro w fr lc h1 ⟨bs, L, rfl, hbs, hbs2, hBl, hLs, hLf, hP, rfl, rfl, rfl⟩
    by_cases hbn : bs < n
    rotate_left
    · (refine W_g (Aj hset (Aj hlc1 hloc)) ?_; (repeat' first | apply Cj.mk | exact Nl.nl) <;> intros)
      refine ⟨rfl, L.flatten, hP, ?_, rfl⟩
      have hl := hP.length_eq
      match L, hBl, hLs, hl with
      | [], _, _, _ => simp
      | [A], _, h, _ => simpa using h A (by simp)
      | A :: B :: r, hBl, _, hl =>
        obtain ⟨_, _, b3, b4, _⟩ := hBl
        have := b3 (by simp)
        simp only [List.flatten_cons, List.length_append] at hl
        omega
    · (refine W_g (Aj hset (Aj hlc1 hloc)) ?_; (repeat' first | apply Cj.mk | exact Nl.nl) <;> intros)
      refine wp_loop (fun w fr lc h1 => ∃ (M : List (List α)) (R : List (List α)) (a b : Int), w = R.length ∧ (∀ A ∈ M, A.length = 2 * bs) ∧ Bl bs R ∧ (∀ A ∈ M ++ R, A.Pairwise (ltK key idx)) ∧ (M ++ R).Pairwise (Far idx) ∧ (M ++ R).flatten.Perm O ∧ a = M.flatten.length ∧ b = a + 2 * bs ∧
          fr = [(0, (q.s n).val 1), (1, .int .i64 n), (2, cv), (6, .int .i64 bs), (7, .int .i64 a), (8, .int .i64 b)] ∧ lc = [] ∧ h1 = q.H enc (M ++ R).flatten) L.length
        ⟨[], L, 0, 2 * bs, rfl, by simp, hBl, hLs, hLf, hP, rfl, by omega, rfl, rfl, rfl⟩ ?_
      clear hBl hLs hLf hP
      rintro w fr lc h1 ⟨M, R, a, b, rfl, hM, hBl, hMs, hMf, hP, ha, hb, rfl, rfl, rfl⟩
      have hl := hP.length_eq
      rw [hn, List.flatten_append, List.length_append] at hl
      have hmerge : ∀ A B R', R = A :: B :: R' → ∃ Z : List α, Z.length = A.length + B.length ∧ callO PX 125 [(q.s n).val 1, .int .i64 a, .int .i64 (a + A.length), .int .i64 (a + A.length + B.length), cv] (q.H enc (M ++ R).flatten) = some (.tuple #[], q.H enc (M ++ (Z :: R')).flatten) ∧
          (∀ A ∈ M ++ (Z :: R'), A.Pairwise (ltK key idx)) ∧ (M ++ (Z :: R')).Pairwise (Far idx) ∧ (M ++ (Z :: R')).flatten.Perm O := by
        rintro A B R' rfl
        obtain ⟨b1, b2, b3, b4, b5, b6, b7⟩ := hBl
        have hp := List.pairwise_append.1 hMf
        have hp2 := List.pairwise_cons.1 hp.2.1
        have hp3 := List.pairwise_cons.1 hp2.2
        have hAB : Far idx A B := hp2.1 B (by simp)
        simp only [List.flatten_cons, List.length_append] at hl
        obtain ⟨Z, z1, z2, z3⟩ := merge_eq (n := n) hc (by omega) _ M.flatten A B R'.flatten a (a + A.length) (a + A.length + B.length) (Nat.le_refl _) (by simp only [List.length_append]; omega) ha (by omega) (by omega) b1 b4 (hMs A (by simp)) (hMs B (by simp)) hAB
        have e1 : (M ++ A :: B :: R').flatten = M.flatten ++ A ++ B ++ R'.flatten := by simp
        have e2 : (M ++ Z :: R').flatten = M.flatten ++ Z ++ R'.flatten := by simp
        have hmem : ∀ x ∈ Z, x ∈ A ∨ x ∈ B := fun x hx => by have := z1.mem_iff.1 hx; simpa using this
        refine ⟨Z, by rw [z1.length_eq, List.length_append], by rw [e1, e2]; exact z3, fun C hC => ?_, List.pairwise_append.2 ⟨hp.1, List.pairwise_cons.2 ⟨fun C hC x hx y hy => ?_, hp3.2⟩, fun C hC E hE x hx y hy => ?_⟩, ?_⟩
        · rcases List.mem_append.1 hC with hC | hC
          · exact hMs C (by simp [hC])
          · rcases List.mem_cons.1 hC with rfl | hC
            · exact z2
            · exact hMs C (by simp [hC])
        · rcases hmem x hx with h | h
          · exact hp2.1 C (by simp [hC]) x h y hy
          · exact hp3.1 C hC x h y hy
        · rcases List.mem_cons.1 hE with rfl | hE
          · rcases hmem y hy with h | h
            · exact hp.2.2 C hC A (by simp) x hx y h
            · exact hp.2.2 C hC B (by simp) x hx y h
          · exact hp.2.2 C hC E (by simp [hE]) x hx y hy
        · refine List.Perm.trans ?_ hP
          rw [e1, e2]
          refine List.Perm.append_right _ ?_
          rw [List.append_assoc]
          exact List.Perm.append_left _ z1
      by_cases hbn2 : b ≤ n
      · match R, hBl, hl, hmerge with
        | [], _, hl, _ => simp only [List.flatten_nil, List.length_nil] at hl; omega
        | [A], hBl, hl, _ =>
          have := hBl.2.1
          simp only [List.flatten_cons, List.flatten_nil, List.append_nil] at hl; omega
        | A :: B :: R', hBl, hl, hmerge =>
          obtain ⟨b1, b2, b3, b4, b5, b6, b7⟩ := hBl
          obtain ⟨Z, z0, z1, z2, z3, z4⟩ := hmerge A B R' rfl
          have hA := b3 (by simp)
          simp only [List.flatten_cons, List.length_append] at hl
          have hB : B.length = bs := by
            by_cases hR' : R' = []
            · subst hR'; simp only [List.flatten_nil, List.length_nil] at hl; omega
            · exact b6 hR'
          rw [hA, show a + (bs : Int) + B.length = b by omega] at z1
          (refine W_g (Aj hset (Aj hlc1 (Aj hloc z1))) ?_; (repeat' first | apply Cj.mk | exact Nl.nl) <;> intros)
          refine ⟨R'.length, by simp; omega, M ++ [Z], R', b, b + 2 * bs, rfl, fun C hC => ?_, b7, by simpa using z2, by simpa using z3, by simpa using z4, by simp only [List.flatten_append, List.flatten_cons, List.flatten_nil, List.append_nil, List.length_append]; omega, rfl, rfl, rfl, by simp⟩
          rcases List.mem_append.1 hC with hC | hC
          · exact hM C hC
          · rw [List.mem_singleton.1 hC]; omega
      · match R, hBl, hl, hmerge, hMs, hMf, hP with
        | [], _, hl, _, hMs, hMf, hP =>
          simp only [List.flatten_nil, List.length_nil] at hl
          (refine W_g (Aj hset (Aj hlc1 hloc)) ?_; (repeat' first | apply Cj.mk | exact Nl.nl) <;> intros)
          refine ⟨n - 2 * bs, by omega, 2 * bs, M, rfl, by omega, by omega, ?_, by simpa using hMs, by simpa using hMf, by simpa using hP, by simp only [Int.natCast_mul]; congr 6; omega, rfl, by simp⟩
          have := Bl.snoc (bs := 2 * bs) hM (by omega) (R := []) trivial
          rwa [List.append_nil] at this
        | [A], hBl, hl, _, hMs, hMf, hP =>
          have b1 := hBl.1
          have b2 := hBl.2.1
          simp only [List.flatten_cons, List.flatten_nil, List.append_nil] at hl
          (refine W_g (Aj hset (Aj hlc1 hloc)) ?_; (repeat' first | apply Cj.mk | exact Nl.nl) <;> intros)
          exact ⟨n - 2 * bs, by omega, 2 * bs, M ++ [A], rfl, by omega, by omega, Bl.snoc hM (by omega) ⟨b1, by omega, fun h => absurd rfl h, trivial⟩, hMs, hMf, hP, by simp only [Int.natCast_mul]; congr 6; omega, rfl, rfl⟩
        | [A, B], hBl, hl, hmerge, hMs, hMf, hP =>
          obtain ⟨b1, b2, b3, b4, b5, b6, b7⟩ := hBl
          obtain ⟨Z, z0, z1, z2, z3, z4⟩ := hmerge A B [] rfl
          have hA := b3 (by simp)
          simp only [List.flatten_cons, List.flatten_nil, List.append_nil, List.length_append] at hl
          rw [hA, show a + (bs : Int) + B.length = n by omega] at z1
          (refine W_g (Aj hset (Aj hlc1 (Aj hloc z1))) ?_; (repeat' first | apply Cj.mk | exact Nl.nl) <;> intros)
          exact ⟨n - 2 * bs, by omega, 2 * bs, M ++ [Z], rfl, by omega, by omega, Bl.snoc hM (by omega) ⟨by omega, by omega, fun h => absurd rfl h, trivial⟩, z2, z3, z4, by simp only [Int.natCast_mul]; congr 6; omega, rfl, rfl⟩
        | A :: B :: C :: R', hBl, hl, _, _, _, _ =>
          obtain ⟨b1, b2, b3, b4, b5, b6, b7⟩ := hBl
          have hA := b3 (by simp)
          have hB := b6 (by simp)
          simp only [List.flatten_cons, List.length_append] at hl
          omega
theorem sortStable_eq (hc : CmpS q enc val cv key) {O : List α} {n : Nat} (hn : O.length = n) (hn2 : n < 1000000000) (hO : O.Pairwise (fun x y => idx x < idx y)) :
    ∃ Z : List α, Z.Perm O ∧ Z.Pairwise (ltK key idx) ∧ callO PX 54 [(q.s n).val 1, cv] (q.H enc O) = some (.tuple #[], q.H enc Z) := by
  have hlen : (q.s n).len = n := rfl
  have hset := hc.isF.set
  have hlc1 := hc.isF.lc1
  have hloc := hc.isF.loc
  obtain ⟨Z, z1, z2, z3⟩ := stable_eq hc hn hn2 hO
  refine ⟨Z, z1, z2, ?_⟩
  apply WpC.eqn
  refine wpc_fn (px_ext rfl) (px_fn fn_slices_SortStableFunc_rune_rune) rfl ?_
  unfold LF_slices_SortStableFunc_rune_rune
  simp only [argFr]
  (refine W_g (Aj hset (Aj hlc1 (Aj hloc (Aj hlen z3)))) ?_; (repeat' first | apply Cj.mk | exact Nl.nl) <;> intros)
  exact ⟨rfl, rfl⟩
end Go.Proofs.YtblmakgjdenpfaaGreatDoor.AM
namespace Go.Proofs.YtblmakgjdenpfaaGreatDoor.AM
open Go
section
variable {p : Prg} {fr : Fr} {lc : Lc} {h : AH} {Q : Post}
theorem wp_spotsG {β : Type} {n : Nat} {keep : List Nat} {sts : List St} {b : LCode} {L : Nat → Lc} (F : Nat → Fr) (K : Nat) (s : ByteArray) (l : Bytes) (J : Nat → AH → Prop) (g : Nat → Nat × Nat → Option β) (hl : l = s.data.toList)
    (hf0 : AgF (F 0) fr) (hk : ∀ i, okS keep ((F i).map (·.1)) n sts = true) (hL : ∀ n, setL lc K (.siter s n) = L n) (h0 : lc = L 0) (hJ : J 0 h)
    (more : ∀ i (hi : i < (spots l).length) h, J i h → (∀ w, g i (spots l)[i] = some w → scanL (spots l) g = some w) →
      WpS p keep sts (F i) (L (posn l i)) h (thenQ p b (loopQ (fun fr' lc' h' => g i (spots l)[i] = none ∧ AgF (F (i + 1)) fr' ∧ lc' = L (posn l (i + 1)) ∧ J (i + 1) h') Q) .norm))
    (fin : ∀ h, J (spots l).length h → scanL (spots l) g = none → WpS p keep sts (F (spots l).length) (L l.length) h (thenQ p b (loopQ (fun _ _ _ => False) Q) .norm)) : Wp p (.loop (.seq (R n keep sts) b)) fr lc h Q := by
  refine wp_scanL (spots l) g (fun i fr lc' h => AgF (F i) fr ∧ lc' = L (posn l i) ∧ J i h) ⟨hf0, by rw [posn_zero]; exact h0, hJ⟩ ?_ ?_
  · rintro fr _ h ⟨ha, rfl, hj⟩ fn
    rw [posn_all]
    exact wp_seq (wp_RA ha (hk _) (fin h hj fn))
  · rintro i hi fr _ h ⟨ha, rfl, hj⟩ hit
    refine wp_mono (wp_seq (wp_RA ha (hk _) (more i hi h hj hit))) fun ex fr lc h hq => ?_
    have hq := hq.out
    cases ex with
    | norm => exact ⟨⟨hq.1, hq.2.1, hq.2.2.1, hq.2.2.2⟩⟩
    | exit j => exact ⟨hq⟩
    | ret => exact ⟨hq⟩
end
abbrev clT (T : Tab) (c : Nat) : Int := classI T c
def prevC (T : Tab) (l : Bytes) : Nat → Int
  | 0 => 0
  | i + 1 => clT T ((spots l).getD i (0, 0)).1
theorem prevC_succ {T : Tab} {l : Bytes} {i : Nat} (hi : i < (spots l).length) : prevC T l (i + 1) = clT T ((spots l)[i]).1 := by
  simp only [prevC, List.getD_eq_getElem?_getD, List.getElem?_eq_getElem hi, Option.getD_some]
def firstM (T : Tab) (l : Bytes) : Option (Nat × Nat) := scanL (spots l) fun i x => if 0 < clT T x.1 ∧ clT T x.1 < prevC T l i then some (posn l i, i) else none
def plV : Option (Nat × Nat) → Value
  | some (a, b) => .tuple (List.toArray [.agg (List.toArray [.int .i64 a, .int .i64 b]), .bool true])
  | none => .tuple (List.toArray [.agg (List.toArray [.int .i64 0, .int .i64 0]), .bool false])
theorem marksFirst_eq {h : AH} {k B : Nat} {s6 : Sl} {T : Tab} (bk : BkAt h k B s6 T) (s : ByteArray) (hs : s.size ≤ 1048576) : callO PX 32 [.pointer (some ⟨k, 0, none⟩), .string s] h = some (plV (firstM T s.data.toList), h) := by
  have e1 := class_eq bk
  obtain ⟨l, hl⟩ : ∃ l, l = s.data.toList := ⟨_, rfl⟩
  have hz : l.length = s.size := by rw [hl]; rfl
  have hn := spots_len l
  rw [← hl]
  apply WpC.eqn
  refine wpc_fn (px_ext rfl) (px_fn fn_marks_First) rfl ?_
  unfold LF_marks_First
  simp only [argFr]
  unfold firstM
  (refine W_x @ev_rngS ?_; (repeat' first | apply Cj.mk | exact Nl.nl) <;> intros)
  refine wp_spotsG (fun i => [(0, .pointer (some ⟨k, 0, none⟩)), (4, .pointer (some ⟨8, 0, some 1⟩)), (6, .int .i64 (prevC T l i)), (7, .int .i64 i), (15, .pointer (some ⟨30, 0, some 1⟩))]) 30 s l (fun _ h' => h' = h)
    (fun i x => if 0 < clT T x.1 ∧ clT T x.1 < prevC T l i then some (posn l i, i) else none) hl (by repeat' first | exact True.intro | refine And.intro rfl ?_) (fun _ => rfl) (by intro n; simp only [setL, push_cast, Nat.reduceEqDiff, ↓reduceIte, reduceCtorEq, Nat.reduceAdd, Nat.reduceMul, Nat.reduceLeDiff]; rfl) rfl rfl (fun i hi h1 hh hit => ?_) fun h1 hh fin => ?_
  · subst hh
    (refine W_x trivial ?_; (repeat' first | apply Cj.mk | exact Nl.nl) <;> intros)
    refine wo_next hl rfl hi ?_
    have hp := prevC_succ (T := T) hi
    have hpn : posn l i ≤ 1048576 := by have := (posn_lt hi).1; omega
    generalize (spots l)[i] = y at hit hp
    have e2 := e1 (y.1 : Nat)
    rw [show classI T (y.1 : Nat) = clT T y.1 from rfl] at e2
    (refine W_x e2 ?_; (repeat' first | apply Cj.mk | exact Nl.nl) <;> intros)
    · rw [hit _ (if_pos (by omega))]
      exact ⟨rfl, rfl⟩
    all_goals exact ⟨if_neg (by omega), by rw [hp]; exact (by repeat' first | exact True.intro | refine And.intro rfl ?_), rfl, rfl⟩
  · subst hh
    (refine W_x trivial ?_; (repeat' first | apply Cj.mk | exact Nl.nl) <;> intros)
    refine wo_nextE hl rfl ?_
    (refine W_x trivial ?_; (repeat' first | apply Cj.mk | exact Nl.nl) <;> intros)
    rw [fin]
    exact ⟨rfl, rfl⟩
end Go.Proofs.YtblmakgjdenpfaaGreatDoor.AM
namespace Go.Proofs.YtblmakgjdenpfaaGreatDoor.AM
open Go
section
variable {p : Prg} {fr : Fr} {lc : Lc} {h : AH} {Q : Post}
theorem wp_spotsS {σ β : Type} {n : Nat} {keep : List Nat} {sts : List St} {b : LCode} (F : Nat → σ → Fr) (L : Nat → σ → Lc) (s : ByteArray) (l : Bytes) (J : Nat → σ → AH → Prop) (g : Nat → Nat × Nat → Option β) (st0 : σ) (hl : l = s.data.toList)
    (hf0 : AgF (F 0 st0) fr) (hk : ∀ i st, okS keep ((F i st).map (·.1)) n sts = true) (h0 : lc = L 0 st0) (hJ : J 0 st0 h)
    (more : ∀ i (hi : i < (spots l).length) st h, J i st h → (∀ w, g i (spots l)[i] = some w → scanL (spots l) g = some w) →
      WpS p keep sts (F i st) (L (posn l i) st) h (thenQ p b (loopQ (fun fr' lc' h' => g i (spots l)[i] = none ∧ ∃ st', AgF (F (i + 1) st') fr' ∧ lc' = L (posn l (i + 1)) st' ∧ J (i + 1) st' h') Q) .norm))
    (fin : ∀ st h, J (spots l).length st h → scanL (spots l) g = none → WpS p keep sts (F (spots l).length st) (L l.length st) h (thenQ p b (loopQ (fun _ _ _ => False) Q) .norm)) : Wp p (.loop (.seq (R n keep sts) b)) fr lc h Q := by
  refine wp_scanL (spots l) g (fun i fr lc' h => ∃ st, AgF (F i st) fr ∧ lc' = L (posn l i) st ∧ J i st h) ⟨st0, hf0, by rw [posn_zero]; exact h0, hJ⟩ ?_ ?_
  · rintro fr _ h ⟨st, ha, rfl, hj⟩ fn
    rw [posn_all]
    exact wp_seq (wp_RA ha (hk _ _) (fin st h hj fn))
  · rintro i hi fr _ h ⟨st, ha, rfl, hj⟩ hit
    refine wp_mono (wp_seq (wp_RA ha (hk _ _) (more i hi st h hj hit))) fun ex fr lc h hq => ?_
    have hq := hq.out
    cases ex with
    | norm => exact ⟨⟨hq.1, hq.2⟩⟩
    | exit j => exact ⟨hq⟩
    | ret => exact ⟨hq⟩
theorem wp_forS {σ α β : Type} {a : LCode} (F : Nat → σ → Fr) (L : Nat → σ → Lc) (l : List α) (J : Nat → σ → AH → Prop) (g : Nat → α → Option β) (st0 : σ) (h0 : fr = F 0 st0) (hc : lc = L 0 st0) (hJ : J 0 st0 h)
    (more : ∀ i (hi : i < l.length) st h, J i st h → (∀ w, g i l[i] = some w → scanL l g = some w) → Wp p a (F i st) (L i st) h (loopQ (fun fr' lc' h' => g i l[i] = none ∧ ∃ st', fr' = F (i + 1) st' ∧ lc' = L (i + 1) st' ∧ J (i + 1) st' h') Q))
    (fin : ∀ st h, J l.length st h → scanL l g = none → Wp p a (F l.length st) (L l.length st) h (loopQ (fun _ _ _ => False) Q)) : Wp p (.loop a) fr lc h Q := by
  refine wp_scanL l g (fun i fr lc' h => ∃ st, fr = F i st ∧ lc' = L i st ∧ J i st h) ⟨st0, h0, hc, hJ⟩ ?_ ?_
  · rintro _ _ h ⟨st, rfl, rfl, hj⟩ fn
    exact fin st h hj fn
  · rintro i hi _ _ h ⟨st, rfl, rfl, hj⟩ hit
    refine wp_mono (more i hi st h hj hit) fun ex fr lc h hq => ?_
    have hq := hq.out
    cases ex with
    | norm => exact ⟨⟨hq.1, hq.2⟩⟩
    | exit j => exact ⟨hq⟩
    | ret => exact ⟨hq⟩
end
theorem runesB_len (l : Bytes) : (runesB l).length = (spots l).length := by rw [runesB, List.length_map]
theorem encs_lenle (L : List Nat) : (encs L).length ≤ 4 * L.length := by
  induction L with
  | nil => simp [encs]
  | cons c L ih =>
    have := (encN_len c).2
    rw [encs_cons, List.length_append, List.length_cons]
    omega
end Go.Proofs.YtblmakgjdenpfaaGreatDoor.AM
namespace Go.Proofs.YtblmakgjdenpfaaGreatDoor.AM
open Go
theorem ord_rune {cl : Nat → Int} {L : List Nat} (h : ∀ c ∈ L, RuneN c) : ∀ c ∈ ord cl L, RuneN c := fun c hc => h c (ord_mem.1 hc)
def orderB (T : Tab) (l : Bytes) : Bytes := encs (ord (clT T) (runesB l))
end Go.Proofs.YtblmakgjdenpfaaGreatDoor.AM
namespace Go.Proofs.YtblmakgjdenpfaaGreatDoor.AM
open Go
section
variable {cl : Nat → Int}
theorem insR_split {r : Nat} : ∀ (A B : List Nat), (∀ s ∈ A, 0 < cl r ∧ cl r < cl s) → (∀ b ∈ B, ¬ (0 < cl r ∧ cl r < cl b)) → insR cl (A ++ B) r = A ++ r :: B
  | [], [], _, _ => rfl
  | [], b :: B, _, h => by simp only [List.nil_append, insR]; rw [if_neg (h b (by simp))]
  | a :: A, B, h, g => by
    simp only [List.cons_append, insR]
    rw [if_pos (h a (by simp)), insR_split A B (fun s hs => h s (by simp [hs])) g]
theorem ord_snoc (l : List Nat) (r : Nat) : ord cl (l ++ [r]) = (insR cl (ord cl l).reverse r).reverse := by
  unfold ord
  rw [List.foldl_append, List.foldl_cons, List.foldl_nil, List.reverse_reverse]
theorem sorted_ord : ∀ (n : Nat) (O Z : List (Nat × Nat)), O.length = n → O.Pairwise (fun x y => (x.2 : Int) < y.2) → Z.Perm O → Z.Pairwise (ltK (fun x => cl x.1) fun x => (x.2 : Int)) → (∀ x ∈ O, 0 < cl x.1) → Z.map (·.1) = ord cl (O.map (·.1))
  | 0, O, Z, hn, _, hp, _, _ => by
    have : O = [] := List.eq_nil_of_length_eq_zero hn
    subst this
    rw [hp.eq_nil]
    rfl
  | n + 1, O, Z, hn, ho, hp, hz, hc => by
    rcases List.eq_nil_or_concat O with rfl | ⟨O', x, rfl⟩
    · simp at hn
    · rw [List.concat_eq_append] at *
      rw [List.length_append, List.length_singleton] at hn
      have hx : x ∈ Z := hp.mem_iff.2 (by simp)
      obtain ⟨P, S, rfl⟩ := List.append_of_mem hx
      have hp' : (P ++ S).Perm O' := by
        have h1 := hp.symm.trans List.perm_middle
        have h2 : (O' ++ [x]).Perm (x :: O') := List.perm_append_singleton x O'
        exact (List.Perm.cons_inv (h2.symm.trans h1)).symm
      have ho' := List.pairwise_append.1 ho
      have hz1 := List.pairwise_append.1 hz
      have hz2 := List.pairwise_cons.1 hz1.2.1
      have ih := sorted_ord n O' (P ++ S) (by omega) ho'.1 hp' (hz.sublist (by simp)) fun y hy => hc y (by simp [hy])
      have hcx := hc x (by simp)
      rw [List.map_append, List.map_cons, List.map_append, List.map_cons, List.map_nil, ord_snoc, ← ih, List.map_append, List.reverse_append]
      rw [insR_split]
      · simp
      · intro s hs
        rw [List.mem_reverse] at hs
        obtain ⟨y, hy, rfl⟩ := List.mem_map.1 hs
        have h1 := hz2.1 y hy
        have h2 := ho'.2.2 y (hp'.mem_iff.1 (by simp [hy])) x (by simp)
        unfold ltK at h1
        simp only at h1
        omega
      · intro s hs
        rw [List.mem_reverse] at hs
        obtain ⟨y, hy, rfl⟩ := List.mem_map.1 hs
        have h1 := hz1.2.2 y hy x (by simp)
        unfold ltK at h1
        simp only at h1
        omega
theorem ordered_append : ∀ {A B : List Nat}, Ordered cl A → Ordered cl B → (∀ a b, A.getLast? = some a → B.head? = some b → ¬ (0 < cl b ∧ cl b < cl a)) → Ordered cl (A ++ B)
  | [], B, _, hB, _ => hB
  | [a], [], _, _, _ => trivial
  | [a], b :: B, _, hB, h => ⟨h a b rfl rfl, hB⟩
  | a :: c :: A, B, hA, hB, h => ⟨hA.1, ordered_append (A := c :: A) hA.2 hB fun x y hx hy => h x y (by rw [List.getLast?_cons_cons]; exact hx) hy⟩
end
theorem Tr.set_self : ∀ (f : Nat) (t : Tr) (k : Nat) (o : AObj), k < f → t.get k = some o → Tr.set f t k (some o) = t
  | 0, t, k, o, h, _ => by omega
  | f + 1, .e, k, o, _, h => by simp [Tr.get] at h
  | f + 1, .n l v r, k, o, hk, h => by
    simp only [Tr.get] at h
    by_cases h0 : k = 0
    · rw [if_pos h0] at h
      simp only [Tr.set, if_pos h0, h]
    · rw [if_neg h0] at h
      by_cases h1 : k % 2 = 1
      · rw [if_pos h1] at h
        simp only [Tr.set, if_neg h0, if_pos h1, Tr.set_self f l (k / 2) o (by omega) h]
      · rw [if_neg h1] at h
        simp only [Tr.set, if_neg h0, if_neg h1, Tr.set_self f r (k / 2 - 1) o (by omega) h]
theorem AH.set_self {h : AH} {b : Nat} {o : AObj} (e : h.get b = some o) : h.set b o = h := by
  have hb := AH.get_lt e
  simp only [AH.get, hb, if_true] at e
  simp only [AH.set, AH.put, Tr.set_self (b + 1) h.m b o (by omega) e]
end Go.Proofs.YtblmakgjdenpfaaGreatDoor.AM
namespace Go.Proofs.YtblmakgjdenpfaaGreatDoor.AM
open Go
theorem isNaNi_eq (n : Int) (h : AH) : callO PX 86 [.int .i64 n] h = some (.bool false, h) := by
  apply WpC.eqn
  refine wpc_fn (px_ext rfl) (px_fn fn_cmp_isNaN_int) rfl ?_
  unfold LF_cmp_isNaN_int
  simp only [argFr]
  (refine W_x trivial ?_; (repeat' first | apply Cj.mk | exact Nl.nl) <;> intros)
  all_goals exact ⟨rfl, rfl⟩
def cmpI (x y : Int) : Int := if x < y then -1 else if y < x then 1 else 0
theorem compareI_eq (x y : Int) (h : AH) : callO PX 56 [.int .i64 x, .int .i64 y] h = some (.int .i64 (cmpI x y), h) := by
  have e := fun n => isNaNi_eq n
  apply WpC.eqn
  refine wpc_fn (px_ext rfl) (px_fn fn_cmp_Compare_int) rfl ?_
  unfold LF_cmp_Compare_int
  simp only [argFr]
  (refine W_x e ?_; (repeat' first | apply Cj.mk | exact Nl.nl) <;> intros)
  all_goals (refine ⟨?_, rfl⟩; unfold cmpI; congr 1; (repeat' split) <;> omega)
abbrev rpV (x : Nat × Nat) : List Value := rnV x.1
theorem cmp_marks (q : Pl) {T : Tab} {k B c : Nat} {s6 : Sl} (hb : ∀ D, BkAt (q.H rpV D) k B s6 T) (hc : ∀ D, (q.H rpV D).get c = some (.cells false [.pointer (some ⟨k, 0, none⟩)])) :
    CmpS q rpV (fun x => .int .i32 x.1) (.func (.func 55) #[] #[.pointer (some ⟨c, 0, none⟩)]) (fun x : Nat × Nat => clT T x.1) where
  len := fun x => rfl
  cells := fun x => rfl
  ok := fun x => rfl
  okv := fun x => rfl
  cvf := ⟨_, .inr ⟨c, 0, rfl⟩⟩
  run := fun x y D => by
    refine ⟨cmpI (clT T x.1) (clT T y.1), ?_, by unfold cmpI; (repeat' split) <;> omega, by unfold cmpI; (repeat' split) <;> omega, by unfold cmpI; (repeat' split) <;> omega⟩
    have e := fun a b => compareI_eq a b
    have e1 := class_eq (hb D)
    have g := hc D
    show callO PX 55 [.int .i32 x.1, .int .i32 y.1, .pointer (some ⟨c, 0, none⟩)] _ = _
    apply WpC.eqn
    refine wpc_fn (px_ext rfl) (px_fn fn_marks_Order_1) rfl ?_
    unfold LF_marks_Order_1
    simp only [argFr]
    (refine W_y (Aj e (Aj e1 g)) ?_; (repeat' first | apply Cj.mk | exact Nl.nl) <;> intros)
    exact ⟨rfl, rfl⟩
  vw := fun x => rfl
  rdw := fun x => rfl
def sl3 (e : Nat) (v a b c : Value) : Option Value := (POp.sl e (.c v) (some (.c a)) (some (.c b)) (some (.c c))).ev []
theorem ev_sl3 {fr : Fr} {e : Nat} {x a b c : Opd} : (POp.sl e x (some a) (some b) (some c)).ev fr = sl3 e (opd fr x) (opd fr a) (opd fr b) (opd fr c) := rfl
attribute [push_cast] ev_sl3
theorem sl3_val {bk o n : Nat} {i j m : Int} (h0 : 0 ≤ i) (h1 : i ≤ j) (h2 : j ≤ m) (h3 : m ≤ n) : sl3 1 ((Sl.at bk o n).val 1) (.int .i64 i) (.int .i64 j) (.int .i64 m) = some ((Sl.at bk (o + i.toNat) (j - i).toNat).val 1) := by
  obtain ⟨i, rfl⟩ := Int.eq_ofNat_of_zero_le h0
  obtain ⟨j, rfl⟩ := Int.eq_ofNat_of_zero_le (Int.le_trans h0 h1)
  obtain ⟨m, rfl⟩ := Int.eq_ofNat_of_zero_le (Int.le_trans h0 (Int.le_trans h1 h2))
  have a1 : i ≤ j := by omega
  have a2 : j ≤ m := by omega
  have a3 : m ≤ n := by omega
  simp [sl3, POp.ev, opd, Sl.val, optInt, asNat, ptrOff, a1, a2, a3]
theorem sort_run {h g : AH} {k B c i j : Nat} {s6 sl : Sl} {T : Tab} {D : List Nat} (bk : BkAt h k B s6 T) (hc : h.get c = some (.cells false [.pointer (some ⟨k, 0, none⟩)])) (fo : FOwn h g 1 sl (D.map rnV)) (hij : i < j) (hj : j ≤ D.length) (hn : D.length < 1000000000)
    (hm : ∀ x ∈ (D.drop i).take (j - i), 0 < clT T x) :
    ∃ (w : Sl) (g' : AH), sl3 1 (sl.val 1) (.int .i64 i) (.int .i64 j) (.int .i64 j) = some (w.val 1) ∧ callO PX 54 [w.val 1, .func (.func 55) #[] #[.pointer (some ⟨c, 0, none⟩)]] g = some (.tuple #[], g') ∧
      FOwn h g' 1 sl ((D.take i ++ ord (clT T) ((D.drop i).take (j - i)) ++ D.drop j).map rnV) := by
  have hlen := fo.own.1
  have hnew := fo.new
  have hkp := fo.kp
  rw [List.length_map] at hlen
  cases sl with
  | nil => simp [Sl.len] at hlen; omega
  | «at» b o n =>
    simp only [Sl.len] at hlen
    obtain ⟨h1, h2, pre, h3, h4⟩ := fo.own
    have hnb := hnew b rfl
    have hbg := AH.get_lt h3
    obtain ⟨M, hM⟩ : ∃ M, M = (D.drop i).take (j - i) := ⟨_, rfl⟩
    have hMl : M.length = j - i := by rw [hM, List.length_take, List.length_drop]; omega
    have hD : D = D.take i ++ M ++ D.drop j := by
      rw [hM]
      conv => lhs; rw [← List.take_append_drop i D, ← List.take_append_drop (j - i) (D.drop i), List.drop_drop, show i + (j - i) = j by omega]
      rw [List.append_assoc]
    rw [← hM] at hm ⊢
    let q : Pl := ⟨g, b, pre ++ ((D.take i).map rnV).flatten, ((D.drop j).map rnV).flatten, hbg⟩
    have hfm : ∀ Z : List (Nat × Nat), Z.map rpV = (Z.map (·.1)).map rnV := fun Z => by rw [List.map_map]; rfl
    have hO : M.zipIdx.map (·.1) = M := List.zipIdx_map_fst 0 M
    have hfl : (D.map rnV).flatten = ((D.take i).map rnV).flatten ++ ((M.map rnV).flatten ++ ((D.drop j).map rnV).flatten) := by
      conv => lhs; rw [hD]
      simp only [List.map_append, List.flatten_append, List.append_assoc]
    have hH : q.H rpV M.zipIdx = g := by
      show g.set b (.cells false (pre ++ ((D.take i).map rnV).flatten ++ (M.zipIdx.map rpV).flatten ++ ((D.drop j).map rnV).flatten)) = g
      rw [hfm, hO]
      refine AH.set_self ?_
      rw [h3, hfl]
      simp only [List.append_assoc]
    have kpq : ∀ E, Kp h (q.H rpV E) := fun E => ⟨hkp.1, fun x hx => by
      show (g.set b _).get x = _
      rw [AH.get_set_ne _ (by omega)]
      exact hkp.2 x hx⟩
    have hcq := AH.get_lt hc
    obtain ⟨Z, z1, z2, z3⟩ := sortStable_eq (idx := fun x : Nat × Nat => (x.2 : Int)) (cmp_marks q (T := T) (k := k) (B := B) (c := c) (s6 := s6) (fun E => bk.kp (kpq E)) (fun E => (kpq E).get hc)) (O := M.zipIdx) (n := M.length) (by simp) (by omega) (by
      rw [List.pairwise_iff_getElem]
      intro x y hx hy hxy
      simp only [List.getElem_zipIdx]
      omega)
    have hmz : ∀ x ∈ M.zipIdx, 0 < clT T x.1 := fun x hx => hm _ (by rw [← hO]; exact List.mem_map_of_mem hx)
    have hZ := sorted_ord (cl := clT T) _ M.zipIdx Z rfl (by
      rw [List.pairwise_iff_getElem]
      intro x y hx hy hxy
      simp only [List.getElem_zipIdx]
      omega) z1 z2 hmz
    rw [hO] at hZ
    rw [hH] at z3
    have hl1 : ∀ l : List Nat, ((l.map rnV).flatten).length = l.length := fun l => by rw [flatten_len (e := 1) (fun x hx => by obtain ⟨y, _, rfl⟩ := List.mem_map.1 hx; rfl), List.length_map, Nat.mul_one]
    have hqs : q.s M.length = .at b (o + i) (j - i) := by
      show Sl.at b (pre ++ ((D.take i).map rnV).flatten).length _ = _
      rw [List.length_append, hl1, List.length_take, h4, hMl, Nat.min_eq_left (by omega)]
    have hs := sl3_val (bk := b) (o := o) (n := n) (i := i) (j := j) (m := j) (by omega) (by omega) (by omega) (by omega)
    rw [show ((j : Int) - i).toNat = j - i by omega, Int.toNat_natCast] at hs
    rw [hqs] at z3
    refine ⟨_, _, hs, z3, ⟨⟨by simp only [Sl.len, List.length_map, List.length_append, ord_length, hMl, List.length_take, List.length_drop]; omega, fun x hx => by obtain ⟨y, _, rfl⟩ := List.mem_map.1 hx; rfl, pre, ?_, h4⟩, kpq Z, hnew⟩⟩
    rw [q.get]
    show some (AObj.cells false ((pre ++ ((D.take i).map rnV).flatten) ++ (Z.map rpV).flatten ++ ((D.drop j).map rnV).flatten)) = _
    rw [hfm, hZ]
    simp only [List.map_append, List.flatten_append, List.append_assoc]
set_option maxHeartbeats 1000000 in
theorem marksOrder_spec {h : AH} {k B : Nat} {s6 : Sl} {T : Tab} (bk : BkAt h k B s6 T) (s : ByteArray) (hs : s.size ≤ 100000000) : WpC PX 31 [.pointer (some ⟨k, 0, none⟩), .string s] h fun v h' => v = .string (bs (orderB T s.data.toList)) ∧ Kp h h' := by
  have hz : s.data.toList.length = s.size := rfl
  have hn := spots_len s.data.toList
  have hl := runesB_len s.data.toList
  have hr := runesB_rune s.data.toList
  unfold orderB
  refine wpc_fn (px_ext rfl) (px_fn fn_marks_Order) rfl ?_
  unfold LF_marks_Order
  simp only [argFr]
  (refine W_x trivial ?_; (repeat' first | apply Cj.mk | exact Nl.nl) <;> intros)
  refine wo_s2r (h0 := h.push (.cells false [.pointer (some ⟨k, 0, none⟩)])) (Kp.refl _) (by omega) fun sl g fo => ?_
  have bk1 := bk.kp ((Kp.refl h).push (.cells false [.pointer (some ⟨k, 0, none⟩)]))
  have hbox : (h.push (.cells false [.pointer (some ⟨k, 0, none⟩)])).get h.n = some (.cells false [.pointer (some ⟨k, 0, none⟩)]) := AH.get_push_same h _
  have kp0 : Kp h (h.push (.cells false [.pointer (some ⟨k, 0, none⟩)])) := (Kp.refl h).push _
  generalize h.push (.cells false [.pointer (some ⟨k, 0, none⟩)]) = h1 at fo bk1 hbox kp0
  generalize h.n = c at hbox
  generalize runesB s.data.toList = L at fo hl hr
  (refine W_x trivial ?_; (repeat' first | apply Cj.mk | exact Nl.nl) <;> intros)
  refine wp_loop (fun w fr lc g => ∃ (A R : List Nat), w = R.length ∧ A.length + R.length = L.length ∧ ord (clT T) (A ++ R) = ord (clT T) L ∧ Ordered (clT T) A ∧ (A = [] ∨ R = [] ∨ (∃ a A', A = A' ++ [a] ∧ clT T a ≤ 0) ∨ (∃ a R', R = a :: R' ∧ clT T a ≤ 0)) ∧ FOwn h1 g 1 sl ((A ++ R).map rnV) ∧
    fr = [(2, .pointer (some ⟨c, 0, none⟩)), (5, sl.val 1), (6, .int .i64 A.length)] ∧ lc = []) L.length ⟨[], L, rfl, by simp, rfl, trivial, .inl rfl, fo, rfl, rfl⟩ ?_
  rintro w fr lc g ⟨A, R, rfl, hAR, ho, hA, hb, fo, rfl, rfl⟩
  have sll := fo.own.1
  rw [List.length_map, List.length_append] at sll
  have hbx := fo.kp.get hbox
  have e1 := class_eq (bk1.kp fo.kp)
  cases R with
  | nil =>
    rw [List.append_nil] at fo ho
    rw [List.length_nil, Nat.add_zero] at sll
    have hg := fun lc => r2s_own (lc := lc) fo.own (fun x hx => hr x (by rw [← ord_mem (cl := clT T), ← ho]; exact ord_mem.2 hx))
    (refine W_x (Aj sll hg) ?_; (repeat' first | apply Cj.mk | exact Nl.nl) <;> intros)
    refine ⟨?_, kp0.trans fo.kp⟩
    rw [← ho, ord_of_ordered hA]
  | cons r R =>
    rw [List.length_cons] at sll hAR
    have hi : A.length < (A ++ r :: R).length := by rw [List.length_append, List.length_cons]; omega
    have g0 := fun lc => rd_map (lc := lc) fo.reads hi
    have hget : (A ++ r :: R)[A.length] = r := by simp
    rw [hget] at g0
    have e2 := e1 (r : Nat)
    rw [show classI T (r : Nat) = clT T r from rfl] at e2
    unfold rnV at g0
    (refine W_x (Aj sll (Aj hbx (Aj g0 e2))) ?_; (repeat' first | apply Cj.mk | exact Nl.nl) <;> intros)
    · have hb' : A = [] ∨ (∃ a A', A = A' ++ [a] ∧ clT T a ≤ 0) := by
        rcases hb with hb | hb | hb | ⟨a, R', e, ha⟩
        · exact .inl hb
        · cases hb
        · exact .inr hb
        · injection e with e e2
          subst e
          omega
      refine wp_loopB (fun w f0 lc g' => ∃ (m : Nat) (j : Int), j = (A.length : Int) + 1 + m ∧ w = R.length - m ∧ m ≤ R.length ∧ (∀ x ∈ R.take m, 0 < clT T x) ∧ f0 = [(2, .pointer (some ⟨c, 0, none⟩)), (5, sl.val 1), (6, .int .i64 A.length), (7, .int .i64 j)] ∧ lc = [] ∧ g' = g) R.length _ (by repeat' first | exact True.intro | refine And.intro rfl ?_)
        ⟨0, (A.length : Int) + 1, by omega, rfl, Nat.zero_le _, by simp, rfl, rfl, rfl⟩ (fun w f0 lc h ⟨_, _, _, _, _, _, e, _, _⟩ => by rw [e]; rfl) ?_
      rintro w f0 lc g' ⟨m, j, hj, rfl, hm, hM, rfl, rfl, rfl⟩
      have fin : (m = R.length ∨ ∃ hm : m < R.length, clT T R[m] ≤ 0) → ∃ (w : Sl) (g2 : AH), sl3 1 (sl.val 1) (.int .i64 A.length) (.int .i64 j) (.int .i64 j) = some (w.val 1) ∧
          callO PX 54 [w.val 1, .func (.func 55) #[] #[.pointer (some ⟨c, 0, none⟩)]] g' = some (.tuple #[], g2) ∧
          ∃ A' : List Nat, (A'.length : Int) = j ∧ A'.length + (R.drop m).length = L.length ∧ ord (clT T) (A' ++ R.drop m) = ord (clT T) L ∧ Ordered (clT T) A' ∧ (A' = [] ∨ R.drop m = [] ∨ (∃ a A2, A' = A2 ++ [a] ∧ clT T a ≤ 0) ∨ (∃ a R', R.drop m = a :: R' ∧ clT T a ≤ 0)) ∧ FOwn h1 g2 1 sl ((A' ++ R.drop m).map rnV) := fun hend => by
        have hcut : R.drop m = [] ∨ ∃ a R', R.drop m = a :: R' ∧ clT T a ≤ 0 := by
          rcases hend with e | ⟨hlt, e⟩
          · exact .inl (by rw [e, List.drop_length])
          · exact .inr ⟨_, _, List.drop_eq_getElem_cons hlt, e⟩
        have hd : ((A ++ r :: R).drop A.length).take (A.length + 1 + m - A.length) = r :: R.take m := by
          rw [List.drop_left, show A.length + 1 + m - A.length = m + 1 by omega, List.take_succ_cons]
        have hpos : ∀ x ∈ r :: R.take m, 0 < clT T x := fun x hx => by
          rcases List.mem_cons.1 hx with rfl | hx
          · assumption
          · exact hM x hx
        obtain ⟨w, g2, q1, q2, q3⟩ := sort_run (i := A.length) (j := A.length + 1 + m) bk1 hbox fo (by omega) (by rw [List.length_append, List.length_cons]; omega) (by rw [List.length_append, List.length_cons]; omega) (by rw [hd]; exact hpos)
        have hd2 : (A ++ r :: R).drop (A.length + 1 + m) = R.drop m := by
          rw [show A.length + 1 + m = A.length + (m + 1) by omega, ← List.drop_drop, List.drop_left, List.drop_succ_cons]
        rw [hd, List.take_left, hd2] at q3
        refine ⟨w, g2, by rw [hj]; simpa using q1, q2, A ++ ord (clT T) (r :: R.take m), ?_, ?_, ?_, ?_, ?_, q3⟩
        · rw [List.length_append, ord_length, List.length_cons, List.length_take]; omega
        · rw [List.length_append, ord_length, List.length_cons, List.length_take, List.length_drop]; omega
        · rw [← ho]
          have e : A ++ r :: R = A ++ ((r :: R.take m) ++ R.drop m) := by simp
          have hc2 : ∀ {X : List Nat}, (A = [] ∨ X = [] ∨ (∃ a p', A = p' ++ [a] ∧ clT T a ≤ 0) ∨ (∃ a q', X = a :: q' ∧ clT T a ≤ 0)) := by
            rcases hb' with h | h
            · exact .inl h
            · exact .inr (.inr (.inl h))
          have hc3 : ∀ {X : List Nat}, (X = [] ∨ R.drop m = [] ∨ (∃ a p', X = p' ++ [a] ∧ clT T a ≤ 0) ∨ (∃ a q', R.drop m = a :: q' ∧ clT T a ≤ 0)) := by
            rcases hcut with h | h
            · exact .inr (.inl h)
            · exact .inr (.inr (.inr h))
          rw [e, List.append_assoc, ord_append hc2, ord_append hc3, ord_append hc2, ord_append hc3, ord_ord]
        · refine ordered_append hA (ord_ordered _) fun a b ha hb2 => ?_
          have hbp : 0 < clT T b := hpos b (ord_mem.1 (List.mem_of_head? hb2))
          rcases hb' with rfl | ⟨a', A2, rfl, ha'⟩
          · cases ha
          · rw [List.getLast?_concat] at ha
            injection ha with ha
            subst ha
            omega
        · exact .inr (hcut.imp id .inr)
      by_cases hlt : m < R.length
      · have hi2 : A.length + 1 + m < (A ++ r :: R).length := by rw [List.length_append, List.length_cons]; omega
        have g1 := fun lc => rd_map (lc := lc) fo.reads hi2
        have hget2 : (A ++ r :: R)[A.length + 1 + m] = R[m] := by
          rw [List.getElem_append_right (by omega)]
          simp only [show A.length + 1 + m - A.length = m + 1 by omega, List.getElem_cons_succ]
        rw [hget2] at g1
        have ht := take_snoc hlt
        generalize hy : R[m] = y at g1 ht
        have e3 := e1 (y : Nat)
        rw [show classI T (y : Nat) = clT T y from rfl] at e3
        unfold rnV at g1
        have hix : j.toNat = A.length + 1 + m := by omega
        (refine W_x (Aj sll (Aj hbx (Aj hix (Aj g1 e3)))) ?_; (repeat' first | apply Cj.mk | exact Nl.nl) <;> intros)
        · refine ⟨_, by omega, [(2, .pointer (some ⟨c, 0, none⟩)), (5, sl.val 1), (6, .int .i64 A.length), (7, .int .i64 (j + 1))], (by repeat' first | exact True.intro | refine And.intro rfl ?_), m + 1, j + 1, by omega, rfl, by omega, fun x hx => ?_, rfl, rfl, rfl⟩
          rw [ht] at hx
          rcases List.mem_append.1 hx with hx | hx
          · exact hM x hx
          · rw [List.mem_singleton.1 hx]; assumption
        · obtain ⟨w, g2, q1, q2, A', a1, a2, a3, a4, a5, a6⟩ := fin (.inr ⟨hlt, by rw [hy]; omega⟩)
          (refine W_x (Aj q1 q2) ?_; (repeat' first | apply Cj.mk | exact Nl.nl) <;> intros)
          exact ⟨_, by rw [List.length_cons, List.length_drop]; omega, A', R.drop m, rfl, a2, a3, a4, a5, a6, by rw [a1], rfl⟩
      · obtain ⟨w, g2, q1, q2, A', a1, a2, a3, a4, a5, a6⟩ := fin (.inl (by omega))
        (refine W_x (Aj sll (Aj hbx (Aj q1 q2))) ?_; (repeat' first | apply Cj.mk | exact Nl.nl) <;> intros)
        exact ⟨_, by rw [List.length_cons, List.length_drop]; omega, A', R.drop m, rfl, a2, a3, a4, a5, a6, by rw [a1], rfl⟩
    · refine ⟨R.length, by simp, A ++ [r], R, rfl, by rw [List.length_append, List.length_singleton]; omega, by rw [List.append_assoc]; exact ho, ?_, .inr (.inr (.inl ⟨r, A, rfl, by omega⟩)), by rw [List.append_assoc]; exact fo, by simp only [List.length_append, List.length_singleton, Int.natCast_add]; rfl, rfl⟩
      exact ordered_append hA trivial fun a b _ hb2 => by
        injection hb2 with hb2
        subst hb2
        omega
end Go.Proofs.YtblmakgjdenpfaaGreatDoor.AM
namespace Go.Proofs.YtblmakgjdenpfaaGreatDoor.AM
open Go
theorem of_house {h : AH} {S : TS} (t : TabAt h S houseT) (u : U8T h) (hg : 2 ≤ h.n) : WpC PX 8 [.agg S.vs.toArray] h fun v h' => Kp h h' ∧ ∃ k B S, v = .tuple (List.toArray [.pointer (some ⟨k, 0, none⟩), .bool true, .bool true]) ∧ BookAt h' k B S houseT ∧ h.n ≤ B ∧ h.n ≤ k :=
  (of_spec t u hg).mono fun v h' ⟨k, q⟩ => ⟨k, by rwa [if_pos house_good] at q⟩
theorem house8_spec (h : AH) : WpC PX 51 [] h fun v h' => ∃ S, v = .agg S.vs.toArray ∧ TabAt h' S houseT ∧ Kp h h' := by
  obtain ⟨_, g, e, S, rfl, t, k⟩ := house_spec h
  unfold TS.vs at e
  refine wpc_fn (px_ext rfl) (px_fn fn_guiselaw8_house) rfl ?_
  unfold LF_guiselaw8_house
  simp only [argFr]
  (refine W_x e ?_; (repeat' first | apply Cj.mk | exact Nl.nl) <;> intros)
  exact ⟨S, rfl, t, k⟩
theorem known8_a : (bs (orderB houseT [97, 204, 129, 204, 163])) = ⟨#[97, 204, 163, 204, 129]⟩ := by
  have : orderB houseT [97, 204, 129, 204, 163] = [97, 204, 163, 204, 129] := by decide +kernel
  rw [this]; rfl
theorem known8_b : (bs (orderB houseT [255])) = ⟨#[239, 191, 189]⟩ := by
  have : orderB houseT [255] = [239, 191, 189] := by decide +kernel
  rw [this]; rfl
theorem known8_spec {h : AH} (u : U8T h) (hg : 2 ≤ h.n) : WpC PX 25 [] h fun v h' => v = .bool true ∧ Kp h h' := by
  obtain ⟨_, g, e, S, rfl, t, k⟩ := house8_spec h
  obtain ⟨_, g1, e1, k1, kk, B, S1, rfl, bk, _, _⟩ := of_house t (u.kp k) (Nat.le_trans hg k.1)
  obtain ⟨_, g2, e2, rfl, k2⟩ := marksOrder_spec bk.bk ⟨#[97, 204, 129, 204, 163]⟩ (by decide)
  obtain ⟨_, g3, e3, rfl, k3⟩ := marksOrder_spec (bk.kp k2).bk ⟨#[255]⟩ (by decide)
  have q2 := known8_a
  have q3 := known8_b
  unfold TS.vs at *
  refine wpc_fn (px_ext rfl) (px_fn fn_guiselaw8_known) rfl ?_
  unfold LF_guiselaw8_known
  simp only [argFr]
  simp only [q2] at e2
  simp only [q3] at e3
  (refine W_x (Aj e (Aj e1 (Aj e2 e3))) ?_; (repeat' first | apply Cj.mk | exact Nl.nl) <;> intros)
  exact ⟨rfl, ((k.trans k1).trans k2).trans k3⟩
end Go.Proofs.YtblmakgjdenpfaaGreatDoor.AM
namespace Go.Proofs.YtblmakgjdenpfaaGreatDoor.AM
open Go
theorem good_check {T : Tab} (h : goodB T = true) : checkW T = none := by
  unfold goodB at h
  simp only [Bool.and_eq_true, Option.isNone_iff_eq_none] at h
  exact h.2
theorem good_marks {T : Tab} (h : goodB T = true) : ∀ x ∈ T.marks, runeI x.1 = true ∧ 1 ≤ x.2 ∧ x.2 ≤ 254 := by
  intro x hx
  have hf := (checkW_none (good_check h)).2.1
  unfold formsW at hf
  simp only [Option.or_eq_none_iff] at hf
  obtain ⟨i, hi, rfl⟩ := List.mem_iff_getElem.1 hx
  have := scanL_none hf.2.2.1 i hi
  split at this
  · cases this
  · rename_i h1
    split at this
    · cases this
    · exact ⟨by simpa using h1, by omega, by omega⟩
theorem class_range {T : Tab} (h : goodB T = true) (r : Int) : 0 ≤ classI T r ∧ classI T r ≤ 254 := by
  unfold classI
  cases hs : scanL T.marks fun _ x => if x.1 = r then some x.2 else none with
  | none => simp
  | some w =>
    obtain ⟨i, hi, e⟩ := scanL_some hs
    split at e
    · injection e with e
      have := good_marks h _ (List.getElem_mem hi)
      simp only [Option.getD_some]
      omega
    · cases e
theorem class_pos {T : Tab} (h : goodB T = true) {r : Int} (hr : classI T r ≠ 0) : 0 < classI T r := by
  have := class_range h r
  omega
section
variable {cl : Nat → Int}
end
end Go.Proofs.YtblmakgjdenpfaaGreatDoor.AM
namespace Go.Proofs.YtblmakgjdenpfaaGreatDoor.AM
open Go
theorem utfRunes_spec (s : ByteArray) (hs : s.size ≤ 1048576) (h : AH) : WpC PX 33 [.string s] h fun v h' => ∃ sl, v = sl.val 1 ∧ FOwn h h' 1 sl ((runesB s.data.toList).map rnV) := by
  refine wpc_fn (px_ext rfl) (px_fn fn_utf_Runes) rfl ?_
  unfold LF_utf_Runes
  simp only [argFr]
  (refine W_x trivial ?_; (repeat' first | apply Cj.mk | exact Nl.nl) <;> intros)
  refine wo_s2r (Kp.refl h) (by omega) fun sl g fo => ?_
  (refine W_x trivial ?_; (repeat' first | apply Cj.mk | exact Nl.nl) <;> intros)
  exact ⟨sl, rfl, fo⟩
def withinI (n lo hi : Int) : Int := lo + n % (hi - lo + 1)
theorem within_range {n lo hi : Int} (h : lo ≤ hi) : lo ≤ withinI n lo hi ∧ withinI n lo hi ≤ hi := by
  unfold withinI
  have h1 := Int.emod_nonneg n (show hi - lo + 1 ≠ 0 by omega)
  have h2 := Int.emod_lt_of_pos n (show 0 < hi - lo + 1 by omega)
  omega
theorem within_eq (n lo hi : Int) (h1 : lo ≤ hi) (h2 : -1000000000 ≤ lo) (h3 : hi ≤ 1000000000) (h : AH) : callO PX 30 [.int .i64 n, .int .i64 lo, .int .i64 hi] h = some (.int .i64 (withinI n lo hi), h) := by
  have e := Int.tmod_eq_emod (a := n) (b := hi - lo + 1)
  have e1 := Int.emod_nonneg n (show hi - lo + 1 ≠ 0 by omega)
  have e2 := Int.emod_lt_of_pos n (show 0 < hi - lo + 1 by omega)
  have hd : ¬ 0 ≤ n → (hi - lo + 1) ∣ n → n % (hi - lo + 1) = 0 := fun _ q => Int.emod_eq_zero_of_dvd q
  have hz : ¬ 0 ≤ n → ¬ (hi - lo + 1) ∣ n → n % (hi - lo + 1) ≠ 0 := fun _ q z => q (Int.dvd_of_emod_eq_zero z)
  have ab : ((hi - lo + 1).natAbs : Int) = hi - lo + 1 := by omega
  unfold withinI
  generalize n % (hi - lo + 1) = u at *
  have key : (n.tmod (hi - lo + 1) = u) ∨ (n.tmod (hi - lo + 1) = u - (hi - lo + 1) ∧ u ≠ 0) := by
    rw [e]
    by_cases q : 0 ≤ n
    · left; rw [if_pos (.inl q)]; omega
    · by_cases d : (hi - lo + 1) ∣ n
      · left; rw [if_pos (.inr d)]; omega
      · right; rw [if_neg (by simp only [q, d, or_self, not_false_eq_true]), ab]; exact ⟨rfl, hz q d⟩
  clear e hd hz
  have hne : hi - lo + 1 ≠ 0 := by omega
  have hrem : binA .rem (.int .i64 n) (.int .i64 (hi - lo + 1)) = some (.int .i64 (n.tmod (hi - lo + 1))) := binA_remB hne
  apply WpC.eqn
  refine wpc_fn (px_ext rfl) (px_fn fn_guisebook_Within) rfl ?_
  unfold LF_guisebook_Within
  simp only [argFr]
  (refine W_x hrem ?_; (repeat' first | apply Cj.mk | exact Nl.nl) <;> intros)
  · refine ⟨?_, rfl⟩
    congr 1
    omega
  · refine ⟨?_, rfl⟩
    congr 1
    omega
theorem few_le (s : ByteArray) (n : Nat) : (fewB s n).size ≤ n := by
  unfold fewB
  split
  · rw [ba_size, ba_extract _ _ _ (by omega), List.length_take]
    omega
  · omega
end Go.Proofs.YtblmakgjdenpfaaGreatDoor.AM
namespace Go.Proofs.YtblmakgjdenpfaaGreatDoor.AM
open Go
structure Clu where
  b : Nat
  n : Nat
  t : ByteArray
  k : Nat
  m : Nat
  r : Nat
  bd : Bool
def Clu.z : Clu := ⟨0, 0, ⟨#[]⟩, 0, 0, 0, false⟩
def Clu.vs (c : Clu) : List Value := [.int .i64 c.b, .int .i64 c.n, .string c.t, .int .i64 c.k, .int .i64 c.m, .int .i32 c.r, .bool c.bd]
def cluE (c : Clu) : List Value := [.agg c.vs.toArray]
def cluA (T : Tab) (s : ByteArray) (i : Nat) (c : Clu) : Clu :=
  let l := s.data.toList
  let r := ((spots l).getD i (0, 0)).1
  if clT T r = 0 then ⟨posn l i, i, s.extract (posn l i) (posn l (i + 1)), 1, 0, r, true⟩
  else ⟨c.b, c.n, s.extract c.b (posn l (i + 1)), c.k + 1, c.m + 1, c.r, c.bd⟩
def cluS (T : Tab) (s : ByteArray) : Nat → List Clu × Clu
  | 0 => ([], .z)
  | i + 1 =>
    let r := ((spots s.data.toList).getD i (0, 0)).1
    let p := cluS T s i
    (if clT T r = 0 ∧ 0 < p.2.k then p.1 ++ [p.2] else p.1, cluA T s i p.2)
def clusL (T : Tab) (s : ByteArray) : List Clu :=
  let p := cluS T s (spots s.data.toList).length
  if 0 < p.2.k then p.1 ++ [p.2] else p.1
theorem cluA_pos {T : Tab} {s : ByteArray} {i : Nat} {c : Clu} : 0 < (cluA T s i c).k := by
  unfold cluA
  simp only
  split
  · exact Nat.one_pos
  · exact Nat.succ_pos _
theorem cluS_pos {T : Tab} {s : ByteArray} {i : Nat} (h : 0 < i) : 0 < (cluS T s i).2.k := by
  cases i with
  | zero => omega
  | succ i => exact cluA_pos
theorem cluS_pre {T : Tab} {s : ByteArray} (i : Nat) : ∀ d, ∃ r, (cluS T s (i + d)).1 = (cluS T s i).1 ++ r
  | 0 => ⟨[], by simp⟩
  | d + 1 => by
    obtain ⟨r, h⟩ := cluS_pre i d
    show ∃ r, (cluS T s (i + d + 1)).1 = _
    simp only [cluS]
    split
    · exact ⟨r ++ [(cluS T s (i + d)).2], by rw [h, List.append_assoc]⟩
    · exact ⟨r, h⟩
theorem cluS_pre2 {T : Tab} {s : ByteArray} {i : Nat} (hi : i ≤ (spots s.data.toList).length) : ∃ r, clusL T s = (cluS T s i).1 ++ r := by
  obtain ⟨r, h⟩ := cluS_pre (T := T) (s := s) i ((spots s.data.toList).length - i)
  rw [show i + ((spots s.data.toList).length - i) = (spots s.data.toList).length by omega] at h
  unfold clusL
  simp only
  split
  · exact ⟨r ++ [(cluS T s (spots s.data.toList).length).2], by rw [h, List.append_assoc]⟩
  · exact ⟨r, h⟩
theorem cluS_out {T : Tab} {s : ByteArray} {i : Nat} (hi : i < (spots s.data.toList).length) (hr : clT T ((spots s.data.toList)[i]).1 = 0) (hk : 0 < (cluS T s i).2.k) :
    (cluS T s (i + 1)).1 = (cluS T s i).1 ++ [(cluS T s i).2] ∧ ∃ h : (cluS T s i).1.length < (clusL T s).length, (clusL T s)[(cluS T s i).1.length] = (cluS T s i).2 := by
  have h1 : (cluS T s (i + 1)).1 = (cluS T s i).1 ++ [(cluS T s i).2] := by
    have : ((spots s.data.toList).getD i (0, 0)).1 = ((spots s.data.toList)[i]).1 := by simp [List.getD_eq_getElem?_getD, List.getElem?_eq_getElem hi]
    simp only [cluS, this]
    rw [if_pos ⟨hr, hk⟩]
  refine ⟨h1, ?_⟩
  obtain ⟨r, e⟩ := cluS_pre2 (T := T) (s := s) (i := i + 1) (by omega)
  rw [h1, List.append_assoc] at e
  exact ⟨by rw [e]; simp, by simp [e]⟩
theorem cluS_stay {T : Tab} {s : ByteArray} {i : Nat} (hi : i < (spots s.data.toList).length) (hr : ¬ (clT T ((spots s.data.toList)[i]).1 = 0 ∧ 0 < (cluS T s i).2.k)) : (cluS T s (i + 1)).1 = (cluS T s i).1 := by
  have : ((spots s.data.toList).getD i (0, 0)).1 = ((spots s.data.toList)[i]).1 := by simp [List.getD_eq_getElem?_getD, List.getElem?_eq_getElem hi]
  simp only [cluS, this]
  rw [if_neg hr]
theorem cluS_open {T : Tab} {s : ByteArray} {i : Nat} (hi : i < (spots s.data.toList).length) : (cluS T s (i + 1)).2 =
    if clT T ((spots s.data.toList)[i]).1 = 0 then ⟨posn s.data.toList i, i, s.extract (posn s.data.toList i) (posn s.data.toList (i + 1)), 1, 0, ((spots s.data.toList)[i]).1, true⟩
    else ⟨(cluS T s i).2.b, (cluS T s i).2.n, s.extract (cluS T s i).2.b (posn s.data.toList (i + 1)), (cluS T s i).2.k + 1, (cluS T s i).2.m + 1, (cluS T s i).2.r, (cluS T s i).2.bd⟩ := by
  have : ((spots s.data.toList).getD i (0, 0)).1 = ((spots s.data.toList)[i]).1 := by simp [List.getD_eq_getElem?_getD, List.getElem?_eq_getElem hi]
  simp only [cluS, cluA, this]
theorem cluS_le {T : Tab} {s : ByteArray} : ∀ i, i ≤ (spots s.data.toList).length → (cluS T s i).2.b ≤ posn s.data.toList i ∧ (cluS T s i).2.k ≤ i ∧ (cluS T s i).2.m ≤ i ∧ (cluS T s i).2.n ≤ i
  | 0, _ => ⟨by simp [cluS, Clu.z], by simp [cluS, Clu.z], by simp [cluS, Clu.z], by simp [cluS, Clu.z]⟩
  | i + 1, h => by
    have ih := cluS_le (T := T) (s := s) i (by omega)
    have hp := posn_succ (l := s.data.toList) (i := i) (by omega)
    rw [cluS_open (by omega)]
    split
    · exact ⟨by simp only; omega, by simp only; omega, by simp only; omega, by simp only; omega⟩
    · exact ⟨by simp only; omega, by simp only; omega, by simp only; omega, by simp only; omega⟩
theorem clusL_end {T : Tab} {s : ByteArray} : (spots s.data.toList = [] ∧ clusL T s = []) ∨ (0 < (cluS T s (spots s.data.toList).length).2.k ∧ clusL T s = (cluS T s (spots s.data.toList).length).1 ++ [(cluS T s (spots s.data.toList).length).2]) := by
  unfold clusL
  rcases Nat.eq_zero_or_pos (spots s.data.toList).length with h | h
  · left
    have := List.eq_nil_of_length_eq_zero h
    refine ⟨this, ?_⟩
    rw [h]
    simp [cluS, Clu.z]
  · right
    have := cluS_pos (T := T) (s := s) h
    exact ⟨this, if_pos this⟩
end Go.Proofs.YtblmakgjdenpfaaGreatDoor.AM
namespace Go.Proofs.YtblmakgjdenpfaaGreatDoor.AM
open Go
def LF_utf_Spots : LFunc :=
  .mk 1 [.tmp 2] (.seq (R 1 [1] [.tmp 1 (xbh 1 (.sl 0)), .set 2 (.cv .nilFunc)]) (.seq (R 3 [2] [.set 2 (.op (.p (.mkfn (.func 76) [] [.s 0])) (.sl 1))]) .ret))
theorem fn_utf_Spots : (autoPrg Tryz.prog).fn 43 = some LF_utf_Spots := by kernel_rfl
def LF_utf_Spots_1 : LFunc :=
  .mk 2 [] (.seq (R 6 [0, 1, 7] [.tmp 7 (.op (.e (.rngS 7 (.s 0))) (xld (.sl 1)))]) (.block 0 (.loop (.seq (R 8 [0, 1, 7, 8, 9] [.tmp 8 (.op (.e (.nxtS (.s 0))) (.sl 7)), .tmp 9
  (xex 0 (.sl 8))]) (.seq (.cond (.s 9) .skip (.exit 0)) (.block 1 (.seq (R 10 [0, 1, 3, 4, 7] [.tmp 10 (xex 1 (.sl 8)), .tmp 11 (xex 2 (.sl 8)), .set 3 (.sl 10), .set 4 (.sl 11)])
  (.seq (R 12 [0, 1, 3, 4, 5, 7] [.set 5 (xc1 77 (.va 4))]) (.seq (.seq (R 14 [0, 1, 3, 4, 5, 7, 24] [.tmp 24 (.and (xb .eql (.va 4) (xr 65533)) (xu .not (xc2
  78 (.op (.p (.slS (.s 0) (some (.s 1)) none)) (.cons (xld (.sl 1)) (.va 3))) (.op (.p (.i2s (.s 0))) (.va 4)))))]) (.cond (.s 24) (R 999 [0, 1, 3, 4, 5, 7]
  [.set 5 (xi 1)]) .skip)) (.seq (R 25 [0, 1, 7, 31] [.tmp 31 (xu .not (xv2 (.va 0) (.va 3) (xc2 79 (.va 4) (.va 5))))]) (.cond (.s 31) .ret .skip)))))))))))
theorem fn_utf_Spots_1 : (autoPrg Tryz.prog).fn 76 = some LF_utf_Spots_1 := by kernel_rfl
def LF_utf8_RuneLen : LFunc :=
  .mk 1 [.tmp 2] (.seq (R 999 [0] [.set 2 (xi 0)]) (.seq (.block 0 (.seq (R 4 [0, 3] [.set 3 (xb .lss (.va 0) (xr 0))]) (.cond (.s 3) (.seq (R 999 [2] [.set 2 (xi (-1))]) .ret)
  (.seq (R 7 [0, 6] [.set 6 (xb .leq (.va 0) (xr 127))]) (.cond (.s 6) (.seq (R 999 [2] [.set 2 (xi 1)]) .ret) (.seq (R 10 [0, 9] [.set 9 (xb .leq (.va 0) (xr 2047))]) (.cond (.s 9)
  (.seq (R 999 [2] [.set 2 (xi 2)]) .ret) (.seq (R 13 [0, 12] [.set 12 (.and (xb .leq (xr 55296) (.va 0)) (xb .leq (.va 0) (xr 57343)))]) (.cond (.s 12) (.seq (R 999 [2] [.set 2 (xi
  (-1))]) .ret) (.seq (R 20 [0, 19] [.set 19 (xb .leq (.va 0) (xr 65535))]) (.cond (.s 19) (.seq (R 999 [2] [.set 2 (xi 3)]) .ret) (.seq (R 23 [22] [.set 22 (xb .leq (.va 0) (xr
  1114111))]) (.cond (.s 22) (.seq (R 999 [2] [.set 2 (xi 4)]) .ret) .skip))))))))))))) (.seq (R 999 [2] [.set 2 (xi (-1))]) .ret)))
theorem fn_utf8_RuneLen : (autoPrg Tryz.prog).fn 77 = some LF_utf8_RuneLen := by kernel_rfl
def LF_strings_HasPrefix : LFunc :=
  .mk 2 [.tmp 4] (.seq (R 999 [0, 1] [.set 4 (.cv (.bool false))]) (.seq (R 5 [4] [.set 4 (xc2 121 (.va 0) (.va 1))]) .ret))
theorem fn_strings_HasPrefix : (autoPrg Tryz.prog).fn 78 = some LF_strings_HasPrefix := by kernel_rfl
def LF_internal_stringslite_HasPrefix : LFunc :=
  .mk 2 [.tmp 4] (.seq (R 999 [0, 1] [.set 4 (.cv (.bool false))]) (.seq (R 5 [4] [.set 4 (.and (xb .geq (xsl (.va 0)) (xsl (.va 1))) (xb .eql (.op (.p (.slS (.s 0) none (some (.s
  1)))) (.cons (.va 0) (xsl (.va 1)))) (.va 1)))]) .ret))
theorem fn_internal_stringslite_HasPrefix : (autoPrg Tryz.prog).fn 121 = some LF_internal_stringslite_HasPrefix := by kernel_rfl
def LF_utf_spot : LFunc :=
  .mk 2 [.cell 4 (some 3)] (.seq (R 4 [0, 1, 4] [.tmp 4 (xnl 4 [.int .i32 0, .int .i64 0, .bool false])]) (.seq (R 5 [4] [.run (xst 3 (.sl 4) (.op (.p (.build [.int .i32 0, .int
  .i64 0, .bool false] [(0, 1, .s 0), (1, 1, .s 1), (2, 1, .s 2)])) (.cons (.va 0) (.cons (.va 1) (.and (xb .eql (.va 0) (xr 65533)) (xb .eql (.va 1) (xi 1)))))))]) .ret))
theorem fn_utf_spot : (autoPrg Tryz.prog).fn 79 = some LF_utf_spot := by kernel_rfl
end Go.Proofs.YtblmakgjdenpfaaGreatDoor.AM
namespace Go.Proofs.YtblmakgjdenpfaaGreatDoor.AM
open Go
theorem runeLen_eq (c : Nat) (hc : RuneN c) (h : AH) : callO PX 77 [.int .i32 c] h = some (.int .i64 (encN c).length, h) := by
  have hle : c ≤ 0x10FFFF := by unfold RuneN at hc; omega
  have hl : (encN c).length = if c < 0x80 then 1 else if c < 0x800 then 2 else if c < 0x10000 then 3 else 4 := by
    unfold encN
    split
    · rfl
    · split
      · rfl
      · split <;> rfl
  unfold RuneN at hc
  apply WpC.eqn
  refine wpc_fn (px_ext rfl) (px_fn fn_utf8_RuneLen) rfl ?_
  unfold LF_utf8_RuneLen
  simp only [argFr]
  (refine W_x trivial ?_; (repeat' first | apply Cj.mk | exact Nl.nl) <;> intros)
  all_goals
    refine ⟨?_, rfl⟩
    rw [hl]
    congr 1
    repeat' split
    all_goals first | rfl | omega
theorem hasPrefix0_eq (a b : ByteArray) (h : AH) : callO PX 121 [.string a, .string b] h = some (.bool (decide (b.size ≤ a.size ∧ a.extract 0 b.size = b)), h) := by
  apply WpC.eqn
  refine wpc_fn (px_ext rfl) (px_fn fn_internal_stringslite_HasPrefix) rfl ?_
  unfold LF_internal_stringslite_HasPrefix
  simp only [argFr]
  (refine W_x trivial ?_; (repeat' first | apply Cj.mk | exact Nl.nl) <;> intros)
  all_goals (refine ⟨?_, rfl⟩; congr 1; symm)
  · rename_i g1 g2; exact decide_eq_true ⟨by omega, g2⟩
  · rename_i g1 g2; exact decide_eq_false (fun h => g2 h.2)
  · rename_i g1; exact decide_eq_false (fun h => g1 (by omega))
theorem hasPrefix_eq (a b : ByteArray) (h : AH) : callO PX 78 [.string a, .string b] h = some (.bool (decide (b.size ≤ a.size ∧ a.extract 0 b.size = b)), h) := by
  have e := hasPrefix0_eq a b
  apply WpC.eqn
  refine wpc_fn (px_ext rfl) (px_fn fn_strings_HasPrefix) rfl ?_
  unfold LF_strings_HasPrefix
  simp only [argFr]
  (refine W_x e ?_; (repeat' first | apply Cj.mk | exact Nl.nl) <;> intros)
  all_goals (refine ⟨?_, rfl⟩; congr 1; symm; first | exact decide_eq_true (by assumption) | exact decide_eq_false (by assumption))
theorem spot_eq (r n : Nat) (h : AH) : callO PX 79 [.int .i32 r, .int .i64 n] h = some (spotV (r, n), h) := by
  apply WpC.eqn
  refine wpc_fn (px_ext rfl) (px_fn fn_utf_spot) rfl ?_
  unfold LF_utf_spot
  simp only [argFr]
  (refine W_x trivial ?_; (repeat' first | apply Cj.mk | exact Nl.nl) <;> intros)
  all_goals
    refine ⟨?_, rfl⟩
    have hb : ∀ t : Bool, (t = true ↔ (r = 65533 ∧ n = 1)) → isBad2 (r, n) = t := fun t ht => by
      unfold isBad2
      rw [Bool.eq_iff_iff, ht]
      simp only [Bool.and_eq_true, beq_iff_eq]
    unfold spotV
    first
    | (have e : r = 65533 ∧ n = 1 := by omega
       rw [hb true (iff_of_true rfl e)]
       done)
    | (have e : ¬ (r = 65533 ∧ n = 1) := by omega
       rw [hb false (iff_of_false (by decide) e)]
       done)
theorem spotsMk_eq (s : ByteArray) (h : AH) : callO PX 43 [.string s] h = some (.func (.func 76) #[] #[.pointer (some ⟨h.n, 0, none⟩)], h.push (.cells false [.string s])) := by
  apply WpC.eqn
  refine wpc_fn (px_ext rfl) (px_fn fn_utf_Spots) rfl ?_
  unfold LF_utf_Spots
  simp only [argFr]
  (refine W_x trivial ?_; (repeat' first | apply Cj.mk | exact Nl.nl) <;> intros)
  exact ⟨rfl, rfl⟩
theorem spots_seq (s : ByteArray) (bx : Nat) (hsz : s.size ≤ 140737488351232) :
    SeqP PX (.func (.func 76) #[] #[.pointer (some ⟨bx, 0, none⟩)]) (spotsL s.data.toList) spotE (fun h => h.get bx = some (.cells false [.string s])) := by
  intro yv I E h hyv hvs hstep hD h0
  have d1 : h.get bx = some (.cells false [.string s]) := hD _ _ h0
  have hset := hyv.set
  have hlc1 := hyv.lc1
  refine wpV_fn ?_
  refine wpc_fn (px_ext rfl) (px_fn fn_utf_Spots_1) rfl ?_
  unfold LF_utf_Spots_1
  simp only [argFr, List.nil_append, List.cons_append]
  obtain ⟨l, hl⟩ : ∃ l, l = s.data.toList := ⟨_, rfl⟩
  rw [← hl] at hstep ⊢
  have hll : l.length = s.size := by rw [hl]; rfl
  (refine W_x (Aj d1 (Aj hset (Aj hlc1 @ev_rngS))) ?_; (repeat' first | apply Cj.mk | exact Nl.nl) <;> intros)
  refine wp_spotsS (fun _ _ => [(0, yv), (1, .pointer (some ⟨bx, 0, none⟩)), (7, .pointer (some ⟨14, 0, some 1⟩))]) (fun n _ => [(14, .siter s n)]) s l (fun i _ h1 => I i h1) (fun _ _ => (none : Option Unit)) () hl (by repeat' first | exact True.intro | refine And.intro rfl ?_) (fun _ _ => rfl) rfl h0 (fun i hil _ h1 hI hit => ?_) fun _ h1 hI fin => ?_
  · have d1 : h1.get bx = some (.cells false [.string s]) := hD _ _ hI
    obtain ⟨p1, p2, p3⟩ := posn_lt hil
    have hst := hstep i (by rw [spotsL_len]; exact hil) h1 hI
    rw [spotsL_get (by rw [spotsL_len]; exact hil)] at hst
    have hdc := dec_cases p3
    have hbad : (spots l)[i].1 = 65533 → ((encN 65533).length ≤ (l.drop (posn l i)).length ∧ (l.drop (posn l i)).take (encN 65533).length = encN 65533 ↔ (spots l)[i].2 = 3) := fun e => by
      rcases hdc with ⟨c, rest, hc, e1, e2⟩ | ⟨e1, e2⟩
      · rw [p2] at e2
        rw [e2] at e
        simp only at e
        subst e
        rw [e2, e1, encN_bad, List.take_left' encN_bad]
        simp [encN_bad]
      · rw [p2] at e1
        rw [e1, encN_bad]
        constructor
        · rintro ⟨h1, h2⟩
          exfalso
          refine e2 65533 ((l.drop (posn l i)).drop 3) rune_bad ?_
          rw [← h2, List.take_append_drop]
        · intro h; simp at h
    have hgood : (spots l)[i].1 ≠ 65533 → (spots l)[i].2 = (encN (spots l)[i].1).length := fun e => by
      rcases hdc with ⟨c, rest, hc, e1, e2⟩ | ⟨e1, e2⟩
      · rw [p2] at e2; rw [e2]
      · rw [p2] at e1; rw [e1] at e; exact absurd rfl e
    have hw3 : (spots l)[i].1 = 65533 → (spots l)[i].2 = 3 ∨ (spots l)[i].2 = 1 := fun e => by
      rcases hdc with ⟨c, rest, hc, e1, e2⟩ | ⟨e1, e2⟩
      · rw [p2] at e2
        rw [e2] at e
        simp only at e
        subst e
        rw [e2]; exact .inl encN_bad
      · rw [p2] at e1; rw [e1]; exact .inr rfl
    have hru : RuneN (spots l)[i].1 := runesB_rune l _ (List.mem_map.2 ⟨_, List.getElem_mem hil, rfl⟩)
    (refine W_x (Aj hset hlc1) ?_; (repeat' first | apply Cj.mk | exact Nl.nl) <;> intros)
    refine wo_next hl rfl hil ?_
    generalize (spots l)[i] = x at hst hbad hgood hw3 hru
    have hcast : ((Utf8.encode ((65533 : Nat) : Int))).data.toList = encN 65533 := encode_eq rune_bad
    have hpre : x.1 = 65533 → (decide ((Utf8.encode (x.1 : Int)).size ≤ (s.extract (posn l i) s.size).size ∧ (s.extract (posn l i) s.size).extract 0 (Utf8.encode (x.1 : Int)).size = Utf8.encode (x.1 : Int))) = decide (x.2 = 3) := fun e => by
      refine decide_eq_decide.2 ?_
      rw [← hbad e, e]
      have z1 : (Utf8.encode ((65533 : Nat) : Int)).size = (encN 65533).length := by rw [ba_size, hcast]
      have z2 : (s.extract (posn l i) s.size).data.toList = l.drop (posn l i) := by
        rw [ba_extract _ _ _ (Nat.le_refl _), ← hl, ← hll, ← List.length_drop, List.take_length]
      have z3 : (s.extract (posn l i) s.size).size = (l.drop (posn l i)).length := by rw [ba_size, z2]
      rw [z1, z3]
      constructor
      · rintro ⟨a, b⟩
        refine ⟨a, ?_⟩
        have : ((s.extract (posn l i) s.size).extract 0 (encN 65533).length).data.toList = (Utf8.encode ((65533 : Nat) : Int)).data.toList := by rw [b]
        rw [ba_extract _ _ _ (by omega), z2, hcast] at this
        simpa using this
      · rintro ⟨a, b⟩
        refine ⟨a, ba_ext ?_⟩
        rw [ba_extract _ _ _ (by omega), z2, hcast]
        simpa using b
    have el := runeLen_eq x.1 hru
    have es := fun n => spot_eq x.1 n
    by_cases e : x.1 = 65533
    · have hpre := hpre e
      have hw4 := hw3 e
      obtain ⟨c, w⟩ := x
      simp only at e hpre hw4 hst
      have hci : (c : Int) = 65533 := by omega
      have el2 : ∀ h, callO PX 77 [.int .i32 c] h = some (.int .i64 3, h) := fun h => by
        have := el h
        simp only at this
        rw [this, e, encN_bad]
        rfl
      have eh2 : ∀ h, callO PX 78 [.string (s.extract (posn l i) s.size), .string (Utf8.encode c)] h = some (.bool (decide (w = 3)), h) := fun h => by
        have := hasPrefix_eq (s.extract (posn l i) s.size) (Utf8.encode (c : Int)) h
        rw [hpre] at this
        exact this
      have es2 : ∀ h, callO PX 79 [.int .i32 c, .int .i64 3] h = some (spotV (c, 3), h) := fun h => spot_eq c 3 h
      have es3 : ∀ h, callO PX 79 [.int .i32 c, .int .i64 1] h = some (spotV (c, 1), h) := fun h => spot_eq c 1 h
      have hpl : ((posn l i : Nat) : Int) ≤ (s.size : Int) := by omega
      rcases hw4 with rfl | rfl
      all_goals
        simp only [decide_true, show decide (1 = 3) = false from rfl] at eh2
        (refine W_x (Aj hset (Aj hlc1 (Aj d1 (Aj el2 (Aj eh2 (Aj es2 es3)))))) ?_; (repeat' first | apply Cj.mk | exact Nl.nl) <;> intros)
        refine wo_callV (fv := yv) rfl rfl rfl ?_
        refine hst.mono ?_
        rintro v h2 hor
        rcases hor with ⟨rfl, hI2⟩ | ⟨rfl, hE⟩
        · (refine W_x (Aj hset hlc1) ?_; (repeat' first | apply Cj.mk | exact Nl.nl) <;> intros)
          exact ⟨rfl, (), (by repeat' first | exact True.intro | refine And.intro rfl ?_), rfl, hI2⟩
        · (refine W_x (Aj hset hlc1) ?_; (repeat' first | apply Cj.mk | exact Nl.nl) <;> intros)
          exact .inr hE
    · have hgd := hgood e
      rw [← hgd] at el
      have es2 := es x.2
      have hne : ¬ (x.1 : Int) = 65533 := by omega
      (refine W_x (Aj hset (Aj hlc1 (Aj el es2))) ?_; (repeat' first | apply Cj.mk | exact Nl.nl) <;> intros)
      refine wo_callV (fv := yv) rfl rfl rfl ?_
      refine hst.mono ?_
      rintro v h2 hor
      rcases hor with ⟨rfl, hI2⟩ | ⟨rfl, hE⟩
      · (refine W_x (Aj hset hlc1) ?_; (repeat' first | apply Cj.mk | exact Nl.nl) <;> intros)
        exact ⟨rfl, (), (by repeat' first | exact True.intro | refine And.intro rfl ?_), rfl, hI2⟩
      · (refine W_x (Aj hset hlc1) ?_; (repeat' first | apply Cj.mk | exact Nl.nl) <;> intros)
        exact .inr hE
  · (refine W_x (Aj hset hlc1) ?_; (repeat' first | apply Cj.mk | exact Nl.nl) <;> intros)
    refine wo_nextE hl rfl ?_
    (refine W_x (Aj hset hlc1) ?_; (repeat' first | apply Cj.mk | exact Nl.nl) <;> intros)
    exact .inl (by rw [spotsL_len]; exact hI)
end Go.Proofs.YtblmakgjdenpfaaGreatDoor.AM
namespace Go.Proofs.YtblmakgjdenpfaaGreatDoor.AM
open Go
def LF_marks_Clusters : LFunc :=
  .mk 2 [.tmp 4] (.seq (R 2 [2, 3] [.tmp 2 (xbh 1 (.sl 0)), .tmp 3 (xbh 1 (.sl 1)), .set 4 (.cv .nilFunc)]) (.seq (R 5 [4] [.set 4 (.op (.p (.mkfn (.func 53) []
  [.s 0, .s 1])) (.cons (.sl 2) (.sl 3)))]) .ret))
theorem fn_marks_Clusters : (autoPrg Tryz.prog).fn 28 = some LF_marks_Clusters := by kernel_rfl
def LF_marks_Clusters_1 : LFunc :=
  .mk 3 [] (.seq (R 3 [1, 2, 3] [.tmp 3 (xbh 1 (.sl 0))]) (.seq (.seq (R 8 [1, 2, 3, 9] [.tmp 9 (.op (.p (.eqk false .ptr (.s 0) (.s 1))) (.cons (xld (.sl 1)) (.cv (.pointer
  none))))]) (.cond (.s 9) .ret .skip)) (.seq (R 4 [1, 2, 3, 4] [.tmp 4 (xnh [.int .i64 0, .int .i64 0, .string ⟨#[]⟩, .int .i64 0, .int .i64 0, .int .i32 0, .bool false])]) (.seq
  (R 5 [1, 2, 3, 4, 5] [.tmp 5 (xnh [.int .i64 0]), .run (xst 1 (.sl 5) (xi 0))]) (.seq (.seq (R 10 [1, 2, 3, 4, 5, 11] [.tmp 11 (xc1 43 (xld (.sl 2)))]) (.block 0
  (.rangeF (.s 11) [12, 13] (.seq (R 6 [1, 2, 3, 4, 5, 6, 13] [.tmp 6 (.va 12)]) (R 7 [1, 2, 3, 4, 5, 6, 7] [.tmp 7 (xnl 7 [.int .i32 0, .int .i64 0, .bool false]), .run (xst 3 (.sl
  7) (.sl 13))])) (.block 1 (.seq (.seq (R 14 [2, 3, 4, 5, 6, 7, 18] [.tmp 18 (xb .eql (xc2 35 (xld (.sl 1)) (xld (xfa 0 (.sl 7)))) (xi 0))]) (.cond (.s 18)
  (.seq (.seq (R 19 [2, 4, 5, 6, 7, 27] [.tmp 27 (.and (xb .gtr (xld (xfa 3 (.sl 4))) (xi 0)) (xu .not (xv1 (xld (.sl 3)) (xln 7 (.sl 4)))))]) (.cond (.s 27) .ret .skip)) (R 28 [2,
  4, 5, 6, 7] [.run (xst 7 (.sl 4) (.op (.p (.build [.int .i64 0, .int .i64 0, .string ⟨#[]⟩, .int .i64 0, .int .i64 0, .int .i32 0, .bool false] [(0, 2, .s 0), (5, 1, .s 1), (6, 1,
  .s 2)])) (.cons (.op (.p (.build [.int .i64 0, .int .i64 0] [(0, 1, .s 0), (1, 1, .s 1)])) (.cons (.va 6) (xld (.sl 5)))) (.cons (xld (xfa 0 (.sl 7))) (.cv (.bool true))))))])) (R
  34 [2, 4, 5, 6, 7] [.tmp 36 (xb .add (xld (xfa 4 (.sl 4))) (xi 1)), .tmp 37 (xfa 4 (.sl 4)), .run (xst 1 (.sl 37) (.sl 36))]))) (.seq (R 38 [2, 4, 5, 6, 7] [.tmp 40 (xb .add (xld
  (xfa 3 (.sl 4))) (xi 1)), .tmp 41 (xfa 3 (.sl 4)), .run (xst 1 (.sl 41) (.sl 40))]) (.seq (R 42 [5] [.tmp 50 (.op (.p (.slS (.s 0) (some (.s 1)) (some (.s 2)))) (.cons (xld (.sl
  2)) (.cons (xld (xfa 0 (xfa 0 (.sl 4)))) (xb .add (.va 6) (xld (xfa 1 (.sl 7))))))), .tmp 51 (xfa 2 (.sl 4)), .run (xst 1 (.sl 51) (.sl 50))]) (R 52 [] [.run (xst 1 (.sl 5) (xb
  .add (xld (.sl 5)) (xi 1)))])))))))) (.seq (R 54 [3, 4, 56] [.tmp 56 (xb .gtr (xld (xfa 3 (.sl 4))) (xi 0))]) (.cond (.s 56) (R 57 [] [.tmp 59 (xv1 (xld (.sl 3)) (xln 7 (.sl
  4)))]) .skip)))))))
theorem fn_marks_Clusters_1 : (autoPrg Tryz.prog).fn 53 = some LF_marks_Clusters_1 := by kernel_rfl
end Go.Proofs.YtblmakgjdenpfaaGreatDoor.AM
namespace Go.Proofs.YtblmakgjdenpfaaGreatDoor.AM
open Go
structure CluD (p2 p3 k B : Nat) (s6 : Sl) (T : Tab) (s : ByteArray) (h : AH) : Prop where
  a : h.get p2 = some (.cells false [.pointer (some ⟨k, 0, none⟩)])
  b : h.get p3 = some (.cells false [.string s])
  bk : BkAt h k B s6 T
set_option maxHeartbeats 2000000 in
theorem clusters_seq {p2 p3 k B : Nat} {s6 : Sl} {T : Tab} (gd : goodB T = true) (s : ByteArray) (hs : s.size ≤ 1048576) :
    Seq PX (.func (.func 53) #[] #[.pointer (some ⟨p2, 0, none⟩), .pointer (some ⟨p3, 0, none⟩)]) (clusL T s) cluE (CluD p2 p3 k B s6 T s) := by
  intro yv I E h hyv hvs cons hD h0
  obtain ⟨d1, d2, d3⟩ := hD _ _ _ h0
  have hl1 := AH.get_lt d1
  have hl2 := AH.get_lt d2
  have hset := hyv.set
  have hlc1 := hyv.lc1
  have hvc := hyv.vc
  have hck := hyv.cell
  have hz : s.data.toList.length = s.size := rfl
  have hn := spots_len s.data.toList
  have e1 := fun h => spotsMk_eq s h
  refine wpV_fn ?_
  refine wpc_fn (px_ext rfl) (px_fn fn_marks_Clusters_1) rfl ?_
  unfold LF_marks_Clusters_1
  simp only [argFr, List.nil_append, List.cons_append]
  (refine W_x (Aj hset (Aj hlc1 (Aj hvc (Aj hck (Aj d1 (Aj d2 e1)))))) ?_; (repeat' first | apply Cj.mk | exact Nl.nl) <;> intros)
  simp only [Nat.add_assoc, Nat.reduceAdd]
  obtain ⟨H0, hH0⟩ : ∃ H0, H0 = (((((h.push (.cells false [yv])).push (.cells false [.int .i64 0, .int .i64 0, .string ⟨#[]⟩, .int .i64 0, .int .i64 0, .int .i32 0, .bool false])).push (.cells false [.int .i64 0])).set (h.n + 2) (.cells false [.int .i64 0])).push (.cells false [.string s])) := ⟨_, rfl⟩
  rw [← hH0]
  have n0 : H0.n = h.n + 4 := by rw [hH0]; simp only [AH.push_n, AH.set_n]
  have a0 : H0.get h.n = some (.cells false [yv]) := by rw [hH0]; simp (disch := first | omega | (simp only [AH.nn_push, AH.nn_set, AH.nn_kill]; omega) | (simp only [AH.nn_push, AH.nn_set, AH.nn_kill]; done) | fail) only [AH.get_push_eq, AH.get_push_ne, AH.get_set_eq, AH.get_set_ne]
  have a1 : H0.get (h.n + 1) = some (.cells false Clu.z.vs) := by rw [hH0]; simp (disch := first | omega | (simp only [AH.nn_push, AH.nn_set, AH.nn_kill]; omega) | (simp only [AH.nn_push, AH.nn_set, AH.nn_kill]; done) | fail) only [AH.get_push_eq, AH.get_push_ne, AH.get_set_eq, AH.get_set_ne]; rfl
  have a2 : H0.get (h.n + 2) = some (.cells false [.int .i64 0]) := by rw [hH0]; simp (disch := first | omega | (simp only [AH.nn_push, AH.nn_set, AH.nn_kill]; omega) | (simp only [AH.nn_push, AH.nn_set, AH.nn_kill]; done) | fail) only [AH.get_push_eq, AH.get_push_ne, AH.get_set_eq, AH.get_set_ne]
  have a3 : H0.get (h.n + 3) = some (.cells false [.string s]) := by rw [hH0]; simp (disch := first | omega | (simp only [AH.nn_push, AH.nn_set, AH.nn_kill]; omega) | (simp only [AH.nn_push, AH.nn_set, AH.nn_kill]; done) | fail) only [AH.get_push_eq, AH.get_push_ne, AH.get_set_eq, AH.get_set_ne]
  have ak : Kp h H0 := ⟨by omega, fun b hb => by rw [hH0]; simp (disch := first | omega | (simp only [AH.nn_push, AH.nn_set, AH.nn_kill]; omega) | (simp only [AH.nn_push, AH.nn_set, AH.nn_kill]; done) | fail) only [AH.get_push_eq, AH.get_push_ne, AH.get_set_eq, AH.get_set_ne]⟩
  clear hH0
  have hfr : ∀ i h1 h2, I i (fun b => h.n ≤ b ∧ b < h.n + 5) h1 → h.n + 5 ≤ h1.n → h1.n ≤ h2.n → (∀ b, b < h1.n → ¬ (h.n ≤ b ∧ b < h.n + 5) → h2.get b = h1.get b) → I i (fun b => h.n ≤ b ∧ b < h.n + 5) h2 := fun i h1 h2 hi h5 hn hk =>
    cons.frI _ _ _ _ _ hi ⟨hn, hk⟩ fun b hb => ⟨by omega, .inl hb⟩
  have hfrE : ∀ h1 h2, E (fun b => h.n ≤ b ∧ b < h.n + 5) h1 → h.n + 5 ≤ h1.n → h1.n ≤ h2.n → (∀ b, b < h1.n → ¬ (h.n ≤ b ∧ b < h.n + 5) → h2.get b = h1.get b) → E (fun b => h.n ≤ b ∧ b < h.n + 5) h2 := fun h1 h2 hi h5 hn hk =>
    cons.frE _ _ _ _ hi ⟨hn, hk⟩ fun b hb => ⟨by omega, .inl hb⟩
  refine wp_rangeP (xs := spotsL s.data.toList) (enc := spotE) (D := fun h1 => h1.get (h.n + 3) = some (.cells false [.string s])) rfl (spots_seq s (h.n + 3) (by omega)) (fun _ => rfl)
    (fun i h1 => I (cluS T s i).1.length (fun b => h.n ≤ b ∧ b < h.n + 5) h1 ∧ h.n + 5 ≤ h1.n ∧ h1.get h.n = some (.cells false [yv]) ∧ h1.get (h.n + 1) = some (.cells false (cluS T s i).2.vs) ∧ h1.get (h.n + 2) = some (.cells false [.int .i64 i]) ∧ h1.get (h.n + 3) = some (.cells false [.string s]))
    (fun ex h1 => ex = .ret ∧ E (fun b => h.n ≤ b ∧ b < h.n + 5) h1 ∧ h.n + 5 ≤ h1.n)
    (fun y => [(1, .pointer (some ⟨p2, 0, none⟩)), (2, .pointer (some ⟨p3, 0, none⟩)), (3, .pointer (some ⟨h.n, 0, none⟩)), (4, .pointer (some ⟨h.n + 1, 0, none⟩)), (5, .pointer (some ⟨h.n + 2, 0, none⟩)), (6, .int .i64 y.1), (7, .pointer (some ⟨14, 0, some 1⟩))])
    (fun y => [(14, .cells false [.int .i32 y.2.1, .int .i64 y.2.2, .bool (isBad2 y.2)])]) ?_ ?_ ?_ ?_ ?_ ?_ ?_ ?_
  · rw [n0]
    rintro i h1 h2 ⟨f0, fn, f1, f2, f3, f4⟩ k
    exact ⟨hfr _ _ _ f0 fn (by rw [k.n]; omega) fun b hb hn => k.get b (by omega), by rw [k.n]; exact fn, by rw [k.get _ (by omega)]; exact f1, by rw [k.get _ (by omega)]; exact f2, by rw [k.get _ (by omega)]; exact f3, by rw [k.get _ (by omega)]; exact f4⟩
  · rw [n0]
    rintro ex h1 h2 ⟨rfl, f0, fn⟩ k
    exact ⟨rfl, hfrE _ _ f0 fn (by rw [k.n]; omega) fun b hb hn => k.get b (by omega), by rw [k.n]; exact fn⟩
  · exact fun i h1 f => f.2.2.2.2.2
  · intro y h1
    unfold spotE spotV
    simp only [List.zip_cons_cons, List.zip_nil_right, List.reverse_cons, List.reverse_nil, List.nil_append, List.cons_append, okFr_cons, okFr_nil, okV_eq, isLoc_ptr, isLoc_func, Bool.not_false, if_true]
    (refine W_x trivial ?_; (repeat' first | apply Cj.mk | exact Nl.nl) <;> intros)
    exact ⟨rfl, rfl, rfl, rfl⟩
  · intro o
    have k : ∀ b, b < h.n + 4 → (H0.push o).get b = H0.get b := fun b hb => AH.get_push_ne _ (by omega)
    exact ⟨cons.frI _ _ _ _ _ h0 ⟨by rw [AH.push_n]; omega, fun b hb _ => (k b (by omega)).trans (ak.2 b hb)⟩ (fun b hb => ⟨by rw [AH.push_n]; omega, .inr hb.1⟩), by rw [AH.push_n]; omega, (k _ (by omega)).trans a0, (k _ (by omega)).trans a1, (k _ (by omega)).trans a2, (k _ (by omega)).trans a3⟩
  · rw [n0]
    rintro i hi h1 o ⟨f0, fn, f1, f2, f3, f4⟩ ho
    have hil : i < (spots s.data.toList).length := by rw [← spotsL_len]; exact hi
    rw [spotsL_get hi]
    obtain ⟨q1, q2, q3⟩ := hD _ _ _ f0
    have ec := class_eq q3
    have hop := cluS_open (T := T) hil
    have hle := cluS_le (T := T) (s := s) i (by omega)
    have hps := posn_succ hil
    have hpl := (posn_lt hil).1
    have hcr := class_range gd
    have hst := cluS_stay (T := T) hil
    have hou := cluS_out (T := T) hil
    have hbk := fun h2 (hI : I (cluS T s (i + 1)).1.length (fun b => h.n ≤ b ∧ b < h.n + 5) h2) => hD _ _ _ hI
    generalize hx : (spots s.data.toList)[i] = x at *
    obtain ⟨⟨cb, cn, ct, ck, cm, cr, cbd⟩, hc⟩ : ∃ c, c = (cluS T s i).2 := ⟨_, rfl⟩
    rw [← hc] at f2 hop hle hst hou
    simp only at hop hle hst hou
    unfold Clu.vs at f2
    simp only at f2
    have e2 := ec (x.1 : Nat)
    rw [show classI T (x.1 : Nat) = clT T x.1 from rfl] at e2
    have ha : (posn s.data.toList i : Int) + x.2 ≤ s.size := by
      have := (spots_drop s.data.toList (i + 1) (by omega)).2
      omega
    have hse : ((posn s.data.toList i : Int) + x.2).toNat = posn s.data.toList (i + 1) := by omega
    dsimp only
    have fin : ∀ (h2 : AH) (vs : List Value), h1.n ≤ h2.n → I (cluS T s (i + 1)).1.length (fun b => h.n ≤ b ∧ b < h.n + 5) h2 → h2.get h.n = some (.cells false [yv]) → (h2.get (h.n + 1)).isSome = true → h2.get (h.n + 3) = some (.cells false [.string s]) → h2.get (h.n + 4) = some o → vs = (cluS T s (i + 1)).2.vs →
        ((h2.set (h.n + 1) (.cells false vs)).set (h.n + 2) (.cells false [.int .i64 ((i : Int) + 1)])).get (h.n + 4) = some o ∧ I (cluS T s (i + 1)).1.length (fun b => h.n ≤ b ∧ b < h.n + 5) ((h2.set (h.n + 1) (.cells false vs)).set (h.n + 2) (.cells false [.int .i64 ((i : Int) + 1)])) ∧ h.n + 5 ≤ ((h2.set (h.n + 1) (.cells false vs)).set (h.n + 2) (.cells false [.int .i64 ((i : Int) + 1)])).n ∧
        ((h2.set (h.n + 1) (.cells false vs)).set (h.n + 2) (.cells false [.int .i64 ((i : Int) + 1)])).get h.n = some (.cells false [yv]) ∧ ((h2.set (h.n + 1) (.cells false vs)).set (h.n + 2) (.cells false [.int .i64 ((i : Int) + 1)])).get (h.n + 1) = some (.cells false (cluS T s (i + 1)).2.vs) ∧
        ((h2.set (h.n + 1) (.cells false vs)).set (h.n + 2) (.cells false [.int .i64 ((i : Int) + 1)])).get (h.n + 2) = some (.cells false [.int .i64 ((i + 1 : Nat) : Int)]) ∧ ((h2.set (h.n + 1) (.cells false vs)).set (h.n + 2) (.cells false [.int .i64 ((i : Int) + 1)])).get (h.n + 3) = some (.cells false [.string s]) := by
      intro h2 vs hn2 hI g1 g2 g4 g5 hv
      subst hv
      refine ⟨?_, hfr _ _ _ hI (by omega) (Nat.le_refl _) fun b hb hb2 => ?_, ?_, ?_, ?_, ?_, ?_⟩
      · rw [AH.get_set_ne _ (by omega), AH.get_set_ne _ (by omega), g5]
      · rw [AH.get_set_ne _ (by omega), AH.get_set_ne _ (by omega)]
      · rw [AH.set_n, AH.set_n]; omega
      · rw [AH.get_set_ne _ (by omega), AH.get_set_ne _ (by omega), g1]
      · rw [AH.get_set_ne _ (by omega), AH.get_set_same _ (by omega)]
      · exact AH.get_set_same _ (by rw [AH.set_n]; omega)
      · rw [AH.get_set_ne _ (by omega), AH.get_set_ne _ (by omega), g4]
    by_cases hr : clT T x.1 = 0
    · by_cases hk : 0 < ck
      · obtain ⟨o1, hj, o2⟩ := hou hr hk
        have hy := cons.step _ hj _ h1 f0
        rw [o2] at hy
        (refine W_x (Aj hset (Aj hlc1 (Aj e2 (Aj q1 (Aj q2 (Aj f1 (Aj f2 f3))))))) ?_; (repeat' first | apply Cj.mk | exact Nl.nl) <;> intros)
        refine wo_callV (fv := yv) rfl rfl rfl ?_
        refine hy.mono ?_
        rintro v h2 ⟨hor, hn2, hT⟩
        have g1 : h2.get h.n = some _ := (hT _ ⟨by omega, by omega⟩).trans f1
        have g2 : h2.get (h.n + 1) = some _ := (hT _ ⟨by omega, by omega⟩).trans f2
        have g3 : h2.get (h.n + 2) = some _ := (hT _ ⟨by omega, by omega⟩).trans f3
        have g4 : h2.get (h.n + 3) = some _ := (hT _ ⟨by omega, by omega⟩).trans f4
        have g5 : h2.get (h.n + 4) = some _ := (hT _ ⟨by omega, by omega⟩).trans ho
        rcases hor with ⟨rfl, hI2⟩ | ⟨rfl, hE⟩
        · obtain ⟨p1, p2', p3'⟩ := hD _ _ _ hI2
          (refine W_x (Aj hset (Aj hlc1 (Aj p1 (Aj p2' (Aj g1 (Aj g2 (Aj g3 (Aj ha hse)))))))) ?_; (repeat' first | apply Cj.mk | exact Nl.nl) <;> intros)
          simp only [AH.set_set]
          exact fin h2 _ hn2 (by rw [o1, List.length_append]; exact hI2) g1 (by rw [g2]; rfl) g4 g5 (by rw [hop, if_pos hr]; rfl)
        · (refine W_x (Aj hset hlc1) ?_; (repeat' first | apply Cj.mk | exact Nl.nl) <;> intros)
          exact ⟨g5, rfl, hE, by omega⟩
      · have hs0 := hst fun q => hk q.2
        (refine W_x (Aj hset (Aj hlc1 (Aj e2 (Aj q1 (Aj q2 (Aj f1 (Aj f2 (Aj f3 (Aj ha hse))))))))) ?_; (repeat' first | apply Cj.mk | exact Nl.nl) <;> intros)
        simp only [AH.set_set]
        exact fin h1 _ (Nat.le_refl _) (by rw [hs0]; exact f0) f1 (by rw [f2]; rfl) f4 ho (by rw [hop, if_pos hr]; rfl)
    · have hs0 := hst fun q => hr q.1
      (refine W_x (Aj hset (Aj hlc1 (Aj e2 (Aj q1 (Aj q2 (Aj f1 (Aj f2 (Aj f3 (Aj ha hse))))))))) ?_; (repeat' first | apply Cj.mk | exact Nl.nl) <;> intros)
      simp only [AH.set_set]
      exact fin h1 _ (Nat.le_refl _) (by rw [hs0]; exact f0) f1 (by rw [f2]; rfl) f4 ho (by rw [hop, if_neg hr]; rfl)
  · rw [spotsL_len]
    rintro h1 ⟨f0, fn, f1, f2, f3, f4⟩
    have hle := cluS_le (T := T) (s := s) (spots s.data.toList).length (Nat.le_refl _)
    have hcl := clusL_end (T := T) (s := s)
    obtain ⟨c, hc⟩ : ∃ c, c = (cluS T s (spots s.data.toList).length).2 := ⟨_, rfl⟩
    rw [← hc] at f2 hle hcl
    unfold Clu.vs at f2
    rcases hcl with ⟨c1, c2⟩ | ⟨c1, c2⟩
    · have hk : c.k = 0 := by rw [hc, c1]; rfl
      have hk' : (c.k : Int) = 0 := by omega
      (refine W_x (Aj hset (Aj hlc1 (Aj f1 (Aj f2 hk')))) ?_; (repeat' first | apply Cj.mk | exact Nl.nl) <;> intros)
      refine ⟨fun b => h.n ≤ b ∧ b < h.n + 5, .inl ?_⟩
      rw [c2]
      rw [c1] at f0
      exact f0
    · have hj : (cluS T s (spots s.data.toList).length).1.length < (clusL T s).length := by rw [c2]; simp
      have hy := cons.step _ hj _ h1 f0
      have hg : (clusL T s)[(cluS T s (spots s.data.toList).length).1.length] = c := by simp [c2]
      rw [hg] at hy
      (refine W_x (Aj hset (Aj hlc1 (Aj f1 f2))) ?_; (repeat' first | apply Cj.mk | exact Nl.nl) <;> intros)
      refine wo_callV (fv := yv) rfl rfl rfl ?_
      refine hy.mono ?_
      rintro v h2 ⟨hor, hn2, hT⟩
      rcases hor with ⟨rfl, hI2⟩ | ⟨rfl, hE⟩
      · (refine W_x (Aj hset hlc1) ?_; (repeat' first | apply Cj.mk | exact Nl.nl) <;> intros)
        refine ⟨fun b => h.n ≤ b ∧ b < h.n + 5, .inl ?_⟩
        have : (clusL T s).length = (cluS T s (spots s.data.toList).length).1.length + 1 := by rw [c2]; simp
        rw [this]
        exact hI2
      · (refine W_x (Aj hset hlc1) ?_; (repeat' first | apply Cj.mk | exact Nl.nl) <;> intros)
        exact ⟨_, .inr hE⟩
  · rintro ex h1 hne ⟨rfl, hE, _⟩
    (refine W_x trivial ?_; (repeat' first | apply Cj.mk | exact Nl.nl) <;> intros)
    exact ⟨_, .inr hE⟩
end Go.Proofs.YtblmakgjdenpfaaGreatDoor.AM
namespace Go.Proofs.YtblmakgjdenpfaaGreatDoor.AM
open Go
def LF_guiseref8_Clusters : LFunc :=
  .mk 2 [.tmp 4] (.seq (R 2 [1, 2] [.tmp 2 (xbl 2 8 (.sl 0)), .set 4 (.cv (.slice none 0 0))]) (.seq (R 999 [1, 2, 5] [.set 5 (.cv (.slice none 0 0))]) (.seq (R 999 [1, 2, 5, 6]
  [.set 6 (xi 0)]) (.seq (.seq (R 14 [1, 2, 5, 6, 15] [.tmp 15 (.op (.e (.rngS 15 (.s 0))) (.va 1))]) (.block 0 (.loop (.seq (R 16 [1, 2, 5, 6, 15, 16, 17] [.tmp 16 (.op (.e (.nxtS
  (.s 0))) (.sl 15)), .tmp 17 (xex 0 (.sl 16))]) (.seq (.cond (.s 17) .skip (.exit 0)) (.block 1 (.seq (R 18 [1, 2, 5, 6, 7, 8, 15] [.tmp 18 (xex 1 (.sl 16)), .tmp 19 (xex 2 (.sl
  16)), .set 7 (.sl 18), .set 8 (.sl 19)]) (.seq (R 20 [1, 2, 5, 6, 7, 8, 9, 15] [.set 9 (xb .gtr (xc2 52 (xln 8 (.sl 2)) (.va 8)) (xi 0))]) (.seq (.seq (R 24 [1,
  2, 5, 6, 7, 8, 9, 15, 30] [.tmp 30 (.or (xu .not (.va 9)) (xb .eql (xlen (.va 5)) (xi 0)))]) (.cond (.s 30) (.seq (R 31 [1, 2, 5, 6, 8, 9, 10, 15] [.tmp 36 (.op (.p (.build [.int
  .i64 0, .int .i64 0, .string ⟨#[]⟩, .int .i64 0, .int .i64 0, .int .i32 0, .bool false] [(0, 2, .s 0), (6, 1, .s 1)])) (.cons (.op (.p (.build [.int .i64 0, .int .i64 0] [(0, 1,
  .s 0), (1, 1, .s 1)])) (.cons (.va 7) (.va 6))) (xu .not (.va 9)))), .at 10, .tmp 10 (xnl 10 [.int .i64 0, .int .i64 0, .string ⟨#[]⟩, .int .i64 0, .int .i64 0, .int .i32 0, .bool
  false]), .run (xst 7 (.sl 10) (.sl 36))]) (.seq (.seq (R 37 [1, 2, 5, 6, 8, 9, 10, 15, 38] [.tmp 38 (xu .not (.va 9))]) (.cond (.s 38) (R 39 [1, 2, 5, 6, 9, 10, 15] [.tmp 39 (.va
  8), .tmp 40 (xfa 5 (.sl 10)), .run (xst 1 (.sl 40) (.sl 39))]) .skip)) (R 41 [1, 2, 5, 6, 9, 15] [.set 5 (xap 7 56 (.va 5) (.op (.e (.litL 43 1 7 [.int .i64 0, .int .i64 0,
  .string ⟨#[]⟩, .int .i64 0, .int .i64 0, .int .i32 0, .bool false] [(0, 7, .s 0)])) (xln 7 (.sl 10))))]))) .skip)) (.seq (R 45 [1, 2, 5, 6, 9, 11, 15] [.set 11 (xia 7 (.va 5) (xb
  .sub (xlen (.va 5)) (xi 1)))]) (.seq (R 50 [1, 2, 5, 6, 9, 11, 15] [.tmp 50 (.va 11), .tmp 54 (xb .add (xld (xfa 3 (xnk (.sl 50)))) (xi 1)), .tmp 56 (xfa 3 (xnk (.sl 50))), .run
  (xst 1 (.sl 56) (.sl 54))]) (.seq (.seq (R 57 [1, 2, 5, 6, 11, 15, 57] [.tmp 57 (.va 9)]) (.cond (.s 57) (R 58 [1, 2, 5, 6, 15] [.tmp 58 (.va 11), .tmp 62 (xb .add (xld (xfa 4
  (xnk (.sl 58)))) (xi 1)), .tmp 64 (xfa 4 (xnk (.sl 58))), .run (xst 1 (.sl 64) (.sl 62))]) .skip)) (R 65 [1, 2, 5, 6, 15] [.set 6 (xb .add (.va 6) (xi 1))]))))))))))))) (.seq
  (.seq (R 999 [1, 5, 12] [.set 12 (xi 0)]) (.block 2 (.loop (.seq (.seq (R 67 [1, 5, 12, 70] [.tmp 70 (xb .lss (.va 12) (xlen (.va 5)))]) (.cond (.s 70) .skip (.exit 2))) (.seq
  (.block 3 (.seq (R 73 [1, 5, 12, 13] [.set 13 (xsl (.va 1))]) (.seq (.seq (R 75 [1, 5, 12, 13, 79] [.tmp 79 (xb .lss (xb .add (.va 12) (xi 1)) (xlen (.va 5)))]) (.cond (.s 79) (R
  80 [1, 5, 12, 13] [.set 13 (xld (xfa 0 (xfa 0 (xia 7 (.va 5) (xb .add (.va 12) (xi 1))))))]) .skip)) (R 87 [1, 5, 12] [.tmp 87 (.va 5), .tmp 88 (.va 12), .tmp 97 (.op (.p (.slS
  (.s 0) (some (.s 1)) (some (.s 2)))) (.cons (.va 1) (.cons (xld (xfa 0 (xfa 0 (xia 7 (.va 5) (.va 12))))) (.va 13)))), .run (xst 1 (xfa 2 (xia 7 (.sl 87) (.sl 88))) (.sl 97))]))))
  (R 71 [1, 5, 12] [.set 12 (xb .add (.va 12) (xi 1))])))))) (.seq (R 100 [4] [.set 4 (.va 5)]) .ret))))))
theorem fn_guiseref8_Clusters : (autoPrg Tryz.prog).fn 27 = some LF_guiseref8_Clusters := by kernel_rfl
def LF_guiselaw8_same : LFunc :=
  .mk 2 [.tmp 4] (.seq (R 2 [2, 3] [.tmp 2 (xbl 2 7 (.sl 0)), .tmp 3 (xbl 3 7 (.sl 1)), .set 4 (.cv (.bool false))]) (.seq (R 5 [4] [.set 4 (.and (.and (.and (.and (.and (.op (.p
  (.eqA false [.int, .int] (.s 0) (.s 1))) (.cons (xln 2 (xfa 0 (.sl 2))) (xln 2 (xfa 0 (.sl 3))))) (xb .eql (xld (xfa 2 (.sl 2))) (xld (xfa 2 (.sl 3))))) (xb .eql (xld (xfa 3 (.sl
  2))) (xld (xfa 3 (.sl 3))))) (xb .eql (xld (xfa 4 (.sl 2))) (xld (xfa 4 (.sl 3))))) (xb .eql (xld (xfa 5 (.sl 2))) (xld (xfa 5 (.sl 3))))) (.op (.p (.eqk false .bool (.s 0) (.s
  1))) (.cons (xld (xfa 6 (.sl 2))) (xld (xfa 6 (.sl 3))))))]) .ret))
theorem fn_guiselaw8_same : (autoPrg Tryz.prog).fn 29 = some LF_guiselaw8_same := by kernel_rfl
def LF_guiselaw8_MarksClusters : LFunc :=
  .mk 3 [.cell 6 none] (.seq (R 3 [1, 3, 5, 6] [.tmp 3 (xbl 3 8 (.sl 0)), .at 5, .tmp 5 (xbh 1 (.sl 2)), .tmp 6 (xnh [.bool false])]) (.seq (R 18 [1, 3, 5, 6, 7, 8, 9] [.set 17 (xc1
  8 (xln 8 (.sl 3))), .tmp 20 (xex 0 (.sl 17)), .tmp 21 (xex 1 (.sl 17)), .tmp 22 (xex 2 (.sl 17)), .set 7 (.sl 20), .set 8 (.sl 21), .set 9 (.sl 22)]) (.seq (.seq (R
  23 [1, 3, 5, 6, 7, 9, 24] [.tmp 24 (xu .not (.va 8))]) (.cond (.s 24) (.seq (R 25 [6] [.run (xst 1 (.sl 6) (.and (.va 9) (xc0 25)))]) .ret) .skip)) (.seq (R 29
  [1, 3, 5, 6, 7] [.set 1 (xc2 26 (.va 1) (xi 3000))]) (.seq (R 31 [1, 5, 6, 7, 10] [.tmp 33 (xc2 27 (xln 8 (.sl 3)) (.va 1)), .at 10, .tmp 10
  (xnh [.slice none 0 0]), .run (xst 1 (.sl 10) (.sl 33))]) (.seq (R 34 [5, 6, 10, 11] [.set 11 (xc2 28 (.va 7) (.va 1))]) (.seq (.seq (R 37 [5, 6, 10, 11, 38] [.tmp
  38 (.op (.p (.eqk false .func (.s 0) (.s 1))) (.cons (.va 11) (.cv .nilFunc)))]) (.cond (.s 38) (.seq (R 999 [6] [.run (xst 1 (.sl 6) (.cv (.bool false)))]) .ret) .skip)) (.seq
  (.seq (R 999 [5, 6, 10, 11, 12] [.set 12 (xi 0)]) (.block 0 (.loop (.seq (.seq (R 39 [5, 6, 10, 11, 12, 40] [.tmp 40 (xb .lss (.va 12) (xi 2))]) (.cond (.s 40) .skip (.exit 0)))
  (.seq (.block 1 (.seq (R 13 [5, 6, 10, 11, 12, 13] [.tmp 13 (xnh [.int .i64 0]), .run (xst 1 (.sl 13) (xi 0))]) (.seq (.seq (R 43 [5, 6, 10, 11, 12, 13, 43] [.tmp 43 (.va 11)])
  (.block 2 (.rangeF (.s 43) [44] (R 14 [6, 10, 13, 14] [.tmp 14 (xnl 14 [.int .i64 0, .int .i64 0, .string ⟨#[]⟩, .int .i64 0, .int .i64 0, .int .i32 0, .bool false]), .run (xst 7
  (.sl 14) (.sl 44))]) (.block 3 (.seq (.seq (R 45 [6, 13, 57] [.tmp 57 (.or (xb .geq (xld (.sl 13)) (xlen (xld (.sl 10)))) (xu .not (xc2 29 (xln 7 (.sl 14)) (xln 7
  (xia 7 (xld (.sl 10)) (xld (.sl 13)))))))]) (.cond (.s 57) (.seq (R 999 [] [.run (xst 1 (.sl 6) (.cv (.bool false)))]) .ret) .skip)) (R 58 [] [.run (xst 1 (.sl 13) (xb .add (xld
  (.sl 13)) (xi 1)))])))))) (.seq (R 60 [5, 6, 10, 11, 12, 63] [.tmp 63 (xb .neq (xld (.sl 13)) (xlen (xld (.sl 10))))]) (.cond (.s 63) (.seq (R 999 [6] [.run (xst 1 (.sl 6) (.cv
  (.bool false)))]) .ret) .skip))))) (R 41 [5, 6, 10, 11, 12] [.set 12 (xb .add (.va 12) (xi 1))])))))) (.seq (R 64 [5, 6, 10, 11] [.run (xst 1 (.sl 5) (xc3 30
  (xld (.sl 5)) (xi 0) (xi 20)))]) (.seq (R 15 [5, 6, 10, 11, 15] [.tmp 15 (xnh [.int .i64 0]), .run (xst 1 (.sl 15) (xi 0))]) (.seq (.seq (R 66 [5, 6, 10, 15, 66] [.tmp 66 (.va
  11)]) (.block 4 (.rangeF (.s 66) [67] (R 16 [5, 6, 10, 15, 16] [.tmp 16 (xnl 16 [.int .i64 0, .int .i64 0, .string ⟨#[]⟩, .int .i64 0, .int .i64 0, .int .i32 0, .bool false]),
  .run (xst 7 (.sl 16) (.sl 67))]) (.block 5 (.seq (.seq (R 68 [5, 6, 15, 80] [.tmp 80 (.or (xb .geq (xld (.sl 15)) (xlen (xld (.sl 10)))) (xu .not (xc2 29 (xln 7
  (.sl 16)) (xln 7 (xia 7 (xld (.sl 10)) (xld (.sl 15)))))))]) (.cond (.s 80) (.seq (R 999 [] [.run (xst 1 (.sl 6) (.cv (.bool false)))]) .ret) .skip)) (.seq (.seq (R 81 [15, 83]
  [.tmp 83 (xb .eql (xld (.sl 15)) (xld (.sl 5)))]) (.cond (.s 83) (.exit 4) .skip)) (R 84 [] [.run (xst 1 (.sl 15) (xb .add (xld (.sl 15)) (xi 1)))]))))))) (.seq (R 86 [6] [.run
  (xst 1 (.sl 6) (xc0 25))]) .ret))))))))))))
theorem fn_guiselaw8_MarksClusters : (autoPrg Tryz.prog).fn 6 = some LF_guiselaw8_MarksClusters := by kernel_rfl
end Go.Proofs.YtblmakgjdenpfaaGreatDoor.AM
