/- Parts of proofs: lemmas, joined. -/
import Derived.Test.YtfiaggbgplmmeaaGreatDoorP1f7f3ce0
set_option linter.unusedVariables false
set_option linter.unusedSimpArgs false
set_option linter.unusedSectionVars false
namespace Go.Proofs.YtfiaggbgplmmeaaGreatDoor.AM
open Go
variable {α : Type} [Inhabited α] {q : Pl} {enc : α → List Value} {val : α → Value} {cv : Value} {key : α → Int} {idx : α → Int}
def Bl (bs : Nat) : List (List α) → Prop
  | [] => True
  | A :: r => 0 < A.length ∧ A.length ≤ bs ∧ (r ≠ [] → A.length = bs) ∧ Bl bs r
def Far (idx : α → Int) (A B : List α) : Prop := ∀ x ∈ A, ∀ y ∈ B, idx x < idx y
theorem Bl.snoc {bs : Nat} : ∀ {L : List (List α)}, (∀ A ∈ L, A.length = bs) → 0 < bs → ∀ {R : List (List α)}, Bl bs R → Bl bs (L ++ R)
  | [], _, _, _, h => h
  | A :: r, h, hb, R, hR => by
    have h1 := h A (by simp)
    exact ⟨by omega, by omega, fun _ => h1, Bl.snoc (fun B hB => h B (List.mem_cons_of_mem _ hB)) hb hR⟩
set_option maxHeartbeats 4000000 in
theorem stable_eq (hc : CmpS q enc val cv key) {O : List α} {n : Nat} (hn : O.length = n) (hn2 : n < 1000000000) (hO : O.Pairwise (fun x y => idx x < idx y)) :
    ∃ Z : List α, Z.Perm O ∧ Z.Pairwise (ltK key idx) ∧ callO PX 122 [(q.s n).val 1, .int .i64 n, cv] (q.H enc O) = some (.tuple #[], q.H enc Z) := by
  have hlen : (q.s n).len = n := rfl
  have hset := hc.isF.set
  have hlc1 := hc.isF.lc1
  have hloc := hc.isF.loc
  suffices hw : WpC PX 122 [(q.s n).val 1, .int .i64 n, cv] (q.H enc O) fun v h1 => v = .tuple #[] ∧ ∃ Z : List α, Z.Perm O ∧ Z.Pairwise (ltK key idx) ∧ h1 = q.H enc Z by
    obtain ⟨v, h1, e, rfl, Z, z1, z2, rfl⟩ := hw
    exact ⟨Z, z1, z2, e⟩
  refine wpc_fn (px_ext rfl) (px_fn fn_slices_stableCmpFunc_rune) rfl ?_
  unfold LF_slices_stableCmpFunc_rune
  simp only [argFr]
  (refine W_g (Aj hset (Aj hlc1 hloc)) ?_; (repeat' first | apply Cj.mk | exact Nl.nl) <;> intros)
  refine wp_loop (fun w fr lc h1 => ∃ (L : List (List α)) (R : List α) (a b : Int), w = R.length ∧ (∀ A ∈ L, A.length = 20) ∧ (∀ A ∈ L, A.Pairwise (ltK key idx)) ∧ L.Pairwise (Far idx) ∧ (∀ A ∈ L, Far idx A R) ∧ R.Pairwise (fun x y => idx x < idx y) ∧ (L.flatten ++ R).Perm O ∧
      a = L.flatten.length ∧ b = a + 20 ∧ fr = [(0, (q.s n).val 1), (1, .int .i64 n), (2, cv), (6, .int .i64 20), (7, .int .i64 a), (8, .int .i64 b)] ∧ lc = [] ∧ h1 = q.H enc (L.flatten ++ R)) O.length
    ⟨[], O, 0, 20, rfl, by simp, by simp, List.Pairwise.nil, by simp, hO, .refl _, rfl, rfl, rfl, rfl, rfl⟩ ?_
  rintro w fr lc h1 ⟨L, R, a, b, rfl, hL1, hL2, hL3, hL4, hR, hP, ha, hb, rfl, rfl, rfl⟩
  have hl := hP.length_eq
  rw [hn, List.length_append] at hl
  by_cases hbn : b ≤ n
  · have hR20 : 20 ≤ R.length := by omega
    have hRe : R = R.take 20 ++ R.drop 20 := (List.take_append_drop 20 R).symm
    obtain ⟨Z, z1, z2, z3⟩ := insertion_eq (idx := idx) hc (P := L.flatten) (X := R.take 20) (S := R.drop 20) (n := n) (a := a) (b := b) (by simp only [List.length_append, List.length_take, List.length_drop]; omega) (by omega) ha (by rw [List.length_take]; omega) (hR.sublist (List.take_sublist _ _))
    have hDe : L.flatten ++ R = L.flatten ++ R.take 20 ++ R.drop 20 := by rw [List.append_assoc, ← hRe]
    have hZl : Z.length = 20 := by rw [z1.length_eq, List.length_take]; omega
    rw [← hDe] at z3
    have hmz : ∀ x ∈ Z, x ∈ R := fun x hx => List.mem_of_mem_take (z1.mem_iff.1 hx)
    have hpw := List.pairwise_append.1 (hRe ▸ hR : (R.take 20 ++ R.drop 20).Pairwise (fun x y => idx x < idx y))
    (refine W_g (Aj hset (Aj hlc1 (Aj hloc z3))) ?_; (repeat' first | apply Cj.mk | exact Nl.nl) <;> intros)
    refine ⟨(R.drop 20).length, by rw [List.length_drop]; omega, L ++ [Z], R.drop 20, b, b + 20, rfl, fun A hA => ?_, fun A hA => ?_, List.pairwise_append.2 ⟨hL3, by simp, fun A hA B hB x hx y hy => ?_⟩, fun A hA x hx y hy => ?_, hpw.2.1, ?_, ?_, rfl, rfl, rfl, by simp⟩
    · rcases List.mem_append.1 hA with hA | hA
      · exact hL1 A hA
      · rw [List.mem_singleton.1 hA]; exact hZl
    · rcases List.mem_append.1 hA with hA | hA
      · exact hL2 A hA
      · rw [List.mem_singleton.1 hA]; exact z2
    · rw [List.mem_singleton.1 hB] at hy
      exact hL4 A hA x hx y (hmz y hy)
    · rcases List.mem_append.1 hA with hA | hA
      · exact hL4 A hA x hx y (List.mem_of_mem_drop hy)
      · rw [List.mem_singleton.1 hA] at hx
        exact hpw.2.2 x (z1.mem_iff.1 hx) y hy
    · refine List.Perm.trans ?_ hP
      rw [hDe]
      simp only [List.flatten_append, List.flatten_cons, List.flatten_nil, List.append_nil]
      exact List.Perm.append_right _ (List.Perm.append_left _ z1)
    · simp only [List.flatten_append, List.flatten_cons, List.flatten_nil, List.append_nil, List.length_append]; omega
  · obtain ⟨Z, z1, z2, z3⟩ := insertion_eq (idx := idx) hc (P := L.flatten) (X := R) (S := []) (n := n) (a := a) (b := n) (by simp only [List.length_append, List.length_nil]; omega) (by omega) ha (by omega) hR
    rw [List.append_nil, List.append_nil] at z3
    have hZl := z1.length_eq
    (refine W_g (Aj hset (Aj hlc1 (Aj hloc z3))) ?_; (repeat' first | apply Cj.mk | exact Nl.nl) <;> intros)
    refine wp_loop (fun w fr lc h1 => ∃ (bs : Nat) (L : List (List α)), w = n - bs ∧ 20 ≤ bs ∧ bs ≤ 2 * n + 20 ∧ Bl bs L ∧ (∀ A ∈ L, A.Pairwise (ltK key idx)) ∧ L.Pairwise (Far idx) ∧ L.flatten.Perm O ∧
        fr = [(0, (q.s n).val 1), (1, .int .i64 n), (2, cv), (6, .int .i64 bs)] ∧ lc = [] ∧ h1 = q.H enc L.flatten) (n - 20) ?_ ?_
    · by_cases hZ0 : Z = []
      · refine ⟨20, L, rfl, by omega, by omega, ?_, hL2, hL3, ?_, rfl, rfl, by rw [hZ0, List.append_nil]⟩
        · have := Bl.snoc (bs := 20) hL1 (by omega) (R := []) trivial
          rwa [List.append_nil] at this
        · refine List.Perm.trans ?_ hP
          rw [List.eq_nil_of_length_eq_zero (l := R) (by rw [← hZl, hZ0]; rfl), List.append_nil]
      · refine ⟨20, L ++ [Z], rfl, by omega, by omega, Bl.snoc hL1 (by omega) ⟨List.length_pos_iff.2 hZ0, by omega, fun h => absurd rfl h, trivial⟩, fun A hA => ?_, List.pairwise_append.2 ⟨hL3, by simp, fun A hA B hB x hx y hy => ?_⟩, ?_, rfl, rfl, by simp⟩
        · rcases List.mem_append.1 hA with hA | hA
          · exact hL2 A hA
          · rw [List.mem_singleton.1 hA]; exact z2
        · rw [List.mem_singleton.1 hB] at hy
          exact hL4 A hA x hx y (z1.mem_iff.1 hy)
        · refine List.Perm.trans ?_ hP
          simp only [List.flatten_append, List.flatten_cons, List.flatten_nil, List.append_nil]
          exact List.Perm.append_left _ z1
    clear hL1 hL2 hL3 hL4 hR hP ha hb hl hbn z1 z2 z3 hZl
    rintro w fr lc h1 ⟨bs, L, rfl, hbs, hbs2, hBl, hLs, hLf, hP, rfl, rfl, rfl⟩
    by_cases hbn : bs < n
    rotate_left
    · (refine W_g (Aj hset (Aj hlc1 hloc)) ?_; (repeat' first | apply Cj.mk | exact Nl.nl) <;> intros)
      refine ⟨rfl, L.flatten, hP, ?_, rfl⟩
      have hl := hP.length_eq
      match L, hBl, hLs, hl with
      | [], _, _, _ => simp
      | [A], _, h, _ => simpa using h A (by simp)
      | A :: B :: r, hBl, _, hl =>
        obtain ⟨_, _, b3, b4, _⟩ := hBl
        have := b3 (by simp)
        simp only [List.flatten_cons, List.length_append] at hl
        omega
    · (refine W_g (Aj hset (Aj hlc1 hloc)) ?_; (repeat' first | apply Cj.mk | exact Nl.nl) <;> intros)
      refine wp_loop (fun w fr lc h1 => ∃ (M : List (List α)) (R : List (List α)) (a b : Int), w = R.length ∧ (∀ A ∈ M, A.length = 2 * bs) ∧ Bl bs R ∧ (∀ A ∈ M ++ R, A.Pairwise (ltK key idx)) ∧ (M ++ R).Pairwise (Far idx) ∧ (M ++ R).flatten.Perm O ∧ a = M.flatten.length ∧ b = a + 2 * bs ∧
          fr = [(0, (q.s n).val 1), (1, .int .i64 n), (2, cv), (6, .int .i64 bs), (7, .int .i64 a), (8, .int .i64 b)] ∧ lc = [] ∧ h1 = q.H enc (M ++ R).flatten) L.length
        ⟨[], L, 0, 2 * bs, rfl, by simp, hBl, hLs, hLf, hP, rfl, by omega, rfl, rfl, rfl⟩ ?_
      clear hBl hLs hLf hP
      rintro w fr lc h1 ⟨M, R, a, b, rfl, hM, hBl, hMs, hMf, hP, ha, hb, rfl, rfl, rfl⟩
      have hl := hP.length_eq
      rw [hn, List.flatten_append, List.length_append] at hl
      have hmerge : ∀ A B R', R = A :: B :: R' → ∃ Z : List α, Z.length = A.length + B.length ∧ callO PX 138 [(q.s n).val 1, .int .i64 a, .int .i64 (a + A.length), .int .i64 (a + A.length + B.length), cv] (q.H enc (M ++ R).flatten) = some (.tuple #[], q.H enc (M ++ (Z :: R')).flatten) ∧
          (∀ A ∈ M ++ (Z :: R'), A.Pairwise (ltK key idx)) ∧ (M ++ (Z :: R')).Pairwise (Far idx) ∧ (M ++ (Z :: R')).flatten.Perm O := by
        rintro A B R' rfl
        obtain ⟨b1, b2, b3, b4, b5, b6, b7⟩ := hBl
        have hp := List.pairwise_append.1 hMf
        have hp2 := List.pairwise_cons.1 hp.2.1
        have hp3 := List.pairwise_cons.1 hp2.2
        have hAB : Far idx A B := hp2.1 B (by simp)
        simp only [List.flatten_cons, List.length_append] at hl
        obtain ⟨Z, z1, z2, z3⟩ := merge_eq (n := n) hc (by omega) _ M.flatten A B R'.flatten a (a + A.length) (a + A.length + B.length) (Nat.le_refl _) (by simp only [List.length_append]; omega) ha (by omega) (by omega) b1 b4 (hMs A (by simp)) (hMs B (by simp)) hAB
        have e1 : (M ++ A :: B :: R').flatten = M.flatten ++ A ++ B ++ R'.flatten := by simp
        have e2 : (M ++ Z :: R').flatten = M.flatten ++ Z ++ R'.flatten := by simp
        have hmem : ∀ x ∈ Z, x ∈ A ∨ x ∈ B := fun x hx => by have := z1.mem_iff.1 hx; simpa using this
        refine ⟨Z, by rw [z1.length_eq, List.length_append], by rw [e1, e2]; exact z3, fun C hC => ?_, List.pairwise_append.2 ⟨hp.1, List.pairwise_cons.2 ⟨fun C hC x hx y hy => ?_, hp3.2⟩, fun C hC E hE x hx y hy => ?_⟩, ?_⟩
        · rcases List.mem_append.1 hC with hC | hC
          · exact hMs C (by simp [hC])
          · rcases List.mem_cons.1 hC with rfl | hC
            · exact z2
            · exact hMs C (by simp [hC])
        · rcases hmem x hx with h | h
          · exact hp2.1 C (by simp [hC]) x h y hy
          · exact hp3.1 C hC x h y hy
        · rcases List.mem_cons.1 hE with rfl | hE
          · rcases hmem y hy with h | h
            · exact hp.2.2 C hC A (by simp) x hx y h
            · exact hp.2.2 C hC B (by simp) x hx y h
          · exact hp.2.2 C hC E (by simp [hE]) x hx y hy
        · refine List.Perm.trans ?_ hP
          rw [e1, e2]
          refine List.Perm.append_right _ ?_
          rw [List.append_assoc]
          exact List.Perm.append_left _ z1
      by_cases hbn2 : b ≤ n
      · match R, hBl, hl, hmerge with
        | [], _, hl, _ => simp only [List.flatten_nil, List.length_nil] at hl; omega
        | [A], hBl, hl, _ =>
          have := hBl.2.1
          simp only [List.flatten_cons, List.flatten_nil, List.append_nil] at hl; omega
        | A :: B :: R', hBl, hl, hmerge =>
          obtain ⟨b1, b2, b3, b4, b5, b6, b7⟩ := hBl
          obtain ⟨Z, z0, z1, z2, z3, z4⟩ := hmerge A B R' rfl
          have hA := b3 (by simp)
          simp only [List.flatten_cons, List.length_append] at hl
          have hB : B.length = bs := by
            by_cases hR' : R' = []
            · subst hR'; simp only [List.flatten_nil, List.length_nil] at hl; omega
            · exact b6 hR'
          rw [hA, show a + (bs : Int) + B.length = b by omega] at z1
          (refine W_g (Aj hset (Aj hlc1 (Aj hloc z1))) ?_; (repeat' first | apply Cj.mk | exact Nl.nl) <;> intros)
          refine ⟨R'.length, by simp; omega, M ++ [Z], R', b, b + 2 * bs, rfl, fun C hC => ?_, b7, by simpa using z2, by simpa using z3, by simpa using z4, by simp only [List.flatten_append, List.flatten_cons, List.flatten_nil, List.append_nil, List.length_append]; omega, rfl, rfl, rfl, by simp⟩
          rcases List.mem_append.1 hC with hC | hC
          · exact hM C hC
          · rw [List.mem_singleton.1 hC]; omega
      · match R, hBl, hl, hmerge, hMs, hMf, hP with
        | [], _, hl, _, hMs, hMf, hP =>
          simp only [List.flatten_nil, List.length_nil] at hl
          (refine W_g (Aj hset (Aj hlc1 hloc)) ?_; (repeat' first | apply Cj.mk | exact Nl.nl) <;> intros)
          refine ⟨n - 2 * bs, by omega, 2 * bs, M, rfl, by omega, by omega, ?_, by simpa using hMs, by simpa using hMf, by simpa using hP, by simp only [Int.natCast_mul]; congr 6; omega, rfl, by simp⟩
          have := Bl.snoc (bs := 2 * bs) hM (by omega) (R := []) trivial
          rwa [List.append_nil] at this
        | [A], hBl, hl, _, hMs, hMf, hP =>
          have b1 := hBl.1
          have b2 := hBl.2.1
          simp only [List.flatten_cons, List.flatten_nil, List.append_nil] at hl
          (refine W_g (Aj hset (Aj hlc1 hloc)) ?_; (repeat' first | apply Cj.mk | exact Nl.nl) <;> intros)
          exact ⟨n - 2 * bs, by omega, 2 * bs, M ++ [A], rfl, by omega, by omega, Bl.snoc hM (by omega) ⟨b1, by omega, fun h => absurd rfl h, trivial⟩, hMs, hMf, hP, by simp only [Int.natCast_mul]; congr 6; omega, rfl, rfl⟩
        | [A, B], hBl, hl, hmerge, hMs, hMf, hP =>
          obtain ⟨b1, b2, b3, b4, b5, b6, b7⟩ := hBl
          obtain ⟨Z, z0, z1, z2, z3, z4⟩ := hmerge A B [] rfl
          have hA := b3 (by simp)
          simp only [List.flatten_cons, List.flatten_nil, List.append_nil, List.length_append] at hl
          rw [hA, show a + (bs : Int) + B.length = n by omega] at z1
          (refine W_g (Aj hset (Aj hlc1 (Aj hloc z1))) ?_; (repeat' first | apply Cj.mk | exact Nl.nl) <;> intros)
          exact ⟨n - 2 * bs, by omega, 2 * bs, M ++ [Z], rfl, by omega, by omega, Bl.snoc hM (by omega) ⟨by omega, by omega, fun h => absurd rfl h, trivial⟩, z2, z3, z4, by simp only [Int.natCast_mul]; congr 6; omega, rfl, rfl⟩
        | A :: B :: C :: R', hBl, hl, _, _, _, _ =>
          obtain ⟨b1, b2, b3, b4, b5, b6, b7⟩ := hBl
          have hA := b3 (by simp)
          have hB := b6 (by simp)
          simp only [List.flatten_cons, List.length_append] at hl
          omega
theorem sortStable_eq (hc : CmpS q enc val cv key) {O : List α} {n : Nat} (hn : O.length = n) (hn2 : n < 1000000000) (hO : O.Pairwise (fun x y => idx x < idx y)) :
    ∃ Z : List α, Z.Perm O ∧ Z.Pairwise (ltK key idx) ∧ callO PX 79 [(q.s n).val 1, cv] (q.H enc O) = some (.tuple #[], q.H enc Z) := by
  have hlen : (q.s n).len = n := rfl
  have hset := hc.isF.set
  have hlc1 := hc.isF.lc1
  have hloc := hc.isF.loc
  obtain ⟨Z, z1, z2, z3⟩ := stable_eq hc hn hn2 hO
  refine ⟨Z, z1, z2, ?_⟩
  apply WpC.eqn
  refine wpc_fn (px_ext rfl) (px_fn fn_slices_SortStableFunc_rune_rune) rfl ?_
  unfold LF_slices_SortStableFunc_rune_rune
  simp only [argFr]
  (refine W_g (Aj hset (Aj hlc1 (Aj hloc (Aj hlen z3)))) ?_; (repeat' first | apply Cj.mk | exact Nl.nl) <;> intros)
  exact ⟨rfl, rfl⟩
end Go.Proofs.YtfiaggbgplmmeaaGreatDoor.AM
namespace Go.Proofs.YtfiaggbgplmmeaaGreatDoor.AM
open Go
section
variable {p : Prg} {fr : Fr} {lc : Lc} {h : AH} {Q : Post}
theorem wp_spotsG {β : Type} {n : Nat} {keep : List Nat} {sts : List St} {b : LCode} {L : Nat → Lc} (F : Nat → Fr) (K : Nat) (s : ByteArray) (l : Bytes) (J : Nat → AH → Prop) (g : Nat → Nat × Nat → Option β) (hl : l = s.data.toList)
    (hf0 : AgF (F 0) fr) (hk : ∀ i, okS keep ((F i).map (·.1)) n sts = true) (hL : ∀ n, setL lc K (.siter s n) = L n) (h0 : lc = L 0) (hJ : J 0 h)
    (more : ∀ i (hi : i < (spots l).length) h, J i h → (∀ w, g i (spots l)[i] = some w → scanL (spots l) g = some w) →
      WpS p keep sts (F i) (L (posn l i)) h (thenQ p b (loopQ (fun fr' lc' h' => g i (spots l)[i] = none ∧ AgF (F (i + 1)) fr' ∧ lc' = L (posn l (i + 1)) ∧ J (i + 1) h') Q) .norm))
    (fin : ∀ h, J (spots l).length h → scanL (spots l) g = none → WpS p keep sts (F (spots l).length) (L l.length) h (thenQ p b (loopQ (fun _ _ _ => False) Q) .norm)) : Wp p (.loop (.seq (R n keep sts) b)) fr lc h Q := by
  refine wp_scanL (spots l) g (fun i fr lc' h => AgF (F i) fr ∧ lc' = L (posn l i) ∧ J i h) ⟨hf0, by rw [posn_zero]; exact h0, hJ⟩ ?_ ?_
  · rintro fr _ h ⟨ha, rfl, hj⟩ fn
    rw [posn_all]
    exact wp_seq (wp_RA ha (hk _) (fin h hj fn))
  · rintro i hi fr _ h ⟨ha, rfl, hj⟩ hit
    refine wp_mono (wp_seq (wp_RA ha (hk _) (more i hi h hj hit))) fun ex fr lc h hq => ?_
    have hq := hq.out
    cases ex with
    | norm => exact ⟨⟨hq.1, hq.2.1, hq.2.2.1, hq.2.2.2⟩⟩
    | exit j => exact ⟨hq⟩
    | ret => exact ⟨hq⟩
end
abbrev clT (T : Tab) (c : Nat) : Int := classI T c
def plV : Option (Nat × Nat) → Value
  | some (a, b) => .tuple (List.toArray [.agg (List.toArray [.int .i64 a, .int .i64 b]), .bool true])
  | none => .tuple (List.toArray [.agg (List.toArray [.int .i64 0, .int .i64 0]), .bool false])
end Go.Proofs.YtfiaggbgplmmeaaGreatDoor.AM
namespace Go.Proofs.YtfiaggbgplmmeaaGreatDoor.AM
open Go
section
variable {p : Prg} {fr : Fr} {lc : Lc} {h : AH} {Q : Post}
theorem wp_spotsS {σ β : Type} {n : Nat} {keep : List Nat} {sts : List St} {b : LCode} (F : Nat → σ → Fr) (L : Nat → σ → Lc) (s : ByteArray) (l : Bytes) (J : Nat → σ → AH → Prop) (g : Nat → Nat × Nat → Option β) (st0 : σ) (hl : l = s.data.toList)
    (hf0 : AgF (F 0 st0) fr) (hk : ∀ i st, okS keep ((F i st).map (·.1)) n sts = true) (h0 : lc = L 0 st0) (hJ : J 0 st0 h)
    (more : ∀ i (hi : i < (spots l).length) st h, J i st h → (∀ w, g i (spots l)[i] = some w → scanL (spots l) g = some w) →
      WpS p keep sts (F i st) (L (posn l i) st) h (thenQ p b (loopQ (fun fr' lc' h' => g i (spots l)[i] = none ∧ ∃ st', AgF (F (i + 1) st') fr' ∧ lc' = L (posn l (i + 1)) st' ∧ J (i + 1) st' h') Q) .norm))
    (fin : ∀ st h, J (spots l).length st h → scanL (spots l) g = none → WpS p keep sts (F (spots l).length st) (L l.length st) h (thenQ p b (loopQ (fun _ _ _ => False) Q) .norm)) : Wp p (.loop (.seq (R n keep sts) b)) fr lc h Q := by
  refine wp_scanL (spots l) g (fun i fr lc' h => ∃ st, AgF (F i st) fr ∧ lc' = L (posn l i) st ∧ J i st h) ⟨st0, hf0, by rw [posn_zero]; exact h0, hJ⟩ ?_ ?_
  · rintro fr _ h ⟨st, ha, rfl, hj⟩ fn
    rw [posn_all]
    exact wp_seq (wp_RA ha (hk _ _) (fin st h hj fn))
  · rintro i hi fr _ h ⟨st, ha, rfl, hj⟩ hit
    refine wp_mono (wp_seq (wp_RA ha (hk _ _) (more i hi st h hj hit))) fun ex fr lc h hq => ?_
    have hq := hq.out
    cases ex with
    | norm => exact ⟨⟨hq.1, hq.2⟩⟩
    | exit j => exact ⟨hq⟩
    | ret => exact ⟨hq⟩
theorem wp_forS {σ α β : Type} {a : LCode} (F : Nat → σ → Fr) (L : Nat → σ → Lc) (l : List α) (J : Nat → σ → AH → Prop) (g : Nat → α → Option β) (st0 : σ) (h0 : fr = F 0 st0) (hc : lc = L 0 st0) (hJ : J 0 st0 h)
    (more : ∀ i (hi : i < l.length) st h, J i st h → (∀ w, g i l[i] = some w → scanL l g = some w) → Wp p a (F i st) (L i st) h (loopQ (fun fr' lc' h' => g i l[i] = none ∧ ∃ st', fr' = F (i + 1) st' ∧ lc' = L (i + 1) st' ∧ J (i + 1) st' h') Q))
    (fin : ∀ st h, J l.length st h → scanL l g = none → Wp p a (F l.length st) (L l.length st) h (loopQ (fun _ _ _ => False) Q)) : Wp p (.loop a) fr lc h Q := by
  refine wp_scanL l g (fun i fr lc' h => ∃ st, fr = F i st ∧ lc' = L i st ∧ J i st h) ⟨st0, h0, hc, hJ⟩ ?_ ?_
  · rintro _ _ h ⟨st, rfl, rfl, hj⟩ fn
    exact fin st h hj fn
  · rintro i hi _ _ h ⟨st, rfl, rfl, hj⟩ hit
    refine wp_mono (more i hi st h hj hit) fun ex fr lc h hq => ?_
    have hq := hq.out
    cases ex with
    | norm => exact ⟨⟨hq.1, hq.2⟩⟩
    | exit j => exact ⟨hq⟩
    | ret => exact ⟨hq⟩
end
theorem runesB_len (l : Bytes) : (runesB l).length = (spots l).length := by rw [runesB, List.length_map]
theorem encs_snoc (B : List Nat) (c : Nat) : encs (B ++ [c]) = encs B ++ encN c := by
  rw [encs_append]
  simp [encs]
theorem encs_lenle (L : List Nat) : (encs L).length ≤ 4 * L.length := by
  induction L with
  | nil => simp [encs]
  | cons c L ih =>
    have := (encN_len c).2
    rw [encs_cons, List.length_append, List.length_cons]
    omega
theorem ref8Text_spec {s : Sl} {B : List Nat} {h : AH} (rd : Reads h 1 s (B.map rnV)) (hB : ∀ c ∈ B, RuneN c) (hn : B.length ≤ 10000000) : WpC PX 25 [s.val 1] h fun v h' => v = .string (bs (encs B)) ∧ Kp h h' := by
  have hs := rd.len
  refine wpc_fn (px_ext rfl) (px_fn fn_guiseref8_Text) rfl ?_
  unfold LF_guiseref8_Text
  simp only [argFr]
  (refine W_x hs ?_; (repeat' first | apply Cj.mk | exact Nl.nl) <;> intros)
  refine wp_forS (fun i sl => [(0, s.val 1), (3, sl.val 1), (4, .int .i64 i)]) (fun _ _ => []) B (fun i sl h' => FOwn h h' 1 sl ((encs (B.take i)).map byteV)) (fun _ _ => (none : Option Unit)) Sl.nil rfl rfl (by simpa [encs] using FOwn.nil (Kp.refl h)) (fun i hi sl h1 fo hit => ?_) fun sl h1 fo fin => ?_
  · have g0 := fun lc => rd_map (lc := lc) (rd.kp fo.kp) hi
    have hr := hB _ (List.getElem_mem hi)
    have ht := take_snoc hi
    generalize B[i] = c at g0 hr ht
    unfold rnV at g0
    have hl := encs_lenle (B.take i)
    rw [List.length_take] at hl
    obtain ⟨e, he⟩ : ∃ e, e = Utf8.encode (c : Int) := ⟨_, rfl⟩
    have he1 : e = bs (encN c) := he.trans (enc_bs hr)
    have he2 : e.size ≤ 4 := by rw [he1, bs_size]; exact (encN_len c).2
    have he3 : e.data.toList = encN c := by rw [he1, bs_l]
    clear he1
    (refine W_x (Aj hs (Aj g0 he.symm)) ?_; (repeat' first | apply Cj.mk | exact Nl.nl) <;> intros)
    refine wo_appT fo (by decide) (by rw [List.length_map]; omega) fun s2 h2 f2 => ?_
    rw [he3] at f2
    (refine W_x trivial ?_; (repeat' first | apply Cj.mk | exact Nl.nl) <;> intros)
    refine ⟨rfl, s2, rfl, rfl, ?_⟩
    rw [ht, encs_snoc, List.map_append]
    exact f2
  · have hb := fun lc => b2s_own (lc := lc) fo.own
    (refine W_x (Aj hs hb) ?_; (repeat' first | apply Cj.mk | exact Nl.nl) <;> intros)
    rw [List.take_length]
    exact ⟨rfl, fo.kp⟩
end Go.Proofs.YtfiaggbgplmmeaaGreatDoor.AM
namespace Go.Proofs.YtfiaggbgplmmeaaGreatDoor.AM
open Go
theorem ordered_of {cl : Nat → Int} : ∀ {l : List Nat}, (∀ j (hj : j + 1 < l.length), ¬ (0 < cl l[j + 1] ∧ cl l[j + 1] < cl (l[j]'(by omega)))) → Ordered cl l
  | [], _ => trivial
  | [a], _ => trivial
  | a :: c :: t, h => ⟨h 0 (by simp), ordered_of (l := c :: t) fun j hj => h (j + 1) (by simpa using hj)⟩
theorem swap_at {D : List Nat} {j : Nat} (hj : j + 1 < D.length) : D = D.take j ++ D[j] :: D[j + 1] :: D.drop (j + 2) ∧ (D.set (j + 1) D[j]).set j D[j + 1] = D.take j ++ D[j + 1] :: D[j] :: D.drop (j + 2) := by
  have h1 : D = D.take j ++ D[j] :: D[j + 1] :: D.drop (j + 2) := by
    conv => lhs; rw [← List.take_append_drop j D, List.drop_eq_getElem_cons (by omega), List.drop_eq_getElem_cons hj]
  refine ⟨h1, ?_⟩
  generalize hx : D[j] = x at h1 ⊢
  generalize hy : D[j + 1] = y at h1 ⊢
  have hp : (D.take j).length = j := by rw [List.length_take]; omega
  generalize D.take j = P at h1 hp ⊢
  generalize D.drop (j + 2) = S at h1 ⊢
  subst h1
  subst hp
  simp
theorem ref8Sorted_spec {S : TS} {T : Tab} {h : AH} (t : TabAt h S T) {s : Sl} {B : List Nat} (rd : Reads h 1 s (B.map rnV)) (hn : B.length ≤ 10000000) :
    WpC PX 54 [.agg S.vs.toArray, s.val 1] h fun v h' => ∃ sl, v = sl.val 1 ∧ FOwn h h' 1 sl ((ord (clT T) B).map rnV) := by
  refine wpc_fn (px_ext rfl) (px_fn fn_guiseref8_Sorted) rfl ?_
  unfold LF_guiseref8_Sorted
  simp only [argFr]
  unfold TS.vs
  (refine W_x trivial ?_; (repeat' first | apply Cj.mk | exact Nl.nl) <;> intros)
  refine wo_appL (s := .at h.n 0 0) (t := s) (xss := []) (yss := B.map rnV) (FOwn.make (n := 0) (z := List.replicate 1 undef) (Kp.refl h) (by simp)) (rd.kp ((Kp.refl h).push _)) (by decide) (by decide) (by simp; omega) fun sl h1 fo => ?_
  rw [List.nil_append] at fo
  (refine W_x trivial ?_; (repeat' first | apply Cj.mk | exact Nl.nl) <;> intros)
  refine wp_loopB (fun w fr lc g => ∃ (D : List Nat) (again : Bool), w = (if again then inv (clT T) D + 1 else 0) ∧ D.length = B.length ∧ ord (clT T) D = ord (clT T) B ∧ (again = false → Ordered (clT T) D) ∧ FOwn h g 1 sl (D.map rnV) ∧
    fr = [(2, .pointer (some ⟨4, 0, some 1⟩)), (5, sl.val 1), (6, .bool again)] ∧ lc = [(4, .cells false [S.s0.val 2, S.s1.val 2, S.s2.val 2, S.s3.val 3, S.s4.val 2, S.s5.val 2, S.s6.val 2, S.s7.val 2])]) (inv (clT T) B + 1) _ (by repeat' first | exact True.intro | refine And.intro rfl ?_) ⟨B, true, rfl, rfl, rfl, (fun q => by cases q), fo, rfl, rfl⟩ (fun w f0 lc h ⟨_, _, _, _, _, _, _, e, _⟩ => by rw [e]; rfl) ?_
  rintro w fr lc g ⟨D, again, rfl, hD, ho, hf, fo, rfl, rfl⟩
  cases again
  · (refine W_x trivial ?_; (repeat' first | apply Cj.mk | exact Nl.nl) <;> intros)
    refine ⟨sl, rfl, ?_⟩
    rw [← ho, ord_of_ordered (hf rfl)]
    exact fo
  · have sll := fo.own.1
    rw [List.length_map] at sll
    (refine W_x trivial ?_; (repeat' first | apply Cj.mk | exact Nl.nl) <;> intros)
    refine wp_loop (fun w fr lc g => ∃ (j : Nat) (E : List Nat) (again : Bool), w = D.length - j ∧ E.length = D.length ∧ ord (clT T) E = ord (clT T) D ∧ (again = false → E = D ∧ ∀ i (hi : i + 1 < D.length), i < j → ¬ (0 < clT T D[i + 1] ∧ clT T D[i + 1] < clT T (D[i]'(by omega)))) ∧ (again = true → inv (clT T) E < inv (clT T) D) ∧ FOwn h g 1 sl (E.map rnV) ∧
      fr = [(2, .pointer (some ⟨4, 0, some 1⟩)), (5, sl.val 1), (6, .bool again), (7, .int .i64 ((j : Int) + 1))] ∧ lc = [(4, .cells false [S.s0.val 2, S.s1.val 2, S.s2.val 2, S.s3.val 3, S.s4.val 2, S.s5.val 2, S.s6.val 2, S.s7.val 2])]) D.length
      ⟨0, D, false, rfl, rfl, rfl, fun _ => ⟨rfl, fun i hi h0 => by omega⟩, (fun q => by cases q), fo, rfl, rfl⟩ ?_
    rintro w fr lc g ⟨j, E, again, rfl, hE, hoE, hf1, hf2, fo, rfl, rfl⟩
    by_cases hj : j + 1 < E.length
    · have rdE := fo.reads
      have g0 := fun lc => rd_map (lc := lc) rdE (i := j) (by omega)
      have g1 := fun lc => rd_map (lc := lc) rdE hj
      have tt := t.kp fo.kp
      have e1 := class6_eq tt
      unfold TS.vs at e1
      obtain ⟨hs1, hs2⟩ := swap_at hj
      have hj0 : j < E.length := by omega
      have sw := fun (h1 : 0 < clT T E[j + 1]) (h2 : clT T E[j + 1] < clT T E[j]) => ord_swap (cl := clT T) (a := E[j]) (c := E[j + 1]) h1 h2 (E.take j) (E.drop (j + 2))
      have iw := fun (h1 : 0 < clT T E[j + 1]) (h2 : clT T E[j + 1] < clT T E[j]) => inv_swap (cl := clT T) (a := E[j]) (c := E[j + 1]) h1 h2 (E.drop (j + 2)) (E.take j)
      rw [← hs1, ← hs2] at sw iw
      have e2 := e1 (E[j] : Nat)
      have e3 := e1 (E[j + 1] : Nat)
      rw [show classI T (E[j] : Nat) = clT T E[j] from rfl] at e2
      rw [show classI T (E[j + 1] : Nat) = clT T E[j + 1] from rfl] at e3
      obtain ⟨g2, hw1, f1⟩ := fo.set (i := j + 1) (by rw [List.length_map]; exact hj) (vs := rnV E[j]) rfl
      obtain ⟨g3, hw2, f2⟩ := f1.set (i := j) (by rw [List.length_set, List.length_map]; omega) (vs := rnV E[j + 1]) rfl
      rw [← List.map_set, ← List.map_set] at f2
      have hix : ((j : Int) + 1 - 1).toNat = j := by omega
      have hix1 : ((j : Int) + 1).toNat = j + 1 := by omega
      have hEj : again = false → ∀ hi : j + 1 < D.length, E[j + 1] = D[j + 1] ∧ E[j] = D[j]'(by omega) := fun q hi => by
        have := (hf1 q).1
        subst this
        exact ⟨rfl, rfl⟩
      generalize E[j] = x at *
      generalize E[j + 1] = y at *
      unfold rnV at g0 g1 hw1 hw2
      (refine W_x (Aj sll (Aj hix (Aj hix1 (Aj g0 (Aj g1 (Aj e2 (Aj e3 (Aj hw1 hw2)))))))) ?_; (repeat' first | apply Cj.mk | exact Nl.nl) <;> intros)
      · have hs := sw (by omega) (by omega)
        have hi := iw (by omega) (by omega)
        refine ⟨_, by omega, j + 1, (E.set (j + 1) x).set j y, true, rfl, by rw [List.length_set, List.length_set]; exact hE, by rw [← hs]; exact hoE, (fun q => by cases q), fun _ => ?_, f2, by simp only [Int.natCast_add]; rfl, rfl⟩
        cases again with
        | true => have := hf2 rfl; omega
        | false => rw [← (hf1 rfl).1]; omega
      all_goals
        refine ⟨_, by omega, j + 1, E, again, rfl, hE, hoE, fun q => ⟨(hf1 q).1, fun i hi hij => ?_⟩, hf2, fo, by simp only [Int.natCast_add]; rfl, rfl⟩
        rcases Nat.lt_or_ge i j with h5 | h5
        · exact (hf1 q).2 i hi h5
        · have h6 : i = j := by omega
          subst h6
          rw [← (hEj q hi).1, ← (hEj q hi).2]
          omega
    · (refine W_x sll ?_; (repeat' first | apply Cj.mk | exact Nl.nl) <;> intros)
      refine ⟨_, ?_, _, (by repeat' first | exact True.intro | refine And.intro rfl ?_), E, again, rfl, by omega, by rw [hoE, ho], fun q => ?_, fo, rfl, rfl⟩
      · cases again with
        | true => have := hf2 rfl; simp only [if_true]; omega
        | false => simp
      · rw [(hf1 q).1]
        exact ordered_of fun i hi => (hf1 q).2 i hi (by omega)
def orderB (T : Tab) (l : Bytes) : Bytes := encs (ord (clT T) (runesB l))
end Go.Proofs.YtfiaggbgplmmeaaGreatDoor.AM
namespace Go.Proofs.YtfiaggbgplmmeaaGreatDoor.AM
open Go
section
variable {cl : Nat → Int}
theorem insR_split {r : Nat} : ∀ (A B : List Nat), (∀ s ∈ A, 0 < cl r ∧ cl r < cl s) → (∀ b ∈ B, ¬ (0 < cl r ∧ cl r < cl b)) → insR cl (A ++ B) r = A ++ r :: B
  | [], [], _, _ => rfl
  | [], b :: B, _, h => by simp only [List.nil_append, insR]; rw [if_neg (h b (by simp))]
  | a :: A, B, h, g => by
    simp only [List.cons_append, insR]
    rw [if_pos (h a (by simp)), insR_split A B (fun s hs => h s (by simp [hs])) g]
theorem ord_snoc (l : List Nat) (r : Nat) : ord cl (l ++ [r]) = (insR cl (ord cl l).reverse r).reverse := by
  unfold ord
  rw [List.foldl_append, List.foldl_cons, List.foldl_nil, List.reverse_reverse]
theorem sorted_ord : ∀ (n : Nat) (O Z : List (Nat × Nat)), O.length = n → O.Pairwise (fun x y => (x.2 : Int) < y.2) → Z.Perm O → Z.Pairwise (ltK (fun x => cl x.1) fun x => (x.2 : Int)) → (∀ x ∈ O, 0 < cl x.1) → Z.map (·.1) = ord cl (O.map (·.1))
  | 0, O, Z, hn, _, hp, _, _ => by
    have : O = [] := List.eq_nil_of_length_eq_zero hn
    subst this
    rw [hp.eq_nil]
    rfl
  | n + 1, O, Z, hn, ho, hp, hz, hc => by
    rcases List.eq_nil_or_concat O with rfl | ⟨O', x, rfl⟩
    · simp at hn
    · rw [List.concat_eq_append] at *
      rw [List.length_append, List.length_singleton] at hn
      have hx : x ∈ Z := hp.mem_iff.2 (by simp)
      obtain ⟨P, S, rfl⟩ := List.append_of_mem hx
      have hp' : (P ++ S).Perm O' := by
        have h1 := hp.symm.trans List.perm_middle
        have h2 : (O' ++ [x]).Perm (x :: O') := List.perm_append_singleton x O'
        exact (List.Perm.cons_inv (h2.symm.trans h1)).symm
      have ho' := List.pairwise_append.1 ho
      have hz1 := List.pairwise_append.1 hz
      have hz2 := List.pairwise_cons.1 hz1.2.1
      have ih := sorted_ord n O' (P ++ S) (by omega) ho'.1 hp' (hz.sublist (by simp)) fun y hy => hc y (by simp [hy])
      have hcx := hc x (by simp)
      rw [List.map_append, List.map_cons, List.map_append, List.map_cons, List.map_nil, ord_snoc, ← ih, List.map_append, List.reverse_append]
      rw [insR_split]
      · simp
      · intro s hs
        rw [List.mem_reverse] at hs
        obtain ⟨y, hy, rfl⟩ := List.mem_map.1 hs
        have h1 := hz2.1 y hy
        have h2 := ho'.2.2 y (hp'.mem_iff.1 (by simp [hy])) x (by simp)
        unfold ltK at h1
        simp only at h1
        omega
      · intro s hs
        rw [List.mem_reverse] at hs
        obtain ⟨y, hy, rfl⟩ := List.mem_map.1 hs
        have h1 := hz1.2.2 y hy x (by simp)
        unfold ltK at h1
        simp only at h1
        omega
theorem ordered_append : ∀ {A B : List Nat}, Ordered cl A → Ordered cl B → (∀ a b, A.getLast? = some a → B.head? = some b → ¬ (0 < cl b ∧ cl b < cl a)) → Ordered cl (A ++ B)
  | [], B, _, hB, _ => hB
  | [a], [], _, _, _ => trivial
  | [a], b :: B, _, hB, h => ⟨h a b rfl rfl, hB⟩
  | a :: c :: A, B, hA, hB, h => ⟨hA.1, ordered_append (A := c :: A) hA.2 hB fun x y hx hy => h x y (by rw [List.getLast?_cons_cons]; exact hx) hy⟩
end
theorem Tr.set_self : ∀ (f : Nat) (t : Tr) (k : Nat) (o : AObj), k < f → t.get k = some o → Tr.set f t k (some o) = t
  | 0, t, k, o, h, _ => by omega
  | f + 1, .e, k, o, _, h => by simp [Tr.get] at h
  | f + 1, .n l v r, k, o, hk, h => by
    simp only [Tr.get] at h
    by_cases h0 : k = 0
    · rw [if_pos h0] at h
      simp only [Tr.set, if_pos h0, h]
    · rw [if_neg h0] at h
      by_cases h1 : k % 2 = 1
      · rw [if_pos h1] at h
        simp only [Tr.set, if_neg h0, if_pos h1, Tr.set_self f l (k / 2) o (by omega) h]
      · rw [if_neg h1] at h
        simp only [Tr.set, if_neg h0, if_neg h1, Tr.set_self f r (k / 2 - 1) o (by omega) h]
theorem AH.set_self {h : AH} {b : Nat} {o : AObj} (e : h.get b = some o) : h.set b o = h := by
  have hb := AH.get_lt e
  simp only [AH.get, hb, if_true] at e
  simp only [AH.set, AH.put, Tr.set_self (b + 1) h.m b o (by omega) e]
end Go.Proofs.YtfiaggbgplmmeaaGreatDoor.AM
namespace Go.Proofs.YtfiaggbgplmmeaaGreatDoor.AM
open Go
theorem isNaNi_eq (n : Int) (h : AH) : callO PX 123 [.int .i64 n] h = some (.bool false, h) := by
  apply WpC.eqn
  refine wpc_fn (px_ext rfl) (px_fn fn_cmp_isNaN_int) rfl ?_
  unfold LF_cmp_isNaN_int
  simp only [argFr]
  (refine W_x trivial ?_; (repeat' first | apply Cj.mk | exact Nl.nl) <;> intros)
  all_goals exact ⟨rfl, rfl⟩
def cmpI (x y : Int) : Int := if x < y then -1 else if y < x then 1 else 0
theorem compareI_eq (x y : Int) (h : AH) : callO PX 81 [.int .i64 x, .int .i64 y] h = some (.int .i64 (cmpI x y), h) := by
  have e := fun n => isNaNi_eq n
  apply WpC.eqn
  refine wpc_fn (px_ext rfl) (px_fn fn_cmp_Compare_int) rfl ?_
  unfold LF_cmp_Compare_int
  simp only [argFr]
  (refine W_x e ?_; (repeat' first | apply Cj.mk | exact Nl.nl) <;> intros)
  all_goals (refine ⟨?_, rfl⟩; unfold cmpI; congr 1; (repeat' split) <;> omega)
abbrev rpV (x : Nat × Nat) : List Value := rnV x.1
theorem cmp_marks (q : Pl) {T : Tab} {k B c : Nat} {s6 : Sl} (hb : ∀ D, BkAt (q.H rpV D) k B s6 T) (hc : ∀ D, (q.H rpV D).get c = some (.cells false [.pointer (some ⟨k, 0, none⟩)])) :
    CmpS q rpV (fun x => .int .i32 x.1) (.func (.func 80) #[] #[.pointer (some ⟨c, 0, none⟩)]) (fun x : Nat × Nat => clT T x.1) where
  len := fun x => rfl
  cells := fun x => rfl
  ok := fun x => rfl
  okv := fun x => rfl
  cvf := ⟨_, .inr ⟨c, 0, rfl⟩⟩
  run := fun x y D => by
    refine ⟨cmpI (clT T x.1) (clT T y.1), ?_, by unfold cmpI; (repeat' split) <;> omega, by unfold cmpI; (repeat' split) <;> omega, by unfold cmpI; (repeat' split) <;> omega⟩
    have e := fun a b => compareI_eq a b
    have e1 := class_eq (hb D)
    have g := hc D
    show callO PX 80 [.int .i32 x.1, .int .i32 y.1, .pointer (some ⟨c, 0, none⟩)] _ = _
    apply WpC.eqn
    refine wpc_fn (px_ext rfl) (px_fn fn_marks_Order_1) rfl ?_
    unfold LF_marks_Order_1
    simp only [argFr]
    (refine W_y (Aj e (Aj e1 g)) ?_; (repeat' first | apply Cj.mk | exact Nl.nl) <;> intros)
    exact ⟨rfl, rfl⟩
  vw := fun x => rfl
  rdw := fun x => rfl
def sl3 (e : Nat) (v a b c : Value) : Option Value := (POp.sl e (.c v) (some (.c a)) (some (.c b)) (some (.c c))).ev []
theorem ev_sl3 {fr : Fr} {e : Nat} {x a b c : Opd} : (POp.sl e x (some a) (some b) (some c)).ev fr = sl3 e (opd fr x) (opd fr a) (opd fr b) (opd fr c) := rfl
attribute [push_cast] ev_sl3
theorem sl3_val {bk o n : Nat} {i j m : Int} (h0 : 0 ≤ i) (h1 : i ≤ j) (h2 : j ≤ m) (h3 : m ≤ n) : sl3 1 ((Sl.at bk o n).val 1) (.int .i64 i) (.int .i64 j) (.int .i64 m) = some ((Sl.at bk (o + i.toNat) (j - i).toNat).val 1) := by
  obtain ⟨i, rfl⟩ := Int.eq_ofNat_of_zero_le h0
  obtain ⟨j, rfl⟩ := Int.eq_ofNat_of_zero_le (Int.le_trans h0 h1)
  obtain ⟨m, rfl⟩ := Int.eq_ofNat_of_zero_le (Int.le_trans h0 (Int.le_trans h1 h2))
  have a1 : i ≤ j := by omega
  have a2 : j ≤ m := by omega
  have a3 : m ≤ n := by omega
  simp [sl3, POp.ev, opd, Sl.val, optInt, asNat, ptrOff, a1, a2, a3]
theorem sort_run {h g : AH} {k B c i j : Nat} {s6 sl : Sl} {T : Tab} {D : List Nat} (bk : BkAt h k B s6 T) (hc : h.get c = some (.cells false [.pointer (some ⟨k, 0, none⟩)])) (fo : FOwn h g 1 sl (D.map rnV)) (hij : i < j) (hj : j ≤ D.length) (hn : D.length < 1000000000)
    (hm : ∀ x ∈ (D.drop i).take (j - i), 0 < clT T x) :
    ∃ (w : Sl) (g' : AH), sl3 1 (sl.val 1) (.int .i64 i) (.int .i64 j) (.int .i64 j) = some (w.val 1) ∧ callO PX 79 [w.val 1, .func (.func 80) #[] #[.pointer (some ⟨c, 0, none⟩)]] g = some (.tuple #[], g') ∧
      FOwn h g' 1 sl ((D.take i ++ ord (clT T) ((D.drop i).take (j - i)) ++ D.drop j).map rnV) := by
  have hlen := fo.own.1
  have hnew := fo.new
  have hkp := fo.kp
  rw [List.length_map] at hlen
  cases sl with
  | nil => simp [Sl.len] at hlen; omega
  | «at» b o n =>
    simp only [Sl.len] at hlen
    obtain ⟨h1, h2, pre, h3, h4⟩ := fo.own
    have hnb := hnew b rfl
    have hbg := AH.get_lt h3
    obtain ⟨M, hM⟩ : ∃ M, M = (D.drop i).take (j - i) := ⟨_, rfl⟩
    have hMl : M.length = j - i := by rw [hM, List.length_take, List.length_drop]; omega
    have hD : D = D.take i ++ M ++ D.drop j := by
      rw [hM]
      conv => lhs; rw [← List.take_append_drop i D, ← List.take_append_drop (j - i) (D.drop i), List.drop_drop, show i + (j - i) = j by omega]
      rw [List.append_assoc]
    rw [← hM] at hm ⊢
    let q : Pl := ⟨g, b, pre ++ ((D.take i).map rnV).flatten, ((D.drop j).map rnV).flatten, hbg⟩
    have hfm : ∀ Z : List (Nat × Nat), Z.map rpV = (Z.map (·.1)).map rnV := fun Z => by rw [List.map_map]; rfl
    have hO : M.zipIdx.map (·.1) = M := List.zipIdx_map_fst 0 M
    have hfl : (D.map rnV).flatten = ((D.take i).map rnV).flatten ++ ((M.map rnV).flatten ++ ((D.drop j).map rnV).flatten) := by
      conv => lhs; rw [hD]
      simp only [List.map_append, List.flatten_append, List.append_assoc]
    have hH : q.H rpV M.zipIdx = g := by
      show g.set b (.cells false (pre ++ ((D.take i).map rnV).flatten ++ (M.zipIdx.map rpV).flatten ++ ((D.drop j).map rnV).flatten)) = g
      rw [hfm, hO]
      refine AH.set_self ?_
      rw [h3, hfl]
      simp only [List.append_assoc]
    have kpq : ∀ E, Kp h (q.H rpV E) := fun E => ⟨hkp.1, fun x hx => by
      show (g.set b _).get x = _
      rw [AH.get_set_ne _ (by omega)]
      exact hkp.2 x hx⟩
    have hcq := AH.get_lt hc
    obtain ⟨Z, z1, z2, z3⟩ := sortStable_eq (idx := fun x : Nat × Nat => (x.2 : Int)) (cmp_marks q (T := T) (k := k) (B := B) (c := c) (s6 := s6) (fun E => bk.kp (kpq E)) (fun E => (kpq E).get hc)) (O := M.zipIdx) (n := M.length) (by simp) (by omega) (by
      rw [List.pairwise_iff_getElem]
      intro x y hx hy hxy
      simp only [List.getElem_zipIdx]
      omega)
    have hmz : ∀ x ∈ M.zipIdx, 0 < clT T x.1 := fun x hx => hm _ (by rw [← hO]; exact List.mem_map_of_mem hx)
    have hZ := sorted_ord (cl := clT T) _ M.zipIdx Z rfl (by
      rw [List.pairwise_iff_getElem]
      intro x y hx hy hxy
      simp only [List.getElem_zipIdx]
      omega) z1 z2 hmz
    rw [hO] at hZ
    rw [hH] at z3
    have hl1 : ∀ l : List Nat, ((l.map rnV).flatten).length = l.length := fun l => by rw [flatten_len (e := 1) (fun x hx => by obtain ⟨y, _, rfl⟩ := List.mem_map.1 hx; rfl), List.length_map, Nat.mul_one]
    have hqs : q.s M.length = .at b (o + i) (j - i) := by
      show Sl.at b (pre ++ ((D.take i).map rnV).flatten).length _ = _
      rw [List.length_append, hl1, List.length_take, h4, hMl, Nat.min_eq_left (by omega)]
    have hs := sl3_val (bk := b) (o := o) (n := n) (i := i) (j := j) (m := j) (by omega) (by omega) (by omega) (by omega)
    rw [show ((j : Int) - i).toNat = j - i by omega, Int.toNat_natCast] at hs
    rw [hqs] at z3
    refine ⟨_, _, hs, z3, ⟨⟨by simp only [Sl.len, List.length_map, List.length_append, ord_length, hMl, List.length_take, List.length_drop]; omega, fun x hx => by obtain ⟨y, _, rfl⟩ := List.mem_map.1 hx; rfl, pre, ?_, h4⟩, kpq Z, hnew⟩⟩
    rw [q.get]
    show some (AObj.cells false ((pre ++ ((D.take i).map rnV).flatten) ++ (Z.map rpV).flatten ++ ((D.drop j).map rnV).flatten)) = _
    rw [hfm, hZ]
    simp only [List.map_append, List.flatten_append, List.append_assoc]
set_option maxHeartbeats 1000000 in
theorem marksOrder_spec {h : AH} {k B : Nat} {s6 : Sl} {T : Tab} (bk : BkAt h k B s6 T) (s : ByteArray) (hs : s.size ≤ 100000000) : WpC PX 48 [.pointer (some ⟨k, 0, none⟩), .string s] h fun v h' => v = .string (bs (orderB T s.data.toList)) ∧ Kp h h' := by
  have hz : s.data.toList.length = s.size := rfl
  have hn := spots_len s.data.toList
  have hl := runesB_len s.data.toList
  have hr := runesB_rune s.data.toList
  unfold orderB
  refine wpc_fn (px_ext rfl) (px_fn fn_marks_Order) rfl ?_
  unfold LF_marks_Order
  simp only [argFr]
  (refine W_x trivial ?_; (repeat' first | apply Cj.mk | exact Nl.nl) <;> intros)
  refine wo_s2r (h0 := h.push (.cells false [.pointer (some ⟨k, 0, none⟩)])) (Kp.refl _) (by omega) fun sl g fo => ?_
  have bk1 := bk.kp ((Kp.refl h).push (.cells false [.pointer (some ⟨k, 0, none⟩)]))
  have hbox : (h.push (.cells false [.pointer (some ⟨k, 0, none⟩)])).get h.n = some (.cells false [.pointer (some ⟨k, 0, none⟩)]) := AH.get_push_same h _
  have kp0 : Kp h (h.push (.cells false [.pointer (some ⟨k, 0, none⟩)])) := (Kp.refl h).push _
  generalize h.push (.cells false [.pointer (some ⟨k, 0, none⟩)]) = h1 at fo bk1 hbox kp0
  generalize h.n = c at hbox
  generalize runesB s.data.toList = L at fo hl hr
  (refine W_x trivial ?_; (repeat' first | apply Cj.mk | exact Nl.nl) <;> intros)
  refine wp_loop (fun w fr lc g => ∃ (A R : List Nat), w = R.length ∧ A.length + R.length = L.length ∧ ord (clT T) (A ++ R) = ord (clT T) L ∧ Ordered (clT T) A ∧ (A = [] ∨ R = [] ∨ (∃ a A', A = A' ++ [a] ∧ clT T a ≤ 0) ∨ (∃ a R', R = a :: R' ∧ clT T a ≤ 0)) ∧ FOwn h1 g 1 sl ((A ++ R).map rnV) ∧
    fr = [(2, .pointer (some ⟨c, 0, none⟩)), (5, sl.val 1), (6, .int .i64 A.length)] ∧ lc = []) L.length ⟨[], L, rfl, by simp, rfl, trivial, .inl rfl, fo, rfl, rfl⟩ ?_
  rintro w fr lc g ⟨A, R, rfl, hAR, ho, hA, hb, fo, rfl, rfl⟩
  have sll := fo.own.1
  rw [List.length_map, List.length_append] at sll
  have hbx := fo.kp.get hbox
  have e1 := class_eq (bk1.kp fo.kp)
  cases R with
  | nil =>
    rw [List.append_nil] at fo ho
    rw [List.length_nil, Nat.add_zero] at sll
    have hg := fun lc => r2s_own (lc := lc) fo.own (fun x hx => hr x (by rw [← ord_mem (cl := clT T), ← ho]; exact ord_mem.2 hx))
    (refine W_x (Aj sll hg) ?_; (repeat' first | apply Cj.mk | exact Nl.nl) <;> intros)
    refine ⟨?_, kp0.trans fo.kp⟩
    rw [← ho, ord_of_ordered hA]
  | cons r R =>
    rw [List.length_cons] at sll hAR
    have hi : A.length < (A ++ r :: R).length := by rw [List.length_append, List.length_cons]; omega
    have g0 := fun lc => rd_map (lc := lc) fo.reads hi
    have hget : (A ++ r :: R)[A.length] = r := by simp
    rw [hget] at g0
    have e2 := e1 (r : Nat)
    rw [show classI T (r : Nat) = clT T r from rfl] at e2
    unfold rnV at g0
    (refine W_x (Aj sll (Aj hbx (Aj g0 e2))) ?_; (repeat' first | apply Cj.mk | exact Nl.nl) <;> intros)
    · have hb' : A = [] ∨ (∃ a A', A = A' ++ [a] ∧ clT T a ≤ 0) := by
        rcases hb with hb | hb | hb | ⟨a, R', e, ha⟩
        · exact .inl hb
        · cases hb
        · exact .inr hb
        · injection e with e e2
          subst e
          omega
      refine wp_loopB (fun w f0 lc g' => ∃ (m : Nat) (j : Int), j = (A.length : Int) + 1 + m ∧ w = R.length - m ∧ m ≤ R.length ∧ (∀ x ∈ R.take m, 0 < clT T x) ∧ f0 = [(2, .pointer (some ⟨c, 0, none⟩)), (5, sl.val 1), (6, .int .i64 A.length), (7, .int .i64 j)] ∧ lc = [] ∧ g' = g) R.length _ (by repeat' first | exact True.intro | refine And.intro rfl ?_)
        ⟨0, (A.length : Int) + 1, by omega, rfl, Nat.zero_le _, by simp, rfl, rfl, rfl⟩ (fun w f0 lc h ⟨_, _, _, _, _, _, e, _, _⟩ => by rw [e]; rfl) ?_
      rintro w f0 lc g' ⟨m, j, hj, rfl, hm, hM, rfl, rfl, rfl⟩
      have fin : (m = R.length ∨ ∃ hm : m < R.length, clT T R[m] ≤ 0) → ∃ (w : Sl) (g2 : AH), sl3 1 (sl.val 1) (.int .i64 A.length) (.int .i64 j) (.int .i64 j) = some (w.val 1) ∧
          callO PX 79 [w.val 1, .func (.func 80) #[] #[.pointer (some ⟨c, 0, none⟩)]] g' = some (.tuple #[], g2) ∧
          ∃ A' : List Nat, (A'.length : Int) = j ∧ A'.length + (R.drop m).length = L.length ∧ ord (clT T) (A' ++ R.drop m) = ord (clT T) L ∧ Ordered (clT T) A' ∧ (A' = [] ∨ R.drop m = [] ∨ (∃ a A2, A' = A2 ++ [a] ∧ clT T a ≤ 0) ∨ (∃ a R', R.drop m = a :: R' ∧ clT T a ≤ 0)) ∧ FOwn h1 g2 1 sl ((A' ++ R.drop m).map rnV) := fun hend => by
        have hcut : R.drop m = [] ∨ ∃ a R', R.drop m = a :: R' ∧ clT T a ≤ 0 := by
          rcases hend with e | ⟨hlt, e⟩
          · exact .inl (by rw [e, List.drop_length])
          · exact .inr ⟨_, _, List.drop_eq_getElem_cons hlt, e⟩
        have hd : ((A ++ r :: R).drop A.length).take (A.length + 1 + m - A.length) = r :: R.take m := by
          rw [List.drop_left, show A.length + 1 + m - A.length = m + 1 by omega, List.take_succ_cons]
        have hpos : ∀ x ∈ r :: R.take m, 0 < clT T x := fun x hx => by
          rcases List.mem_cons.1 hx with rfl | hx
          · assumption
          · exact hM x hx
        obtain ⟨w, g2, q1, q2, q3⟩ := sort_run (i := A.length) (j := A.length + 1 + m) bk1 hbox fo (by omega) (by rw [List.length_append, List.length_cons]; omega) (by rw [List.length_append, List.length_cons]; omega) (by rw [hd]; exact hpos)
        have hd2 : (A ++ r :: R).drop (A.length + 1 + m) = R.drop m := by
          rw [show A.length + 1 + m = A.length + (m + 1) by omega, ← List.drop_drop, List.drop_left, List.drop_succ_cons]
        rw [hd, List.take_left, hd2] at q3
        refine ⟨w, g2, by rw [hj]; simpa using q1, q2, A ++ ord (clT T) (r :: R.take m), ?_, ?_, ?_, ?_, ?_, q3⟩
        · rw [List.length_append, ord_length, List.length_cons, List.length_take]; omega
        · rw [List.length_append, ord_length, List.length_cons, List.length_take, List.length_drop]; omega
        · rw [← ho]
          have e : A ++ r :: R = A ++ ((r :: R.take m) ++ R.drop m) := by simp
          have hc2 : ∀ {X : List Nat}, (A = [] ∨ X = [] ∨ (∃ a p', A = p' ++ [a] ∧ clT T a ≤ 0) ∨ (∃ a q', X = a :: q' ∧ clT T a ≤ 0)) := by
            rcases hb' with h | h
            · exact .inl h
            · exact .inr (.inr (.inl h))
          have hc3 : ∀ {X : List Nat}, (X = [] ∨ R.drop m = [] ∨ (∃ a p', X = p' ++ [a] ∧ clT T a ≤ 0) ∨ (∃ a q', R.drop m = a :: q' ∧ clT T a ≤ 0)) := by
            rcases hcut with h | h
            · exact .inr (.inl h)
            · exact .inr (.inr (.inr h))
          rw [e, List.append_assoc, ord_append hc2, ord_append hc3, ord_append hc2, ord_append hc3, ord_ord]
        · refine ordered_append hA (ord_ordered _) fun a b ha hb2 => ?_
          have hbp : 0 < clT T b := hpos b (ord_mem.1 (List.mem_of_head? hb2))
          rcases hb' with rfl | ⟨a', A2, rfl, ha'⟩
          · cases ha
          · rw [List.getLast?_concat] at ha
            injection ha with ha
            subst ha
            omega
        · exact .inr (hcut.imp id .inr)
      by_cases hlt : m < R.length
      · have hi2 : A.length + 1 + m < (A ++ r :: R).length := by rw [List.length_append, List.length_cons]; omega
        have g1 := fun lc => rd_map (lc := lc) fo.reads hi2
        have hget2 : (A ++ r :: R)[A.length + 1 + m] = R[m] := by
          rw [List.getElem_append_right (by omega)]
          simp only [show A.length + 1 + m - A.length = m + 1 by omega, List.getElem_cons_succ]
        rw [hget2] at g1
        have ht := take_snoc hlt
        generalize hy : R[m] = y at g1 ht
        have e3 := e1 (y : Nat)
        rw [show classI T (y : Nat) = clT T y from rfl] at e3
        unfold rnV at g1
        have hix : j.toNat = A.length + 1 + m := by omega
        (refine W_x (Aj sll (Aj hbx (Aj hix (Aj g1 e3)))) ?_; (repeat' first | apply Cj.mk | exact Nl.nl) <;> intros)
        · refine ⟨_, by omega, [(2, .pointer (some ⟨c, 0, none⟩)), (5, sl.val 1), (6, .int .i64 A.length), (7, .int .i64 (j + 1))], (by repeat' first | exact True.intro | refine And.intro rfl ?_), m + 1, j + 1, by omega, rfl, by omega, fun x hx => ?_, rfl, rfl, rfl⟩
          rw [ht] at hx
          rcases List.mem_append.1 hx with hx | hx
          · exact hM x hx
          · rw [List.mem_singleton.1 hx]; assumption
        · obtain ⟨w, g2, q1, q2, A', a1, a2, a3, a4, a5, a6⟩ := fin (.inr ⟨hlt, by rw [hy]; omega⟩)
          (refine W_x (Aj q1 q2) ?_; (repeat' first | apply Cj.mk | exact Nl.nl) <;> intros)
          exact ⟨_, by rw [List.length_cons, List.length_drop]; omega, A', R.drop m, rfl, a2, a3, a4, a5, a6, by rw [a1], rfl⟩
      · obtain ⟨w, g2, q1, q2, A', a1, a2, a3, a4, a5, a6⟩ := fin (.inl (by omega))
        (refine W_x (Aj sll (Aj hbx (Aj q1 q2))) ?_; (repeat' first | apply Cj.mk | exact Nl.nl) <;> intros)
        exact ⟨_, by rw [List.length_cons, List.length_drop]; omega, A', R.drop m, rfl, a2, a3, a4, a5, a6, by rw [a1], rfl⟩
    · refine ⟨R.length, by simp, A ++ [r], R, rfl, by rw [List.length_append, List.length_singleton]; omega, by rw [List.append_assoc]; exact ho, ?_, .inr (.inr (.inl ⟨r, A, rfl, by omega⟩)), by rw [List.append_assoc]; exact fo, by simp only [List.length_append, List.length_singleton, Int.natCast_add]; rfl, rfl⟩
      exact ordered_append hA trivial fun a b _ hb2 => by
        injection hb2 with hb2
        subst hb2
        omega
end Go.Proofs.YtfiaggbgplmmeaaGreatDoor.AM
namespace Go.Proofs.YtfiaggbgplmmeaaGreatDoor.AM
open Go
theorem of_house {h : AH} {S : TS} (t : TabAt h S houseT) (u : U8T h) (hg : 2 ≤ h.n) : WpC PX 12 [.agg S.vs.toArray] h fun v h' => Kp h h' ∧ ∃ k B S, v = .tuple (List.toArray [.pointer (some ⟨k, 0, none⟩), .bool true, .bool true]) ∧ BookAt h' k B S houseT ∧ h.n ≤ B ∧ h.n ≤ k :=
  (of_spec t u hg).mono fun v h' ⟨k, q⟩ => ⟨k, by rwa [if_pos house_good] at q⟩
end Go.Proofs.YtfiaggbgplmmeaaGreatDoor.AM
namespace Go.Proofs.YtfiaggbgplmmeaaGreatDoor.AM
open Go
theorem good_check {T : Tab} (h : goodB T = true) : checkW T = none := by
  unfold goodB at h
  simp only [Bool.and_eq_true, Option.isNone_iff_eq_none] at h
  exact h.2
theorem good_marks {T : Tab} (h : goodB T = true) : ∀ x ∈ T.marks, runeI x.1 = true ∧ 1 ≤ x.2 ∧ x.2 ≤ 254 := by
  intro x hx
  have hf := (checkW_none (good_check h)).2.1
  unfold formsW at hf
  simp only [Option.or_eq_none_iff] at hf
  obtain ⟨i, hi, rfl⟩ := List.mem_iff_getElem.1 hx
  have := scanL_none hf.2.2.1 i hi
  split at this
  · cases this
  · rename_i h1
    split at this
    · cases this
    · exact ⟨by simpa using h1, by omega, by omega⟩
theorem class_range {T : Tab} (h : goodB T = true) (r : Int) : 0 ≤ classI T r ∧ classI T r ≤ 254 := by
  unfold classI
  cases hs : scanL T.marks fun _ x => if x.1 = r then some x.2 else none with
  | none => simp
  | some w =>
    obtain ⟨i, hi, e⟩ := scanL_some hs
    split at e
    · injection e with e
      have := good_marks h _ (List.getElem_mem hi)
      simp only [Option.getD_some]
      omega
    · cases e
section
variable {cl : Nat → Int}
end
end Go.Proofs.YtfiaggbgplmmeaaGreatDoor.AM
namespace Go.Proofs.YtfiaggbgplmmeaaGreatDoor.AM
open Go
theorem few_le (s : ByteArray) (n : Nat) : (fewB s n).size ≤ n := by
  unfold fewB
  split
  · rw [ba_size, ba_extract _ _ _ (by omega), List.length_take]
    omega
  · omega
theorem orderB_encs (T : Tab) {L : List Nat} (h : ∀ c ∈ L, RuneN c) : orderB T (encs L) = encs (ord (clT T) L) := by
  unfold orderB
  rw [runesB_of_encs h]
end Go.Proofs.YtfiaggbgplmmeaaGreatDoor.AM
namespace Go.Proofs.YtfiaggbgplmmeaaGreatDoor.AM
open Go
def pairI (T : Tab) (r : Int) : Option (Int × Int) := (wholeO T r).map fun j => (T.pairs.getD j (0, 0, 0)).2
def opI (T : Tab) : Nat → Int → List Int
  | 0, r => [r]
  | f + 1, r => match pairI T r with
    | none => [r]
    | some (b, m) => opI T f b ++ [m]
inductive Op (T : Tab) : Int → List Int → Prop
  | one {r : Int} : pairI T r = none → Op T r [r]
  | more {r b m : Int} {L : List Int} : pairI T r = some (b, m) → Op T b L → Op T r (L ++ [m])
theorem opI_none {T : Tab} {r : Int} (h : pairI T r = none) (k : Nat) : opI T k r = [r] := by
  cases k with
  | zero => rfl
  | succ k => simp only [opI, h]
theorem chain_ge {T : Tab} : ∀ (f n : Nat) (b : Int), 0 ≤ chainN T f n b → (n : Int) ≤ chainN T f n b
  | 0, n, b, h => by simp only [chainN] at h; omega
  | f + 1, n, b, h => by
    simp only [chainN] at h ⊢
    split at h
    · omega
    · have := chain_ge f _ _ h
      omega
theorem op_chain {T : Tab} : ∀ (f n : Nat) (b : Int) (k : Nat), 0 ≤ chainN T f n b → chainN T f n b ≤ (n : Int) + k → Op T b (opI T k b)
  | 0, n, b, k, h, _ => by simp only [chainN] at h; omega
  | f + 1, n, b, k, h, hk => by
    simp only [chainN] at h hk
    cases hw : wholeO T b with
    | none =>
      have hp : pairI T b = none := by unfold pairI; rw [hw]; rfl
      rw [opI_none hp]
      exact .one hp
    | some j =>
      rw [hw] at h hk
      simp only at h hk
      have h2 := chain_ge _ _ _ h
      have hp : pairI T b = some (T.pairs.getD j (0, 0, 0)).2 := by unfold pairI; rw [hw]; rfl
      cases k with
      | zero => omega
      | succ k =>
        have ih := op_chain f (n + 1) _ k h (by omega)
        simp only [opI, hp]
        exact .more hp ih
theorem good_chain {T : Tab} (h : goodB T = true) : ∀ x ∈ T.pairs, 0 ≤ chainN T T.pairs.length 1 x.2.1 ∧ chainN T T.pairs.length 1 x.2.1 ≤ 4 := by
  intro x hx
  have hf := (checkW_none (good_check h)).2.2.2.2.1
  unfold chainsW at hf
  obtain ⟨i, hi, rfl⟩ := List.mem_iff_getElem.1 hx
  have := scanL_none hf i hi
  split at this
  · cases this
  · split at this
    · cases this
    · omega
theorem good_pairs {T : Tab} (h : goodB T = true) : ∀ x ∈ T.pairs, isMark T x.1 = false ∧ isMark T x.2.1 = false ∧ isMark T x.2.2 = true ∧ runeI x.1 = true ∧ runeI x.2.1 = true ∧ runeI x.2.2 = true := by
  intro x hx
  have hn := checkW_none (good_check h)
  have hp := hn.2.2.2.1
  have hf := hn.2.1
  unfold pairsW at hp
  unfold formsW at hf
  simp only [Option.or_eq_none_iff] at hf
  obtain ⟨i, hi, rfl⟩ := List.mem_iff_getElem.1 hx
  have h1 := scanL_none hp i hi
  have h2 := scanL_none hf.2.2.2.1 i hi
  split at h1
  · cases h1
  · rename_i g1
    split at h2
    · cases h2
    · rename_i g2
      simp only [not_or, Bool.not_eq_true, Bool.not_eq_false] at g1 g2
      exact ⟨g1.1, g1.2.1, g1.2.2, g2.1, g2.2.1, g2.2.2⟩
theorem whole_mem {T : Tab} {r : Int} {j : Nat} (h : wholeO T r = some j) : ∃ hj : j < T.pairs.length, (T.pairs[j]).1 = r := by
  obtain ⟨i, hi, e⟩ := scanL_some h
  split at e
  · injection e with e
    subst e
    exact ⟨hi, by assumption⟩
  · cases e
theorem whole_none {T : Tab} {r : Int} (h : wholeO T r = none) : ∀ x ∈ T.pairs, x.1 ≠ r := by
  intro x hx e
  obtain ⟨i, hi, rfl⟩ := List.mem_iff_getElem.1 hx
  have := scanL_none h i hi
  rw [if_pos e] at this
  cases this
theorem pair_mem {T : Tab} {r b m : Int} (h : pairI T r = some (b, m)) : (r, b, m) ∈ T.pairs := by
  unfold pairI at h
  cases hw : wholeO T r with
  | none => rw [hw] at h; cases h
  | some j =>
    rw [hw] at h
    obtain ⟨hj, e⟩ := whole_mem hw
    have h1 : T.pairs.getD j (0, 0, 0) = T.pairs[j] := by simp [List.getD_eq_getElem?_getD, List.getElem?_eq_getElem hj]
    simp only [Option.map_some, h1, Option.some.injEq] at h
    have h2 : T.pairs[j] = (r, b, m) := Prod.ext e h
    rw [← h2]
    exact List.getElem_mem hj
theorem op_all {T : Tab} (h : goodB T = true) (r : Int) : Op T r (opI T 5 r) := by
  cases hp : pairI T r with
  | none => rw [opI_none hp]; exact .one hp
  | some bm =>
    obtain ⟨b, m⟩ := bm
    have hm := good_chain h _ (pair_mem hp)
    simp only [opI, hp]
    have h2 : chainN T T.pairs.length 1 b ≤ 4 := hm.2
    exact .more hp (op_chain _ 1 b 4 hm.1 (by omega))
theorem Op.eq {T : Tab} {r : Int} {L : List Int} (h : Op T r L) : ∀ {M : List Int}, Op T r M → L = M := by
  induction h with
  | one h =>
    intro M hM
    cases hM with
    | one _ => rfl
    | more h2 _ => rw [h] at h2; cases h2
  | more h _ ih =>
    intro M hM
    cases hM with
    | one h2 => rw [h] at h2; cases h2
    | more h2 h3 =>
      rw [h] at h2
      injection h2 with h2
      injection h2 with h2 h4
      subst h2 h4
      rw [ih h3]
theorem op_len {T : Tab} : ∀ (k : Nat) (r : Int), (opI T k r).length ≤ k + 1
  | 0, r => by simp [opI]
  | k + 1, r => by
    simp only [opI]
    split
    · simp
    · have := op_len (T := T) k
      rw [List.length_append, List.length_singleton]
      rename_i b m _
      have := this b
      omega
theorem mark_whole {T : Tab} (h : goodB T = true) {c : Int} (hm : isMark T c = true) : pairI T c = none := by
  cases hp : pairI T c with
  | none => rfl
  | some bm =>
    have := (good_pairs h _ (pair_mem (b := bm.1) (m := bm.2) hp)).1
    simp only at this
    rw [hm] at this
    cases this
theorem Op.facts {T : Tab} (h : goodB T = true) {r : Int} {L : List Int} (o : Op T r L) : ∃ b ms, L = b :: ms ∧ pairI T b = none ∧ (∀ c ∈ ms, isMark T c = true) ∧ isMark T b = isMark T r ∧ (runeI r = true → runeI b = true) ∧ ∀ c ∈ ms, runeI c = true := by
  induction o with
  | @one r hp => exact ⟨r, [], rfl, hp, by simp, rfl, id, by simp⟩
  | @more r b m L hp _ ih =>
    obtain ⟨b0, ms, rfl, h1, h2, h3, h4, h5⟩ := ih
    obtain ⟨g1, g2, g3, g4, g5, g6⟩ := good_pairs h _ (pair_mem hp)
    simp only at g1 g2 g3 g4 g5 g6
    refine ⟨b0, ms ++ [m], rfl, h1, fun c hc => ?_, by rw [h3, g1, g2], fun _ => h4 g5, fun c hc => ?_⟩
    · rcases List.mem_append.1 hc with hc | hc
      · exact h2 c hc
      · rw [List.mem_singleton.1 hc]; exact g3
    · rcases List.mem_append.1 hc with hc | hc
      · exact h5 c hc
      · rw [List.mem_singleton.1 hc]; exact g6
theorem class_mark {T : Tab} (h : goodB T = true) (r : Int) : 0 < classI T r ↔ isMark T r = true := by
  unfold classI isMark
  constructor
  · intro hp
    cases hs : scanL T.marks fun _ x => if x.1 = r then some x.2 else none with
    | none => rw [hs] at hp; simp at hp
    | some w =>
      obtain ⟨i, hi, e⟩ := scanL_some hs
      split at e
      · rename_i hr
        exact List.any_eq_true.2 ⟨_, List.getElem_mem hi, by simpa using hr⟩
      · cases e
  · intro hm
    obtain ⟨x, hx, e⟩ := List.any_eq_true.1 hm
    cases hs : scanL T.marks fun _ x => if x.1 = r then some x.2 else none with
    | none =>
      obtain ⟨i, hi, rfl⟩ := List.mem_iff_getElem.1 hx
      have := scanL_none hs i hi
      rw [if_pos (by simpa using e)] at this
      cases this
    | some w =>
      obtain ⟨i, hi, e⟩ := scanL_some hs
      split at e
      · injection e with e
        have := good_marks h _ (List.getElem_mem hi)
        simp only [Option.getD_some]
        omega
      · cases e
def opN (T : Tab) (c : Nat) : List Nat := (opI T 5 c).map Int.toNat
theorem rune_iff {r : Int} : runeI r = true ↔ 0 ≤ r ∧ RuneN r.toNat := by
  rw [← decide_eq_true_iff (p := RuneN r.toNat), ← runeI_nat]
  unfold runeI
  simp only [decide_eq_true_eq]
  omega
theorem opN_cast {T : Tab} (h : goodB T = true) {c : Nat} (hc : RuneN c) : (opN T c).map (fun n : Nat => (n : Int)) = opI T 5 c ∧ ∀ x ∈ opI T 5 c, runeI x = true := by
  obtain ⟨b, ms, e, h1, h2, h3, h4, h5⟩ := (op_all h (c : Int)).facts h
  have hr : ∀ x ∈ opI T 5 c, runeI x = true := fun x hx => by
    rw [e] at hx
    rcases List.mem_cons.1 hx with rfl | hx
    · exact h4 (rune_iff.2 ⟨by omega, by simpa using hc⟩)
    · exact h5 x hx
  refine ⟨?_, hr⟩
  unfold opN
  rw [List.map_map]
  conv => rhs; rw [← List.map_id (opI T 5 c)]
  refine List.map_congr_left fun x hx => ?_
  have := (rune_iff.1 (hr x hx)).1
  simp only [Function.comp, id]
  omega
theorem opN_facts {T : Tab} (h : goodB T = true) {c : Nat} (hc : RuneN c) : ∃ b ms, opN T c = b :: ms ∧ (0 < clT T b ↔ 0 < clT T c) ∧ (∀ x ∈ ms, 0 < clT T x) ∧ (∀ x ∈ b :: ms, RuneN x ∧ pairI T x = none) ∧ ms.length ≤ 5 ∧ (0 < clT T c → ms = [] ∧ b = c) := by
  obtain ⟨b, ms, e, h1, h2, h3, h4, h5⟩ := (op_all h (c : Int)).facts h
  obtain ⟨g1, g2⟩ := opN_cast h hc
  have hb := rune_iff.1 (g2 b (by rw [e]; simp))
  have hx : ∀ x ∈ ms, ((x.toNat : Nat) : Int) = x ∧ RuneN x.toNat := fun x hx => by
    have := rune_iff.1 (h5 x hx)
    exact ⟨by omega, this.2⟩
  have hbb : ((b.toNat : Nat) : Int) = b := by omega
  refine ⟨b.toNat, ms.map Int.toNat, by unfold opN; rw [e]; rfl, ?_, fun x hx' => ?_, fun x hx' => ?_, ?_, fun hp => ?_⟩
  · show 0 < classI T ((b.toNat : Nat) : Int) ↔ 0 < classI T (c : Int)
    rw [hbb, class_mark h, class_mark h, h3]
  · obtain ⟨y, hy, rfl⟩ := List.mem_map.1 hx'
    show 0 < classI T ((y.toNat : Nat) : Int)
    rw [(hx y hy).1, class_mark h]
    exact h2 y hy
  · rcases List.mem_cons.1 hx' with rfl | hx'
    · exact ⟨hb.2, by rw [hbb]; exact h1⟩
    · obtain ⟨y, hy, rfl⟩ := List.mem_map.1 hx'
      exact ⟨(hx y hy).2, by rw [(hx y hy).1]; exact mark_whole h (h2 y hy)⟩
  · have := op_len (T := T) 5 (c : Int)
    rw [e, List.length_cons] at this
    rw [List.length_map]
    omega
  · have hm := mark_whole h ((class_mark h _).1 hp)
    rw [opI_none hm] at e
    injection e with e1 e2
    subst e1 e2
    exact ⟨rfl, by simp⟩
def isOp (T : Tab) (c : Nat) : Prop := pairI T c = none
theorem opN_open {T : Tab} {c : Nat} (h : isOp T c) : opN T c = [c] := by
  unfold opN
  rw [opI_none h]
  simp
def openF (T : Tab) (B : List Nat) : List Nat := B.flatMap (opN T)
def openL (T : Tab) (B : List Nat) : List Nat := ord (clT T) (openF T B)
def openB (T : Tab) (l : Bytes) : Bytes := encs (openL T (runesB l))
theorem openF_open {T : Tab} : ∀ {B : List Nat}, (∀ c ∈ B, isOp T c) → openF T B = B
  | [], _ => rfl
  | c :: B, h => by
    have ih := openF_open (T := T) (B := B) fun x hx => h x (by simp [hx])
    unfold openF at ih ⊢
    rw [List.flatMap_cons, ih, opN_open (h c (by simp))]
    rfl
theorem openF_all {T : Tab} (h : goodB T = true) {B : List Nat} (hB : ∀ c ∈ B, RuneN c) : ∀ x ∈ openF T B, RuneN x ∧ isOp T x := by
  intro x hx
  obtain ⟨c, hc, hx⟩ := List.mem_flatMap.1 hx
  obtain ⟨b, ms, e, _, _, h3, _⟩ := opN_facts h (hB c hc)
  rw [e] at hx
  exact h3 x hx
theorem openL_all {T : Tab} (h : goodB T = true) {B : List Nat} (hB : ∀ c ∈ B, RuneN c) : ∀ x ∈ openL T B, RuneN x ∧ isOp T x := fun x hx => openF_all h hB x (ord_mem.1 hx)
theorem openL_open {T : Tab} {B : List Nat} (hB : ∀ c ∈ B, isOp T c) (ho : Ordered (clT T) B) : openL T B = B := by
  unfold openL
  rw [openF_open hB, ord_of_ordered ho]
theorem openF_len {T : Tab} (h : goodB T = true) : ∀ {B : List Nat}, (∀ c ∈ B, RuneN c) → B.length ≤ (openF T B).length ∧ (openF T B).length ≤ 6 * B.length
  | [], _ => by simp [openF]
  | c :: B, hB => by
    have ih := openF_len (T := T) h (B := B) fun x hx => hB x (by simp [hx])
    obtain ⟨b, ms, e, _, _, _, h4, _⟩ := opN_facts h (hB c (by simp))
    unfold openF at ih ⊢
    rw [List.flatMap_cons, e]
    simp only [List.length_append, List.length_cons]
    omega
theorem openF_append {T : Tab} (A B : List Nat) : openF T (A ++ B) = openF T A ++ openF T B := by simp [openF]
theorem openB_runes {T : Tab} (h : goodB T = true) (l : Bytes) : runesB (openB T l) = openL T (runesB l) := runesB_of_encs fun c hc => (openL_all h (runesB_rune l) c hc).1
def badP (x : Nat × Nat) : Prop := x.1 = 65533 ∧ x.2 = 1
instance (x : Nat × Nat) : Decidable (badP x) := by unfold badP; infer_instance
theorem scanL_end {α β : Type} {l : List α} {g : Nat → α → Option β} (h : ∀ i (hi : i < l.length), g i l[i] = none) : scanL l g = none := scan_end fun j hj => by rw [List.getElem?_eq_getElem hj]; exact h j hj
theorem runesB_get {l : Bytes} {i : Nat} (hi : i < (spots l).length) : (runesB l)[i]'(by rw [runesB_len]; exact hi) = ((spots l)[i]).1 := by simp [runesB]
end Go.Proofs.YtfiaggbgplmmeaaGreatDoor.AM
namespace Go.Proofs.YtfiaggbgplmmeaaGreatDoor.AM
open Go
section
variable {p : Prg} {lc : Lc} {h : AH} {H : Value → Lc → AH → Prop}
theorem wo_appO {e by' : Nat} {s : Sl} {y : Value} {xss yss : List (List Value)} {k : Nat} (o : Own h e s xss) (hk : lenV y = some k) (hy : rdSlice ⟨lc, h⟩ e y = some yss.flatten)
    (hyl : yss.length = k) (hye : ∀ x ∈ yss, x.length = e) (k0 : 0 < k) (he : 0 < e) (hb : 0 < by') (hn : (xss.length + k) * by' ≤ 140737488355328)
    (hq : ∀ s' h', Own h' e s' (xss ++ yss) → s'.blk = some h.n → h'.n = h.n + 1 → (∀ b, b < h.n → s.blk ≠ some b → h'.get b = h.get b) → H (s'.val e) lc h') : WpO p (.e (.append e by' (.s 0) (.s 1))) [s.val e, y] lc h H := by
  obtain ⟨s', h', h1, h2, h3, h4, h5⟩ := own_append o hk hy hyl hye k0 he hb hn
  exact wo_e (by simp only [EOp.ev, opd_s, fg0, fg1, h1]) (hq s' h' h2 h3 h4 h5)
theorem wo_app1O {e by' b : Nat} {s : Sl} {xss : List (List Value)} {cs : List Value} (o : Own h e s xss) (hl : lget lc b = some (.cells false cs)) (hc : cs.length = e) (he : 0 < e) (hb : 0 < by') (hn : (xss.length + 1) * by' ≤ 140737488355328)
    (hq : ∀ s' h', Own h' e s' (xss ++ [cs]) → s'.blk = some h.n → h'.n = h.n + 1 → (∀ b, b < h.n → s.blk ≠ some b → h'.get b = h.get b) → H (s'.val e) lc h') : WpO p (.e (.append e by' (.s 0) (.s 1))) [s.val e, .slice (some ⟨b, 0, some 1⟩) 1 e] lc h H := by
  refine wo_appO (yss := [cs]) (k := 1) o rfl ?_ rfl (fun x hx => by rw [List.mem_singleton.1 hx]; exact hc) (by decide) he hb hn hq
  simp only [rdSlice, Nat.one_ne_zero, if_false, Nat.one_mul, rd_loc, hl, List.flatten_cons, List.flatten_nil, List.append_nil]
  rw [if_pos (by omega), List.drop_zero, ← hc, List.take_length]
end
end Go.Proofs.YtfiaggbgplmmeaaGreatDoor.AM
namespace Go.Proofs.YtfiaggbgplmmeaaGreatDoor.AM
open Go
def LF_open_Rune : LFunc :=
  .mk 2 [.tmp 4] (.seq (R 2 [1, 2] [.tmp 2 (xbh 1 (.sl 0)), .set 4 (.cv (.slice none 0 0))]) (.seq (.seq (R 7 [1, 2, 8] [.tmp 8 (.op (.p (.eqk false .ptr (.s 0) (.s 1))) (.cons (xld
  (.sl 2)) (.cv (.pointer none))))]) (.cond (.s 8) (.seq (R 999 [4] [.set 4 (.cv (.slice none 0 0))]) .ret) .skip)) (.seq (R 5 [1, 2, 5] [.tmp 5 (xnh [.slice none 0 0])]) (.seq (R 6
  [1, 2, 5, 6] [.tmp 6 (xnh [.nilFunc])]) (.seq (R 9 [1, 5, 6] [.run (xst 1 (.sl 6) (.op (.p (.mkfn (.func 45) [] [.s 0, .s 1, .s 2])) (.cons (.sl 2) (.cons (.sl 5)
  (.sl 6)))))]) (.seq (R 10 [5] [.tmp 12 (xv1 (xld (.sl 6)) (.va 1))]) (.seq (R 13 [4] [.set 4 (xld (.sl 5))]) .ret)))))))
theorem fn_open_Rune : (autoPrg Tryz.prog).fn 15 = some LF_open_Rune := by kernel_rfl
def LF_open_Rune_1 : LFunc :=
  .mk 4 [] (.seq (R 9 [0, 2, 3, 5, 6, 7] [.set 8 (xc2 29 (xld (.sl 1)) (.va 0)), .tmp 12 (xex 0 (.sl 8)), .tmp 13 (xex 1 (.sl 8)), .tmp 14 (xex 2 (.sl 8)), .set
  5 (.sl 12), .set 6 (.sl 13), .set 7 (.sl 14)]) (.seq (.seq (R 15 [0, 2, 3, 5, 6, 16] [.tmp 16 (xu .not (.va 7))]) (.cond (.s 16) (.seq (R 17 [] [.run (xst 1 (.sl 2) (xap 1 4 (xld
  (.sl 2)) (.op (.e (.litL 19 1 1 [.int .i32 0] [(0, 1, .s 0)])) (.va 0))))]) .ret) .skip)) (.seq (R 21 [2, 6] [.tmp 23 (xv1 (xld (.sl 3)) (.va 5))]) (R 24 [] [.run (xst 1 (.sl 2)
  (xap 1 4 (xld (.sl 2)) (.op (.e (.litL 26 1 1 [.int .i32 0] [(0, 1, .s 0)])) (.va 6))))]))))
theorem fn_open_Rune_1 : (autoPrg Tryz.prog).fn 45 = some LF_open_Rune_1 := by kernel_rfl
def LF_guiseref9_Pair : LFunc :=
  .mk 2 [.tmp 4, .tmp 5, .tmp 6] (.seq (R 2 [1, 2] [.tmp 2 (xbl 2 8 (.sl 0)), .set 4 (xr 0), .set 5 (xr 0), .set 6 (.cv (.bool false))]) (.seq (R 8 [2, 7] [.set 7 (xc2
  85 (xln 8 (.sl 2)) (.va 1))]) (.seq (.seq (R 11 [2, 7, 12] [.tmp 12 (xb .lss (.va 7) (xi 0))]) (.cond (.s 12) (.seq (R 999 [4, 5, 6] [.set 4 (xr 0), .set 5 (xr
  0), .set 6 (.cv (.bool false))]) .ret) .skip)) (.seq (R 13 [4, 5, 6] [.tmp 18 (xld (xfa 1 (xia 3 (xld (xfa 3 (.sl 2))) (.va 7)))), .tmp 24 (xld (xfa 2 (xia 3 (xld (xfa 3 (.sl 2)))
  (.va 7)))), .set 4 (.sl 18), .set 5 (.sl 24), .set 6 (.cv (.bool true))]) .ret))))
theorem fn_guiseref9_Pair : (autoPrg Tryz.prog).fn 51 = some LF_guiseref9_Pair := by kernel_rfl
def LF_guiseref9_Rune : LFunc :=
  .mk 2 [.tmp 4] (.seq (R 2 [1, 2] [.tmp 2 (xbl 2 8 (.sl 0)), .set 4 (.cv (.slice none 0 0))]) (.seq (R 9 [2, 5] [.set 5 (.op (.e (.litH 1 1 [.int .i32 0] [(0, 1, .s 0)])) (.va
  1))]) (.block 0 (.loop (.block 1 (.seq (R 12 [2, 5, 6, 7, 8] [.set 11 (xc2 51 (xln 8 (.sl 2)) (xld (xia 1 (.va 5) (xi 0)))), .tmp 17 (xex 0 (.sl 11)), .tmp 18 (xex
  1 (.sl 11)), .tmp 19 (xex 2 (.sl 11)), .set 6 (.sl 17), .set 7 (.sl 18), .set 8 (.sl 19)]) (.seq (.seq (R 20 [2, 5, 6, 7, 21] [.tmp 21 (xu .not (.va 8))]) (.cond (.s 21) (.seq (R
  22 [4] [.set 4 (.va 5)]) .ret) .skip)) (R 23 [2, 5] [.set 5 (xap 1 4 (.op (.e (.litH 2 1 [.int .i32 0] [(0, 1, .s 0), (1, 1, .s 1)])) (.cons (.va 6) (.va 7))) (.op (.p (.sl 1 (.s
  0) (some (.s 1)) none none)) (.cons (.va 5) (xi 1))))]))))))))
theorem fn_guiseref9_Rune : (autoPrg Tryz.prog).fn 53 = some LF_guiseref9_Rune := by kernel_rfl
def LF_open_Open : LFunc :=
  .mk 2 [.tmp 4] (.seq (R 999 [0, 1] [.set 4 (.cv (.string ⟨#[]⟩))]) (.seq (.seq (R 8 [0, 1, 9] [.tmp 9 (.op (.p (.eqk false .ptr (.s 0) (.s 1))) (.cons (.va 0) (.cv (.pointer
  none))))]) (.cond (.s 9) (.seq (R 999 [4] [.set 4 (.cv (.string ⟨#[]⟩))]) .ret) .skip)) (.seq (R 999 [0, 1, 5] [.set 5 (.cv (.slice none 0 0))]) (.seq (.seq (R 10 [0, 5, 11] [.tmp
  11 (.op (.e (.rngS 11 (.s 0))) (.va 1))]) (.block 0 (.loop (.seq (R 12 [0, 5, 11, 12, 13] [.tmp 12 (.op (.e (.nxtS (.s 0))) (.sl 11)), .tmp 13 (xex 0 (.sl 12))]) (.seq (.cond (.s
  13) .skip (.exit 0)) (.block 1 (.seq (R 14 [0, 5, 7, 11] [.set 7 (xex 2 (.sl 12))]) (R 15 [0, 5, 11] [.set 5 (xap 1 4 (.va 5) (xc2 15 (.va 0) (.va 7)))])))))))) (.seq
  (R 20 [4] [.set 4 (xc2 48 (.va 0) (.op (.r (.r2s (.s 0))) (.va 5)))]) .ret)))))
theorem fn_open_Open : (autoPrg Tryz.prog).fn 19 = some LF_open_Open := by kernel_rfl
def LF_tables_Book_Pair : LFunc :=
  .mk 2 [.tmp 4, .tmp 5, .tmp 6] (.seq (R 999 [0, 1] [.set 4 (xr 0), .set 5 (xr 0), .set 6 (.cv (.bool false))]) (.seq (R 9 [6, 7] [.set 8 (.op (.r (.lookup (.one .int) (.agg
  (Array.mk [.int .i32 0, .int .i32 0])) true (.s 0) (.s 1))) (.cons (xld (xfa 9 (xnk (.va 0)))) (.va 1))), .tmp 15 (xex 0 (.sl 8)), .tmp 16 (xex 1 (.sl 8)), .at 7, .tmp 7 (xnl 7
  [.int .i32 0, .int .i32 0]), .run (xst 2 (.sl 7) (.sl 15)), .set 6 (.sl 16)]) (.seq (R 17 [4, 5, 6] [.tmp 18 (xld (.op (.p (.iaddrA 2 1 (.s 0) (.s 1))) (.cons (.sl 7) (xi 0)))),
  .tmp 20 (xld (.op (.p (.iaddrA 2 1 (.s 0) (.s 1))) (.cons (.sl 7) (xi 1)))), .tmp 21 (.va 6), .set 4 (.sl 18), .set 5 (.sl 20), .set 6 (.sl 21)]) .ret)))
theorem fn_tables_Book_Pair : (autoPrg Tryz.prog).fn 29 = some LF_tables_Book_Pair := by kernel_rfl
end Go.Proofs.YtfiaggbgplmmeaaGreatDoor.AM
namespace Go.Proofs.YtfiaggbgplmmeaaGreatDoor.AM
open Go
def prV : Option (Int × Int) → Value
  | some (b, m) => .tuple (List.toArray [.int .i32 b, .int .i32 m, .bool true])
  | none => .tuple (List.toArray [.int .i32 0, .int .i32 0, .bool false])
theorem bookPair_eq {h : AH} {k B : Nat} {s6 : Sl} {T : Tab} (bk : BkAt h k B s6 T) (r : Int) : callO PX 29 [.pointer (some ⟨k, 0, none⟩), .int .i32 r] h = some (prV (pairI T r), h) := by
  obtain ⟨x0, x1, x2, x3, x4, x5, x7, hb⟩ := bk.b
  have m2 := m_whole bk.mp r
  unfold pairI
  cases hw : wholeO T r with
  | none =>
    rw [hw] at m2
    simp only [Option.map_none, Option.getD_none, Option.isSome_none] at m2
    simp only [Option.map_none, prV]
    apply WpC.eqn
    refine wpc_fn (px_ext rfl) (px_fn fn_tables_Book_Pair) rfl ?_
    unfold LF_tables_Book_Pair
    simp only [argFr]
    (refine W_x (Aj hb m2) ?_; (repeat' first | apply Cj.mk | exact Nl.nl) <;> intros)
    exact ⟨rfl, rfl⟩
  | some j =>
    rw [hw] at m2
    simp only [Option.map_some, Option.getD_some, Option.isSome_some] at m2
    unfold rowP kP at m2
    rw [Option.map_some]
    generalize (T.pairs.getD j (0, 0, 0)).2 = x at m2 ⊢
    obtain ⟨a, c⟩ := x
    simp only [prV] at m2 ⊢
    apply WpC.eqn
    refine wpc_fn (px_ext rfl) (px_fn fn_tables_Book_Pair) rfl ?_
    unfold LF_tables_Book_Pair
    simp only [argFr]
    (refine W_x (Aj hb m2) ?_; (repeat' first | apply Cj.mk | exact Nl.nl) <;> intros)
    exact ⟨rfl, rfl⟩
theorem refPair_eq {S : TS} {T : Tab} {h : AH} (t : TabAt h S T) (r : Int) : callO PX 51 [.agg S.vs.toArray, .int .i32 r] h = some (prV (pairI T r), h) := by
  have e1 := whole6_eq t r
  have hn := t.fits.n3
  unfold pairI
  unfold TS.vs at e1 ⊢
  cases hw : wholeO T r with
  | none =>
    rw [hw] at e1
    simp only [ixI] at e1
    simp only [Option.map_none, prV]
    apply WpC.eqn
    refine wpc_fn (px_ext rfl) (px_fn fn_guiseref9_Pair) rfl ?_
    unfold LF_guiseref9_Pair
    simp only [argFr]
    (refine W_x e1 ?_; (repeat' first | apply Cj.mk | exact Nl.nl) <;> intros)
    exact ⟨rfl, rfl⟩
  | some j =>
    rw [hw] at e1
    simp only [ixI] at e1
    simp only [Option.map_some, prV]
    obtain ⟨hj, _⟩ := whole_mem hw
    have hg : T.pairs.getD j (0, 0, 0) = T.pairs[j] := by simp [List.getD_eq_getElem?_getD, List.getElem?_eq_getElem hj]
    rw [hg]
    have hs := t.r3.len
    have g1 := fun lc => rd_mapc (lc := lc) t.r3 hj (k := 1) (by decide)
    have g2 := fun lc => rd_mapc (lc := lc) t.r3 hj (k := 2) (by decide)
    generalize T.pairs[j] = x at g1 g2 ⊢
    obtain ⟨w, a, c⟩ := x
    unfold tripV at g1 g2
    apply WpC.eqn
    refine wpc_fn (px_ext rfl) (px_fn fn_guiseref9_Pair) rfl ?_
    unfold LF_guiseref9_Pair
    simp only [argFr]
    (refine W_x (Aj e1 (Aj hs (Aj g1 g2))) ?_; (repeat' first | apply Cj.mk | exact Nl.nl) <;> intros)
    exact ⟨rfl, rfl⟩
abbrev rI (c : Int) : List Value := [.int .i32 c]
def apF (h : AH) : Value := .func (.func 45) #[] #[.pointer (some ⟨h.n, 0, none⟩), .pointer (some ⟨h.n + 1, 0, none⟩), .pointer (some ⟨h.n + 2, 0, none⟩)]
structure ApI (h : AH) (k : Nat) (g : AH) (s : Sl) (D : List (List Value)) : Prop where
  kp : Kp h g
  n : h.n + 3 ≤ g.n
  b0 : g.get h.n = some (.cells false [.pointer (some ⟨k, 0, none⟩)])
  b1 : g.get (h.n + 1) = some (.cells false [s.val 1])
  b2 : g.get (h.n + 2) = some (.cells false [apF h])
  own : Own g 1 s D
  new : ∀ b, s.blk = some b → h.n + 3 ≤ b
theorem ApI.put {h g g' : AH} {k : Nat} {s s' : Sl} {D D' : List (List Value)} (i : ApI h k g s D) (o : Own g' 1 s' D') (hb : s'.blk = some g.n) (hn : g'.n = g.n + 1) (hk : ∀ b, b < g.n → s.blk ≠ some b → g'.get b = g.get b) :
    ApI h k (g'.set (h.n + 1) (.cells false [s'.val 1])) s' D' := by
  have hn3 := i.n
  have hs : ∀ b, b < h.n + 3 → g'.get b = g.get b := fun b hb => hk b (by omega) fun e => by have := i.new b e; omega
  refine ⟨⟨by have := i.kp.1; rw [AH.set_n]; omega, fun b hb => ?_⟩, by rw [AH.set_n]; omega, ?_, AH.get_set_same _ (by omega), ?_, o.same fun b hb2 => ?_, fun b hb2 => ?_⟩
  · rw [AH.get_set_ne _ (by omega), hs b (by omega), i.kp.2 b hb]
  · rw [AH.get_set_ne _ (by omega), hs _ (by omega)]; exact i.b0
  · rw [AH.get_set_ne _ (by omega), hs _ (by omega)]; exact i.b2
  · rw [hb] at hb2; injection hb2 with hb2; exact AH.get_set_ne _ (by omega)
  · rw [hb] at hb2; injection hb2 with hb2; omega
theorem apart_spec {h : AH} {k B : Nat} {s6 : Sl} {T : Tab} (bk : BkAt h k B s6 T) {r : Int} {L : List Int} (op : Op T r L) : ∀ (g : AH) (s : Sl) (D : List (List Value)), ApI h k g s D → D.length + L.length ≤ 1000000 →
    WpC PX 45 [.int .i32 r, .pointer (some ⟨h.n, 0, none⟩), .pointer (some ⟨h.n + 1, 0, none⟩), .pointer (some ⟨h.n + 2, 0, none⟩)] g fun _ g' => ∃ s', ApI h k g' s' (D ++ L.map rI) := by
  induction op with
  | @one r hp =>
    intro g s D i hD
    have e1 := bookPair_eq (bk.kp i.kp) r
    rw [hp] at e1
    simp only [prV] at e1
    have q0 := i.b0
    have q1 := i.b1
    refine wpc_fn (px_ext rfl) (px_fn fn_open_Rune_1) rfl ?_
    unfold LF_open_Rune_1
    simp only [argFr]
    (refine W_x (Aj e1 (Aj q0 q1)) ?_; (repeat' first | apply Cj.mk | exact Nl.nl) <;> intros)
    refine wo_app1O (cs := rI r) i.own rfl rfl (by decide) (by decide) (by simp at hD; omega) fun s' g' o hb hn hk => ?_
    have i2 := i.put o hb hn hk
    have hg1 : g'.get (h.n + 1) = some (.cells false [s.val 1]) := (hk _ (by have := i.n; omega) fun e => by have := i.new _ e; omega).trans i.b1
    (refine W_x hg1 ?_; (repeat' first | apply Cj.mk | exact Nl.nl) <;> intros)
    exact ⟨s', i2⟩
  | @more r b m L hp _ ih =>
    intro g s D i hD
    rw [List.length_append, List.length_singleton] at hD
    have e1 := bookPair_eq (bk.kp i.kp) r
    rw [hp] at e1
    simp only [prV] at e1
    have q0 := i.b0
    have q2 := i.b2
    unfold apF at q2
    obtain ⟨v, g1, e2, s1, i1⟩ := ih g s D i (by omega)
    have p1 := i1.b1
    refine wpc_fn (px_ext rfl) (px_fn fn_open_Rune_1) rfl ?_
    unfold LF_open_Rune_1
    simp only [argFr]
    (refine W_x (Aj e1 (Aj e2 (Aj q0 (Aj q2 p1)))) ?_; (repeat' first | apply Cj.mk | exact Nl.nl) <;> intros)
    refine wo_app1O (cs := rI m) i1.own rfl rfl (by decide) (by decide) (by rw [List.length_append, List.length_map]; omega) fun s' g' o hb hn hk => ?_
    have i2 := i1.put o hb hn hk
    have hg1 : g'.get (h.n + 1) = some (.cells false [s1.val 1]) := (hk _ (by have := i1.n; omega) fun e => by have := i1.new _ e; omega).trans i1.b1
    (refine W_x hg1 ?_; (repeat' first | apply Cj.mk | exact Nl.nl) <;> intros)
    refine ⟨s', ?_⟩
    rw [List.map_append, ← List.append_assoc]
    exact i2
theorem openRune_spec {h : AH} {k B : Nat} {s6 : Sl} {T : Tab} (gd : goodB T = true) (bk : BkAt h k B s6 T) (r : Int) : WpC PX 15 [.pointer (some ⟨k, 0, none⟩), .int .i32 r] h fun v h' => ∃ sl, v = sl.val 1 ∧ FOwn h h' 1 sl ((opI T 5 r).map rI) := by
  have hop := op_all gd r
  have hl := op_len (T := T) 5 r
  have i0 : ApI h k ((((h.push (.cells false [.pointer (some ⟨k, 0, none⟩)])).push (.cells false [.slice none 0 0])).push (.cells false [.nilFunc])).set (h.n + 2) (.cells false [apF h])) .nil [] := by
    refine ⟨(((Kp.refl h).push _).push _ |>.push _).setNew _ (by omega), Nat.le_refl _, ?_, ?_, ?_, ⟨rfl, by simp, trivial⟩, fun b hb => by cases hb⟩
    · simp (disch := first | omega | (simp only [AH.nn_push, AH.nn_set, AH.nn_kill]; omega) | (simp only [AH.nn_push, AH.nn_set, AH.nn_kill]; done) | fail) only [AH.get_push_eq, AH.get_push_ne, AH.get_set_eq, AH.get_set_ne, AH.push_n]
    · rw [AH.get_set_ne _ (by omega), AH.get_push_ne _ (by simp only [AH.push_n]; omega)]
      exact AH.get_push_same (h.push _) _
    · exact AH.get_set_same _ (by simp only [AH.push_n]; omega)
  obtain ⟨v, g, e, s', i1⟩ := apart_spec bk (op_all gd r) _ _ _ i0 (by simp only [List.length_nil]; omega)
  have q1 := i1.b1
  have na := Nat.add_assoc
  have vf : ∀ f a b, vcells (.func f a b) = [.func f a b] := fun _ _ _ => rfl
  unfold apF at e
  refine wpc_fn (px_ext rfl) (px_fn fn_open_Rune) rfl ?_
  unfold LF_open_Rune
  simp only [argFr]
  (refine W_x (Aj na (Aj vf (Aj e q1))) ?_; (repeat' first | apply Cj.mk | exact Nl.nl) <;> intros)
  exact ⟨s', rfl, i1.own, i1.kp, fun b hb => by have := i1.new b hb; omega⟩
theorem FOwn.later {h0 h h' : AH} {e : Nat} {s : Sl} {xss : List (List Value)} (f : FOwn h0 h e s xss) (k : Kp h h') : FOwn h0 h' e s xss := ⟨f.own.keep fun b hb => k.2 b (f.own.lt hb), f.kp.trans k, f.new⟩
theorem refRune_spec {S : TS} {T : Tab} {h : AH} (gd : goodB T = true) (t : TabAt h S T) (r : Int) : WpC PX 53 [.agg S.vs.toArray, .int .i32 r] h fun v h' => ∃ sl, v = sl.val 1 ∧ FOwn h h' 1 sl ((opI T 5 r).map rI) := by
  have hop := op_all gd r
  have hl := op_len (T := T) 5 r
  generalize hM : opI T 5 r = M at *
  refine wpc_fn (px_ext rfl) (px_fn fn_guiseref9_Rune) rfl ?_
  unfold LF_guiseref9_Rune
  simp only [argFr]
  unfold TS.vs
  (refine W_x trivial ?_; (repeat' first | apply Cj.mk | exact Nl.nl) <;> intros)
  have f0 : FOwn h (h.push (.cells false [.int .i32 r])) 1 (.at h.n 0 1) [rI r] := ⟨⟨rfl, by simp, [], AH.get_push_same _ _, rfl⟩, (Kp.refl h).push _, fun b hb => by injection hb with hb; omega⟩
  generalize h.push (.cells false [.int .i32 r]) = g0 at f0 ⊢
  refine wp_loop (fun w fr lc g => ∃ (c : Int) (ms L : List Int) (sl : Sl), w = L.length ∧ Op T c L ∧ L ++ ms = M ∧ FOwn h g 1 sl ((c :: ms).map rI) ∧ fr = [(2, .pointer (some ⟨4, 0, some 1⟩)), (5, sl.val 1)] ∧
    lc = [(4, .cells false [S.s0.val 2, S.s1.val 2, S.s2.val 2, S.s3.val 3, S.s4.val 2, S.s5.val 2, S.s6.val 2, S.s7.val 2])]) M.length ⟨r, [], M, .at h.n 0 1, rfl, hop, by simp, f0, rfl, rfl⟩ ?_
  rintro w fr lc g ⟨c, ms, L, sl, rfl, op, hLm, fo, rfl, rfl⟩
  have sll := fo.own.1
  rw [List.length_map, List.length_cons] at sll
  have g1 := fun lc => rd_map (lc := lc) fo.reads (i := 0) (by simp)
  simp only [List.getElem_cons_zero] at g1
  have e1 := refPair_eq (t.kp fo.kp) c
  unfold TS.vs at e1
  cases op with
  | one hp =>
    rw [hp] at e1
    simp only [prV] at e1
    (refine W_x (Aj sll (Aj g1 e1)) ?_; (repeat' first | apply Cj.mk | exact Nl.nl) <;> intros)
    refine ⟨sl, rfl, ?_⟩
    rw [← hLm]
    exact fo
  | @more _ b m L hp op =>
    rw [hp] at e1
    simp only [prV] at e1
    have hlen := congrArg List.length hLm
    rw [List.length_append, List.length_append, List.length_singleton] at hlen
    (refine W_x (Aj sll (Aj g1 e1)) ?_; (repeat' first | apply Cj.mk | exact Nl.nl) <;> intros)
    have rdd := (fo.reads (h := g)).drop (k := 1) (by simp)
    have f1 : FOwn h (g.push (.cells false [.int .i32 b, .int .i32 m])) 1 (.at g.n 0 2) [rI b, rI m] := ⟨⟨rfl, by simp, [], AH.get_push_same _ _, rfl⟩, fo.kp.push _, fun x hx => by injection hx with hx; have := fo.kp.1; omega⟩
    have rd2 := rdd.kp ((Kp.refl g).push (.cells false [.int .i32 b, .int .i32 m]))
    refine wo_appL (s := .at g.n 0 2) f1 rd2 (by decide) (by decide) (by simp; omega) fun s3 h3 f3 => ?_
    (refine W_x trivial ?_; (repeat' first | apply Cj.mk | exact Nl.nl) <;> intros)
    exact ⟨_, by rw [List.length_append, List.length_singleton]; omega, b, m :: ms, L, s3, rfl, op, by rw [← hLm]; simp, by simpa using f3, rfl, rfl⟩
end Go.Proofs.YtfiaggbgplmmeaaGreatDoor.AM
namespace Go.Proofs.YtfiaggbgplmmeaaGreatDoor.AM
open Go
theorem rI_rnV {T : Tab} (gd : goodB T = true) {c : Nat} (hc : RuneN c) : (opI T 5 (c : Int)).map rI = (opN T c).map rnV := by
  rw [← (opN_cast gd hc).1, List.map_map]
  rfl
theorem openF_snoc {T : Tab} {B : List Nat} {i : Nat} (hi : i < B.length) : openF T (B.take (i + 1)) = openF T (B.take i) ++ opN T B[i] := by
  rw [take_snoc hi, openF_append]
  simp [openF]
theorem openF_take_len {T : Tab} (gd : goodB T = true) {B : List Nat} (hB : ∀ c ∈ B, RuneN c) (i : Nat) : (openF T (B.take i)).length ≤ 6 * B.length := by
  have := (openF_len gd (B := B.take i) fun c hc => hB c (List.mem_of_mem_take hc)).2
  rw [List.length_take] at this
  omega
theorem openOpen_spec {h : AH} {k B : Nat} {s6 : Sl} {T : Tab} (gd : goodB T = true) (bk : BkAt h k B s6 T) (s : ByteArray) (hs : s.size ≤ 1048576) : WpC PX 19 [.pointer (some ⟨k, 0, none⟩), .string s] h fun v h' => v = .string (bs (openB T s.data.toList)) ∧ Kp h h' := by
  have hz : s.data.toList.length = s.size := rfl
  have hn := spots_len s.data.toList
  have hrl := runesB_len s.data.toList
  have hrr := runesB_rune s.data.toList
  refine wpc_fn (px_ext rfl) (px_fn fn_open_Open) rfl ?_
  unfold LF_open_Open
  simp only [argFr]
  (refine W_x @ev_rngS ?_; (repeat' first | apply Cj.mk | exact Nl.nl) <;> intros)
  refine wp_spotsS (fun i sl => [(0, .pointer (some ⟨k, 0, none⟩)), (5, sl.val 1), (11, .pointer (some ⟨22, 0, some 1⟩))]) (fun n _ => [(22, .siter s n)]) s s.data.toList (fun i sl h' => FOwn h h' 1 sl ((openF T ((runesB s.data.toList).take i)).map rnV)) (fun _ _ => (none : Option Unit)) Sl.nil rfl (by repeat' first | exact True.intro | refine And.intro rfl ?_) (fun _ _ => rfl) rfl (by simpa [openF] using FOwn.nil (Kp.refl h))
    (fun i hi sl h1 fo hit => ?_) fun sl h1 fo fin => ?_
  · (refine W_x trivial ?_; (repeat' first | apply Cj.mk | exact Nl.nl) <;> intros)
    refine wo_next rfl rfl hi ?_
    have hi2 : i < (runesB s.data.toList).length := by omega
    have hx := runesB_get hi
    have hr := hrr _ (List.getElem_mem hi2)
    have hsn := openF_snoc (T := T) hi2
    have hle := openF_take_len gd hrr i
    rw [hx] at hr hsn
    generalize (spots s.data.toList)[i] = x at hr hsn
    obtain ⟨_, g, e, s2, rfl, f2⟩ := openRune_spec gd (bk.kp fo.kp) (x.1 : Nat)
    rw [rI_rnV gd hr] at f2
    obtain ⟨b0, ms, q1, _, _, _, q5, _⟩ := opN_facts gd hr
    (refine W_x e ?_; (repeat' first | apply Cj.mk | exact Nl.nl) <;> intros)
    refine wo_appL (fo.later f2.kp) f2.reads (by decide) (by decide) (by rw [List.length_map, List.length_map, q1, List.length_cons]; omega) fun s3 h3 f3 => ?_
    (refine W_x trivial ?_; (repeat' first | apply Cj.mk | exact Nl.nl) <;> intros)
    refine ⟨rfl, s3, (by repeat' first | exact True.intro | refine And.intro rfl ?_), rfl, ?_⟩
    rw [hsn, List.map_append]
    exact f3
  · (refine W_x trivial ?_; (repeat' first | apply Cj.mk | exact Nl.nl) <;> intros)
    refine wo_nextE rfl rfl ?_
    rw [← hrl, List.take_length] at fo
    have hF := openF_all gd hrr
    have hl := openF_len gd hrr
    have hg := fun lc => r2s_own (lc := lc) fo.own fun x hx => (hF x hx).1
    have hsz := encs_lenle (openF T (runesB s.data.toList))
    obtain ⟨_, g2, e2, rfl, k2⟩ := marksOrder_spec (bk.kp fo.kp) (bs (encs (openF T (runesB s.data.toList)))) (by rw [bs_size]; omega)
    rw [bs_l, orderB_encs T fun x hx => (hF x hx).1] at e2
    (refine W_x (Aj hg e2) ?_; (repeat' first | apply Cj.mk | exact Nl.nl) <;> intros)
    exact ⟨rfl, fo.kp.trans k2⟩
end Go.Proofs.YtfiaggbgplmmeaaGreatDoor.AM
namespace Go.Proofs.YtfiaggbgplmmeaaGreatDoor.AM
open Go
def LF_utf_Spots : LFunc :=
  .mk 1 [.tmp 2] (.seq (R 1 [1] [.tmp 1 (xbh 1 (.sl 0)), .set 2 (.cv .nilFunc)]) (.seq (R 3 [2] [.set 2 (.op (.p (.mkfn (.func 82) [] [.s 0])) (.sl 1))]) .ret))
theorem fn_utf_Spots : (autoPrg Tryz.prog).fn 49 = some LF_utf_Spots := by kernel_rfl
def LF_utf_Spots_1 : LFunc :=
  .mk 2 [] (.seq (R 6 [0, 1, 7] [.tmp 7 (.op (.e (.rngS 7 (.s 0))) (xld (.sl 1)))]) (.block 0 (.loop (.seq (R 8 [0, 1, 7, 8, 9] [.tmp 8 (.op (.e (.nxtS (.s 0))) (.sl 7)), .tmp 9
  (xex 0 (.sl 8))]) (.seq (.cond (.s 9) .skip (.exit 0)) (.block 1 (.seq (R 10 [0, 1, 3, 4, 7] [.tmp 10 (xex 1 (.sl 8)), .tmp 11 (xex 2 (.sl 8)), .set 3 (.sl 10), .set 4 (.sl 11)])
  (.seq (R 12 [0, 1, 3, 4, 5, 7] [.set 5 (xc1 83 (.va 4))]) (.seq (.seq (R 14 [0, 1, 3, 4, 5, 7, 24] [.tmp 24 (.and (xb .eql (.va 4) (xr 65533)) (xu .not (xc2
  84 (.op (.p (.slS (.s 0) (some (.s 1)) none)) (.cons (xld (.sl 1)) (.va 3))) (.op (.p (.i2s (.s 0))) (.va 4)))))]) (.cond (.s 24) (R 999 [0, 1, 3, 4, 5, 7]
  [.set 5 (xi 1)]) .skip)) (.seq (R 25 [0, 1, 7, 31] [.tmp 31 (xu .not (xv2 (.va 0) (.va 3) (xc2 56 (.va 4) (.va 5))))]) (.cond (.s 31) .ret .skip)))))))))))
theorem fn_utf_Spots_1 : (autoPrg Tryz.prog).fn 82 = some LF_utf_Spots_1 := by kernel_rfl
def LF_utf8_RuneLen : LFunc :=
  .mk 1 [.tmp 2] (.seq (R 999 [0] [.set 2 (xi 0)]) (.seq (.block 0 (.seq (R 4 [0, 3] [.set 3 (xb .lss (.va 0) (xr 0))]) (.cond (.s 3) (.seq (R 999 [2] [.set 2 (xi (-1))]) .ret)
  (.seq (R 7 [0, 6] [.set 6 (xb .leq (.va 0) (xr 127))]) (.cond (.s 6) (.seq (R 999 [2] [.set 2 (xi 1)]) .ret) (.seq (R 10 [0, 9] [.set 9 (xb .leq (.va 0) (xr 2047))]) (.cond (.s 9)
  (.seq (R 999 [2] [.set 2 (xi 2)]) .ret) (.seq (R 13 [0, 12] [.set 12 (.and (xb .leq (xr 55296) (.va 0)) (xb .leq (.va 0) (xr 57343)))]) (.cond (.s 12) (.seq (R 999 [2] [.set 2 (xi
  (-1))]) .ret) (.seq (R 20 [0, 19] [.set 19 (xb .leq (.va 0) (xr 65535))]) (.cond (.s 19) (.seq (R 999 [2] [.set 2 (xi 3)]) .ret) (.seq (R 23 [22] [.set 22 (xb .leq (.va 0) (xr
  1114111))]) (.cond (.s 22) (.seq (R 999 [2] [.set 2 (xi 4)]) .ret) .skip))))))))))))) (.seq (R 999 [2] [.set 2 (xi (-1))]) .ret)))
theorem fn_utf8_RuneLen : (autoPrg Tryz.prog).fn 83 = some LF_utf8_RuneLen := by kernel_rfl
def LF_strings_HasPrefix : LFunc :=
  .mk 2 [.tmp 4] (.seq (R 999 [0, 1] [.set 4 (.cv (.bool false))]) (.seq (R 5 [4] [.set 4 (xc2 124 (.va 0) (.va 1))]) .ret))
theorem fn_strings_HasPrefix : (autoPrg Tryz.prog).fn 84 = some LF_strings_HasPrefix := by kernel_rfl
def LF_internal_stringslite_HasPrefix : LFunc :=
  .mk 2 [.tmp 4] (.seq (R 999 [0, 1] [.set 4 (.cv (.bool false))]) (.seq (R 5 [4] [.set 4 (.and (xb .geq (xsl (.va 0)) (xsl (.va 1))) (xb .eql (.op (.p (.slS (.s 0) none (some (.s
  1)))) (.cons (.va 0) (xsl (.va 1)))) (.va 1)))]) .ret))
theorem fn_internal_stringslite_HasPrefix : (autoPrg Tryz.prog).fn 124 = some LF_internal_stringslite_HasPrefix := by kernel_rfl
def LF_utf_spot : LFunc :=
  .mk 2 [.cell 4 (some 3)] (.seq (R 4 [0, 1, 4] [.tmp 4 (xnl 4 [.int .i32 0, .int .i64 0, .bool false])]) (.seq (R 5 [4] [.run (xst 3 (.sl 4) (.op (.p (.build [.int .i32 0, .int
  .i64 0, .bool false] [(0, 1, .s 0), (1, 1, .s 1), (2, 1, .s 2)])) (.cons (.va 0) (.cons (.va 1) (.and (xb .eql (.va 0) (xr 65533)) (xb .eql (.va 1) (xi 1)))))))]) .ret))
theorem fn_utf_spot : (autoPrg Tryz.prog).fn 56 = some LF_utf_spot := by kernel_rfl
end Go.Proofs.YtfiaggbgplmmeaaGreatDoor.AM
namespace Go.Proofs.YtfiaggbgplmmeaaGreatDoor.AM
open Go
theorem runeLen_eq (c : Nat) (hc : RuneN c) (h : AH) : callO PX 83 [.int .i32 c] h = some (.int .i64 (encN c).length, h) := by
  have hle : c ≤ 0x10FFFF := by unfold RuneN at hc; omega
  have hl : (encN c).length = if c < 0x80 then 1 else if c < 0x800 then 2 else if c < 0x10000 then 3 else 4 := by
    unfold encN
    split
    · rfl
    · split
      · rfl
      · split <;> rfl
  unfold RuneN at hc
  apply WpC.eqn
  refine wpc_fn (px_ext rfl) (px_fn fn_utf8_RuneLen) rfl ?_
  unfold LF_utf8_RuneLen
  simp only [argFr]
  (refine W_x trivial ?_; (repeat' first | apply Cj.mk | exact Nl.nl) <;> intros)
  all_goals
    refine ⟨?_, rfl⟩
    rw [hl]
    congr 1
    repeat' split
    all_goals first | rfl | omega
theorem hasPrefix0_eq (a b : ByteArray) (h : AH) : callO PX 124 [.string a, .string b] h = some (.bool (decide (b.size ≤ a.size ∧ a.extract 0 b.size = b)), h) := by
  apply WpC.eqn
  refine wpc_fn (px_ext rfl) (px_fn fn_internal_stringslite_HasPrefix) rfl ?_
  unfold LF_internal_stringslite_HasPrefix
  simp only [argFr]
  (refine W_x trivial ?_; (repeat' first | apply Cj.mk | exact Nl.nl) <;> intros)
  all_goals (refine ⟨?_, rfl⟩; congr 1; symm)
  · rename_i g1 g2; exact decide_eq_true ⟨by omega, g2⟩
  · rename_i g1 g2; exact decide_eq_false (fun h => g2 h.2)
  · rename_i g1; exact decide_eq_false (fun h => g1 (by omega))
theorem hasPrefix_eq (a b : ByteArray) (h : AH) : callO PX 84 [.string a, .string b] h = some (.bool (decide (b.size ≤ a.size ∧ a.extract 0 b.size = b)), h) := by
  have e := hasPrefix0_eq a b
  apply WpC.eqn
  refine wpc_fn (px_ext rfl) (px_fn fn_strings_HasPrefix) rfl ?_
  unfold LF_strings_HasPrefix
  simp only [argFr]
  (refine W_x e ?_; (repeat' first | apply Cj.mk | exact Nl.nl) <;> intros)
  all_goals (refine ⟨?_, rfl⟩; congr 1; symm; first | exact decide_eq_true (by assumption) | exact decide_eq_false (by assumption))
theorem spot_eq (r n : Nat) (h : AH) : callO PX 56 [.int .i32 r, .int .i64 n] h = some (spotV (r, n), h) := by
  apply WpC.eqn
  refine wpc_fn (px_ext rfl) (px_fn fn_utf_spot) rfl ?_
  unfold LF_utf_spot
  simp only [argFr]
  (refine W_x trivial ?_; (repeat' first | apply Cj.mk | exact Nl.nl) <;> intros)
  all_goals
    refine ⟨?_, rfl⟩
    have hb : ∀ t : Bool, (t = true ↔ (r = 65533 ∧ n = 1)) → isBad2 (r, n) = t := fun t ht => by
      unfold isBad2
      rw [Bool.eq_iff_iff, ht]
      simp only [Bool.and_eq_true, beq_iff_eq]
    unfold spotV
    first
    | (have e : r = 65533 ∧ n = 1 := by omega
       rw [hb true (iff_of_true rfl e)]
       done)
    | (have e : ¬ (r = 65533 ∧ n = 1) := by omega
       rw [hb false (iff_of_false (by decide) e)]
       done)
theorem spotsMk_eq (s : ByteArray) (h : AH) : callO PX 49 [.string s] h = some (.func (.func 82) #[] #[.pointer (some ⟨h.n, 0, none⟩)], h.push (.cells false [.string s])) := by
  apply WpC.eqn
  refine wpc_fn (px_ext rfl) (px_fn fn_utf_Spots) rfl ?_
  unfold LF_utf_Spots
  simp only [argFr]
  (refine W_x trivial ?_; (repeat' first | apply Cj.mk | exact Nl.nl) <;> intros)
  exact ⟨rfl, rfl⟩
theorem spots_seq (s : ByteArray) (bx : Nat) (hsz : s.size ≤ 140737488351232) :
    SeqP PX (.func (.func 82) #[] #[.pointer (some ⟨bx, 0, none⟩)]) (spotsL s.data.toList) spotE (fun h => h.get bx = some (.cells false [.string s])) := by
  intro yv I E h hyv hvs hstep hD h0
  have d1 : h.get bx = some (.cells false [.string s]) := hD _ _ h0
  have hset := hyv.set
  have hlc1 := hyv.lc1
  refine wpV_fn ?_
  refine wpc_fn (px_ext rfl) (px_fn fn_utf_Spots_1) rfl ?_
  unfold LF_utf_Spots_1
  simp only [argFr, List.nil_append, List.cons_append]
  obtain ⟨l, hl⟩ : ∃ l, l = s.data.toList := ⟨_, rfl⟩
  rw [← hl] at hstep ⊢
  have hll : l.length = s.size := by rw [hl]; rfl
  (refine W_x (Aj d1 (Aj hset (Aj hlc1 @ev_rngS))) ?_; (repeat' first | apply Cj.mk | exact Nl.nl) <;> intros)
  refine wp_spotsS (fun _ _ => [(0, yv), (1, .pointer (some ⟨bx, 0, none⟩)), (7, .pointer (some ⟨14, 0, some 1⟩))]) (fun n _ => [(14, .siter s n)]) s l (fun i _ h1 => I i h1) (fun _ _ => (none : Option Unit)) () hl (by repeat' first | exact True.intro | refine And.intro rfl ?_) (fun _ _ => rfl) rfl h0 (fun i hil _ h1 hI hit => ?_) fun _ h1 hI fin => ?_
  · have d1 : h1.get bx = some (.cells false [.string s]) := hD _ _ hI
    obtain ⟨p1, p2, p3⟩ := posn_lt hil
    have hst := hstep i (by rw [spotsL_len]; exact hil) h1 hI
    rw [spotsL_get (by rw [spotsL_len]; exact hil)] at hst
    have hdc := dec_cases p3
    have hbad : (spots l)[i].1 = 65533 → ((encN 65533).length ≤ (l.drop (posn l i)).length ∧ (l.drop (posn l i)).take (encN 65533).length = encN 65533 ↔ (spots l)[i].2 = 3) := fun e => by
      rcases hdc with ⟨c, rest, hc, e1, e2⟩ | ⟨e1, e2⟩
      · rw [p2] at e2
        rw [e2] at e
        simp only at e
        subst e
        rw [e2, e1, encN_bad, List.take_left' encN_bad]
        simp [encN_bad]
      · rw [p2] at e1
        rw [e1, encN_bad]
        constructor
        · rintro ⟨h1, h2⟩
          exfalso
          refine e2 65533 ((l.drop (posn l i)).drop 3) rune_bad ?_
          rw [← h2, List.take_append_drop]
        · intro h; simp at h
    have hgood : (spots l)[i].1 ≠ 65533 → (spots l)[i].2 = (encN (spots l)[i].1).length := fun e => by
      rcases hdc with ⟨c, rest, hc, e1, e2⟩ | ⟨e1, e2⟩
      · rw [p2] at e2; rw [e2]
      · rw [p2] at e1; rw [e1] at e; exact absurd rfl e
    have hw3 : (spots l)[i].1 = 65533 → (spots l)[i].2 = 3 ∨ (spots l)[i].2 = 1 := fun e => by
      rcases hdc with ⟨c, rest, hc, e1, e2⟩ | ⟨e1, e2⟩
      · rw [p2] at e2
        rw [e2] at e
        simp only at e
        subst e
        rw [e2]; exact .inl encN_bad
      · rw [p2] at e1; rw [e1]; exact .inr rfl
    have hru : RuneN (spots l)[i].1 := runesB_rune l _ (List.mem_map.2 ⟨_, List.getElem_mem hil, rfl⟩)
    (refine W_x (Aj hset hlc1) ?_; (repeat' first | apply Cj.mk | exact Nl.nl) <;> intros)
    refine wo_next hl rfl hil ?_
    generalize (spots l)[i] = x at hst hbad hgood hw3 hru
    have hcast : ((Utf8.encode ((65533 : Nat) : Int))).data.toList = encN 65533 := encode_eq rune_bad
    have hpre : x.1 = 65533 → (decide ((Utf8.encode (x.1 : Int)).size ≤ (s.extract (posn l i) s.size).size ∧ (s.extract (posn l i) s.size).extract 0 (Utf8.encode (x.1 : Int)).size = Utf8.encode (x.1 : Int))) = decide (x.2 = 3) := fun e => by
      refine decide_eq_decide.2 ?_
      rw [← hbad e, e]
      have z1 : (Utf8.encode ((65533 : Nat) : Int)).size = (encN 65533).length := by rw [ba_size, hcast]
      have z2 : (s.extract (posn l i) s.size).data.toList = l.drop (posn l i) := by
        rw [ba_extract _ _ _ (Nat.le_refl _), ← hl, ← hll, ← List.length_drop, List.take_length]
      have z3 : (s.extract (posn l i) s.size).size = (l.drop (posn l i)).length := by rw [ba_size, z2]
      rw [z1, z3]
      constructor
      · rintro ⟨a, b⟩
        refine ⟨a, ?_⟩
        have : ((s.extract (posn l i) s.size).extract 0 (encN 65533).length).data.toList = (Utf8.encode ((65533 : Nat) : Int)).data.toList := by rw [b]
        rw [ba_extract _ _ _ (by omega), z2, hcast] at this
        simpa using this
      · rintro ⟨a, b⟩
        refine ⟨a, ba_ext ?_⟩
        rw [ba_extract _ _ _ (by omega), z2, hcast]
        simpa using b
    have el := runeLen_eq x.1 hru
    have es := fun n => spot_eq x.1 n
    by_cases e : x.1 = 65533
    · have hpre := hpre e
      have hw4 := hw3 e
      obtain ⟨c, w⟩ := x
      simp only at e hpre hw4 hst
      have hci : (c : Int) = 65533 := by omega
      have el2 : ∀ h, callO PX 83 [.int .i32 c] h = some (.int .i64 3, h) := fun h => by
        have := el h
        simp only at this
        rw [this, e, encN_bad]
        rfl
      have eh2 : ∀ h, callO PX 84 [.string (s.extract (posn l i) s.size), .string (Utf8.encode c)] h = some (.bool (decide (w = 3)), h) := fun h => by
        have := hasPrefix_eq (s.extract (posn l i) s.size) (Utf8.encode (c : Int)) h
        rw [hpre] at this
        exact this
      have es2 : ∀ h, callO PX 56 [.int .i32 c, .int .i64 3] h = some (spotV (c, 3), h) := fun h => spot_eq c 3 h
      have es3 : ∀ h, callO PX 56 [.int .i32 c, .int .i64 1] h = some (spotV (c, 1), h) := fun h => spot_eq c 1 h
      have hpl : ((posn l i : Nat) : Int) ≤ (s.size : Int) := by omega
      rcases hw4 with rfl | rfl
      all_goals
        simp only [decide_true, show decide (1 = 3) = false from rfl] at eh2
        (refine W_x (Aj hset (Aj hlc1 (Aj d1 (Aj el2 (Aj eh2 (Aj es2 es3)))))) ?_; (repeat' first | apply Cj.mk | exact Nl.nl) <;> intros)
        refine wo_callV (fv := yv) rfl rfl rfl ?_
        refine hst.mono ?_
        rintro v h2 hor
        rcases hor with ⟨rfl, hI2⟩ | ⟨rfl, hE⟩
        · (refine W_x (Aj hset hlc1) ?_; (repeat' first | apply Cj.mk | exact Nl.nl) <;> intros)
          exact ⟨rfl, (), (by repeat' first | exact True.intro | refine And.intro rfl ?_), rfl, hI2⟩
        · (refine W_x (Aj hset hlc1) ?_; (repeat' first | apply Cj.mk | exact Nl.nl) <;> intros)
          exact .inr hE
    · have hgd := hgood e
      rw [← hgd] at el
      have es2 := es x.2
      have hne : ¬ (x.1 : Int) = 65533 := by omega
      (refine W_x (Aj hset (Aj hlc1 (Aj el es2))) ?_; (repeat' first | apply Cj.mk | exact Nl.nl) <;> intros)
      refine wo_callV (fv := yv) rfl rfl rfl ?_
      refine hst.mono ?_
      rintro v h2 hor
      rcases hor with ⟨rfl, hI2⟩ | ⟨rfl, hE⟩
      · (refine W_x (Aj hset hlc1) ?_; (repeat' first | apply Cj.mk | exact Nl.nl) <;> intros)
        exact ⟨rfl, (), (by repeat' first | exact True.intro | refine And.intro rfl ?_), rfl, hI2⟩
      · (refine W_x (Aj hset hlc1) ?_; (repeat' first | apply Cj.mk | exact Nl.nl) <;> intros)
        exact .inr hE
  · (refine W_x (Aj hset hlc1) ?_; (repeat' first | apply Cj.mk | exact Nl.nl) <;> intros)
    refine wo_nextE hl rfl ?_
    (refine W_x (Aj hset hlc1) ?_; (repeat' first | apply Cj.mk | exact Nl.nl) <;> intros)
    exact .inl (by rw [spotsL_len]; exact hI)
end Go.Proofs.YtfiaggbgplmmeaaGreatDoor.AM
