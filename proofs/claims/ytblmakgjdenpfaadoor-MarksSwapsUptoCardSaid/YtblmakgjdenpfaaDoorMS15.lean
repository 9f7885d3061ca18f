/- Parts of the proof of MarksSwaps: its lemmas, joined. -/
import Derived.Test.YtblmakgjdenpfaaDoorMS14
set_option linter.unusedVariables false
set_option linter.unusedSimpArgs false
set_option linter.unusedSectionVars false
namespace Go.Proofs.YtblmakgjdenpfaaDoor.AM
open Go
variable {α : Type} [Inhabited α] {q : Pl} {enc : α → List Value} {val : α → Value} {cv : Value} {key : α → Int} {idx : α → Int}
def Bl (bs : Nat) : List (List α) → Prop
  | [] => True
  | A :: r => 0 < A.length ∧ A.length ≤ bs ∧ (r ≠ [] → A.length = bs) ∧ Bl bs r
def Far (idx : α → Int) (A B : List α) : Prop := ∀ x ∈ A, ∀ y ∈ B, idx x < idx y
theorem Bl.snoc {bs : Nat} : ∀ {L : List (List α)}, (∀ A ∈ L, A.length = bs) → 0 < bs → ∀ {R : List (List α)}, Bl bs R → Bl bs (L ++ R)
  | [], _, _, _, h => h
  | A :: r, h, hb, R, hR => by
    have h1 := h A (by simp)
    exact ⟨by omega, by omega, fun _ => h1, Bl.snoc (fun B hB => h B (List.mem_cons_of_mem _ hB)) hb hR⟩
set_option maxHeartbeats 4000000 in
theorem stable_eq (hc : CmpS q enc val cv key) {O : List α} {n : Nat} (hn : O.length = n) (hn2 : n < 1000000000) (hO : O.Pairwise (fun x y => idx x < idx y)) :
    ∃ Z : List α, Z.Perm O ∧ Z.Pairwise (ltK key idx) ∧ callO PX 80 [(q.s n).val 1, .int .i64 n, cv] (q.H enc O) = some (.tuple #[], q.H enc Z) := by
  have hlen : (q.s n).len = n := rfl
  have hset := hc.isF.set
  have hlc1 := hc.isF.lc1
  have hloc := hc.isF.loc
  suffices hw : WpC PX 80 [(q.s n).val 1, .int .i64 n, cv] (q.H enc O) fun v h1 => v = .tuple #[] ∧ ∃ Z : List α, Z.Perm O ∧ Z.Pairwise (ltK key idx) ∧ h1 = q.H enc Z by
    obtain ⟨v, h1, e, rfl, Z, z1, z2, rfl⟩ := hw
    exact ⟨Z, z1, z2, e⟩
  refine wpc_fn (px_ext rfl) (px_fn fn_slices_stableCmpFunc_rune) rfl ?_
  unfold LF_slices_stableCmpFunc_rune
  simp only [argFr]
  (repeat' first
    | (show WpR _ _ _ _ _ _ _ _ _
       first
       | refine wpr_drop ?_
       | refine wpr_p (o := .mv _) (by simp only [ev_mv, opd_s, opd_c, fget, Nat.reduceEqDiff, Nat.one_ne_zero, Nat.zero_ne_one, reduceCtorEq, ↓reduceIte]; rfl) ?_
       | (refine wpr_fork (fun _ => ?_) (fun _ => ?_) <;> try (exfalso; omega))
       | (refine wpr_forkN (fun _ => ?_) (fun _ => ?_) <;> try (exfalso; omega))
       | refine wpr_run rfl ?_
       | refine wpr_pass rfl rfl ?_
       | refine wpr_passS rfl ?_
       | ((first | apply wpr_p | apply wpr_r | apply wpr_callA | apply wpr_callA0 | apply wpr_e0 | apply wpr_e | apply wpr_end0); focus ((try simp (disch := omega) only [push_cast, Nat.reduceEqDiff, ↓reduceIte, reduceCtorEq, Nat.reduceAdd, Nat.reduceMul, Nat.reduceLeDiff,  hset, hlc1, hloc]); rfl))
       | refine wpr_pass0 rfl rfl ?_
       | refine wpr_pass0S rfl ?_
       | (apply wpr_end; (focus ((try simp (disch := omega) only [push_cast, Nat.reduceEqDiff, ↓reduceIte, reduceCtorEq, Nat.reduceAdd, Nat.reduceMul, Nat.reduceLeDiff,  hset, hlc1, hloc]); rfl)); (focus (simp (disch := omega) only [push_cast, Nat.reduceEqDiff, ↓reduceIte, reduceCtorEq, Nat.reduceAdd, Nat.reduceMul, Nat.reduceLeDiff,  hset, hlc1, hloc]; done)))
       | fail)
    | (show Wp _ _ _ _ _ _
       first
       | refine wp_seq ?_
       | refine wp_region0 ?_
       | refine wp_region ?_
       | refine wp_cond_t rfl ?_
       | refine wp_cond_f rfl ?_
       | refine wp_ret ?_
       | refine wp_skip ?_
       | refine wp_exit ?_
       | refine wp_block ?_
       | fail)
    | refine thenQ_norm ?_
    | refine thenQ_ret ?_
    | refine thenQ_exit ?_
    | refine blockQ_norm ?_
    | refine blockQ_ret ?_
    | refine blockQ_same ?_
    | refine blockQ_ne rfl ?_
    | refine loopQ_norm ?_
    | refine loopQ_ret ?_
    | refine loopQ_exit ?_
    | ((first | apply retQ_ret | apply retQ_norm | apply wpc_of); focus ((try simp (disch := omega) only [push_cast, Nat.reduceEqDiff, ↓reduceIte, reduceCtorEq, Nat.reduceAdd, Nat.reduceMul, Nat.reduceLeDiff,  hset, hlc1, hloc]); rfl))
    | fail)
  refine wp_loop (fun w fr lc h1 => ∃ (L : List (List α)) (R : List α) (a b : Int), w = R.length ∧ (∀ A ∈ L, A.length = 20) ∧ (∀ A ∈ L, A.Pairwise (ltK key idx)) ∧ L.Pairwise (Far idx) ∧ (∀ A ∈ L, Far idx A R) ∧ R.Pairwise (fun x y => idx x < idx y) ∧ (L.flatten ++ R).Perm O ∧
      a = L.flatten.length ∧ b = a + 20 ∧ fr = [(0, (q.s n).val 1), (1, .int .i64 n), (2, cv), (6, .int .i64 20), (7, .int .i64 a), (8, .int .i64 b)] ∧ lc = [] ∧ h1 = q.H enc (L.flatten ++ R)) O.length
    ⟨[], O, 0, 20, rfl, by simp, by simp, List.Pairwise.nil, by simp, hO, .refl _, rfl, rfl, rfl, rfl, rfl⟩ ?_
  rintro w fr lc h1 ⟨L, R, a, b, rfl, hL1, hL2, hL3, hL4, hR, hP, ha, hb, rfl, rfl, rfl⟩
  have hl := hP.length_eq
  rw [hn, List.length_append] at hl
  by_cases hbn : b ≤ n
  · have hR20 : 20 ≤ R.length := by omega
    have hRe : R = R.take 20 ++ R.drop 20 := (List.take_append_drop 20 R).symm
    obtain ⟨Z, z1, z2, z3⟩ := insertion_eq (idx := idx) hc (P := L.flatten) (X := R.take 20) (S := R.drop 20) (n := n) (a := a) (b := b) (by simp only [List.length_append, List.length_take, List.length_drop]; omega) (by omega) ha (by rw [List.length_take]; omega) (hR.sublist (List.take_sublist _ _))
    have hDe : L.flatten ++ R = L.flatten ++ R.take 20 ++ R.drop 20 := by rw [List.append_assoc, ← hRe]
    have hZl : Z.length = 20 := by rw [z1.length_eq, List.length_take]; omega
    rw [← hDe] at z3
    have hmz : ∀ x ∈ Z, x ∈ R := fun x hx => List.mem_of_mem_take (z1.mem_iff.1 hx)
    have hpw := List.pairwise_append.1 (hRe ▸ hR : (R.take 20 ++ R.drop 20).Pairwise (fun x y => idx x < idx y))
    (repeat' first
    | (show WpR _ _ _ _ _ _ _ _ _
       first
       | refine wpr_drop ?_
       | refine wpr_p (o := .mv _) (by simp only [ev_mv, opd_s, opd_c, fget, Nat.reduceEqDiff, Nat.one_ne_zero, Nat.zero_ne_one, reduceCtorEq, ↓reduceIte]; rfl) ?_
       | (refine wpr_fork (fun _ => ?_) (fun _ => ?_) <;> try (exfalso; omega))
       | (refine wpr_forkN (fun _ => ?_) (fun _ => ?_) <;> try (exfalso; omega))
       | refine wpr_run rfl ?_
       | refine wpr_pass rfl rfl ?_
       | refine wpr_passS rfl ?_
       | ((first | apply wpr_p | apply wpr_r | apply wpr_callA | apply wpr_callA0 | apply wpr_e0 | apply wpr_e | apply wpr_end0); focus ((try simp (disch := omega) only [push_cast, Nat.reduceEqDiff, ↓reduceIte, reduceCtorEq, Nat.reduceAdd, Nat.reduceMul, Nat.reduceLeDiff,  hset, hlc1, hloc, z3]); rfl))
       | refine wpr_pass0 rfl rfl ?_
       | refine wpr_pass0S rfl ?_
       | (apply wpr_end; (focus ((try simp (disch := omega) only [push_cast, Nat.reduceEqDiff, ↓reduceIte, reduceCtorEq, Nat.reduceAdd, Nat.reduceMul, Nat.reduceLeDiff,  hset, hlc1, hloc, z3]); rfl)); (focus (simp (disch := omega) only [push_cast, Nat.reduceEqDiff, ↓reduceIte, reduceCtorEq, Nat.reduceAdd, Nat.reduceMul, Nat.reduceLeDiff,  hset, hlc1, hloc, z3]; done)))
       | fail)
    | (show Wp _ _ _ _ _ _
       first
       | refine wp_seq ?_
       | refine wp_region0 ?_
       | refine wp_region ?_
       | refine wp_cond_t rfl ?_
       | refine wp_cond_f rfl ?_
       | refine wp_ret ?_
       | refine wp_skip ?_
       | refine wp_exit ?_
       | refine wp_block ?_
       | fail)
    | refine thenQ_norm ?_
    | refine thenQ_ret ?_
    | refine thenQ_exit ?_
    | refine blockQ_norm ?_
    | refine blockQ_ret ?_
    | refine blockQ_same ?_
    | refine blockQ_ne rfl ?_
    | refine loopQ_norm ?_
    | refine loopQ_ret ?_
    | refine loopQ_exit ?_
    | ((first | apply retQ_ret | apply retQ_norm | apply wpc_of); focus ((try simp (disch := omega) only [push_cast, Nat.reduceEqDiff, ↓reduceIte, reduceCtorEq, Nat.reduceAdd, Nat.reduceMul, Nat.reduceLeDiff,  hset, hlc1, hloc, z3]); rfl))
    | fail)
    refine ⟨(R.drop 20).length, by rw [List.length_drop]; omega, L ++ [Z], R.drop 20, b, b + 20, rfl, fun A hA => ?_, fun A hA => ?_, List.pairwise_append.2 ⟨hL3, by simp, fun A hA B hB x hx y hy => ?_⟩, fun A hA x hx y hy => ?_, hpw.2.1, ?_, ?_, rfl, rfl, rfl, by simp⟩
    · rcases List.mem_append.1 hA with hA | hA
      · exact hL1 A hA
      · rw [List.mem_singleton.1 hA]; exact hZl
    · rcases List.mem_append.1 hA with hA | hA
      · exact hL2 A hA
      · rw [List.mem_singleton.1 hA]; exact z2
    · rw [List.mem_singleton.1 hB] at hy
      exact hL4 A hA x hx y (hmz y hy)
    · rcases List.mem_append.1 hA with hA | hA
      · exact hL4 A hA x hx y (List.mem_of_mem_drop hy)
      · rw [List.mem_singleton.1 hA] at hx
        exact hpw.2.2 x (z1.mem_iff.1 hx) y hy
    · refine List.Perm.trans ?_ hP
      rw [hDe]
      simp only [List.flatten_append, List.flatten_cons, List.flatten_nil, List.append_nil]
      exact List.Perm.append_right _ (List.Perm.append_left _ z1)
    · simp only [List.flatten_append, List.flatten_cons, List.flatten_nil, List.append_nil, List.length_append]; omega
  · obtain ⟨Z, z1, z2, z3⟩ := insertion_eq (idx := idx) hc (P := L.flatten) (X := R) (S := []) (n := n) (a := a) (b := n) (by simp only [List.length_append, List.length_nil]; omega) (by omega) ha (by omega) hR
    rw [List.append_nil, List.append_nil] at z3
    have hZl := z1.length_eq
    (repeat' first
    | (show WpR _ _ _ _ _ _ _ _ _
       first
       | refine wpr_drop ?_
       | refine wpr_p (o := .mv _) (by simp only [ev_mv, opd_s, opd_c, fget, Nat.reduceEqDiff, Nat.one_ne_zero, Nat.zero_ne_one, reduceCtorEq, ↓reduceIte]; rfl) ?_
       | (refine wpr_fork (fun _ => ?_) (fun _ => ?_) <;> try (exfalso; omega))
       | (refine wpr_forkN (fun _ => ?_) (fun _ => ?_) <;> try (exfalso; omega))
       | refine wpr_run rfl ?_
       | refine wpr_pass rfl rfl ?_
       | refine wpr_passS rfl ?_
       | ((first | apply wpr_p | apply wpr_r | apply wpr_callA | apply wpr_callA0 | apply wpr_e0 | apply wpr_e | apply wpr_end0); focus ((try simp (disch := omega) only [push_cast, Nat.reduceEqDiff, ↓reduceIte, reduceCtorEq, Nat.reduceAdd, Nat.reduceMul, Nat.reduceLeDiff,  hset, hlc1, hloc, z3]); rfl))
       | refine wpr_pass0 rfl rfl ?_
       | refine wpr_pass0S rfl ?_
       | (apply wpr_end; (focus ((try simp (disch := omega) only [push_cast, Nat.reduceEqDiff, ↓reduceIte, reduceCtorEq, Nat.reduceAdd, Nat.reduceMul, Nat.reduceLeDiff,  hset, hlc1, hloc, z3]); rfl)); (focus (simp (disch := omega) only [push_cast, Nat.reduceEqDiff, ↓reduceIte, reduceCtorEq, Nat.reduceAdd, Nat.reduceMul, Nat.reduceLeDiff,  hset, hlc1, hloc, z3]; done)))
       | fail)
    | (show Wp _ _ _ _ _ _
       first
       | refine wp_seq ?_
       | refine wp_region0 ?_
       | refine wp_region ?_
       | refine wp_cond_t rfl ?_
       | refine wp_cond_f rfl ?_
       | refine wp_ret ?_
       | refine wp_skip ?_
       | refine wp_exit ?_
       | refine wp_block ?_
       | fail)
    | refine thenQ_norm ?_
    | refine thenQ_ret ?_
    | refine thenQ_exit ?_
    | refine blockQ_norm ?_
    | refine blockQ_ret ?_
    | refine blockQ_same ?_
    | refine blockQ_ne rfl ?_
    | refine loopQ_norm ?_
    | refine loopQ_ret ?_
    | refine loopQ_exit ?_
    | ((first | apply retQ_ret | apply retQ_norm | apply wpc_of); focus ((try simp (disch := omega) only [push_cast, Nat.reduceEqDiff, ↓reduceIte, reduceCtorEq, Nat.reduceAdd, Nat.reduceMul, Nat.reduceLeDiff,  hset, hlc1, hloc, z3]); rfl))
    | fail)
    refine wp_loop (fun w fr lc h1 => ∃ (bs : Nat) (L : List (List α)), w = n - bs ∧ 20 ≤ bs ∧ bs ≤ 2 * n + 20 ∧ Bl bs L ∧ (∀ A ∈ L, A.Pairwise (ltK key idx)) ∧ L.Pairwise (Far idx) ∧ L.flatten.Perm O ∧
        fr = [(0, (q.s n).val 1), (1, .int .i64 n), (2, cv), (6, .int .i64 bs)] ∧ lc = [] ∧ h1 = q.H enc L.flatten) (n - 20) ?_ ?_
    · by_cases hZ0 : Z = []
      · refine ⟨20, L, rfl, by omega, by omega, ?_, hL2, hL3, ?_, rfl, rfl, by rw [hZ0, List.append_nil]⟩
        · have := Bl.snoc (bs := 20) hL1 (by omega) (R := []) trivial
          rwa [List.append_nil] at this
        · refine List.Perm.trans ?_ hP
          rw [List.eq_nil_of_length_eq_zero (l := R) (by rw [← hZl, hZ0]; rfl), List.append_nil]
      · refine ⟨20, L ++ [Z], rfl, by omega, by omega, Bl.snoc hL1 (by omega) ⟨List.length_pos_iff.2 hZ0, by omega, fun h => absurd rfl h, trivial⟩, fun A hA => ?_, List.pairwise_append.2 ⟨hL3, by simp, fun A hA B hB x hx y hy => ?_⟩, ?_, rfl, rfl, by simp⟩
        · rcases List.mem_append.1 hA with hA | hA
          · exact hL2 A hA
          · rw [List.mem_singleton.1 hA]; exact z2
        · rw [List.mem_singleton.1 hB] at hy
          exact hL4 A hA x hx y (z1.mem_iff.1 hy)
        · refine List.Perm.trans ?_ hP
          simp only [List.flatten_append, List.flatten_cons, List.flatten_nil, List.append_nil]
          exact List.Perm.append_left _ z1
    clear hL1 hL2 hL3 hL4 hR hP ha hb hl hbn z1 z2 z3 hZl
    rintro w fr lc h1 ⟨bs, L, rfl, hbs, hbs2, hBl, hLs, hLf, hP, rfl, rfl, rfl⟩
    by_cases hbn : bs < n
    rotate_left
    · (repeat' first
    | (show WpR _ _ _ _ _ _ _ _ _
       first
       | refine wpr_drop ?_
       | refine wpr_p (o := .mv _) (by simp only [ev_mv, opd_s, opd_c, fget, Nat.reduceEqDiff, Nat.one_ne_zero, Nat.zero_ne_one, reduceCtorEq, ↓reduceIte]; rfl) ?_
       | (refine wpr_fork (fun _ => ?_) (fun _ => ?_) <;> try (exfalso; omega))
       | (refine wpr_forkN (fun _ => ?_) (fun _ => ?_) <;> try (exfalso; omega))
       | refine wpr_run rfl ?_
       | refine wpr_pass rfl rfl ?_
       | refine wpr_passS rfl ?_
       | ((first | apply wpr_p | apply wpr_r | apply wpr_callA | apply wpr_callA0 | apply wpr_e0 | apply wpr_e | apply wpr_end0); focus ((try simp (disch := omega) only [push_cast, Nat.reduceEqDiff, ↓reduceIte, reduceCtorEq, Nat.reduceAdd, Nat.reduceMul, Nat.reduceLeDiff,  hset, hlc1, hloc]); rfl))
       | refine wpr_pass0 rfl rfl ?_
       | refine wpr_pass0S rfl ?_
       | (apply wpr_end; (focus ((try simp (disch := omega) only [push_cast, Nat.reduceEqDiff, ↓reduceIte, reduceCtorEq, Nat.reduceAdd, Nat.reduceMul, Nat.reduceLeDiff,  hset, hlc1, hloc]); rfl)); (focus (simp (disch := omega) only [push_cast, Nat.reduceEqDiff, ↓reduceIte, reduceCtorEq, Nat.reduceAdd, Nat.reduceMul, Nat.reduceLeDiff,  hset, hlc1, hloc]; done)))
       | fail)
    | (show Wp _ _ _ _ _ _
       first
       | refine wp_seq ?_
       | refine wp_region0 ?_
       | refine wp_region ?_
       | refine wp_cond_t rfl ?_
       | refine wp_cond_f rfl ?_
       | refine wp_ret ?_
       | refine wp_skip ?_
       | refine wp_exit ?_
       | refine wp_block ?_
       | fail)
    | refine thenQ_norm ?_
    | refine thenQ_ret ?_
    | refine thenQ_exit ?_
    | refine blockQ_norm ?_
    | refine blockQ_ret ?_
    | refine blockQ_same ?_
    | refine blockQ_ne rfl ?_
    | refine loopQ_norm ?_
    | refine loopQ_ret ?_
    | refine loopQ_exit ?_
    | ((first | apply retQ_ret | apply retQ_norm | apply wpc_of); focus ((try simp (disch := omega) only [push_cast, Nat.reduceEqDiff, ↓reduceIte, reduceCtorEq, Nat.reduceAdd, Nat.reduceMul, Nat.reduceLeDiff,  hset, hlc1, hloc]); rfl))
    | fail)
      refine ⟨rfl, L.flatten, hP, ?_, rfl⟩
      have hl := hP.length_eq
      match L, hBl, hLs, hl with
      | [], _, _, _ => simp
      | [A], _, h, _ => simpa using h A (by simp)
      | A :: B :: r, hBl, _, hl =>
        obtain ⟨_, _, b3, b4, _⟩ := hBl
        have := b3 (by simp)
        simp only [List.flatten_cons, List.length_append] at hl
        omega
    · (repeat' first
    | (show WpR _ _ _ _ _ _ _ _ _
       first
       | refine wpr_drop ?_
       | refine wpr_p (o := .mv _) (by simp only [ev_mv, opd_s, opd_c, fget, Nat.reduceEqDiff, Nat.one_ne_zero, Nat.zero_ne_one, reduceCtorEq, ↓reduceIte]; rfl) ?_
       | (refine wpr_fork (fun _ => ?_) (fun _ => ?_) <;> try (exfalso; omega))
       | (refine wpr_forkN (fun _ => ?_) (fun _ => ?_) <;> try (exfalso; omega))
       | refine wpr_run rfl ?_
       | refine wpr_pass rfl rfl ?_
       | refine wpr_passS rfl ?_
       | ((first | apply wpr_p | apply wpr_r | apply wpr_callA | apply wpr_callA0 | apply wpr_e0 | apply wpr_e | apply wpr_end0); focus ((try simp (disch := omega) only [push_cast, Nat.reduceEqDiff, ↓reduceIte, reduceCtorEq, Nat.reduceAdd, Nat.reduceMul, Nat.reduceLeDiff,  hset, hlc1, hloc]); rfl))
       | refine wpr_pass0 rfl rfl ?_
       | refine wpr_pass0S rfl ?_
       | (apply wpr_end; (focus ((try simp (disch := omega) only [push_cast, Nat.reduceEqDiff, ↓reduceIte, reduceCtorEq, Nat.reduceAdd, Nat.reduceMul, Nat.reduceLeDiff,  hset, hlc1, hloc]); rfl)); (focus (simp (disch := omega) only [push_cast, Nat.reduceEqDiff, ↓reduceIte, reduceCtorEq, Nat.reduceAdd, Nat.reduceMul, Nat.reduceLeDiff,  hset, hlc1, hloc]; done)))
       | fail)
    | (show Wp _ _ _ _ _ _
       first
       | refine wp_seq ?_
       | refine wp_region0 ?_
       | refine wp_region ?_
       | refine wp_cond_t rfl ?_
       | refine wp_cond_f rfl ?_
       | refine wp_ret ?_
       | refine wp_skip ?_
       | refine wp_exit ?_
       | refine wp_block ?_
       | fail)
    | refine thenQ_norm ?_
    | refine thenQ_ret ?_
    | refine thenQ_exit ?_
    | refine blockQ_norm ?_
    | refine blockQ_ret ?_
    | refine blockQ_same ?_
    | refine blockQ_ne rfl ?_
    | refine loopQ_norm ?_
    | refine loopQ_ret ?_
    | refine loopQ_exit ?_
    | ((first | apply retQ_ret | apply retQ_norm | apply wpc_of); focus ((try simp (disch := omega) only [push_cast, Nat.reduceEqDiff, ↓reduceIte, reduceCtorEq, Nat.reduceAdd, Nat.reduceMul, Nat.reduceLeDiff,  hset, hlc1, hloc]); rfl))
    | fail)
      refine wp_loop (fun w fr lc h1 => ∃ (M : List (List α)) (R : List (List α)) (a b : Int), w = R.length ∧ (∀ A ∈ M, A.length = 2 * bs) ∧ Bl bs R ∧ (∀ A ∈ M ++ R, A.Pairwise (ltK key idx)) ∧ (M ++ R).Pairwise (Far idx) ∧ (M ++ R).flatten.Perm O ∧ a = M.flatten.length ∧ b = a + 2 * bs ∧
          fr = [(0, (q.s n).val 1), (1, .int .i64 n), (2, cv), (6, .int .i64 bs), (7, .int .i64 a), (8, .int .i64 b)] ∧ lc = [] ∧ h1 = q.H enc (M ++ R).flatten) L.length
        ⟨[], L, 0, 2 * bs, rfl, by simp, hBl, hLs, hLf, hP, rfl, by omega, rfl, rfl, rfl⟩ ?_
      clear hBl hLs hLf hP
      rintro w fr lc h1 ⟨M, R, a, b, rfl, hM, hBl, hMs, hMf, hP, ha, hb, rfl, rfl, rfl⟩
      have hl := hP.length_eq
      rw [hn, List.flatten_append, List.length_append] at hl
      have hmerge : ∀ A B R', R = A :: B :: R' → ∃ Z : List α, Z.length = A.length + B.length ∧ callO PX 122 [(q.s n).val 1, .int .i64 a, .int .i64 (a + A.length), .int .i64 (a + A.length + B.length), cv] (q.H enc (M ++ R).flatten) = some (.tuple #[], q.H enc (M ++ (Z :: R')).flatten) ∧
          (∀ A ∈ M ++ (Z :: R'), A.Pairwise (ltK key idx)) ∧ (M ++ (Z :: R')).Pairwise (Far idx) ∧ (M ++ (Z :: R')).flatten.Perm O := by
        rintro A B R' rfl
        obtain ⟨b1, b2, b3, b4, b5, b6, b7⟩ := hBl
        have hp := List.pairwise_append.1 hMf
        have hp2 := List.pairwise_cons.1 hp.2.1
        have hp3 := List.pairwise_cons.1 hp2.2
        have hAB : Far idx A B := hp2.1 B (by simp)
        simp only [List.flatten_cons, List.length_append] at hl
        obtain ⟨Z, z1, z2, z3⟩ := merge_eq (n := n) hc (by omega) _ M.flatten A B R'.flatten a (a + A.length) (a + A.length + B.length) (Nat.le_refl _) (by simp only [List.length_append]; omega) ha (by omega) (by omega) b1 b4 (hMs A (by simp)) (hMs B (by simp)) hAB
        have e1 : (M ++ A :: B :: R').flatten = M.flatten ++ A ++ B ++ R'.flatten := by simp
        have e2 : (M ++ Z :: R').flatten = M.flatten ++ Z ++ R'.flatten := by simp
        have hmem : ∀ x ∈ Z, x ∈ A ∨ x ∈ B := fun x hx => by have := z1.mem_iff.1 hx; simpa using this
        refine ⟨Z, by rw [z1.length_eq, List.length_append], by rw [e1, e2]; exact z3, fun C hC => ?_, List.pairwise_append.2 ⟨hp.1, List.pairwise_cons.2 ⟨fun C hC x hx y hy => ?_, hp3.2⟩, fun C hC E hE x hx y hy => ?_⟩, ?_⟩
        · rcases List.mem_append.1 hC with hC | hC
          · exact hMs C (by simp [hC])
          · rcases List.mem_cons.1 hC with rfl | hC
            · exact z2
            · exact hMs C (by simp [hC])
        · rcases hmem x hx with h | h
          · exact hp2.1 C (by simp [hC]) x h y hy
          · exact hp3.1 C hC x h y hy
        · rcases List.mem_cons.1 hE with rfl | hE
          · rcases hmem y hy with h | h
            · exact hp.2.2 C hC A (by simp) x hx y h
            · exact hp.2.2 C hC B (by simp) x hx y h
          · exact hp.2.2 C hC E (by simp [hE]) x hx y hy
        · refine List.Perm.trans ?_ hP
          rw [e1, e2]
          refine List.Perm.append_right _ ?_
          rw [List.append_assoc]
          exact List.Perm.append_left _ z1
      by_cases hbn2 : b ≤ n
      · match R, hBl, hl, hmerge with
        | [], _, hl, _ => simp only [List.flatten_nil, List.length_nil] at hl; omega
        | [A], hBl, hl, _ =>
          have := hBl.2.1
          simp only [List.flatten_cons, List.flatten_nil, List.append_nil] at hl; omega
        | A :: B :: R', hBl, hl, hmerge =>
          obtain ⟨b1, b2, b3, b4, b5, b6, b7⟩ := hBl
          obtain ⟨Z, z0, z1, z2, z3, z4⟩ := hmerge A B R' rfl
          have hA := b3 (by simp)
          simp only [List.flatten_cons, List.length_append] at hl
          have hB : B.length = bs := by
            by_cases hR' : R' = []
            · subst hR'; simp only [List.flatten_nil, List.length_nil] at hl; omega
            · exact b6 hR'
          rw [hA, show a + (bs : Int) + B.length = b by omega] at z1
          (repeat' first
    | (show WpR _ _ _ _ _ _ _ _ _
       first
       | refine wpr_drop ?_
       | refine wpr_p (o := .mv _) (by simp only [ev_mv, opd_s, opd_c, fget, Nat.reduceEqDiff, Nat.one_ne_zero, Nat.zero_ne_one, reduceCtorEq, ↓reduceIte]; rfl) ?_
       | (refine wpr_fork (fun _ => ?_) (fun _ => ?_) <;> try (exfalso; omega))
       | (refine wpr_forkN (fun _ => ?_) (fun _ => ?_) <;> try (exfalso; omega))
       | refine wpr_run rfl ?_
       | refine wpr_pass rfl rfl ?_
       | refine wpr_passS rfl ?_
       | ((first | apply wpr_p | apply wpr_r | apply wpr_callA | apply wpr_callA0 | apply wpr_e0 | apply wpr_e | apply wpr_end0); focus ((try simp (disch := omega) only [push_cast, Nat.reduceEqDiff, ↓reduceIte, reduceCtorEq, Nat.reduceAdd, Nat.reduceMul, Nat.reduceLeDiff,  hset, hlc1, hloc, z1]); rfl))
       | refine wpr_pass0 rfl rfl ?_
       | refine wpr_pass0S rfl ?_
       | (apply wpr_end; (focus ((try simp (disch := omega) only [push_cast, Nat.reduceEqDiff, ↓reduceIte, reduceCtorEq, Nat.reduceAdd, Nat.reduceMul, Nat.reduceLeDiff,  hset, hlc1, hloc, z1]); rfl)); (focus (simp (disch := omega) only [push_cast, Nat.reduceEqDiff, ↓reduceIte, reduceCtorEq, Nat.reduceAdd, Nat.reduceMul, Nat.reduceLeDiff,  hset, hlc1, hloc, z1]; done)))
       | fail)
    | (show Wp _ _ _ _ _ _
       first
       | refine wp_seq ?_
       | refine wp_region0 ?_
       | refine wp_region ?_
       | refine wp_cond_t rfl ?_
       | refine wp_cond_f rfl ?_
       | refine wp_ret ?_
       | refine wp_skip ?_
       | refine wp_exit ?_
       | refine wp_block ?_
       | fail)
    | refine thenQ_norm ?_
    | refine thenQ_ret ?_
    | refine thenQ_exit ?_
    | refine blockQ_norm ?_
    | refine blockQ_ret ?_
    | refine blockQ_same ?_
    | refine blockQ_ne rfl ?_
    | refine loopQ_norm ?_
    | refine loopQ_ret ?_
    | refine loopQ_exit ?_
    | ((first | apply retQ_ret | apply retQ_norm | apply wpc_of); focus ((try simp (disch := omega) only [push_cast, Nat.reduceEqDiff, ↓reduceIte, reduceCtorEq, Nat.reduceAdd, Nat.reduceMul, Nat.reduceLeDiff,  hset, hlc1, hloc, z1]); rfl))
    | fail)
          refine ⟨R'.length, by simp; omega, M ++ [Z], R', b, b + 2 * bs, rfl, fun C hC => ?_, b7, by simpa using z2, by simpa using z3, by simpa using z4, by simp only [List.flatten_append, List.flatten_cons, List.flatten_nil, List.append_nil, List.length_append]; omega, rfl, rfl, rfl, by simp⟩
          rcases List.mem_append.1 hC with hC | hC
          · exact hM C hC
          · rw [List.mem_singleton.1 hC]; omega
      · match R, hBl, hl, hmerge, hMs, hMf, hP with
        | [], _, hl, _, hMs, hMf, hP =>
          simp only [List.flatten_nil, List.length_nil] at hl
          (repeat' first
    | (show WpR _ _ _ _ _ _ _ _ _
       first
       | refine wpr_drop ?_
       | refine wpr_p (o := .mv _) (by simp only [ev_mv, opd_s, opd_c, fget, Nat.reduceEqDiff, Nat.one_ne_zero, Nat.zero_ne_one, reduceCtorEq, ↓reduceIte]; rfl) ?_
       | (refine wpr_fork (fun _ => ?_) (fun _ => ?_) <;> try (exfalso; omega))
       | (refine wpr_forkN (fun _ => ?_) (fun _ => ?_) <;> try (exfalso; omega))
       | refine wpr_run rfl ?_
       | refine wpr_pass rfl rfl ?_
       | refine wpr_passS rfl ?_
       | ((first | apply wpr_p | apply wpr_r | apply wpr_callA | apply wpr_callA0 | apply wpr_e0 | apply wpr_e | apply wpr_end0); focus ((try simp (disch := omega) only [push_cast, Nat.reduceEqDiff, ↓reduceIte, reduceCtorEq, Nat.reduceAdd, Nat.reduceMul, Nat.reduceLeDiff,  hset, hlc1, hloc]); rfl))
       | refine wpr_pass0 rfl rfl ?_
       | refine wpr_pass0S rfl ?_
       | (apply wpr_end; (focus ((try simp (disch := omega) only [push_cast, Nat.reduceEqDiff, ↓reduceIte, reduceCtorEq, Nat.reduceAdd, Nat.reduceMul, Nat.reduceLeDiff,  hset, hlc1, hloc]); rfl)); (focus (simp (disch := omega) only [push_cast, Nat.reduceEqDiff, ↓reduceIte, reduceCtorEq, Nat.reduceAdd, Nat.reduceMul, Nat.reduceLeDiff,  hset, hlc1, hloc]; done)))
       | fail)
    | (show Wp _ _ _ _ _ _
       first
       | refine wp_seq ?_
       | refine wp_region0 ?_
       | refine wp_region ?_
       | refine wp_cond_t rfl ?_
       | refine wp_cond_f rfl ?_
       | refine wp_ret ?_
       | refine wp_skip ?_
       | refine wp_exit ?_
       | refine wp_block ?_
       | fail)
    | refine thenQ_norm ?_
    | refine thenQ_ret ?_
    | refine thenQ_exit ?_
    | refine blockQ_norm ?_
    | refine blockQ_ret ?_
    | refine blockQ_same ?_
    | refine blockQ_ne rfl ?_
    | refine loopQ_norm ?_
    | refine loopQ_ret ?_
    | refine loopQ_exit ?_
    | ((first | apply retQ_ret | apply retQ_norm | apply wpc_of); focus ((try simp (disch := omega) only [push_cast, Nat.reduceEqDiff, ↓reduceIte, reduceCtorEq, Nat.reduceAdd, Nat.reduceMul, Nat.reduceLeDiff,  hset, hlc1, hloc]); rfl))
    | fail)
          refine ⟨n - 2 * bs, by omega, 2 * bs, M, rfl, by omega, by omega, ?_, by simpa using hMs, by simpa using hMf, by simpa using hP, by simp only [Int.natCast_mul]; congr 6; omega, rfl, by simp⟩
          have := Bl.snoc (bs := 2 * bs) hM (by omega) (R := []) trivial
          rwa [List.append_nil] at this
        | [A], hBl, hl, _, hMs, hMf, hP =>
          have b1 := hBl.1
          have b2 := hBl.2.1
          simp only [List.flatten_cons, List.flatten_nil, List.append_nil] at hl
          (repeat' first
    | (show WpR _ _ _ _ _ _ _ _ _
       first
       | refine wpr_drop ?_
       | refine wpr_p (o := .mv _) (by simp only [ev_mv, opd_s, opd_c, fget, Nat.reduceEqDiff, Nat.one_ne_zero, Nat.zero_ne_one, reduceCtorEq, ↓reduceIte]; rfl) ?_
       | (refine wpr_fork (fun _ => ?_) (fun _ => ?_) <;> try (exfalso; omega))
       | (refine wpr_forkN (fun _ => ?_) (fun _ => ?_) <;> try (exfalso; omega))
       | refine wpr_run rfl ?_
       | refine wpr_pass rfl rfl ?_
       | refine wpr_passS rfl ?_
       | ((first | apply wpr_p | apply wpr_r | apply wpr_callA | apply wpr_callA0 | apply wpr_e0 | apply wpr_e | apply wpr_end0); focus ((try simp (disch := omega) only [push_cast, Nat.reduceEqDiff, ↓reduceIte, reduceCtorEq, Nat.reduceAdd, Nat.reduceMul, Nat.reduceLeDiff,  hset, hlc1, hloc]); rfl))
       | refine wpr_pass0 rfl rfl ?_
       | refine wpr_pass0S rfl ?_
       | (apply wpr_end; (focus ((try simp (disch := omega) only [push_cast, Nat.reduceEqDiff, ↓reduceIte, reduceCtorEq, Nat.reduceAdd, Nat.reduceMul, Nat.reduceLeDiff,  hset, hlc1, hloc]); rfl)); (focus (simp (disch := omega) only [push_cast, Nat.reduceEqDiff, ↓reduceIte, reduceCtorEq, Nat.reduceAdd, Nat.reduceMul, Nat.reduceLeDiff,  hset, hlc1, hloc]; done)))
       | fail)
    | (show Wp _ _ _ _ _ _
       first
       | refine wp_seq ?_
       | refine wp_region0 ?_
       | refine wp_region ?_
       | refine wp_cond_t rfl ?_
       | refine wp_cond_f rfl ?_
       | refine wp_ret ?_
       | refine wp_skip ?_
       | refine wp_exit ?_
       | refine wp_block ?_
       | fail)
    | refine thenQ_norm ?_
    | refine thenQ_ret ?_
    | refine thenQ_exit ?_
    | refine blockQ_norm ?_
    | refine blockQ_ret ?_
    | refine blockQ_same ?_
    | refine blockQ_ne rfl ?_
    | refine loopQ_norm ?_
    | refine loopQ_ret ?_
    | refine loopQ_exit ?_
    | ((first | apply retQ_ret | apply retQ_norm | apply wpc_of); focus ((try simp (disch := omega) only [push_cast, Nat.reduceEqDiff, ↓reduceIte, reduceCtorEq, Nat.reduceAdd, Nat.reduceMul, Nat.reduceLeDiff,  hset, hlc1, hloc]); rfl))
    | fail)
          exact ⟨n - 2 * bs, by omega, 2 * bs, M ++ [A], rfl, by omega, by omega, Bl.snoc hM (by omega) ⟨b1, by omega, fun h => absurd rfl h, trivial⟩, hMs, hMf, hP, by simp only [Int.natCast_mul]; congr 6; omega, rfl, rfl⟩
        | [A, B], hBl, hl, hmerge, hMs, hMf, hP =>
          obtain ⟨b1, b2, b3, b4, b5, b6, b7⟩ := hBl
          obtain ⟨Z, z0, z1, z2, z3, z4⟩ := hmerge A B [] rfl
          have hA := b3 (by simp)
          simp only [List.flatten_cons, List.flatten_nil, List.append_nil, List.length_append] at hl
          rw [hA, show a + (bs : Int) + B.length = n by omega] at z1
          (repeat' first
    | (show WpR _ _ _ _ _ _ _ _ _
       first
       | refine wpr_drop ?_
       | refine wpr_p (o := .mv _) (by simp only [ev_mv, opd_s, opd_c, fget, Nat.reduceEqDiff, Nat.one_ne_zero, Nat.zero_ne_one, reduceCtorEq, ↓reduceIte]; rfl) ?_
       | (refine wpr_fork (fun _ => ?_) (fun _ => ?_) <;> try (exfalso; omega))
       | (refine wpr_forkN (fun _ => ?_) (fun _ => ?_) <;> try (exfalso; omega))
       | refine wpr_run rfl ?_
       | refine wpr_pass rfl rfl ?_
       | refine wpr_passS rfl ?_
       | ((first | apply wpr_p | apply wpr_r | apply wpr_callA | apply wpr_callA0 | apply wpr_e0 | apply wpr_e | apply wpr_end0); focus ((try simp (disch := omega) only [push_cast, Nat.reduceEqDiff, ↓reduceIte, reduceCtorEq, Nat.reduceAdd, Nat.reduceMul, Nat.reduceLeDiff,  hset, hlc1, hloc, z1]); rfl))
       | refine wpr_pass0 rfl rfl ?_
       | refine wpr_pass0S rfl ?_
       | (apply wpr_end; (focus ((try simp (disch := omega) only [push_cast, Nat.reduceEqDiff, ↓reduceIte, reduceCtorEq, Nat.reduceAdd, Nat.reduceMul, Nat.reduceLeDiff,  hset, hlc1, hloc, z1]); rfl)); (focus (simp (disch := omega) only [push_cast, Nat.reduceEqDiff, ↓reduceIte, reduceCtorEq, Nat.reduceAdd, Nat.reduceMul, Nat.reduceLeDiff,  hset, hlc1, hloc, z1]; done)))
       | fail)
    | (show Wp _ _ _ _ _ _
       first
       | refine wp_seq ?_
       | refine wp_region0 ?_
       | refine wp_region ?_
       | refine wp_cond_t rfl ?_
       | refine wp_cond_f rfl ?_
       | refine wp_ret ?_
       | refine wp_skip ?_
       | refine wp_exit ?_
       | refine wp_block ?_
       | fail)
    | refine thenQ_norm ?_
    | refine thenQ_ret ?_
    | refine thenQ_exit ?_
    | refine blockQ_norm ?_
    | refine blockQ_ret ?_
    | refine blockQ_same ?_
    | refine blockQ_ne rfl ?_
    | refine loopQ_norm ?_
    | refine loopQ_ret ?_
    | refine loopQ_exit ?_
    | ((first | apply retQ_ret | apply retQ_norm | apply wpc_of); focus ((try simp (disch := omega) only [push_cast, Nat.reduceEqDiff, ↓reduceIte, reduceCtorEq, Nat.reduceAdd, Nat.reduceMul, Nat.reduceLeDiff,  hset, hlc1, hloc, z1]); rfl))
    | fail)
          exact ⟨n - 2 * bs, by omega, 2 * bs, M ++ [Z], rfl, by omega, by omega, Bl.snoc hM (by omega) ⟨by omega, by omega, fun h => absurd rfl h, trivial⟩, z2, z3, z4, by simp only [Int.natCast_mul]; congr 6; omega, rfl, rfl⟩
        | A :: B :: C :: R', hBl, hl, _, _, _, _ =>
          obtain ⟨b1, b2, b3, b4, b5, b6, b7⟩ := hBl
          have hA := b3 (by simp)
          have hB := b6 (by simp)
          simp only [List.flatten_cons, List.length_append] at hl
          omega
theorem sortStable_eq (hc : CmpS q enc val cv key) {O : List α} {n : Nat} (hn : O.length = n) (hn2 : n < 1000000000) (hO : O.Pairwise (fun x y => idx x < idx y)) :
    ∃ Z : List α, Z.Perm O ∧ Z.Pairwise (ltK key idx) ∧ callO PX 47 [(q.s n).val 1, cv] (q.H enc O) = some (.tuple #[], q.H enc Z) := by
  have hlen : (q.s n).len = n := rfl
  have hset := hc.isF.set
  have hlc1 := hc.isF.lc1
  have hloc := hc.isF.loc
  obtain ⟨Z, z1, z2, z3⟩ := stable_eq hc hn hn2 hO
  refine ⟨Z, z1, z2, ?_⟩
  apply WpC.eqn
  refine wpc_fn (px_ext rfl) (px_fn fn_slices_SortStableFunc_rune_rune) rfl ?_
  unfold LF_slices_SortStableFunc_rune_rune
  simp only [argFr]
  (repeat' first
    | (show WpR _ _ _ _ _ _ _ _ _
       first
       | refine wpr_drop ?_
       | refine wpr_p (o := .mv _) (by simp only [ev_mv, opd_s, opd_c, fget, Nat.reduceEqDiff, Nat.one_ne_zero, Nat.zero_ne_one, reduceCtorEq, ↓reduceIte]; rfl) ?_
       | (refine wpr_fork (fun _ => ?_) (fun _ => ?_) <;> try (exfalso; omega))
       | (refine wpr_forkN (fun _ => ?_) (fun _ => ?_) <;> try (exfalso; omega))
       | refine wpr_run rfl ?_
       | refine wpr_pass rfl rfl ?_
       | refine wpr_passS rfl ?_
       | ((first | apply wpr_p | apply wpr_r | apply wpr_callA | apply wpr_callA0 | apply wpr_e0 | apply wpr_e | apply wpr_end0); focus ((try simp (disch := omega) only [push_cast, Nat.reduceEqDiff, ↓reduceIte, reduceCtorEq, Nat.reduceAdd, Nat.reduceMul, Nat.reduceLeDiff,  hset, hlc1, hloc, hlen, z3]); rfl))
       | refine wpr_pass0 rfl rfl ?_
       | refine wpr_pass0S rfl ?_
       | (apply wpr_end; (focus ((try simp (disch := omega) only [push_cast, Nat.reduceEqDiff, ↓reduceIte, reduceCtorEq, Nat.reduceAdd, Nat.reduceMul, Nat.reduceLeDiff,  hset, hlc1, hloc, hlen, z3]); rfl)); (focus (simp (disch := omega) only [push_cast, Nat.reduceEqDiff, ↓reduceIte, reduceCtorEq, Nat.reduceAdd, Nat.reduceMul, Nat.reduceLeDiff,  hset, hlc1, hloc, hlen, z3]; done)))
       | fail)
    | (show Wp _ _ _ _ _ _
       first
       | refine wp_seq ?_
       | refine wp_region0 ?_
       | refine wp_region ?_
       | refine wp_cond_t rfl ?_
       | refine wp_cond_f rfl ?_
       | refine wp_ret ?_
       | refine wp_skip ?_
       | refine wp_exit ?_
       | refine wp_block ?_
       | fail)
    | refine thenQ_norm ?_
    | refine thenQ_ret ?_
    | refine thenQ_exit ?_
    | refine blockQ_norm ?_
    | refine blockQ_ret ?_
    | refine blockQ_same ?_
    | refine blockQ_ne rfl ?_
    | refine loopQ_norm ?_
    | refine loopQ_ret ?_
    | refine loopQ_exit ?_
    | ((first | apply retQ_ret | apply retQ_norm | apply wpc_of); focus ((try simp (disch := omega) only [push_cast, Nat.reduceEqDiff, ↓reduceIte, reduceCtorEq, Nat.reduceAdd, Nat.reduceMul, Nat.reduceLeDiff,  hset, hlc1, hloc, hlen, z3]); rfl))
    | fail)
  exact ⟨rfl, rfl⟩
end Go.Proofs.YtblmakgjdenpfaaDoor.AM
namespace Go.Proofs.YtblmakgjdenpfaaDoor.AM
open Go
theorem isNaNi_eq (n : Int) (h : AH) : callO PX 81 [.int .i64 n] h = some (.bool false, h) := by
  apply WpC.eqn
  refine wpc_fn (px_ext rfl) (px_fn fn_cmp_isNaN_int) rfl ?_
  unfold LF_cmp_isNaN_int
  simp only [argFr]
  (refine W_x trivial ?_; (repeat' first | apply Cj.mk | exact Nl.nl) <;> intros)
  all_goals exact ⟨rfl, rfl⟩
def cmpI (x y : Int) : Int := if x < y then -1 else if y < x then 1 else 0
theorem compareI_eq (x y : Int) (h : AH) : callO PX 49 [.int .i64 x, .int .i64 y] h = some (.int .i64 (cmpI x y), h) := by
  have e := fun n => isNaNi_eq n
  apply WpC.eqn
  refine wpc_fn (px_ext rfl) (px_fn fn_cmp_Compare_int) rfl ?_
  unfold LF_cmp_Compare_int
  simp only [argFr]
  (refine W_x e ?_; (repeat' first | apply Cj.mk | exact Nl.nl) <;> intros)
  all_goals (refine ⟨?_, rfl⟩; unfold cmpI; congr 1; (repeat' split) <;> omega)
abbrev rpV (x : Nat × Nat) : List Value := rnV x.1
theorem cmp_marks (q : Pl) {T : Tab} {k B c : Nat} {s6 : Sl} (hb : ∀ D, BkAt (q.H rpV D) k B s6 T) (hc : ∀ D, (q.H rpV D).get c = some (.cells false [.pointer (some ⟨k, 0, none⟩)])) :
    CmpS q rpV (fun x => .int .i32 x.1) (.func (.func 48) #[] #[.pointer (some ⟨c, 0, none⟩)]) (fun x : Nat × Nat => clT T x.1) where
  len := fun x => rfl
  cells := fun x => rfl
  ok := fun x => rfl
  okv := fun x => rfl
  cvf := ⟨_, .inr ⟨c, 0, rfl⟩⟩
  run := fun x y D => by
    refine ⟨cmpI (clT T x.1) (clT T y.1), ?_, by unfold cmpI; (repeat' split) <;> omega, by unfold cmpI; (repeat' split) <;> omega, by unfold cmpI; (repeat' split) <;> omega⟩
    have e := fun a b => compareI_eq a b
    have e1 := class_eq (hb D)
    have g := hc D
    show callO PX 48 [.int .i32 x.1, .int .i32 y.1, .pointer (some ⟨c, 0, none⟩)] _ = _
    apply WpC.eqn
    refine wpc_fn (px_ext rfl) (px_fn fn_marks_Order_1) rfl ?_
    unfold LF_marks_Order_1
    simp only [argFr]
    (refine W_y (Aj e (Aj e1 g)) ?_; (repeat' first | apply Cj.mk | exact Nl.nl) <;> intros)
    exact ⟨rfl, rfl⟩
  vw := fun x => rfl
  rdw := fun x => rfl
def sl3 (e : Nat) (v a b c : Value) : Option Value := (POp.sl e (.c v) (some (.c a)) (some (.c b)) (some (.c c))).ev []
theorem ev_sl3 {fr : Fr} {e : Nat} {x a b c : Opd} : (POp.sl e x (some a) (some b) (some c)).ev fr = sl3 e (opd fr x) (opd fr a) (opd fr b) (opd fr c) := rfl
attribute [push_cast] ev_sl3
theorem sl3_val {bk o n : Nat} {i j m : Int} (h0 : 0 ≤ i) (h1 : i ≤ j) (h2 : j ≤ m) (h3 : m ≤ n) : sl3 1 ((Sl.at bk o n).val 1) (.int .i64 i) (.int .i64 j) (.int .i64 m) = some ((Sl.at bk (o + i.toNat) (j - i).toNat).val 1) := by
  obtain ⟨i, rfl⟩ := Int.eq_ofNat_of_zero_le h0
  obtain ⟨j, rfl⟩ := Int.eq_ofNat_of_zero_le (Int.le_trans h0 h1)
  obtain ⟨m, rfl⟩ := Int.eq_ofNat_of_zero_le (Int.le_trans h0 (Int.le_trans h1 h2))
  have a1 : i ≤ j := by omega
  have a2 : j ≤ m := by omega
  have a3 : m ≤ n := by omega
  simp [sl3, POp.ev, opd, Sl.val, optInt, asNat, ptrOff, a1, a2, a3]
theorem sort_run {h g : AH} {k B c i j : Nat} {s6 sl : Sl} {T : Tab} {D : List Nat} (bk : BkAt h k B s6 T) (hc : h.get c = some (.cells false [.pointer (some ⟨k, 0, none⟩)])) (fo : FOwn h g 1 sl (D.map rnV)) (hij : i < j) (hj : j ≤ D.length) (hn : D.length < 1000000000)
    (hm : ∀ x ∈ (D.drop i).take (j - i), 0 < clT T x) :
    ∃ (w : Sl) (g' : AH), sl3 1 (sl.val 1) (.int .i64 i) (.int .i64 j) (.int .i64 j) = some (w.val 1) ∧ callO PX 47 [w.val 1, .func (.func 48) #[] #[.pointer (some ⟨c, 0, none⟩)]] g = some (.tuple #[], g') ∧
      FOwn h g' 1 sl ((D.take i ++ ord (clT T) ((D.drop i).take (j - i)) ++ D.drop j).map rnV) := by
  have hlen := fo.own.1
  have hnew := fo.new
  have hkp := fo.kp
  rw [List.length_map] at hlen
  cases sl with
  | nil => simp [Sl.len] at hlen; omega
  | «at» b o n =>
    simp only [Sl.len] at hlen
    obtain ⟨h1, h2, pre, h3, h4⟩ := fo.own
    have hnb := hnew b rfl
    have hbg := AH.get_lt h3
    obtain ⟨M, hM⟩ : ∃ M, M = (D.drop i).take (j - i) := ⟨_, rfl⟩
    have hMl : M.length = j - i := by rw [hM, List.length_take, List.length_drop]; omega
    have hD : D = D.take i ++ M ++ D.drop j := by
      rw [hM]
      conv => lhs; rw [← List.take_append_drop i D, ← List.take_append_drop (j - i) (D.drop i), List.drop_drop, show i + (j - i) = j by omega]
      rw [List.append_assoc]
    rw [← hM] at hm ⊢
    let q : Pl := ⟨g, b, pre ++ ((D.take i).map rnV).flatten, ((D.drop j).map rnV).flatten, hbg⟩
    have hfm : ∀ Z : List (Nat × Nat), Z.map rpV = (Z.map (·.1)).map rnV := fun Z => by rw [List.map_map]; rfl
    have hO : M.zipIdx.map (·.1) = M := List.zipIdx_map_fst 0 M
    have hfl : (D.map rnV).flatten = ((D.take i).map rnV).flatten ++ ((M.map rnV).flatten ++ ((D.drop j).map rnV).flatten) := by
      conv => lhs; rw [hD]
      simp only [List.map_append, List.flatten_append, List.append_assoc]
    have hH : q.H rpV M.zipIdx = g := by
      show g.set b (.cells false (pre ++ ((D.take i).map rnV).flatten ++ (M.zipIdx.map rpV).flatten ++ ((D.drop j).map rnV).flatten)) = g
      rw [hfm, hO]
      refine AH.set_self ?_
      rw [h3, hfl]
      simp only [List.append_assoc]
    have kpq : ∀ E, Kp h (q.H rpV E) := fun E => ⟨hkp.1, fun x hx => by
      show (g.set b _).get x = _
      rw [AH.get_set_ne _ (by omega)]
      exact hkp.2 x hx⟩
    have hcq := AH.get_lt hc
    obtain ⟨Z, z1, z2, z3⟩ := sortStable_eq (idx := fun x : Nat × Nat => (x.2 : Int)) (cmp_marks q (T := T) (k := k) (B := B) (c := c) (s6 := s6) (fun E => bk.kp (kpq E)) (fun E => (kpq E).get hc)) (O := M.zipIdx) (n := M.length) (by simp) (by omega) (by
      rw [List.pairwise_iff_getElem]
      intro x y hx hy hxy
      simp only [List.getElem_zipIdx]
      omega)
    have hmz : ∀ x ∈ M.zipIdx, 0 < clT T x.1 := fun x hx => hm _ (by rw [← hO]; exact List.mem_map_of_mem hx)
    have hZ := sorted_ord (cl := clT T) _ M.zipIdx Z rfl (by
      rw [List.pairwise_iff_getElem]
      intro x y hx hy hxy
      simp only [List.getElem_zipIdx]
      omega) z1 z2 hmz
    rw [hO] at hZ
    rw [hH] at z3
    have hl1 : ∀ l : List Nat, ((l.map rnV).flatten).length = l.length := fun l => by rw [flatten_len (e := 1) (fun x hx => by obtain ⟨y, _, rfl⟩ := List.mem_map.1 hx; rfl), List.length_map, Nat.mul_one]
    have hqs : q.s M.length = .at b (o + i) (j - i) := by
      show Sl.at b (pre ++ ((D.take i).map rnV).flatten).length _ = _
      rw [List.length_append, hl1, List.length_take, h4, hMl, Nat.min_eq_left (by omega)]
    have hs := sl3_val (bk := b) (o := o) (n := n) (i := i) (j := j) (m := j) (by omega) (by omega) (by omega) (by omega)
    rw [show ((j : Int) - i).toNat = j - i by omega, Int.toNat_natCast] at hs
    rw [hqs] at z3
    refine ⟨_, _, hs, z3, ⟨⟨by simp only [Sl.len, List.length_map, List.length_append, ord_length, hMl, List.length_take, List.length_drop]; omega, fun x hx => by obtain ⟨y, _, rfl⟩ := List.mem_map.1 hx; rfl, pre, ?_, h4⟩, kpq Z, hnew⟩⟩
    rw [q.get]
    show some (AObj.cells false ((pre ++ ((D.take i).map rnV).flatten) ++ (Z.map rpV).flatten ++ ((D.drop j).map rnV).flatten)) = _
    rw [hfm, hZ]
    simp only [List.map_append, List.flatten_append, List.append_assoc]
set_option maxHeartbeats 1000000 in
theorem marksOrder_spec {h : AH} {k B : Nat} {s6 : Sl} {T : Tab} (bk : BkAt h k B s6 T) (s : ByteArray) (hs : s.size ≤ 1048576) : WpC PX 25 [.pointer (some ⟨k, 0, none⟩), .string s] h fun v h' => v = .string (bs (orderB T s.data.toList)) ∧ Kp h h' := by
  have hz : s.data.toList.length = s.size := rfl
  have hn := spots_len s.data.toList
  have hl := runesB_len s.data.toList
  have hr := runesB_rune s.data.toList
  unfold orderB
  refine wpc_fn (px_ext rfl) (px_fn fn_marks_Order) rfl ?_
  unfold LF_marks_Order
  simp only [argFr]
  (refine W_x trivial ?_; (repeat' first | apply Cj.mk | exact Nl.nl) <;> intros)
  refine wo_s2r (h0 := h.push (.cells false [.pointer (some ⟨k, 0, none⟩)])) (Kp.refl _) (by omega) fun sl g fo => ?_
  have bk1 := bk.kp ((Kp.refl h).push (.cells false [.pointer (some ⟨k, 0, none⟩)]))
  have hbox : (h.push (.cells false [.pointer (some ⟨k, 0, none⟩)])).get h.n = some (.cells false [.pointer (some ⟨k, 0, none⟩)]) := AH.get_push_same h _
  have kp0 : Kp h (h.push (.cells false [.pointer (some ⟨k, 0, none⟩)])) := (Kp.refl h).push _
  generalize h.push (.cells false [.pointer (some ⟨k, 0, none⟩)]) = h1 at fo bk1 hbox kp0
  generalize h.n = c at hbox
  generalize runesB s.data.toList = L at fo hl hr
  (refine W_x trivial ?_; (repeat' first | apply Cj.mk | exact Nl.nl) <;> intros)
  refine wp_loop (fun w fr lc g => ∃ (A R : List Nat), w = R.length ∧ A.length + R.length = L.length ∧ ord (clT T) (A ++ R) = ord (clT T) L ∧ Ordered (clT T) A ∧ (A = [] ∨ R = [] ∨ (∃ a A', A = A' ++ [a] ∧ clT T a ≤ 0) ∨ (∃ a R', R = a :: R' ∧ clT T a ≤ 0)) ∧ FOwn h1 g 1 sl ((A ++ R).map rnV) ∧
    fr = [(2, .pointer (some ⟨c, 0, none⟩)), (5, sl.val 1), (6, .int .i64 A.length)] ∧ lc = []) L.length ⟨[], L, rfl, by simp, rfl, trivial, .inl rfl, fo, rfl, rfl⟩ ?_
  rintro w fr lc g ⟨A, R, rfl, hAR, ho, hA, hb, fo, rfl, rfl⟩
  have sll := fo.own.1
  rw [List.length_map, List.length_append] at sll
  have hbx := fo.kp.get hbox
  have e1 := class_eq (bk1.kp fo.kp)
  cases R with
  | nil =>
    rw [List.append_nil] at fo ho
    rw [List.length_nil, Nat.add_zero] at sll
    have hg := fun lc => r2s_own (lc := lc) fo.own (fun x hx => hr x (by rw [← ord_mem (cl := clT T), ← ho]; exact ord_mem.2 hx))
    (refine W_x (Aj sll hg) ?_; (repeat' first | apply Cj.mk | exact Nl.nl) <;> intros)
    refine ⟨?_, kp0.trans fo.kp⟩
    rw [← ho, ord_of_ordered hA]
  | cons r R =>
    rw [List.length_cons] at sll hAR
    have hi : A.length < (A ++ r :: R).length := by rw [List.length_append, List.length_cons]; omega
    have g0 := fun lc => rd_map (lc := lc) fo.reads hi
    have hget : (A ++ r :: R)[A.length] = r := by simp
    rw [hget] at g0
    have e2 := e1 (r : Nat)
    rw [show classI T (r : Nat) = clT T r from rfl] at e2
    unfold rnV at g0
    (refine W_x (Aj sll (Aj hbx (Aj g0 e2))) ?_; (repeat' first | apply Cj.mk | exact Nl.nl) <;> intros)
    · have hb' : A = [] ∨ (∃ a A', A = A' ++ [a] ∧ clT T a ≤ 0) := by
        rcases hb with hb | hb | hb | ⟨a, R', e, ha⟩
        · exact .inl hb
        · cases hb
        · exact .inr hb
        · injection e with e e2
          subst e
          omega
      refine wp_loopB (fun w f0 lc g' => ∃ (m : Nat) (j : Int), j = (A.length : Int) + 1 + m ∧ w = R.length - m ∧ m ≤ R.length ∧ (∀ x ∈ R.take m, 0 < clT T x) ∧ f0 = [(2, .pointer (some ⟨c, 0, none⟩)), (5, sl.val 1), (6, .int .i64 A.length), (7, .int .i64 j)] ∧ lc = [] ∧ g' = g) R.length _ (by repeat' first | exact True.intro | refine And.intro rfl ?_)
        ⟨0, (A.length : Int) + 1, by omega, rfl, Nat.zero_le _, by simp, rfl, rfl, rfl⟩ (fun w f0 lc h ⟨_, _, _, _, _, _, e, _, _⟩ => by rw [e]; rfl) ?_
      rintro w f0 lc g' ⟨m, j, hj, rfl, hm, hM, rfl, rfl, rfl⟩
      have fin : (m = R.length ∨ ∃ hm : m < R.length, clT T R[m] ≤ 0) → ∃ (w : Sl) (g2 : AH), sl3 1 (sl.val 1) (.int .i64 A.length) (.int .i64 j) (.int .i64 j) = some (w.val 1) ∧
          callO PX 47 [w.val 1, .func (.func 48) #[] #[.pointer (some ⟨c, 0, none⟩)]] g' = some (.tuple #[], g2) ∧
          ∃ A' : List Nat, (A'.length : Int) = j ∧ A'.length + (R.drop m).length = L.length ∧ ord (clT T) (A' ++ R.drop m) = ord (clT T) L ∧ Ordered (clT T) A' ∧ (A' = [] ∨ R.drop m = [] ∨ (∃ a A2, A' = A2 ++ [a] ∧ clT T a ≤ 0) ∨ (∃ a R', R.drop m = a :: R' ∧ clT T a ≤ 0)) ∧ FOwn h1 g2 1 sl ((A' ++ R.drop m).map rnV) := fun hend => by
        have hcut : R.drop m = [] ∨ ∃ a R', R.drop m = a :: R' ∧ clT T a ≤ 0 := by
          rcases hend with e | ⟨hlt, e⟩
          · exact .inl (by rw [e, List.drop_length])
          · exact .inr ⟨_, _, List.drop_eq_getElem_cons hlt, e⟩
        have hd : ((A ++ r :: R).drop A.length).take (A.length + 1 + m - A.length) = r :: R.take m := by
          rw [List.drop_left, show A.length + 1 + m - A.length = m + 1 by omega, List.take_succ_cons]
        have hpos : ∀ x ∈ r :: R.take m, 0 < clT T x := fun x hx => by
          rcases List.mem_cons.1 hx with rfl | hx
          · assumption
          · exact hM x hx
        obtain ⟨w, g2, q1, q2, q3⟩ := sort_run (i := A.length) (j := A.length + 1 + m) bk1 hbox fo (by omega) (by rw [List.length_append, List.length_cons]; omega) (by rw [List.length_append, List.length_cons]; omega) (by rw [hd]; exact hpos)
        have hd2 : (A ++ r :: R).drop (A.length + 1 + m) = R.drop m := by
          rw [show A.length + 1 + m = A.length + (m + 1) by omega, ← List.drop_drop, List.drop_left, List.drop_succ_cons]
        rw [hd, List.take_left, hd2] at q3
        refine ⟨w, g2, by rw [hj]; simpa using q1, q2, A ++ ord (clT T) (r :: R.take m), ?_, ?_, ?_, ?_, ?_, q3⟩
        · rw [List.length_append, ord_length, List.length_cons, List.length_take]; omega
        · rw [List.length_append, ord_length, List.length_cons, List.length_take, List.length_drop]; omega
        · rw [← ho]
          have e : A ++ r :: R = A ++ ((r :: R.take m) ++ R.drop m) := by simp
          have hc2 : ∀ {X : List Nat}, (A = [] ∨ X = [] ∨ (∃ a p', A = p' ++ [a] ∧ clT T a ≤ 0) ∨ (∃ a q', X = a :: q' ∧ clT T a ≤ 0)) := by
            rcases hb' with h | h
            · exact .inl h
            · exact .inr (.inr (.inl h))
          have hc3 : ∀ {X : List Nat}, (X = [] ∨ R.drop m = [] ∨ (∃ a p', X = p' ++ [a] ∧ clT T a ≤ 0) ∨ (∃ a q', R.drop m = a :: q' ∧ clT T a ≤ 0)) := by
            rcases hcut with h | h
            · exact .inr (.inl h)
            · exact .inr (.inr (.inr h))
          rw [e, List.append_assoc, ord_append hc2, ord_append hc3, ord_append hc2, ord_append hc3, ord_ord]
        · refine ordered_append hA (ord_ordered _) fun a b ha hb2 => ?_
          have hbp : 0 < clT T b := hpos b (ord_mem.1 (List.mem_of_head? hb2))
          rcases hb' with rfl | ⟨a', A2, rfl, ha'⟩
          · cases ha
          · rw [List.getLast?_concat] at ha
            injection ha with ha
            subst ha
            omega
        · exact .inr (hcut.imp id .inr)
      by_cases hlt : m < R.length
      · have hi2 : A.length + 1 + m < (A ++ r :: R).length := by rw [List.length_append, List.length_cons]; omega
        have g1 := fun lc => rd_map (lc := lc) fo.reads hi2
        have hget2 : (A ++ r :: R)[A.length + 1 + m] = R[m] := by
          rw [List.getElem_append_right (by omega)]
          simp only [show A.length + 1 + m - A.length = m + 1 by omega, List.getElem_cons_succ]
        rw [hget2] at g1
        have ht := take_snoc hlt
        generalize hy : R[m] = y at g1 ht
        have e3 := e1 (y : Nat)
        rw [show classI T (y : Nat) = clT T y from rfl] at e3
        unfold rnV at g1
        have hix : j.toNat = A.length + 1 + m := by omega
        (refine W_x (Aj sll (Aj hbx (Aj hix (Aj g1 e3)))) ?_; (repeat' first | apply Cj.mk | exact Nl.nl) <;> intros)
        · refine ⟨_, by omega, [(2, .pointer (some ⟨c, 0, none⟩)), (5, sl.val 1), (6, .int .i64 A.length), (7, .int .i64 (j + 1))], (by repeat' first | exact True.intro | refine And.intro rfl ?_), m + 1, j + 1, by omega, rfl, by omega, fun x hx => ?_, rfl, rfl, rfl⟩
          rw [ht] at hx
          rcases List.mem_append.1 hx with hx | hx
          · exact hM x hx
          · rw [List.mem_singleton.1 hx]; assumption
        · obtain ⟨w, g2, q1, q2, A', a1, a2, a3, a4, a5, a6⟩ := fin (.inr ⟨hlt, by rw [hy]; omega⟩)
          (refine W_x (Aj q1 q2) ?_; (repeat' first | apply Cj.mk | exact Nl.nl) <;> intros)
          exact ⟨_, by rw [List.length_cons, List.length_drop]; omega, A', R.drop m, rfl, a2, a3, a4, a5, a6, by rw [a1], rfl⟩
      · obtain ⟨w, g2, q1, q2, A', a1, a2, a3, a4, a5, a6⟩ := fin (.inl (by omega))
        (refine W_x (Aj sll (Aj hbx (Aj q1 q2))) ?_; (repeat' first | apply Cj.mk | exact Nl.nl) <;> intros)
        exact ⟨_, by rw [List.length_cons, List.length_drop]; omega, A', R.drop m, rfl, a2, a3, a4, a5, a6, by rw [a1], rfl⟩
    · refine ⟨R.length, by simp, A ++ [r], R, rfl, by rw [List.length_append, List.length_singleton]; omega, by rw [List.append_assoc]; exact ho, ?_, .inr (.inr (.inl ⟨r, A, rfl, by omega⟩)), by rw [List.append_assoc]; exact fo, by simp only [List.length_append, List.length_singleton, Int.natCast_add]; rfl, rfl⟩
      exact ordered_append hA trivial fun a b _ hb2 => by
        injection hb2 with hb2
        subst hb2
        omega
end Go.Proofs.YtblmakgjdenpfaaDoor.AM
namespace Go.Proofs.YtblmakgjdenpfaaDoor.AM
open Go
theorem good_check {T : Tab} (h : goodB T = true) : checkW T = none := by
  unfold goodB at h
  simp only [Bool.and_eq_true, Option.isNone_iff_eq_none] at h
  exact h.2
theorem good_marks {T : Tab} (h : goodB T = true) : ∀ x ∈ T.marks, runeI x.1 = true ∧ 1 ≤ x.2 ∧ x.2 ≤ 254 := by
  intro x hx
  have hf := (checkW_none (good_check h)).2.1
  unfold formsW at hf
  simp only [Option.or_eq_none_iff] at hf
  obtain ⟨i, hi, rfl⟩ := List.mem_iff_getElem.1 hx
  have := scanL_none hf.2.2.1 i hi
  split at this
  · cases this
  · rename_i h1
    split at this
    · cases this
    · exact ⟨by simpa using h1, by omega, by omega⟩
theorem class_range {T : Tab} (h : goodB T = true) (r : Int) : 0 ≤ classI T r ∧ classI T r ≤ 254 := by
  unfold classI
  cases hs : scanL T.marks fun _ x => if x.1 = r then some x.2 else none with
  | none => simp
  | some w =>
    obtain ⟨i, hi, e⟩ := scanL_some hs
    split at e
    · injection e with e
      have := good_marks h _ (List.getElem_mem hi)
      simp only [Option.getD_some]
      omega
    · cases e
theorem class_pos {T : Tab} (h : goodB T = true) {r : Int} (hr : classI T r ≠ 0) : 0 < classI T r := by
  have := class_range h r
  omega
section
variable {cl : Nat → Int}
theorem insR_filter {k : Int} (hk : 0 < k) : ∀ (rs : List Nat) (r : Nat), (insR cl rs r).filter (fun c => cl c = k) = (r :: rs).filter fun c => cl c = k
  | [], r => rfl
  | x :: rs, r => by
    simp only [insR]
    split
    · rename_i hc
      have ih := insR_filter hk rs r
      simp only [List.filter_cons] at ih ⊢
      rw [ih]
      by_cases h1 : cl x = k
      · have h2 : ¬ cl r = k := by omega
        simp [h1, h2]
      · simp [h1]
    · rfl
theorem foldl_filter {k : Int} (hk : 0 < k) : ∀ (l acc : List Nat), (l.foldl (insR cl) acc).filter (fun c => cl c = k) = (l.reverse ++ acc).filter fun c => cl c = k
  | [], acc => rfl
  | r :: l, acc => by
    rw [List.foldl_cons, foldl_filter hk l, List.filter_append, insR_filter hk, ← List.filter_append]
    simp
theorem ord_filter {k : Int} (hk : 0 < k) (l : List Nat) : (ord cl l).filter (fun c => cl c = k) = l.filter fun c => cl c = k := by
  unfold ord
  rw [List.filter_reverse, foldl_filter hk, ← List.filter_reverse]
  simp
theorem swap_ne {a c : Nat} (ha : 0 < cl a) (hc : cl c = cl a) (hne : a ≠ c) (p q : List Nat) : ord cl (p ++ a :: c :: q) ≠ ord cl (p ++ c :: a :: q) := by
  intro e
  have := congrArg (List.filter fun x => cl x = cl a) e
  rw [ord_filter ha, ord_filter ha, List.filter_append, List.filter_append, List.append_cancel_left_eq] at this
  simp [List.filter_cons, hc] at this
  exact hne this.1
end
end Go.Proofs.YtblmakgjdenpfaaDoor.AM
namespace Go.Proofs.YtblmakgjdenpfaaDoor.AM
open Go
end Go.Proofs.YtblmakgjdenpfaaDoor.AM
namespace Go.Proofs.YtblmakgjdenpfaaDoor.AM
open Go
theorem of_house {h : AH} {S : TS} (t : TabAt h S houseT) (u : U8T h) (hg : 2 ≤ h.n) : WpC PX 9 [.agg S.vs.toArray] h fun v h' => Kp h h' ∧ ∃ k B S, v = .tuple (List.toArray [.pointer (some ⟨k, 0, none⟩), .bool true, .bool true]) ∧ BookAt h' k B S houseT ∧ h.n ≤ B ∧ h.n ≤ k :=
  (of_spec t u hg).mono fun v h' ⟨k, q⟩ => ⟨k, by rwa [if_pos house_good] at q⟩
theorem house8_spec (h : AH) : WpC PX 29 [] h fun v h' => ∃ S, v = .agg S.vs.toArray ∧ TabAt h' S houseT ∧ Kp h h' := by
  obtain ⟨_, g, e, S, rfl, t, k⟩ := house_spec h
  unfold TS.vs at e
  refine wpc_fn (px_ext rfl) (px_fn fn_guiselaw8_house) rfl ?_
  unfold LF_guiselaw8_house
  simp only [argFr]
  (refine W_x e ?_; (repeat' first | apply Cj.mk | exact Nl.nl) <;> intros)
  exact ⟨S, rfl, t, k⟩
theorem known8_a : (bs (orderB houseT [97, 204, 129, 204, 163])) = ⟨#[97, 204, 163, 204, 129]⟩ := by
  have : orderB houseT [97, 204, 129, 204, 163] = [97, 204, 163, 204, 129] := by decide +kernel
  rw [this]; rfl
theorem known8_b : (bs (orderB houseT [255])) = ⟨#[239, 191, 189]⟩ := by
  have : orderB houseT [255] = [239, 191, 189] := by decide +kernel
  rw [this]; rfl
theorem known8_spec {h : AH} (u : U8T h) (hg : 2 ≤ h.n) : WpC PX 21 [] h fun v h' => v = .bool true ∧ Kp h h' := by
  obtain ⟨_, g, e, S, rfl, t, k⟩ := house8_spec h
  obtain ⟨_, g1, e1, k1, kk, B, S1, rfl, bk, _, _⟩ := of_house t (u.kp k) (Nat.le_trans hg k.1)
  obtain ⟨_, g2, e2, rfl, k2⟩ := marksOrder_spec bk.bk ⟨#[97, 204, 129, 204, 163]⟩ (by decide)
  obtain ⟨_, g3, e3, rfl, k3⟩ := marksOrder_spec (bk.kp k2).bk ⟨#[255]⟩ (by decide)
  have q2 := known8_a
  have q3 := known8_b
  unfold TS.vs at *
  refine wpc_fn (px_ext rfl) (px_fn fn_guiselaw8_known) rfl ?_
  unfold LF_guiselaw8_known
  simp only [argFr]
  simp only [q2] at e2
  simp only [q3] at e3
  (refine W_x (Aj e (Aj e1 (Aj e2 e3))) ?_; (repeat' first | apply Cj.mk | exact Nl.nl) <;> intros)
  exact ⟨rfl, ((k.trans k1).trans k2).trans k3⟩
end Go.Proofs.YtblmakgjdenpfaaDoor.AM
namespace Go.Proofs.YtblmakgjdenpfaaDoor.AM
open Go
def LF_guiselaw8_MarksSwaps : LFunc :=
  .mk 3 [.tmp 6] (.seq (R 3 [1, 2, 3] [.tmp 3 (xbl 3 8 (.sl 0)), .set 6 (.cv (.bool false))]) (.seq (R 15 [1, 2, 7, 8, 9] [.set 14 (xc1 9 (xln 8 (.sl 3))), .tmp 17
  (xex 0 (.sl 14)), .tmp 18 (xex 1 (.sl 14)), .tmp 19 (xex 2 (.sl 14)), .set 7 (.sl 17), .set 8 (.sl 18), .set 9 (.sl 19)]) (.seq (.seq (R 20 [1, 2, 7, 9, 21] [.tmp 21 (xu .not (.va
  8))]) (.cond (.s 21) (.seq (R 22 [6] [.set 6 (.and (.va 9) (xc0 21))]) .ret) .skip)) (.seq (R 26 [2, 7, 10] [.set 10 (xc1 22 (xc2 23
  (.va 1) (xi 1000)))]) (.seq (.seq (R 29 [2, 7, 10, 31] [.tmp 31 (xb .lss (xlen (.va 10)) (xi 2))]) (.cond (.s 31) (.seq (R 32 [6] [.set 6 (xc0 21)]) .ret) .skip))
  (.seq (R 33 [2, 7, 10] [.set 2 (xc3 14 (.va 2) (xi 0) (xb .sub (xlen (.va 10)) (xi 2)))]) (.seq (R 38 [2, 7, 10, 11] [.set 11 (xc2 24 (.va
  7) (xld (xia 1 (.va 10) (.va 2))))]) (.seq (R 44 [2, 7, 10, 11, 12] [.set 12 (xc2 24 (.va 7) (xld (xia 1 (.va 10) (xb .add (.va 2) (xi 1)))))]) (.seq (.seq
  (R 51 [2, 7, 10, 11, 12, 68] [.tmp 68 (.or (.or (xb .eql (.va 11) (xi 0)) (xb .eql (.va 12) (xi 0))) (xb .eql (xld (xia 1 (.va 10) (.va 2))) (xld (xia 1 (.va 10) (xb .add (.va 2)
  (xi 1))))))]) (.cond (.s 68) (.seq (R 69 [6] [.set 6 (xc0 21)]) .ret) .skip)) (.seq (R 70 [2, 7, 10, 11, 12, 13] [.set 13 (xap 1 4 (.op (.e (.litH 0 1 [] []))
  .nil) (.va 10))]) (.seq (R 73 [2, 7, 10, 11, 12, 13] [.tmp 73 (.va 13), .tmp 74 (.va 2), .tmp 79 (xld (xia 1 (.va 10) (xb .add (.va 2) (xi 1)))), .run (xst 1 (xia 1 (.sl 73) (.sl
  74)) (.sl 79))]) (.seq (R 81 [7, 10, 11, 12, 13] [.tmp 81 (.va 13), .tmp 83 (xb .add (.va 2) (xi 1)), .tmp 87 (xld (xia 1 (.va 10) (.va 2))), .run (xst 1 (xia 1 (.sl 81) (.sl 83))
  (.sl 87))]) (.seq (.region [.mk (some 89) (.p (.mv (.s 7))) none, .mk (some 90) (.p (.mv (.s 10))) none, .mk (some 91) (.r (.r2s (.s 90))) none, .mk (some 92) (.e (.call
  25 [.s 89, .s 91])) none, .mk (some 93) (.p (.mv (.s 7))) none, .mk (some 94) (.p (.mv (.s 13))) none, .mk (some 95) (.r (.r2s (.s 94))) none, .mk (some 96) (.e
  (.call 25 [.s 93, .s 95])) none, .mk (some 97) (.p (.bin .eql (.s 92) (.s 96))) none, .mk (some 98) (.p (.mv (.s 11))) none, .mk (some 99) (.p (.mv (.s 12))) none,
  .mk (some 100) (.p (.bin .neq (.s 98) (.s 99))) none, .mk (some 101) (.p (.eqk false .bool (.s 97) (.s 100))) none, .mk (some 102) (.p (.mv (.s 101))) none, .mk (some 103) (.e
  (.call 21 [])) (some (102, true)), .mk (some 104) (.p (.pick (.s 102) (.s 103) (.c (.bool false)))) none, .mk (some 6) (.p (.mv (.s 104))) none] [6] [(6, 0)])
  .ret)))))))))))))
theorem fn_guiselaw8_MarksSwaps : (autoPrg Tryd.prog).fn 6 = some LF_guiselaw8_MarksSwaps := by kernel_rfl
end Go.Proofs.YtblmakgjdenpfaaDoor.AM
namespace Go.Proofs.YtblmakgjdenpfaaDoor.AM
open Go
theorem utfRunes_spec (s : ByteArray) (hs : s.size ≤ 1048576) (h : AH) : WpC PX 22 [.string s] h fun v h' => ∃ sl, v = sl.val 1 ∧ FOwn h h' 1 sl ((runesB s.data.toList).map rnV) := by
  refine wpc_fn (px_ext rfl) (px_fn fn_utf_Runes) rfl ?_
  unfold LF_utf_Runes
  simp only [argFr]
  (refine W_x trivial ?_; (repeat' first | apply Cj.mk | exact Nl.nl) <;> intros)
  refine wo_s2r (Kp.refl h) (by omega) fun sl g fo => ?_
  (refine W_x trivial ?_; (repeat' first | apply Cj.mk | exact Nl.nl) <;> intros)
  exact ⟨sl, rfl, fo⟩
def withinI (n lo hi : Int) : Int := lo + n % (hi - lo + 1)
theorem within_range {n lo hi : Int} (h : lo ≤ hi) : lo ≤ withinI n lo hi ∧ withinI n lo hi ≤ hi := by
  unfold withinI
  have h1 := Int.emod_nonneg n (show hi - lo + 1 ≠ 0 by omega)
  have h2 := Int.emod_lt_of_pos n (show 0 < hi - lo + 1 by omega)
  omega
theorem within_eq (n lo hi : Int) (h1 : lo ≤ hi) (h2 : -1000000000 ≤ lo) (h3 : hi ≤ 1000000000) (h : AH) : callO PX 14 [.int .i64 n, .int .i64 lo, .int .i64 hi] h = some (.int .i64 (withinI n lo hi), h) := by
  have e := Int.tmod_eq_emod (a := n) (b := hi - lo + 1)
  have e1 := Int.emod_nonneg n (show hi - lo + 1 ≠ 0 by omega)
  have e2 := Int.emod_lt_of_pos n (show 0 < hi - lo + 1 by omega)
  have hd : ¬ 0 ≤ n → (hi - lo + 1) ∣ n → n % (hi - lo + 1) = 0 := fun _ q => Int.emod_eq_zero_of_dvd q
  have hz : ¬ 0 ≤ n → ¬ (hi - lo + 1) ∣ n → n % (hi - lo + 1) ≠ 0 := fun _ q z => q (Int.dvd_of_emod_eq_zero z)
  have ab : ((hi - lo + 1).natAbs : Int) = hi - lo + 1 := by omega
  unfold withinI
  generalize n % (hi - lo + 1) = u at *
  have key : (n.tmod (hi - lo + 1) = u) ∨ (n.tmod (hi - lo + 1) = u - (hi - lo + 1) ∧ u ≠ 0) := by
    rw [e]
    by_cases q : 0 ≤ n
    · left; rw [if_pos (.inl q)]; omega
    · by_cases d : (hi - lo + 1) ∣ n
      · left; rw [if_pos (.inr d)]; omega
      · right; rw [if_neg (by simp only [q, d, or_self, not_false_eq_true]), ab]; exact ⟨rfl, hz q d⟩
  clear e hd hz
  have hne : hi - lo + 1 ≠ 0 := by omega
  have hrem : binA .rem (.int .i64 n) (.int .i64 (hi - lo + 1)) = some (.int .i64 (n.tmod (hi - lo + 1))) := binA_remB hne
  apply WpC.eqn
  refine wpc_fn (px_ext rfl) (px_fn fn_guisebook_Within) rfl ?_
  unfold LF_guisebook_Within
  simp only [argFr]
  (refine W_x hrem ?_; (repeat' first | apply Cj.mk | exact Nl.nl) <;> intros)
  · refine ⟨?_, rfl⟩
    congr 1
    omega
  · refine ⟨?_, rfl⟩
    congr 1
    omega
theorem few_le (s : ByteArray) (n : Nat) : (fewB s n).size ≤ n := by
  unfold fewB
  split
  · rw [ba_size, ba_extract _ _ _ (by omega), List.length_take]
    omega
  · omega
theorem orderB_encs (T : Tab) {L : List Nat} (h : ∀ c ∈ L, RuneN c) : orderB T (encs L) = encs (ord (clT T) L) := by
  unfold orderB
  rw [runesB_of_encs h]
theorem encs_inj {L M : List Nat} (hL : ∀ c ∈ L, RuneN c) (hM : ∀ c ∈ M, RuneN c) (e : encs L = encs M) : L = M := by
  rw [← runesB_of_encs hL, ← runesB_of_encs hM, e]
theorem marksSwaps_run {h : AH} (u : U8T h) (hg : 2 ≤ h.n) {S : TS} {T : Tab} (t : TabAt h S T) (x : ByteArray) (hx : x.size ≤ 1048576) (n : Int) (hn1 : -9223372036854775808 ≤ n) (hn2 : n < 9223372036854775808) :
    WpC PX 6 [.agg S.vs.toArray, .string x, .int .i64 n] h fun v _ => v = .bool true := by
  obtain ⟨_, g1, e1, k1, q⟩ := of_spec t u hg
  unfold TS.vs at *
  refine wpc_fn (px_ext rfl) (px_fn fn_guiselaw8_MarksSwaps) rfl ?_
  unfold LF_guiselaw8_MarksSwaps
  simp only [argFr]
  by_cases hb : goodB T = true
  · rw [if_pos hb] at q
    obtain ⟨k, B, S1, rfl, bk, _, _⟩ := q
    have e2 : callO PX 23 [.string x, .int .i64 1000] g1 = some (.string (fewB x 1000), g1) := few_eq x hx 1000 (by decide) g1
    have fl := few_le x 1000
    generalize fewB x 1000 = y at e2 fl
    obtain ⟨_, g2, e3, sl, rfl, fo⟩ := utfRunes_spec y (by omega) g1
    have hz : y.data.toList.length = y.size := rfl
    have hn := spots_len y.data.toList
    have hl := runesB_len y.data.toList
    have hr := runesB_rune y.data.toList
    generalize runesB y.data.toList = L at fo hl hr
    have k2 := k1.trans fo.kp
    have sll := fo.own.1
    rw [List.length_map] at sll
    have bk2 := bk.kp fo.kp
    obtain ⟨_, g4, e7, rfl, k4⟩ := known8_spec (u.kp k2) (Nat.le_trans hg k2.1)
    by_cases hlen : L.length < 2
    · (refine W_x (Aj e1 (Aj e2 (Aj e3 (Aj sll e7)))) ?_; (repeat' first | apply Cj.mk | exact Nl.nl) <;> intros)
      rfl
    have ew := within_eq n 0 ((L.length : Int) - 2) (by omega) (by omega) (by omega) g2
    obtain ⟨w1, w2⟩ := within_range (n := n) (lo := 0) (hi := (L.length : Int) - 2) (by omega)
    generalize withinI n 0 ((L.length : Int) - 2) = w at ew w1 w2
    obtain ⟨i, rfl⟩ := Int.eq_ofNat_of_zero_le w1
    have hi : i < L.length := by omega
    have hi1 : i + 1 < L.length := by omega
    have g0 := fun lc => rd_map (lc := lc) fo.reads hi
    have g1' := fun lc => rd_map (lc := lc) fo.reads hi1
    obtain ⟨hs1, hs2⟩ := swap_at hi1
    have r0 := hr _ (List.getElem_mem hi)
    have r1 := hr _ (List.getElem_mem hi1)
    have rM : ∀ a c, RuneN a → RuneN c → ∀ z ∈ (L.set i a).set (i + 1) c, RuneN z := fun a c ha hc z hz => by
      rcases List.mem_or_eq_of_mem_set hz with hz | rfl
      · rcases List.mem_or_eq_of_mem_set hz with hz | rfl
        · exact hr z hz
        · exact ha
      · exact hc
    have hM := rM _ _ r1 r0
    have hcm : (L.set (i + 1) L[i]).set i L[i + 1] = (L.set i L[i + 1]).set (i + 1) L[i] := List.set_comm _ _ (by omega)
    rw [hcm] at hs2
    have ec := class_eq bk2.bk
    have ga : ∀ g', Kp g2 g' → ∀ lc, Mem.rd ⟨lc, g'⟩ (sl.adr 1 i) 1 = some (rnV L[i]) := fun g' k lc => rd_map (lc := lc) (fo.reads.kp k) hi
    have gb : ∀ g', Kp g2 g' → ∀ lc, Mem.rd ⟨lc, g'⟩ (sl.adr 1 (i + 1)) 1 = some (rnV L[i + 1]) := fun g' k lc => rd_map (lc := lc) (fo.reads.kp k) hi1
    generalize hy0 : L[i] = a at *
    generalize hy1 : L[i + 1] = c at *
    have e4 := ec (a : Nat)
    have e5 := ec (c : Nat)
    rw [show classI T (a : Nat) = clT T a from rfl] at e4
    rw [show classI T (c : Nat) = clT T c from rfl] at e5
    unfold rnV at g0 g1' ga gb
    have hix : ((i : Int) + 1).toNat = i + 1 := by omega
    by_cases hskip : clT T a = 0 ∨ clT T c = 0 ∨ a = c
    · (refine W_x (Aj e1 (Aj e2 (Aj e3 (Aj sll (Aj ew (Aj hix (Aj g0 (Aj g1' (Aj e4 (Aj e5 e7)))))))))) ?_; (repeat' first | apply Cj.mk | exact Nl.nl) <;> intros)
      all_goals first | rfl | (exfalso; omega)
    have h3 : clT T a ≠ 0 := fun e => hskip (.inl e)
    have h4 : clT T c ≠ 0 := fun e => hskip (.inr (.inl e))
    have h5 : a ≠ c := fun e => hskip (.inr (.inr e))
    (refine W_x (Aj e1 (Aj e2 (Aj e3 (Aj sll (Aj ew (Aj hix (Aj g0 (Aj g1' (Aj e4 e5))))))))) ?_; (repeat' first | apply Cj.mk | exact Nl.nl) <;> intros)
    refine wo_appL (h0 := g2) (s := .at g2.n 0 0) (t := sl) (xss := []) (yss := L.map rnV) (FOwn.make (n := 0) (z := List.replicate 1 undef) (Kp.refl g2) (by simp)) (fo.reads.kp ((Kp.refl g2).push _)) (by decide) (by decide) (by simp; omega) fun sm g3 fm => ?_
    rw [List.nil_append] at fm
    have sml := fm.own.1
    rw [List.length_map] at sml
    obtain ⟨g4', hw1, f1⟩ := fm.set (i := i) (by rw [List.length_map]; exact hi) (vs := rnV c) rfl
    obtain ⟨g5, hw2, f2⟩ := f1.set (i := i + 1) (by rw [List.length_set, List.length_map]; exact hi1) (vs := rnV a) rfl
    rw [← List.map_set, ← List.map_set] at f2
    have ga3 := gb _ fm.kp
    have gb3 := ga _ f1.kp
    have ol : Own g5 1 sl (L.map rnV) := fo.own.keep fun b hb => f2.kp.2 b (fo.own.lt hb)
    have hgl := fun lc => r2s_own (lc := lc) ol hr
    have hsz := encs_lenle L
    have hszM := encs_lenle ((L.set i c).set (i + 1) a)
    rw [List.length_set, List.length_set] at hszM
    obtain ⟨_, g6, e8, rfl, k6⟩ := marksOrder_spec (bk2.kp f2.kp).bk (bs (encs L)) (by rw [bs_size]; omega)
    have om : Own g6 1 sm (((L.set i c).set (i + 1) a).map rnV) := f2.own.keep fun b hb => k6.2 b (f2.own.lt hb)
    have hgm := fun lc => r2s_own (lc := lc) om hM
    have hgm5 := fun lc => r2s_own (lc := lc) f2.own hM
    have k26 := f2.kp.trans k6
    obtain ⟨_, g8, e9, rfl, k8⟩ := marksOrder_spec (bk2.kp k26).bk (bs (encs ((L.set i c).set (i + 1) a))) (by rw [bs_size]; omega)
    rw [bs_l, orderB_encs T hr] at e8
    rw [bs_l, orderB_encs T hM] at e9
    have k9 := (k2.trans k26).trans k8
    obtain ⟨_, g9, e10, rfl, k10⟩ := known8_spec (u.kp k9) (Nat.le_trans hg k9.1)
    unfold rnV at hw1 hw2
    by_cases hac : clT T a = clT T c
    · have hne : bs (encs (ord (clT T) L)) ≠ bs (encs (ord (clT T) ((L.set i c).set (i + 1) a))) := fun e => by
        have h6 := encs_inj (ord_rune hr) (ord_rune hM) (bs_inj.1 e)
        rw [hs2] at h6
        exact swap_ne (class_pos hb h3) hac.symm h5 _ _ ((congrArg (ord (clT T)) hs1).symm.trans h6)
      have hd := decide_eq_false hne
      generalize bs (encs (ord (clT T) L)) = s1 at e8 hd
      generalize bs (encs (ord (clT T) ((L.set i c).set (i + 1) a))) = s2 at e9 hd
      (refine W_x (Aj sml (Aj hix (Aj hw1 ga3))) ?_; (repeat' first | apply Cj.mk | exact Nl.nl) <;> intros)
      (refine W_x (Aj sml (Aj hix (Aj hw2 gb3))) ?_; (repeat' first | apply Cj.mk | exact Nl.nl) <;> intros)
      (refine W_y (Aj hgl (Aj hgm (Aj hgm5 (Aj e8 (Aj e9 (Aj e10 hd)))))) ?_; (repeat' first | apply Cj.mk | exact Nl.nl) <;> intros)
      rfl
    · have heq : ord (clT T) L = ord (clT T) ((L.set i c).set (i + 1) a) := by
        rw [hs2]
        conv => lhs; rw [hs1]
        have p3 := class_pos hb h3
        have p4 := class_pos hb h4
        rcases Int.lt_or_gt_of_ne hac with hlt | hlt
        · exact (ord_swap p3 hlt _ _).symm
        · exact ord_swap p4 hlt _ _
      rw [← heq] at e9
      (refine W_x (Aj sml (Aj hix (Aj hw1 ga3))) ?_; (repeat' first | apply Cj.mk | exact Nl.nl) <;> intros)
      (refine W_x (Aj sml (Aj hix (Aj hw2 gb3))) ?_; (repeat' first | apply Cj.mk | exact Nl.nl) <;> intros)
      (refine W_y (Aj hgl (Aj hgm (Aj hgm5 (Aj e8 (Aj e9 e10))))) ?_; (repeat' first | apply Cj.mk | exact Nl.nl) <;> intros)
      rfl
  · rw [if_neg hb] at q
    subst q
    obtain ⟨_, g4, e7, rfl, k4⟩ := known8_spec (u.kp k1) (Nat.le_trans hg k1.1)
    (refine W_x (Aj e1 e7) ?_; (repeat' first | apply Cj.mk | exact Nl.nl) <;> intros)
    rfl
end Go.Proofs.YtblmakgjdenpfaaDoor.AM
