/- Parts of the proof of MarksOrders: its lemmas, joined. -/
import Derived.Test.YtblmakgjdenpfaaDoorMO13
set_option linter.unusedVariables false
set_option linter.unusedSimpArgs false
set_option linter.unusedSectionVars false
namespace Go.Proofs.YtblmakgjdenpfaaDoor.AM
open Go
variable {α : Type} [Inhabited α] {q : Pl} {enc : α → List Value} {val : α → Value} {cv : Value} {key : α → Int} {idx : α → Int}
theorem ltK_trans {x y z : α} (h : ltK key idx x y) (g : ltK key idx y z) : ltK key idx x z := by unfold ltK at *; omega
theorem nil_or_snoc (l : List α) : l = [] ∨ ∃ m x, l = m ++ [x] := by
  rcases List.eq_nil_or_concat l with h | ⟨m, x, h⟩
  · exact .inl h
  · exact .inr ⟨m, x, by rw [h, List.concat_eq_append]⟩
theorem insertion_eq (hc : CmpS q enc val cv key) {P X S : List α} {n : Nat} {a b : Int} (hn : (P ++ X ++ S).length = n) (hn2 : n < 1000000000000) (ha : a = P.length) (hb : b = P.length + X.length) (hX : X.Pairwise (fun x y => idx x < idx y)) :
    ∃ Z : List α, Z.Perm X ∧ Z.Pairwise (ltK key idx) ∧ callO PX 121 [(q.s n).val 1, .int .i64 a, .int .i64 b, cv] (q.H enc (P ++ X ++ S)) = some (.tuple #[], q.H enc (P ++ Z ++ S)) := by
  have hlen : (q.s n).len = n := rfl
  have hset := hc.isF.set
  have hlc1 := hc.isF.lc1
  have hloc := hc.isF.loc
  have hn' := hn
  simp only [List.length_append] at hn'
  suffices hw : WpC PX 121 [(q.s n).val 1, .int .i64 a, .int .i64 b, cv] (q.H enc (P ++ X ++ S)) fun v h1 => v = .tuple #[] ∧ ∃ Z : List α, Z.Perm X ∧ Z.Pairwise (ltK key idx) ∧ h1 = q.H enc (P ++ Z ++ S) by
    obtain ⟨v, h1, e, rfl, Z, z1, z2, rfl⟩ := hw
    exact ⟨Z, z1, z2, e⟩
  refine wpc_fn (px_ext rfl) (px_fn fn_slices_insertionSortCmpFunc_rune) rfl ?_
  unfold LF_slices_insertionSortCmpFunc_rune
  simp only [argFr]
  obtain ⟨D0, hD0⟩ : ∃ D0, D0 = P ++ X ++ S := ⟨_, rfl⟩
  rw [← hD0]
  (repeat' first
    | (show WpR _ _ _ _ _ _ _ _ _
       first
       | refine wpr_drop ?_
       | refine wpr_p (o := .mv _) (by simp only [ev_mv, opd_s, opd_c, fget, Nat.reduceEqDiff, Nat.one_ne_zero, Nat.zero_ne_one, reduceCtorEq, ↓reduceIte]; rfl) ?_
       | (refine wpr_fork (fun _ => ?_) (fun _ => ?_) <;> try (exfalso; omega))
       | (refine wpr_forkN (fun _ => ?_) (fun _ => ?_) <;> try (exfalso; omega))
       | refine wpr_run rfl ?_
       | refine wpr_pass rfl rfl ?_
       | refine wpr_passS rfl ?_
       | ((first | apply wpr_p | apply wpr_r | apply wpr_callA | apply wpr_callA0 | apply wpr_e0 | apply wpr_e | apply wpr_end0); focus ((try simp (disch := omega) only [push_cast, Nat.reduceEqDiff, ↓reduceIte, reduceCtorEq, Nat.reduceAdd, Nat.reduceMul, Nat.reduceLeDiff,  hset, hlc1, hloc]); rfl))
       | refine wpr_pass0 rfl rfl ?_
       | refine wpr_pass0S rfl ?_
       | (apply wpr_end; (focus ((try simp (disch := omega) only [push_cast, Nat.reduceEqDiff, ↓reduceIte, reduceCtorEq, Nat.reduceAdd, Nat.reduceMul, Nat.reduceLeDiff,  hset, hlc1, hloc]); rfl)); (focus (simp (disch := omega) only [push_cast, Nat.reduceEqDiff, ↓reduceIte, reduceCtorEq, Nat.reduceAdd, Nat.reduceMul, Nat.reduceLeDiff,  hset, hlc1, hloc]; done)))
       | fail)
    | (show Wp _ _ _ _ _ _
       first
       | refine wp_seq ?_
       | refine wp_region0 ?_
       | refine wp_region ?_
       | refine wp_cond_t rfl ?_
       | refine wp_cond_f rfl ?_
       | refine wp_ret ?_
       | refine wp_skip ?_
       | refine wp_exit ?_
       | refine wp_block ?_
       | fail)
    | refine thenQ_norm ?_
    | refine thenQ_ret ?_
    | refine thenQ_exit ?_
    | refine blockQ_norm ?_
    | refine blockQ_ret ?_
    | refine blockQ_same ?_
    | refine blockQ_ne rfl ?_
    | refine loopQ_norm ?_
    | refine loopQ_ret ?_
    | refine loopQ_exit ?_
    | ((first | apply retQ_ret | apply retQ_norm | apply wpc_of); focus ((try simp (disch := omega) only [push_cast, Nat.reduceEqDiff, ↓reduceIte, reduceCtorEq, Nat.reduceAdd, Nat.reduceMul, Nat.reduceLeDiff,  hset, hlc1, hloc]); rfl))
    | fail)
  refine wp_loop (fun w fr lc h1 => ∃ (k : Nat) (Z D : List α), w = X.length + 1 - k ∧ 1 ≤ k ∧ k ≤ X.length + 1 ∧ Z.Perm (X.take k) ∧ Z.Pairwise (ltK key idx) ∧ D = P ++ Z ++ X.drop k ++ S ∧
      fr = [(0, (q.s n).val 1), (1, .int .i64 a), (2, .int .i64 b), (3, cv), (8, .int .i64 (a + k))] ∧ lc = [] ∧ h1 = q.H enc D) (X.length + 1 - 1)
    ⟨1, X.take 1, D0, rfl, by omega, by omega, .refl _, by cases X <;> simp, by rw [hD0, List.append_assoc P (X.take 1), List.take_append_drop], rfl, rfl, rfl⟩ ?_
  rintro w fr lc h1 ⟨k, Z, D, rfl, hk1, hk2, hZp, hZs, hD, rfl, rfl, rfl⟩
  rcases Nat.lt_or_ge k X.length with hkl | hkl
  · have hZl : Z.length = k := by rw [hZp.length_eq, List.length_take]; omega
    have hbef : ∀ y ∈ Z, idx y < idx X[k] := fun y hy => by
      have hy2 := hZp.mem_iff.1 hy
      obtain ⟨i, hi, rfl⟩ := List.getElem_of_mem hy2
      rw [List.length_take] at hi
      rw [List.getElem_take]
      exact List.pairwise_iff_getElem.1 hX _ _ _ hkl (by omega)
    have hdr : X.drop k = X[k] :: X.drop (k + 1) := List.drop_eq_getElem_cons hkl
    have htk : X.take (k + 1) = X.take k ++ [X[k]] := List.take_succ_eq_append_getElem hkl
    generalize X[k] = x at hbef hdr htk
    (repeat' first
    | (show WpR _ _ _ _ _ _ _ _ _
       first
       | refine wpr_drop ?_
       | refine wpr_p (o := .mv _) (by simp only [ev_mv, opd_s, opd_c, fget, Nat.reduceEqDiff, Nat.one_ne_zero, Nat.zero_ne_one, reduceCtorEq, ↓reduceIte]; rfl) ?_
       | (refine wpr_fork (fun _ => ?_) (fun _ => ?_) <;> try (exfalso; omega))
       | (refine wpr_forkN (fun _ => ?_) (fun _ => ?_) <;> try (exfalso; omega))
       | refine wpr_run rfl ?_
       | refine wpr_pass rfl rfl ?_
       | refine wpr_passS rfl ?_
       | ((first | apply wpr_p | apply wpr_r | apply wpr_callA | apply wpr_callA0 | apply wpr_e0 | apply wpr_e | apply wpr_end0); focus ((try simp (disch := omega) only [push_cast, Nat.reduceEqDiff, ↓reduceIte, reduceCtorEq, Nat.reduceAdd, Nat.reduceMul, Nat.reduceLeDiff,  hset, hlc1, hloc]); rfl))
       | refine wpr_pass0 rfl rfl ?_
       | refine wpr_pass0S rfl ?_
       | (apply wpr_end; (focus ((try simp (disch := omega) only [push_cast, Nat.reduceEqDiff, ↓reduceIte, reduceCtorEq, Nat.reduceAdd, Nat.reduceMul, Nat.reduceLeDiff,  hset, hlc1, hloc]); rfl)); (focus (simp (disch := omega) only [push_cast, Nat.reduceEqDiff, ↓reduceIte, reduceCtorEq, Nat.reduceAdd, Nat.reduceMul, Nat.reduceLeDiff,  hset, hlc1, hloc]; done)))
       | fail)
    | (show Wp _ _ _ _ _ _
       first
       | refine wp_seq ?_
       | refine wp_region0 ?_
       | refine wp_region ?_
       | refine wp_cond_t rfl ?_
       | refine wp_cond_f rfl ?_
       | refine wp_ret ?_
       | refine wp_skip ?_
       | refine wp_exit ?_
       | refine wp_block ?_
       | fail)
    | refine thenQ_norm ?_
    | refine thenQ_ret ?_
    | refine thenQ_exit ?_
    | refine blockQ_norm ?_
    | refine blockQ_ret ?_
    | refine blockQ_same ?_
    | refine blockQ_ne rfl ?_
    | refine loopQ_norm ?_
    | refine loopQ_ret ?_
    | refine loopQ_exit ?_
    | ((first | apply retQ_ret | apply retQ_norm | apply wpc_of); focus ((try simp (disch := omega) only [push_cast, Nat.reduceEqDiff, ↓reduceIte, reduceCtorEq, Nat.reduceAdd, Nat.reduceMul, Nat.reduceLeDiff,  hset, hlc1, hloc]); rfl))
    | fail)
    refine wp_loop (fun w fr lc h1 => ∃ (A B D : List α) (j : Int), w = A.length ∧ A ++ B = Z ∧ D = P ++ A ++ x :: B ++ X.drop (k + 1) ++ S ∧ j = P.length + A.length ∧ (∀ y ∈ B, ltK key idx x y) ∧
        fr = [(0, (q.s n).val 1), (1, .int .i64 a), (2, .int .i64 b), (3, cv), (8, .int .i64 (a + k)), (9, .int .i64 j)] ∧ lc = [] ∧ h1 = q.H enc D) k
      ⟨Z, [], D, a + k, hZl.symm, by simp, by rw [hD, hdr]; simp, by omega, by simp, rfl, rfl, rfl⟩ ?_
    clear hD
    rintro w fr lc h1 ⟨A, B, D, j, rfl, hAB, hD, hj, hB, rfl, rfl, rfl⟩
    have hABl : A.length + B.length = k := by rw [← hZl, ← hAB, List.length_append]
    have hDl : D.length = n := by rw [hD]; simp only [List.length_append, List.length_cons, List.length_drop]; omega
    have hZA := hAB ▸ hZs
    have hr := hc.rd hDl
    have hw := hc.wr hDl
    have hw2 := hc.wr2 hDl
    have hcl := hc.cells
    have hl1 := hc.len
    have hok := hc.ok
    have hgo : ∀ Z', Z' = A ++ x :: B → (∀ y ∈ A, ltK key idx y x) → ∃ Z'' : List α, Z''.Perm (X.take (k + 1)) ∧ Z''.Pairwise (ltK key idx) ∧ D = P ++ Z'' ++ X.drop (k + 1) ++ S := fun Z' e hA => by
      refine ⟨A ++ x :: B, ?_, ?_, by rw [hD]; simp⟩
      · rw [htk]
        refine List.perm_middle.trans ?_
        rw [hAB]
        exact (List.Perm.cons x hZp).trans (List.perm_append_singleton _ _).symm
      · obtain ⟨p1, p2, p3⟩ := List.pairwise_append.1 hZA
        exact List.pairwise_append.2 ⟨p1, List.pairwise_cons.2 ⟨hB, p2⟩, fun y hy z hz => by
          rcases List.mem_cons.1 hz with rfl | hz
          · exact hA y hy
          · exact p3 y hy z hz⟩
    rcases nil_or_snoc A with rfl | ⟨A', y, rfl⟩
    · have hja : j = a := by simp at hj; omega
      (repeat' first
    | (show WpR _ _ _ _ _ _ _ _ _
       first
       | refine wpr_drop ?_
       | refine wpr_p (o := .mv _) (by simp only [ev_mv, opd_s, opd_c, fget, Nat.reduceEqDiff, Nat.one_ne_zero, Nat.zero_ne_one, reduceCtorEq, ↓reduceIte]; rfl) ?_
       | (refine wpr_fork (fun _ => ?_) (fun _ => ?_) <;> try (exfalso; omega))
       | (refine wpr_forkN (fun _ => ?_) (fun _ => ?_) <;> try (exfalso; omega))
       | refine wpr_run rfl ?_
       | refine wpr_pass rfl rfl ?_
       | refine wpr_passS rfl ?_
       | ((first | apply wpr_p | apply wpr_r | apply wpr_callA | apply wpr_callA0 | apply wpr_e0 | apply wpr_e | apply wpr_end0); focus ((try simp (disch := omega) only [push_cast, Nat.reduceEqDiff, ↓reduceIte, reduceCtorEq, Nat.reduceAdd, Nat.reduceMul, Nat.reduceLeDiff,  hset, hlc1, hloc, hr]); rfl))
       | refine wpr_pass0 rfl rfl ?_
       | refine wpr_pass0S rfl ?_
       | (apply wpr_end; (focus ((try simp (disch := omega) only [push_cast, Nat.reduceEqDiff, ↓reduceIte, reduceCtorEq, Nat.reduceAdd, Nat.reduceMul, Nat.reduceLeDiff,  hset, hlc1, hloc, hr]); rfl)); (focus (simp (disch := omega) only [push_cast, Nat.reduceEqDiff, ↓reduceIte, reduceCtorEq, Nat.reduceAdd, Nat.reduceMul, Nat.reduceLeDiff,  hset, hlc1, hloc, hr]; done)))
       | fail)
    | (show Wp _ _ _ _ _ _
       first
       | refine wp_seq ?_
       | refine wp_region0 ?_
       | refine wp_region ?_
       | refine wp_cond_t rfl ?_
       | refine wp_cond_f rfl ?_
       | refine wp_ret ?_
       | refine wp_skip ?_
       | refine wp_exit ?_
       | refine wp_block ?_
       | fail)
    | refine thenQ_norm ?_
    | refine thenQ_ret ?_
    | refine thenQ_exit ?_
    | refine blockQ_norm ?_
    | refine blockQ_ret ?_
    | refine blockQ_same ?_
    | refine blockQ_ne rfl ?_
    | refine loopQ_norm ?_
    | refine loopQ_ret ?_
    | refine loopQ_exit ?_
    | ((first | apply retQ_ret | apply retQ_norm | apply wpc_of); focus ((try simp (disch := omega) only [push_cast, Nat.reduceEqDiff, ↓reduceIte, reduceCtorEq, Nat.reduceAdd, Nat.reduceMul, Nat.reduceLeDiff,  hset, hlc1, hloc, hr]); rfl))
    | fail)
      obtain ⟨Z'', z1, z2, z3⟩ := hgo _ rfl (by simp)
      exact ⟨X.length + 1 - (k + 1), by omega, k + 1, Z'', D, rfl, by omega, by omega, z1, z2, z3, by rw [show a + (k : Int) + 1 = a + ((k + 1 : Nat) : Int) by omega], rfl, rfl⟩
    · have hj2 : j = (P ++ A').length + 1 := by simp at hj ⊢; omega
      have hD2 : D = (P ++ A') ++ y :: x :: (B ++ X.drop (k + 1) ++ S) := by rw [hD]; simp
      obtain ⟨q1, q2, q3⟩ := swap_down (P := P ++ A') (R := B ++ X.drop (k + 1) ++ S) (x := x) (y := y) hj2
      rw [← hD2] at q1 q2 q3
      obtain ⟨m, e1, e2, e3, e4⟩ := hc.run x y D
      rw [hc.vw, hc.vw] at e1
      have hyx : idx y < idx x := hbef y (by rw [← hAB]; simp)
      simp only [List.length_append, List.length_cons, List.length_nil] at hj2 hABl
      (repeat' first
    | (show WpR _ _ _ _ _ _ _ _ _
       first
       | refine wpr_drop ?_
       | refine wpr_p (o := .mv _) (by simp only [ev_mv, opd_s, opd_c, fget, Nat.reduceEqDiff, Nat.one_ne_zero, Nat.zero_ne_one, reduceCtorEq, ↓reduceIte]; rfl) ?_
       | (refine wpr_fork (fun _ => ?_) (fun _ => ?_) <;> try (exfalso; omega))
       | (refine wpr_forkN (fun _ => ?_) (fun _ => ?_) <;> try (exfalso; omega))
       | refine wpr_run rfl ?_
       | refine wpr_pass rfl rfl ?_
       | refine wpr_passS rfl ?_
       | ((first | apply wpr_p | apply wpr_r | apply wpr_callA | apply wpr_callA0 | apply wpr_e0 | apply wpr_e | apply wpr_end0); focus ((try simp (disch := omega) only [push_cast, Nat.reduceEqDiff, ↓reduceIte, reduceCtorEq, Nat.reduceAdd, Nat.reduceMul, Nat.reduceLeDiff,  hset, hlc1, hloc, hr, q1, q2]); rfl))
       | refine wpr_pass0 rfl rfl ?_
       | refine wpr_pass0S rfl ?_
       | (apply wpr_end; (focus ((try simp (disch := omega) only [push_cast, Nat.reduceEqDiff, ↓reduceIte, reduceCtorEq, Nat.reduceAdd, Nat.reduceMul, Nat.reduceLeDiff,  hset, hlc1, hloc, hr, q1, q2]); rfl)); (focus (simp (disch := omega) only [push_cast, Nat.reduceEqDiff, ↓reduceIte, reduceCtorEq, Nat.reduceAdd, Nat.reduceMul, Nat.reduceLeDiff,  hset, hlc1, hloc, hr, q1, q2]; done)))
       | fail)
    | (show Wp _ _ _ _ _ _
       first
       | refine wp_seq ?_
       | refine wp_region0 ?_
       | refine wp_region ?_
       | refine wp_cond_t rfl ?_
       | refine wp_cond_f rfl ?_
       | refine wp_ret ?_
       | refine wp_skip ?_
       | refine wp_exit ?_
       | refine wp_block ?_
       | fail)
    | refine thenQ_norm ?_
    | refine thenQ_ret ?_
    | refine thenQ_exit ?_
    | refine blockQ_norm ?_
    | refine blockQ_ret ?_
    | refine blockQ_same ?_
    | refine blockQ_ne rfl ?_
    | refine loopQ_norm ?_
    | refine loopQ_ret ?_
    | refine loopQ_exit ?_
    | ((first | apply retQ_ret | apply retQ_norm | apply wpc_of); focus ((try simp (disch := omega) only [push_cast, Nat.reduceEqDiff, ↓reduceIte, reduceCtorEq, Nat.reduceAdd, Nat.reduceMul, Nat.reduceLeDiff,  hset, hlc1, hloc, hr, q1, q2]); rfl))
    | fail)
      refine wpr_callV (fv := cv) rfl rfl (by first | rfl | simp only [List.all_cons, List.all_nil, hc.okv, Bool.and_self] | (simp (disch := omega) only [push_cast, Nat.reduceEqDiff, ↓reduceIte, reduceCtorEq, Nat.reduceAdd, Nat.reduceMul, Nat.reduceLeDiff, opds, List.all_cons, List.all_nil, hc.okv, Bool.and_self]; done) | fail) ?_
      refine ⟨_, _, e1, ?_⟩
      (repeat' first
    | (show WpR _ _ _ _ _ _ _ _ _
       first
       | refine wpr_drop ?_
       | refine wpr_p (o := .mv _) (by simp only [ev_mv, opd_s, opd_c, fget, Nat.reduceEqDiff, Nat.one_ne_zero, Nat.zero_ne_one, reduceCtorEq, ↓reduceIte]; rfl) ?_
       | (refine wpr_fork (fun _ => ?_) (fun _ => ?_) <;> try (exfalso; omega))
       | (refine wpr_forkN (fun _ => ?_) (fun _ => ?_) <;> try (exfalso; omega))
       | refine wpr_run rfl ?_
       | refine wpr_pass rfl rfl ?_
       | refine wpr_passS rfl ?_
       | ((first | apply wpr_p | apply wpr_r | apply wpr_callA | apply wpr_callA0 | apply wpr_e0 | apply wpr_e | apply wpr_end0); focus ((try simp (disch := omega) only [push_cast, Nat.reduceEqDiff, ↓reduceIte, reduceCtorEq, Nat.reduceAdd, Nat.reduceMul, Nat.reduceLeDiff,  hset, hlc1, hloc, hr, q1, q2, hw, hw2, hl1, hok, hcl]); rfl))
       | refine wpr_pass0 rfl rfl ?_
       | refine wpr_pass0S rfl ?_
       | (apply wpr_end; (focus ((try simp (disch := omega) only [push_cast, Nat.reduceEqDiff, ↓reduceIte, reduceCtorEq, Nat.reduceAdd, Nat.reduceMul, Nat.reduceLeDiff,  hset, hlc1, hloc, hr, q1, q2, hw, hw2, hl1, hok, hcl]); rfl)); (focus (simp (disch := omega) only [push_cast, Nat.reduceEqDiff, ↓reduceIte, reduceCtorEq, Nat.reduceAdd, Nat.reduceMul, Nat.reduceLeDiff,  hset, hlc1, hloc, hr, q1, q2, hw, hw2, hl1, hok, hcl]; done)))
       | fail)
    | (show Wp _ _ _ _ _ _
       first
       | refine wp_seq ?_
       | refine wp_region0 ?_
       | refine wp_region ?_
       | refine wp_cond_t rfl ?_
       | refine wp_cond_f rfl ?_
       | refine wp_ret ?_
       | refine wp_skip ?_
       | refine wp_exit ?_
       | refine wp_block ?_
       | fail)
    | refine thenQ_norm ?_
    | refine thenQ_ret ?_
    | refine thenQ_exit ?_
    | refine blockQ_norm ?_
    | refine blockQ_ret ?_
    | refine blockQ_same ?_
    | refine blockQ_ne rfl ?_
    | refine loopQ_norm ?_
    | refine loopQ_ret ?_
    | refine loopQ_exit ?_
    | ((first | apply retQ_ret | apply retQ_norm | apply wpc_of); focus ((try simp (disch := omega) only [push_cast, Nat.reduceEqDiff, ↓reduceIte, reduceCtorEq, Nat.reduceAdd, Nat.reduceMul, Nat.reduceLeDiff,  hset, hlc1, hloc, hr, q1, q2, hw, hw2, hl1, hok, hcl]); rfl))
    | fail)
      · refine ⟨_, ?_, A', y :: B, _, j - 1, rfl, by rw [← hAB]; simp, by rw [q3]; simp, by omega, ?_, rfl, rfl, rfl⟩
        · simp
        · intro z hz
          rcases List.mem_cons.1 hz with rfl | hz
          · exact .inl (e2.1 (by assumption))
          · exact hB z hz
      · have hnk : ¬ key x < key y := fun h => absurd (e2.2 h) (by omega)
        have hyx2 : ltK key idx y x := by unfold ltK; omega
        obtain ⟨Z'', z1, z2, z3⟩ := hgo _ rfl (fun z hz => by
          rcases List.mem_append.1 hz with hz | hz
          · have h1 := (List.pairwise_append.1 hZA).1
            exact ltK_trans ((List.pairwise_append.1 h1).2.2 z hz y (by simp)) hyx2
          · rw [List.mem_singleton.1 hz]; exact hyx2)
        exact ⟨X.length + 1 - (k + 1), by omega, k + 1, Z'', D, rfl, by omega, by omega, z1, z2, z3, by rw [show a + (k : Int) + 1 = a + ((k + 1 : Nat) : Int) by omega], rfl, rfl⟩
  · rw [List.take_of_length_le hkl] at hZp
    rw [List.drop_of_length_le hkl, List.append_nil] at hD
    (repeat' first
    | (show WpR _ _ _ _ _ _ _ _ _
       first
       | refine wpr_drop ?_
       | refine wpr_p (o := .mv _) (by simp only [ev_mv, opd_s, opd_c, fget, Nat.reduceEqDiff, Nat.one_ne_zero, Nat.zero_ne_one, reduceCtorEq, ↓reduceIte]; rfl) ?_
       | (refine wpr_fork (fun _ => ?_) (fun _ => ?_) <;> try (exfalso; omega))
       | (refine wpr_forkN (fun _ => ?_) (fun _ => ?_) <;> try (exfalso; omega))
       | refine wpr_run rfl ?_
       | refine wpr_pass rfl rfl ?_
       | refine wpr_passS rfl ?_
       | ((first | apply wpr_p | apply wpr_r | apply wpr_callA | apply wpr_callA0 | apply wpr_e0 | apply wpr_e | apply wpr_end0); focus ((try simp (disch := omega) only [push_cast, Nat.reduceEqDiff, ↓reduceIte, reduceCtorEq, Nat.reduceAdd, Nat.reduceMul, Nat.reduceLeDiff,  hset, hlc1, hloc]); rfl))
       | refine wpr_pass0 rfl rfl ?_
       | refine wpr_pass0S rfl ?_
       | (apply wpr_end; (focus ((try simp (disch := omega) only [push_cast, Nat.reduceEqDiff, ↓reduceIte, reduceCtorEq, Nat.reduceAdd, Nat.reduceMul, Nat.reduceLeDiff,  hset, hlc1, hloc]); rfl)); (focus (simp (disch := omega) only [push_cast, Nat.reduceEqDiff, ↓reduceIte, reduceCtorEq, Nat.reduceAdd, Nat.reduceMul, Nat.reduceLeDiff,  hset, hlc1, hloc]; done)))
       | fail)
    | (show Wp _ _ _ _ _ _
       first
       | refine wp_seq ?_
       | refine wp_region0 ?_
       | refine wp_region ?_
       | refine wp_cond_t rfl ?_
       | refine wp_cond_f rfl ?_
       | refine wp_ret ?_
       | refine wp_skip ?_
       | refine wp_exit ?_
       | refine wp_block ?_
       | fail)
    | refine thenQ_norm ?_
    | refine thenQ_ret ?_
    | refine thenQ_exit ?_
    | refine blockQ_norm ?_
    | refine blockQ_ret ?_
    | refine blockQ_same ?_
    | refine blockQ_ne rfl ?_
    | refine loopQ_norm ?_
    | refine loopQ_ret ?_
    | refine loopQ_exit ?_
    | ((first | apply retQ_ret | apply retQ_norm | apply wpc_of); focus ((try simp (disch := omega) only [push_cast, Nat.reduceEqDiff, ↓reduceIte, reduceCtorEq, Nat.reduceAdd, Nat.reduceMul, Nat.reduceLeDiff,  hset, hlc1, hloc]); rfl))
    | fail)
    exact ⟨rfl, Z, hZp, hZs, by rw [hD]⟩
theorem wrap_u64c {x : Int} (h1 : 0 ≤ x) (h2 : x < 18446744073709551616) : IntKind.u64.wrap x = x := by
  show (if (false && decide (x % 18446744073709551616 ≥ 9223372036854775808)) = true then x % 18446744073709551616 - 18446744073709551616 else x % 18446744073709551616) = x
  simp only [Bool.false_and, Bool.false_eq_true, if_false]
  omega
theorem shr_onec {a : Int} (h : 0 ≤ a) : binA .shr (.int .u64 a) (.int .u64 1) = some (.int .u64 (a / 2)) := by
  have e : binA .shr (.int .u64 a) (.int .u64 1) = some (.int .u64 (a.fdiv 2)) := rfl
  rw [e, Int.fdiv_eq_ediv_of_nonneg _ (by decide)]
theorem ltK_key {x y : α} (h : idx x < idx y) : (key y < key x ↔ ltK key idx y x) := by unfold ltK; omega
theorem ltK_tot {x y : α} (h : idx x < idx y) (g : ¬ ltK key idx y x) : ltK key idx x y := by unfold ltK at *; omega
theorem part_at (t : α → Prop) [DecidablePred t] : ∀ (Y : List α), Y.Pairwise (fun x y => t y → t x) → ∃ k, k ≤ Y.length ∧ (∀ x ∈ Y.take k, t x) ∧ (∀ x ∈ Y.drop k, ¬ t x)
  | [], _ => ⟨0, by simp, by simp, by simp⟩
  | y :: Y, h => by
    have h1 := List.pairwise_cons.1 h
    by_cases hy : t y
    · obtain ⟨k, a, b, c⟩ := part_at t Y h1.2
      refine ⟨k + 1, by simpa using a, fun x hx => ?_, by simpa using c⟩
      rw [List.take_succ_cons] at hx
      rcases List.mem_cons.1 hx with rfl | hx
      · exact hy
      · exact b x hx
    · refine ⟨0, Nat.zero_le _, by simp, fun x hx => ?_⟩
      rw [List.drop_zero] at hx
      rcases List.mem_cons.1 hx with rfl | hx
      · exact hy
      · exact fun g => hy (h1.1 x hx g)
theorem ati_in {P Y R : List α} {i : Int} (h0 : (P.length : Int) ≤ i) (h1 : i < P.length + Y.length) : ∃ h : (i - P.length).toNat < Y.length, ati (P ++ Y ++ R) i = Y[(i - P.length).toNat] := by
  refine ⟨by omega, ?_⟩
  have hi : i.toNat = P.length + (i - P.length).toNat := by omega
  simp only [ati, List.getD_eq_getElem?_getD]
  rw [hi, List.append_assoc, List.getElem?_append_right (by omega), Nat.add_sub_cancel_left, List.getElem?_append_left (by omega), List.getElem?_eq_getElem (by omega), Option.getD_some]
theorem ati_ix {P Y R : List α} (k : Nat) (hk : k < Y.length) {i : Int} (h : i = P.length + k) : ati (P ++ Y ++ R) i = Y[k] := by
  obtain ⟨h1, h2⟩ := ati_in (P := P) (Y := Y) (R := R) (i := i) (by omega) (by omega)
  rw [h2]
  congr 1
  omega
theorem merge_one (hc : CmpS q enc val cv key) {P Y S : List α} {x : α} {n : Nat} {a m b : Int} (hn : (P ++ [x] ++ Y ++ S).length = n) (hn2 : n < 1000000000000) (ha : a = P.length) (hm : m = P.length + 1) (hb : b = P.length + 1 + Y.length)
    (hYs : Y.Pairwise (ltK key idx)) (hxy : ∀ y ∈ Y, idx x < idx y) :
    ∃ Z : List α, Z.Perm ([x] ++ Y) ∧ Z.Pairwise (ltK key idx) ∧ callO PX 122 [(q.s n).val 1, .int .i64 a, .int .i64 m, .int .i64 b, cv] (q.H enc (P ++ [x] ++ Y ++ S)) = some (.tuple #[], q.H enc (P ++ Z ++ S)) := by
  have hlen : (q.s n).len = n := rfl
  have hset := hc.isF.set
  have hlc1 := hc.isF.lc1
  have hloc := hc.isF.loc
  have hn' := hn
  simp only [List.length_append, List.length_cons, List.length_nil] at hn'
  have hdec : ∀ y z : α, Decidable (ltK key idx y z) := fun y z => by unfold ltK; infer_instance
  obtain ⟨c, hc1, hc2, hc3⟩ := part_at (fun y => ltK key idx y x) Y (hYs.imp fun h g => ltK_trans h g)
  have hcl : ∀ k (hk : k < Y.length), k < c → key Y[k] < key x := fun k hk h => (ltK_key (hxy _ (List.getElem_mem hk))).2 (hc2 _ (by rw [List.mem_take_iff_getElem]; exact ⟨k, by omega, rfl⟩))
  have hcr : ∀ k (hk : k < Y.length), c ≤ k → ¬ key Y[k] < key x := fun k hk h g => hc3 Y[k] (by rw [List.mem_drop_iff_getElem]; exact ⟨k - c, by omega, by congr 1; omega⟩) ((ltK_key (hxy _ (List.getElem_mem hk))).1 g)
  refine ⟨Y.take c ++ x :: Y.drop c, ?_, ?_, ?_⟩
  · refine List.perm_middle.trans ?_
    rw [List.take_append_drop]; exact .refl _
  · refine List.pairwise_append.2 ⟨hYs.sublist (List.take_sublist _ _), List.pairwise_cons.2 ⟨fun y hy => ltK_tot (hxy y (List.mem_of_mem_drop hy)) (hc3 y hy), hYs.sublist (List.drop_sublist _ _)⟩, fun y hy z hz => ?_⟩
    have hyx := hc2 y hy
    rcases List.mem_cons.1 hz with rfl | hz
    · exact hyx
    · exact ltK_trans hyx (ltK_tot (hxy z (List.mem_of_mem_drop hz)) (hc3 z hz))
  · apply WpC.eqn
    refine wpc_fn (px_ext rfl) (px_fn fn_slices_symMergeCmpFunc_rune) rfl ?_
    unfold LF_slices_symMergeCmpFunc_rune
    simp only [argFr]
    obtain ⟨D, hD⟩ : ∃ D, D = P ++ [x] ++ Y ++ S := ⟨_, rfl⟩
    rw [← hD]
    have hDl : D.length = n := by rw [hD, ← hn]
    have hr := hc.rd hDl
    have hda : ati D a = x := by rw [hD, List.append_assoc P, List.append_assoc P]; exact ati_mid ha
    (repeat' first
    | (show WpR _ _ _ _ _ _ _ _ _
       first
       | refine wpr_drop ?_
       | refine wpr_p (o := .mv _) (by simp only [ev_mv, opd_s, opd_c, fget, Nat.reduceEqDiff, Nat.one_ne_zero, Nat.zero_ne_one, reduceCtorEq, ↓reduceIte]; rfl) ?_
       | (refine wpr_fork (fun _ => ?_) (fun _ => ?_) <;> try (exfalso; omega))
       | (refine wpr_forkN (fun _ => ?_) (fun _ => ?_) <;> try (exfalso; omega))
       | refine wpr_run rfl ?_
       | refine wpr_pass rfl rfl ?_
       | refine wpr_passS rfl ?_
       | ((first | apply wpr_p | apply wpr_r | apply wpr_callA | apply wpr_callA0 | apply wpr_e0 | apply wpr_e | apply wpr_end0); focus ((try simp (disch := omega) only [push_cast, Nat.reduceEqDiff, ↓reduceIte, reduceCtorEq, Nat.reduceAdd, Nat.reduceMul, Nat.reduceLeDiff,  hset, hlc1, hloc]); rfl))
       | refine wpr_pass0 rfl rfl ?_
       | refine wpr_pass0S rfl ?_
       | (apply wpr_end; (focus ((try simp (disch := omega) only [push_cast, Nat.reduceEqDiff, ↓reduceIte, reduceCtorEq, Nat.reduceAdd, Nat.reduceMul, Nat.reduceLeDiff,  hset, hlc1, hloc]); rfl)); (focus (simp (disch := omega) only [push_cast, Nat.reduceEqDiff, ↓reduceIte, reduceCtorEq, Nat.reduceAdd, Nat.reduceMul, Nat.reduceLeDiff,  hset, hlc1, hloc]; done)))
       | fail)
    | (show Wp _ _ _ _ _ _
       first
       | refine wp_seq ?_
       | refine wp_region0 ?_
       | refine wp_region ?_
       | refine wp_cond_t rfl ?_
       | refine wp_cond_f rfl ?_
       | refine wp_ret ?_
       | refine wp_skip ?_
       | refine wp_exit ?_
       | refine wp_block ?_
       | fail)
    | refine thenQ_norm ?_
    | refine thenQ_ret ?_
    | refine thenQ_exit ?_
    | refine blockQ_norm ?_
    | refine blockQ_ret ?_
    | refine blockQ_same ?_
    | refine blockQ_ne rfl ?_
    | refine loopQ_norm ?_
    | refine loopQ_ret ?_
    | refine loopQ_exit ?_
    | ((first | apply retQ_ret | apply retQ_norm | apply wpc_of); focus ((try simp (disch := omega) only [push_cast, Nat.reduceEqDiff, ↓reduceIte, reduceCtorEq, Nat.reduceAdd, Nat.reduceMul, Nat.reduceLeDiff,  hset, hlc1, hloc]); rfl))
    | fail)
    refine wp_loop (fun w fr lc h1 => ∃ (i j : Int), w = (j - i).toNat ∧ m ≤ i ∧ i ≤ m + c ∧ m + c ≤ j ∧ j ≤ b ∧ fr = [(0, (q.s n).val 1), (1, .int .i64 a), (4, cv), (10, .int .i64 i), (11, .int .i64 j)] ∧ lc = [] ∧ h1 = q.H enc D) (b - m).toNat
      ⟨m, b, rfl, by omega, by omega, by omega, by omega, rfl, rfl, rfl⟩ ?_
    rintro w fr lc h1 ⟨i, j, rfl, hi1, hi2, hj1, hj2, rfl, rfl, rfl⟩
    by_cases hij : i < j
    · have hdh : ∃ hk : ((i + j) / 2 - m).toNat < Y.length, ati D ((i + j) / 2) = Y[((i + j) / 2 - m).toNat] := by
        have hk : ((i + j) / 2 - m).toNat < Y.length := by omega
        exact ⟨hk, by rw [hD]; exact ati_ix _ hk (by simp only [List.length_append, List.length_cons, List.length_nil]; omega)⟩
      obtain ⟨hk, hdh⟩ := hdh
      obtain ⟨mm, e1, e2, e3, e4⟩ := hc.run (ati D ((i + j) / 2)) (ati D a) D
      rw [hc.vw, hc.vw] at e1
      rw [hdh, hda] at e2
      have e2l := fun h => e2.2 (hcl _ hk h)
      have e2r := fun h => hcr _ hk h
      (repeat' first
    | (show WpR _ _ _ _ _ _ _ _ _
       first
       | refine wpr_drop ?_
       | refine wpr_p (o := .mv _) (by simp only [ev_mv, opd_s, opd_c, fget, Nat.reduceEqDiff, Nat.one_ne_zero, Nat.zero_ne_one, reduceCtorEq, ↓reduceIte]; rfl) ?_
       | (refine wpr_fork (fun _ => ?_) (fun _ => ?_) <;> try (exfalso; omega))
       | (refine wpr_forkN (fun _ => ?_) (fun _ => ?_) <;> try (exfalso; omega))
       | refine wpr_run rfl ?_
       | refine wpr_pass rfl rfl ?_
       | refine wpr_passS rfl ?_
       | ((first | apply wpr_p | apply wpr_r | apply wpr_callA | apply wpr_callA0 | apply wpr_e0 | apply wpr_e | apply wpr_end0); focus ((try simp (disch := omega) only [push_cast, Nat.reduceEqDiff, ↓reduceIte, reduceCtorEq, Nat.reduceAdd, Nat.reduceMul, Nat.reduceLeDiff,  hset, hlc1, hloc, hr, hlen, wrap_u64c, shr_onec]); rfl))
       | refine wpr_pass0 rfl rfl ?_
       | refine wpr_pass0S rfl ?_
       | (apply wpr_end; (focus ((try simp (disch := omega) only [push_cast, Nat.reduceEqDiff, ↓reduceIte, reduceCtorEq, Nat.reduceAdd, Nat.reduceMul, Nat.reduceLeDiff,  hset, hlc1, hloc, hr, hlen, wrap_u64c, shr_onec]); rfl)); (focus (simp (disch := omega) only [push_cast, Nat.reduceEqDiff, ↓reduceIte, reduceCtorEq, Nat.reduceAdd, Nat.reduceMul, Nat.reduceLeDiff,  hset, hlc1, hloc, hr, hlen, wrap_u64c, shr_onec]; done)))
       | fail)
    | (show Wp _ _ _ _ _ _
       first
       | refine wp_seq ?_
       | refine wp_region0 ?_
       | refine wp_region ?_
       | refine wp_cond_t rfl ?_
       | refine wp_cond_f rfl ?_
       | refine wp_ret ?_
       | refine wp_skip ?_
       | refine wp_exit ?_
       | refine wp_block ?_
       | fail)
    | refine thenQ_norm ?_
    | refine thenQ_ret ?_
    | refine thenQ_exit ?_
    | refine blockQ_norm ?_
    | refine blockQ_ret ?_
    | refine blockQ_same ?_
    | refine blockQ_ne rfl ?_
    | refine loopQ_norm ?_
    | refine loopQ_ret ?_
    | refine loopQ_exit ?_
    | ((first | apply retQ_ret | apply retQ_norm | apply wpc_of); focus ((try simp (disch := omega) only [push_cast, Nat.reduceEqDiff, ↓reduceIte, reduceCtorEq, Nat.reduceAdd, Nat.reduceMul, Nat.reduceLeDiff,  hset, hlc1, hloc, hr, hlen, wrap_u64c, shr_onec]); rfl))
    | fail)
      refine wpr_callV (fv := cv) rfl rfl (by first | rfl | simp only [List.all_cons, List.all_nil, hc.okv, Bool.and_self] | (simp (disch := omega) only [push_cast, Nat.reduceEqDiff, ↓reduceIte, reduceCtorEq, Nat.reduceAdd, Nat.reduceMul, Nat.reduceLeDiff, opds, List.all_cons, List.all_nil, hc.okv, Bool.and_self]; done) | fail) ?_
      refine ⟨_, _, e1, ?_⟩
      (repeat' first
    | (show WpR _ _ _ _ _ _ _ _ _
       first
       | refine wpr_drop ?_
       | refine wpr_p (o := .mv _) (by simp only [ev_mv, opd_s, opd_c, fget, Nat.reduceEqDiff, Nat.one_ne_zero, Nat.zero_ne_one, reduceCtorEq, ↓reduceIte]; rfl) ?_
       | (refine wpr_fork (fun _ => ?_) (fun _ => ?_) <;> try (exfalso; omega))
       | (refine wpr_forkN (fun _ => ?_) (fun _ => ?_) <;> try (exfalso; omega))
       | refine wpr_run rfl ?_
       | refine wpr_pass rfl rfl ?_
       | refine wpr_passS rfl ?_
       | ((first | apply wpr_p | apply wpr_r | apply wpr_callA | apply wpr_callA0 | apply wpr_e0 | apply wpr_e | apply wpr_end0); focus ((try simp (disch := omega) only [push_cast, Nat.reduceEqDiff, ↓reduceIte, reduceCtorEq, Nat.reduceAdd, Nat.reduceMul, Nat.reduceLeDiff,  hset, hlc1, hloc, hr]); rfl))
       | refine wpr_pass0 rfl rfl ?_
       | refine wpr_pass0S rfl ?_
       | (apply wpr_end; (focus ((try simp (disch := omega) only [push_cast, Nat.reduceEqDiff, ↓reduceIte, reduceCtorEq, Nat.reduceAdd, Nat.reduceMul, Nat.reduceLeDiff,  hset, hlc1, hloc, hr]); rfl)); (focus (simp (disch := omega) only [push_cast, Nat.reduceEqDiff, ↓reduceIte, reduceCtorEq, Nat.reduceAdd, Nat.reduceMul, Nat.reduceLeDiff,  hset, hlc1, hloc, hr]; done)))
       | fail)
    | (show Wp _ _ _ _ _ _
       first
       | refine wp_seq ?_
       | refine wp_region0 ?_
       | refine wp_region ?_
       | refine wp_cond_t rfl ?_
       | refine wp_cond_f rfl ?_
       | refine wp_ret ?_
       | refine wp_skip ?_
       | refine wp_exit ?_
       | refine wp_block ?_
       | fail)
    | refine thenQ_norm ?_
    | refine thenQ_ret ?_
    | refine thenQ_exit ?_
    | refine blockQ_norm ?_
    | refine blockQ_ret ?_
    | refine blockQ_same ?_
    | refine blockQ_ne rfl ?_
    | refine loopQ_norm ?_
    | refine loopQ_ret ?_
    | refine loopQ_exit ?_
    | ((first | apply retQ_ret | apply retQ_norm | apply wpc_of); focus ((try simp (disch := omega) only [push_cast, Nat.reduceEqDiff, ↓reduceIte, reduceCtorEq, Nat.reduceAdd, Nat.reduceMul, Nat.reduceLeDiff,  hset, hlc1, hloc, hr]); rfl))
    | fail)
      · rename_i g
        have : ((i + j) / 2 - m).toNat < c := by
          apply Decidable.byContradiction
          intro h
          exact e2r (by omega) (e2.1 g)
        exact ⟨_, by omega, (i + j) / 2 + 1, j, rfl, by omega, by omega, by omega, by omega, rfl, rfl, rfl⟩
      · rename_i g
        have : ¬ ((i + j) / 2 - m).toNat < c := fun h => g (e2l h)
        exact ⟨_, by omega, i, (i + j) / 2, rfl, by omega, by omega, by omega, by omega, rfl, rfl, rfl⟩
    · have hi : i = m + c := by omega
      have hl1 := hc.len
      have hok := hc.ok
      have hcl2 := hc.cells
      (repeat' first
    | (show WpR _ _ _ _ _ _ _ _ _
       first
       | refine wpr_drop ?_
       | refine wpr_p (o := .mv _) (by simp only [ev_mv, opd_s, opd_c, fget, Nat.reduceEqDiff, Nat.one_ne_zero, Nat.zero_ne_one, reduceCtorEq, ↓reduceIte]; rfl) ?_
       | (refine wpr_fork (fun _ => ?_) (fun _ => ?_) <;> try (exfalso; omega))
       | (refine wpr_forkN (fun _ => ?_) (fun _ => ?_) <;> try (exfalso; omega))
       | refine wpr_run rfl ?_
       | refine wpr_pass rfl rfl ?_
       | refine wpr_passS rfl ?_
       | ((first | apply wpr_p | apply wpr_r | apply wpr_callA | apply wpr_callA0 | apply wpr_e0 | apply wpr_e | apply wpr_end0); focus ((try simp (disch := omega) only [push_cast, Nat.reduceEqDiff, ↓reduceIte, reduceCtorEq, Nat.reduceAdd, Nat.reduceMul, Nat.reduceLeDiff,  hset, hlc1, hloc]); rfl))
       | refine wpr_pass0 rfl rfl ?_
       | refine wpr_pass0S rfl ?_
       | (apply wpr_end; (focus ((try simp (disch := omega) only [push_cast, Nat.reduceEqDiff, ↓reduceIte, reduceCtorEq, Nat.reduceAdd, Nat.reduceMul, Nat.reduceLeDiff,  hset, hlc1, hloc]); rfl)); (focus (simp (disch := omega) only [push_cast, Nat.reduceEqDiff, ↓reduceIte, reduceCtorEq, Nat.reduceAdd, Nat.reduceMul, Nat.reduceLeDiff,  hset, hlc1, hloc]; done)))
       | fail)
    | (show Wp _ _ _ _ _ _
       first
       | refine wp_seq ?_
       | refine wp_region0 ?_
       | refine wp_region ?_
       | refine wp_cond_t rfl ?_
       | refine wp_cond_f rfl ?_
       | refine wp_ret ?_
       | refine wp_skip ?_
       | refine wp_exit ?_
       | refine wp_block ?_
       | fail)
    | refine thenQ_norm ?_
    | refine thenQ_ret ?_
    | refine thenQ_exit ?_
    | refine blockQ_norm ?_
    | refine blockQ_ret ?_
    | refine blockQ_same ?_
    | refine blockQ_ne rfl ?_
    | refine loopQ_norm ?_
    | refine loopQ_ret ?_
    | refine loopQ_exit ?_
    | ((first | apply retQ_ret | apply retQ_norm | apply wpc_of); focus ((try simp (disch := omega) only [push_cast, Nat.reduceEqDiff, ↓reduceIte, reduceCtorEq, Nat.reduceAdd, Nat.reduceMul, Nat.reduceLeDiff,  hset, hlc1, hloc]); rfl))
    | fail)
      refine wp_loop (fun w fr lc h1 => ∃ (A B D : List α) (k : Int), w = B.length ∧ A ++ B = Y.take c ∧ D = P ++ A ++ x :: B ++ (Y.drop c ++ S) ∧ k = P.length + A.length ∧ fr = [(0, (q.s n).val 1), (10, .int .i64 i), (13, .int .i64 k)] ∧ lc = [] ∧ h1 = q.H enc D) (Y.take c).length
        ⟨[], Y.take c, D, a, rfl, rfl, by rw [hD]; simp only [List.append_assoc, List.cons_append, List.nil_append]; rw [← List.append_assoc (Y.take c), List.take_append_drop], by simp; omega, rfl, rfl, rfl⟩ ?_
      rintro w fr lc h1 ⟨A, B, D', k, rfl, hAB, hD', hk, rfl, rfl, rfl⟩
      have hABl : A.length + B.length = c := by have := congrArg List.length hAB; simp only [List.length_append, List.length_take] at this; omega
      cases B with
      | nil =>
        simp only [List.length_nil] at hABl
        (repeat' first
    | (show WpR _ _ _ _ _ _ _ _ _
       first
       | refine wpr_drop ?_
       | refine wpr_p (o := .mv _) (by simp only [ev_mv, opd_s, opd_c, fget, Nat.reduceEqDiff, Nat.one_ne_zero, Nat.zero_ne_one, reduceCtorEq, ↓reduceIte]; rfl) ?_
       | (refine wpr_fork (fun _ => ?_) (fun _ => ?_) <;> try (exfalso; omega))
       | (refine wpr_forkN (fun _ => ?_) (fun _ => ?_) <;> try (exfalso; omega))
       | refine wpr_run rfl ?_
       | refine wpr_pass rfl rfl ?_
       | refine wpr_passS rfl ?_
       | ((first | apply wpr_p | apply wpr_r | apply wpr_callA | apply wpr_callA0 | apply wpr_e0 | apply wpr_e | apply wpr_end0); focus ((try simp (disch := omega) only [push_cast, Nat.reduceEqDiff, ↓reduceIte, reduceCtorEq, Nat.reduceAdd, Nat.reduceMul, Nat.reduceLeDiff,  hset, hlc1, hloc]); rfl))
       | refine wpr_pass0 rfl rfl ?_
       | refine wpr_pass0S rfl ?_
       | (apply wpr_end; (focus ((try simp (disch := omega) only [push_cast, Nat.reduceEqDiff, ↓reduceIte, reduceCtorEq, Nat.reduceAdd, Nat.reduceMul, Nat.reduceLeDiff,  hset, hlc1, hloc]); rfl)); (focus (simp (disch := omega) only [push_cast, Nat.reduceEqDiff, ↓reduceIte, reduceCtorEq, Nat.reduceAdd, Nat.reduceMul, Nat.reduceLeDiff,  hset, hlc1, hloc]; done)))
       | fail)
    | (show Wp _ _ _ _ _ _
       first
       | refine wp_seq ?_
       | refine wp_region0 ?_
       | refine wp_region ?_
       | refine wp_cond_t rfl ?_
       | refine wp_cond_f rfl ?_
       | refine wp_ret ?_
       | refine wp_skip ?_
       | refine wp_exit ?_
       | refine wp_block ?_
       | fail)
    | refine thenQ_norm ?_
    | refine thenQ_ret ?_
    | refine thenQ_exit ?_
    | refine blockQ_norm ?_
    | refine blockQ_ret ?_
    | refine blockQ_same ?_
    | refine blockQ_ne rfl ?_
    | refine loopQ_norm ?_
    | refine loopQ_ret ?_
    | refine loopQ_exit ?_
    | ((first | apply retQ_ret | apply retQ_norm | apply wpc_of); focus ((try simp (disch := omega) only [push_cast, Nat.reduceEqDiff, ↓reduceIte, reduceCtorEq, Nat.reduceAdd, Nat.reduceMul, Nat.reduceLeDiff,  hset, hlc1, hloc]); rfl))
    | fail)
        refine ⟨rfl, ?_⟩
        rw [hD', ← hAB]
        simp
      | cons y B =>
        simp only [List.length_cons] at hABl
        have hD'l : D'.length = n := by rw [hD']; simp only [List.length_append, List.length_cons, List.length_drop]; omega
        have hr' := hc.rd hD'l
        have hw' := hc.wr hD'l
        have hw2' := hc.wr2 hD'l
        have hk2 : k = (P ++ A).length := by simp; omega
        obtain ⟨q1, q2, q3⟩ := swap_up (P := P ++ A) (R := B ++ (Y.drop c ++ S)) (x := x) (y := y) hk2
        have hD'2 : D' = (P ++ A) ++ x :: y :: (B ++ (Y.drop c ++ S)) := by rw [hD']; simp
        rw [← hD'2] at q1 q2 q3
        (repeat' first
    | (show WpR _ _ _ _ _ _ _ _ _
       first
       | refine wpr_drop ?_
       | refine wpr_p (o := .mv _) (by simp only [ev_mv, opd_s, opd_c, fget, Nat.reduceEqDiff, Nat.one_ne_zero, Nat.zero_ne_one, reduceCtorEq, ↓reduceIte]; rfl) ?_
       | (refine wpr_fork (fun _ => ?_) (fun _ => ?_) <;> try (exfalso; omega))
       | (refine wpr_forkN (fun _ => ?_) (fun _ => ?_) <;> try (exfalso; omega))
       | refine wpr_run rfl ?_
       | refine wpr_pass rfl rfl ?_
       | refine wpr_passS rfl ?_
       | ((first | apply wpr_p | apply wpr_r | apply wpr_callA | apply wpr_callA0 | apply wpr_e0 | apply wpr_e | apply wpr_end0); focus ((try simp (disch := omega) only [push_cast, Nat.reduceEqDiff, ↓reduceIte, reduceCtorEq, Nat.reduceAdd, Nat.reduceMul, Nat.reduceLeDiff,  hset, hlc1, hloc, hr', q1, q2, hw', hw2', hlen, hl1, hok, hcl2]); rfl))
       | refine wpr_pass0 rfl rfl ?_
       | refine wpr_pass0S rfl ?_
       | (apply wpr_end; (focus ((try simp (disch := omega) only [push_cast, Nat.reduceEqDiff, ↓reduceIte, reduceCtorEq, Nat.reduceAdd, Nat.reduceMul, Nat.reduceLeDiff,  hset, hlc1, hloc, hr', q1, q2, hw', hw2', hlen, hl1, hok, hcl2]); rfl)); (focus (simp (disch := omega) only [push_cast, Nat.reduceEqDiff, ↓reduceIte, reduceCtorEq, Nat.reduceAdd, Nat.reduceMul, Nat.reduceLeDiff,  hset, hlc1, hloc, hr', q1, q2, hw', hw2', hlen, hl1, hok, hcl2]; done)))
       | fail)
    | (show Wp _ _ _ _ _ _
       first
       | refine wp_seq ?_
       | refine wp_region0 ?_
       | refine wp_region ?_
       | refine wp_cond_t rfl ?_
       | refine wp_cond_f rfl ?_
       | refine wp_ret ?_
       | refine wp_skip ?_
       | refine wp_exit ?_
       | refine wp_block ?_
       | fail)
    | refine thenQ_norm ?_
    | refine thenQ_ret ?_
    | refine thenQ_exit ?_
    | refine blockQ_norm ?_
    | refine blockQ_ret ?_
    | refine blockQ_same ?_
    | refine blockQ_ne rfl ?_
    | refine loopQ_norm ?_
    | refine loopQ_ret ?_
    | refine loopQ_exit ?_
    | ((first | apply retQ_ret | apply retQ_norm | apply wpc_of); focus ((try simp (disch := omega) only [push_cast, Nat.reduceEqDiff, ↓reduceIte, reduceCtorEq, Nat.reduceAdd, Nat.reduceMul, Nat.reduceLeDiff,  hset, hlc1, hloc, hr', q1, q2, hw', hw2', hlen, hl1, hok, hcl2]); rfl))
    | fail)
        refine ⟨_, ?_, A ++ [y], B, _, k + 1, rfl, by rw [← hAB]; simp, by rw [q3]; simp, by simp only [List.length_append, List.length_cons, List.length_nil]; omega, rfl, rfl, rfl⟩
        simp
theorem merge_last (hc : CmpS q enc val cv key) {P X S : List α} {y : α} {n : Nat} {a m b : Int} (hn : (P ++ X ++ [y] ++ S).length = n) (hn2 : n < 1000000000000) (ha : a = P.length) (hm : m = P.length + X.length) (hb : b = P.length + X.length + 1) (hX1 : X.length ≠ 1)
    (hXs : X.Pairwise (ltK key idx)) (hxy : ∀ x ∈ X, idx x < idx y) :
    ∃ Z : List α, Z.Perm (X ++ [y]) ∧ Z.Pairwise (ltK key idx) ∧ callO PX 122 [(q.s n).val 1, .int .i64 a, .int .i64 m, .int .i64 b, cv] (q.H enc (P ++ X ++ [y] ++ S)) = some (.tuple #[], q.H enc (P ++ Z ++ S)) := by
  have hlen : (q.s n).len = n := rfl
  have hset := hc.isF.set
  have hlc1 := hc.isF.lc1
  have hloc := hc.isF.loc
  have hn' := hn
  simp only [List.length_append, List.length_cons, List.length_nil] at hn'
  have hdec : ∀ y z : α, Decidable (ltK key idx y z) := fun y z => by unfold ltK; infer_instance
  obtain ⟨c, hc1, hc2, hc3⟩ := part_at (fun x => ¬ ltK key idx y x) X (hXs.imp fun h g k => g (ltK_trans k h))
  have hcl : ∀ k (hk : k < X.length), k < c → ¬ key y < key X[k] := fun k hk h g => hc2 X[k] (by rw [List.mem_take_iff_getElem]; exact ⟨k, by omega, rfl⟩) ((ltK_key (hxy _ (List.getElem_mem hk))).1 g)
  have hcr : ∀ k (hk : k < X.length), c ≤ k → key y < key X[k] := fun k hk h => (ltK_key (hxy _ (List.getElem_mem hk))).2 (Decidable.not_not.1 (hc3 X[k] (by rw [List.mem_drop_iff_getElem]; exact ⟨k - c, by omega, by congr 1; omega⟩)))
  refine ⟨X.take c ++ y :: X.drop c, ?_, ?_, ?_⟩
  · refine List.perm_middle.trans ?_
    rw [List.take_append_drop]
    exact (List.perm_append_singleton _ _).symm
  · refine List.pairwise_append.2 ⟨hXs.sublist (List.take_sublist _ _), List.pairwise_cons.2 ⟨fun x hx => Decidable.not_not.1 (hc3 x hx), hXs.sublist (List.drop_sublist _ _)⟩, fun x hx z hz => ?_⟩
    have hxy2 := ltK_tot (hxy x (List.mem_of_mem_take hx)) (hc2 x hx)
    rcases List.mem_cons.1 hz with rfl | hz
    · exact hxy2
    · exact ltK_trans hxy2 (Decidable.not_not.1 (hc3 z hz))
  · apply WpC.eqn
    refine wpc_fn (px_ext rfl) (px_fn fn_slices_symMergeCmpFunc_rune) rfl ?_
    unfold LF_slices_symMergeCmpFunc_rune
    simp only [argFr]
    obtain ⟨D, hD⟩ : ∃ D, D = P ++ X ++ [y] ++ S := ⟨_, rfl⟩
    rw [← hD]
    have hDl : D.length = n := by rw [hD, ← hn]
    have hr := hc.rd hDl
    have hda : ati D m = y := by rw [hD, List.append_assoc (P ++ X)]; exact ati_mid (by rw [List.length_append]; omega)
    (repeat' first
    | (show WpR _ _ _ _ _ _ _ _ _
       first
       | refine wpr_drop ?_
       | refine wpr_p (o := .mv _) (by simp only [ev_mv, opd_s, opd_c, fget, Nat.reduceEqDiff, Nat.one_ne_zero, Nat.zero_ne_one, reduceCtorEq, ↓reduceIte]; rfl) ?_
       | (refine wpr_fork (fun _ => ?_) (fun _ => ?_) <;> try (exfalso; omega))
       | (refine wpr_forkN (fun _ => ?_) (fun _ => ?_) <;> try (exfalso; omega))
       | refine wpr_run rfl ?_
       | refine wpr_pass rfl rfl ?_
       | refine wpr_passS rfl ?_
       | ((first | apply wpr_p | apply wpr_r | apply wpr_callA | apply wpr_callA0 | apply wpr_e0 | apply wpr_e | apply wpr_end0); focus ((try simp (disch := omega) only [push_cast, Nat.reduceEqDiff, ↓reduceIte, reduceCtorEq, Nat.reduceAdd, Nat.reduceMul, Nat.reduceLeDiff,  hset, hlc1, hloc]); rfl))
       | refine wpr_pass0 rfl rfl ?_
       | refine wpr_pass0S rfl ?_
       | (apply wpr_end; (focus ((try simp (disch := omega) only [push_cast, Nat.reduceEqDiff, ↓reduceIte, reduceCtorEq, Nat.reduceAdd, Nat.reduceMul, Nat.reduceLeDiff,  hset, hlc1, hloc]); rfl)); (focus (simp (disch := omega) only [push_cast, Nat.reduceEqDiff, ↓reduceIte, reduceCtorEq, Nat.reduceAdd, Nat.reduceMul, Nat.reduceLeDiff,  hset, hlc1, hloc]; done)))
       | fail)
    | (show Wp _ _ _ _ _ _
       first
       | refine wp_seq ?_
       | refine wp_region0 ?_
       | refine wp_region ?_
       | refine wp_cond_t rfl ?_
       | refine wp_cond_f rfl ?_
       | refine wp_ret ?_
       | refine wp_skip ?_
       | refine wp_exit ?_
       | refine wp_block ?_
       | fail)
    | refine thenQ_norm ?_
    | refine thenQ_ret ?_
    | refine thenQ_exit ?_
    | refine blockQ_norm ?_
    | refine blockQ_ret ?_
    | refine blockQ_same ?_
    | refine blockQ_ne rfl ?_
    | refine loopQ_norm ?_
    | refine loopQ_ret ?_
    | refine loopQ_exit ?_
    | ((first | apply retQ_ret | apply retQ_norm | apply wpc_of); focus ((try simp (disch := omega) only [push_cast, Nat.reduceEqDiff, ↓reduceIte, reduceCtorEq, Nat.reduceAdd, Nat.reduceMul, Nat.reduceLeDiff,  hset, hlc1, hloc]); rfl))
    | fail)
    refine wp_loop (fun w fr lc h1 => ∃ (i j : Int), w = (j - i).toNat ∧ a ≤ i ∧ i ≤ a + c ∧ a + c ≤ j ∧ j ≤ m ∧ fr = [(0, (q.s n).val 1), (2, .int .i64 m), (4, cv), (14, .int .i64 i), (15, .int .i64 j)] ∧ lc = [] ∧ h1 = q.H enc D) (m - a).toNat
      ⟨a, m, rfl, by omega, by omega, by omega, by omega, rfl, rfl, rfl⟩ ?_
    rintro w fr lc h1 ⟨i, j, rfl, hi1, hi2, hj1, hj2, rfl, rfl, rfl⟩
    by_cases hij : i < j
    · have hdh : ∃ hk : ((i + j) / 2 - a).toNat < X.length, ati D ((i + j) / 2) = X[((i + j) / 2 - a).toNat] := by
        have hk : ((i + j) / 2 - a).toNat < X.length := by omega
        exact ⟨hk, by rw [hD, List.append_assoc (P ++ X)]; exact ati_ix _ hk (by omega)⟩
      obtain ⟨hk, hdh⟩ := hdh
      obtain ⟨mm, e1, e2, e3, e4⟩ := hc.run (ati D m) (ati D ((i + j) / 2)) D
      rw [hc.vw, hc.vw] at e1
      rw [hdh, hda] at e2
      have e2l := fun h => hcl _ hk h
      have e2r := fun h => e2.2 (hcr _ hk h)
      (repeat' first
    | (show WpR _ _ _ _ _ _ _ _ _
       first
       | refine wpr_drop ?_
       | refine wpr_p (o := .mv _) (by simp only [ev_mv, opd_s, opd_c, fget, Nat.reduceEqDiff, Nat.one_ne_zero, Nat.zero_ne_one, reduceCtorEq, ↓reduceIte]; rfl) ?_
       | (refine wpr_fork (fun _ => ?_) (fun _ => ?_) <;> try (exfalso; omega))
       | (refine wpr_forkN (fun _ => ?_) (fun _ => ?_) <;> try (exfalso; omega))
       | refine wpr_run rfl ?_
       | refine wpr_pass rfl rfl ?_
       | refine wpr_passS rfl ?_
       | ((first | apply wpr_p | apply wpr_r | apply wpr_callA | apply wpr_callA0 | apply wpr_e0 | apply wpr_e | apply wpr_end0); focus ((try simp (disch := omega) only [push_cast, Nat.reduceEqDiff, ↓reduceIte, reduceCtorEq, Nat.reduceAdd, Nat.reduceMul, Nat.reduceLeDiff,  hset, hlc1, hloc, hr, hlen, wrap_u64c, shr_onec]); rfl))
       | refine wpr_pass0 rfl rfl ?_
       | refine wpr_pass0S rfl ?_
       | (apply wpr_end; (focus ((try simp (disch := omega) only [push_cast, Nat.reduceEqDiff, ↓reduceIte, reduceCtorEq, Nat.reduceAdd, Nat.reduceMul, Nat.reduceLeDiff,  hset, hlc1, hloc, hr, hlen, wrap_u64c, shr_onec]); rfl)); (focus (simp (disch := omega) only [push_cast, Nat.reduceEqDiff, ↓reduceIte, reduceCtorEq, Nat.reduceAdd, Nat.reduceMul, Nat.reduceLeDiff,  hset, hlc1, hloc, hr, hlen, wrap_u64c, shr_onec]; done)))
       | fail)
    | (show Wp _ _ _ _ _ _
       first
       | refine wp_seq ?_
       | refine wp_region0 ?_
       | refine wp_region ?_
       | refine wp_cond_t rfl ?_
       | refine wp_cond_f rfl ?_
       | refine wp_ret ?_
       | refine wp_skip ?_
       | refine wp_exit ?_
       | refine wp_block ?_
       | fail)
    | refine thenQ_norm ?_
    | refine thenQ_ret ?_
    | refine thenQ_exit ?_
    | refine blockQ_norm ?_
    | refine blockQ_ret ?_
    | refine blockQ_same ?_
    | refine blockQ_ne rfl ?_
    | refine loopQ_norm ?_
    | refine loopQ_ret ?_
    | refine loopQ_exit ?_
    | ((first | apply retQ_ret | apply retQ_norm | apply wpc_of); focus ((try simp (disch := omega) only [push_cast, Nat.reduceEqDiff, ↓reduceIte, reduceCtorEq, Nat.reduceAdd, Nat.reduceMul, Nat.reduceLeDiff,  hset, hlc1, hloc, hr, hlen, wrap_u64c, shr_onec]); rfl))
    | fail)
      refine wpr_callV (fv := cv) rfl rfl (by first | rfl | simp only [List.all_cons, List.all_nil, hc.okv, Bool.and_self] | (simp (disch := omega) only [push_cast, Nat.reduceEqDiff, ↓reduceIte, reduceCtorEq, Nat.reduceAdd, Nat.reduceMul, Nat.reduceLeDiff, opds, List.all_cons, List.all_nil, hc.okv, Bool.and_self]; done) | fail) ?_
      refine ⟨_, _, e1, ?_⟩
      (repeat' first
    | (show WpR _ _ _ _ _ _ _ _ _
       first
       | refine wpr_drop ?_
       | refine wpr_p (o := .mv _) (by simp only [ev_mv, opd_s, opd_c, fget, Nat.reduceEqDiff, Nat.one_ne_zero, Nat.zero_ne_one, reduceCtorEq, ↓reduceIte]; rfl) ?_
       | (refine wpr_fork (fun _ => ?_) (fun _ => ?_) <;> try (exfalso; omega))
       | (refine wpr_forkN (fun _ => ?_) (fun _ => ?_) <;> try (exfalso; omega))
       | refine wpr_run rfl ?_
       | refine wpr_pass rfl rfl ?_
       | refine wpr_passS rfl ?_
       | ((first | apply wpr_p | apply wpr_r | apply wpr_callA | apply wpr_callA0 | apply wpr_e0 | apply wpr_e | apply wpr_end0); focus ((try simp (disch := omega) only [push_cast, Nat.reduceEqDiff, ↓reduceIte, reduceCtorEq, Nat.reduceAdd, Nat.reduceMul, Nat.reduceLeDiff,  hset, hlc1, hloc, hr]); rfl))
       | refine wpr_pass0 rfl rfl ?_
       | refine wpr_pass0S rfl ?_
       | (apply wpr_end; (focus ((try simp (disch := omega) only [push_cast, Nat.reduceEqDiff, ↓reduceIte, reduceCtorEq, Nat.reduceAdd, Nat.reduceMul, Nat.reduceLeDiff,  hset, hlc1, hloc, hr]); rfl)); (focus (simp (disch := omega) only [push_cast, Nat.reduceEqDiff, ↓reduceIte, reduceCtorEq, Nat.reduceAdd, Nat.reduceMul, Nat.reduceLeDiff,  hset, hlc1, hloc, hr]; done)))
       | fail)
    | (show Wp _ _ _ _ _ _
       first
       | refine wp_seq ?_
       | refine wp_region0 ?_
       | refine wp_region ?_
       | refine wp_cond_t rfl ?_
       | refine wp_cond_f rfl ?_
       | refine wp_ret ?_
       | refine wp_skip ?_
       | refine wp_exit ?_
       | refine wp_block ?_
       | fail)
    | refine thenQ_norm ?_
    | refine thenQ_ret ?_
    | refine thenQ_exit ?_
    | refine blockQ_norm ?_
    | refine blockQ_ret ?_
    | refine blockQ_same ?_
    | refine blockQ_ne rfl ?_
    | refine loopQ_norm ?_
    | refine loopQ_ret ?_
    | refine loopQ_exit ?_
    | ((first | apply retQ_ret | apply retQ_norm | apply wpc_of); focus ((try simp (disch := omega) only [push_cast, Nat.reduceEqDiff, ↓reduceIte, reduceCtorEq, Nat.reduceAdd, Nat.reduceMul, Nat.reduceLeDiff,  hset, hlc1, hloc, hr]); rfl))
    | fail)
      · rename_i g
        have : ¬ ((i + j) / 2 - a).toNat < c := fun h => e2l h (e2.1 g)
        exact ⟨_, by omega, i, (i + j) / 2, rfl, by omega, by omega, by omega, by omega, rfl, rfl, rfl⟩
      · rename_i g
        have : ((i + j) / 2 - a).toNat < c := by
          apply Decidable.byContradiction
          intro h
          exact g (e2r (by omega))
        exact ⟨_, by omega, (i + j) / 2 + 1, j, rfl, by omega, by omega, by omega, by omega, rfl, rfl, rfl⟩
    · have hi : i = a + c := by omega
      have hl1 := hc.len
      have hok := hc.ok
      have hcl2 := hc.cells
      (repeat' first
    | (show WpR _ _ _ _ _ _ _ _ _
       first
       | refine wpr_drop ?_
       | refine wpr_p (o := .mv _) (by simp only [ev_mv, opd_s, opd_c, fget, Nat.reduceEqDiff, Nat.one_ne_zero, Nat.zero_ne_one, reduceCtorEq, ↓reduceIte]; rfl) ?_
       | (refine wpr_fork (fun _ => ?_) (fun _ => ?_) <;> try (exfalso; omega))
       | (refine wpr_forkN (fun _ => ?_) (fun _ => ?_) <;> try (exfalso; omega))
       | refine wpr_run rfl ?_
       | refine wpr_pass rfl rfl ?_
       | refine wpr_passS rfl ?_
       | ((first | apply wpr_p | apply wpr_r | apply wpr_callA | apply wpr_callA0 | apply wpr_e0 | apply wpr_e | apply wpr_end0); focus ((try simp (disch := omega) only [push_cast, Nat.reduceEqDiff, ↓reduceIte, reduceCtorEq, Nat.reduceAdd, Nat.reduceMul, Nat.reduceLeDiff,  hset, hlc1, hloc]); rfl))
       | refine wpr_pass0 rfl rfl ?_
       | refine wpr_pass0S rfl ?_
       | (apply wpr_end; (focus ((try simp (disch := omega) only [push_cast, Nat.reduceEqDiff, ↓reduceIte, reduceCtorEq, Nat.reduceAdd, Nat.reduceMul, Nat.reduceLeDiff,  hset, hlc1, hloc]); rfl)); (focus (simp (disch := omega) only [push_cast, Nat.reduceEqDiff, ↓reduceIte, reduceCtorEq, Nat.reduceAdd, Nat.reduceMul, Nat.reduceLeDiff,  hset, hlc1, hloc]; done)))
       | fail)
    | (show Wp _ _ _ _ _ _
       first
       | refine wp_seq ?_
       | refine wp_region0 ?_
       | refine wp_region ?_
       | refine wp_cond_t rfl ?_
       | refine wp_cond_f rfl ?_
       | refine wp_ret ?_
       | refine wp_skip ?_
       | refine wp_exit ?_
       | refine wp_block ?_
       | fail)
    | refine thenQ_norm ?_
    | refine thenQ_ret ?_
    | refine thenQ_exit ?_
    | refine blockQ_norm ?_
    | refine blockQ_ret ?_
    | refine blockQ_same ?_
    | refine blockQ_ne rfl ?_
    | refine loopQ_norm ?_
    | refine loopQ_ret ?_
    | refine loopQ_exit ?_
    | ((first | apply retQ_ret | apply retQ_norm | apply wpc_of); focus ((try simp (disch := omega) only [push_cast, Nat.reduceEqDiff, ↓reduceIte, reduceCtorEq, Nat.reduceAdd, Nat.reduceMul, Nat.reduceLeDiff,  hset, hlc1, hloc]); rfl))
    | fail)
      refine wp_loop (fun w fr lc h1 => ∃ (A B D : List α) (k : Int), w = A.length ∧ A ++ B = X.drop c ∧ D = P ++ X.take c ++ A ++ y :: B ++ S ∧ k = P.length + c + A.length ∧ fr = [(0, (q.s n).val 1), (14, .int .i64 i), (17, .int .i64 k)] ∧ lc = [] ∧ h1 = q.H enc D) (X.drop c).length
        ⟨X.drop c, [], D, m, rfl, by simp, by rw [hD]; simp only [List.append_assoc, List.cons_append, List.nil_append]; rw [← List.append_assoc (X.take c), List.take_append_drop], by rw [List.length_drop]; omega, rfl, rfl, rfl⟩ ?_
      rintro w fr lc h1 ⟨A, B, D', k, rfl, hAB, hD', hk, rfl, rfl, rfl⟩
      have hABl : A.length + B.length = X.length - c := by have := congrArg List.length hAB; simpa only [List.length_append, List.length_drop] using this
      rcases nil_or_snoc A with rfl | ⟨A, x, rfl⟩
      · simp only [List.length_nil] at hABl hk
        (repeat' first
    | (show WpR _ _ _ _ _ _ _ _ _
       first
       | refine wpr_drop ?_
       | refine wpr_p (o := .mv _) (by simp only [ev_mv, opd_s, opd_c, fget, Nat.reduceEqDiff, Nat.one_ne_zero, Nat.zero_ne_one, reduceCtorEq, ↓reduceIte]; rfl) ?_
       | (refine wpr_fork (fun _ => ?_) (fun _ => ?_) <;> try (exfalso; omega))
       | (refine wpr_forkN (fun _ => ?_) (fun _ => ?_) <;> try (exfalso; omega))
       | refine wpr_run rfl ?_
       | refine wpr_pass rfl rfl ?_
       | refine wpr_passS rfl ?_
       | ((first | apply wpr_p | apply wpr_r | apply wpr_callA | apply wpr_callA0 | apply wpr_e0 | apply wpr_e | apply wpr_end0); focus ((try simp (disch := omega) only [push_cast, Nat.reduceEqDiff, ↓reduceIte, reduceCtorEq, Nat.reduceAdd, Nat.reduceMul, Nat.reduceLeDiff,  hset, hlc1, hloc]); rfl))
       | refine wpr_pass0 rfl rfl ?_
       | refine wpr_pass0S rfl ?_
       | (apply wpr_end; (focus ((try simp (disch := omega) only [push_cast, Nat.reduceEqDiff, ↓reduceIte, reduceCtorEq, Nat.reduceAdd, Nat.reduceMul, Nat.reduceLeDiff,  hset, hlc1, hloc]); rfl)); (focus (simp (disch := omega) only [push_cast, Nat.reduceEqDiff, ↓reduceIte, reduceCtorEq, Nat.reduceAdd, Nat.reduceMul, Nat.reduceLeDiff,  hset, hlc1, hloc]; done)))
       | fail)
    | (show Wp _ _ _ _ _ _
       first
       | refine wp_seq ?_
       | refine wp_region0 ?_
       | refine wp_region ?_
       | refine wp_cond_t rfl ?_
       | refine wp_cond_f rfl ?_
       | refine wp_ret ?_
       | refine wp_skip ?_
       | refine wp_exit ?_
       | refine wp_block ?_
       | fail)
    | refine thenQ_norm ?_
    | refine thenQ_ret ?_
    | refine thenQ_exit ?_
    | refine blockQ_norm ?_
    | refine blockQ_ret ?_
    | refine blockQ_same ?_
    | refine blockQ_ne rfl ?_
    | refine loopQ_norm ?_
    | refine loopQ_ret ?_
    | refine loopQ_exit ?_
    | ((first | apply retQ_ret | apply retQ_norm | apply wpc_of); focus ((try simp (disch := omega) only [push_cast, Nat.reduceEqDiff, ↓reduceIte, reduceCtorEq, Nat.reduceAdd, Nat.reduceMul, Nat.reduceLeDiff,  hset, hlc1, hloc]); rfl))
    | fail)
        refine ⟨rfl, ?_⟩
        rw [hD', ← hAB]
        simp
      · simp only [List.length_append, List.length_cons, List.length_nil] at hABl hk
        have htc : (X.take c).length = c := by rw [List.length_take]; omega
        have hD'l : D'.length = n := by rw [hD']; simp only [List.length_append, List.length_cons, List.length_nil, htc]; omega
        have hr' := hc.rd hD'l
        have hw' := hc.wr hD'l
        have hw2' := hc.wr2 hD'l
        have hk2 : k = (P ++ X.take c ++ A).length + 1 := by simp only [List.length_append, htc]; omega
        obtain ⟨q1, q2, q3⟩ := swap_down (P := P ++ X.take c ++ A) (R := B ++ S) (x := y) (y := x) hk2
        have hD'2 : D' = (P ++ X.take c ++ A) ++ x :: y :: (B ++ S) := by rw [hD']; simp
        rw [← hD'2] at q1 q2 q3
        (repeat' first
    | (show WpR _ _ _ _ _ _ _ _ _
       first
       | refine wpr_drop ?_
       | refine wpr_p (o := .mv _) (by simp only [ev_mv, opd_s, opd_c, fget, Nat.reduceEqDiff, Nat.one_ne_zero, Nat.zero_ne_one, reduceCtorEq, ↓reduceIte]; rfl) ?_
       | (refine wpr_fork (fun _ => ?_) (fun _ => ?_) <;> try (exfalso; omega))
       | (refine wpr_forkN (fun _ => ?_) (fun _ => ?_) <;> try (exfalso; omega))
       | refine wpr_run rfl ?_
       | refine wpr_pass rfl rfl ?_
       | refine wpr_passS rfl ?_
       | ((first | apply wpr_p | apply wpr_r | apply wpr_callA | apply wpr_callA0 | apply wpr_e0 | apply wpr_e | apply wpr_end0); focus ((try simp (disch := omega) only [push_cast, Nat.reduceEqDiff, ↓reduceIte, reduceCtorEq, Nat.reduceAdd, Nat.reduceMul, Nat.reduceLeDiff,  hset, hlc1, hloc, hr', q1, q2, hw', hw2', hlen, hl1, hok, hcl2]); rfl))
       | refine wpr_pass0 rfl rfl ?_
       | refine wpr_pass0S rfl ?_
       | (apply wpr_end; (focus ((try simp (disch := omega) only [push_cast, Nat.reduceEqDiff, ↓reduceIte, reduceCtorEq, Nat.reduceAdd, Nat.reduceMul, Nat.reduceLeDiff,  hset, hlc1, hloc, hr', q1, q2, hw', hw2', hlen, hl1, hok, hcl2]); rfl)); (focus (simp (disch := omega) only [push_cast, Nat.reduceEqDiff, ↓reduceIte, reduceCtorEq, Nat.reduceAdd, Nat.reduceMul, Nat.reduceLeDiff,  hset, hlc1, hloc, hr', q1, q2, hw', hw2', hlen, hl1, hok, hcl2]; done)))
       | fail)
    | (show Wp _ _ _ _ _ _
       first
       | refine wp_seq ?_
       | refine wp_region0 ?_
       | refine wp_region ?_
       | refine wp_cond_t rfl ?_
       | refine wp_cond_f rfl ?_
       | refine wp_ret ?_
       | refine wp_skip ?_
       | refine wp_exit ?_
       | refine wp_block ?_
       | fail)
    | refine thenQ_norm ?_
    | refine thenQ_ret ?_
    | refine thenQ_exit ?_
    | refine blockQ_norm ?_
    | refine blockQ_ret ?_
    | refine blockQ_same ?_
    | refine blockQ_ne rfl ?_
    | refine loopQ_norm ?_
    | refine loopQ_ret ?_
    | refine loopQ_exit ?_
    | ((first | apply retQ_ret | apply retQ_norm | apply wpc_of); focus ((try simp (disch := omega) only [push_cast, Nat.reduceEqDiff, ↓reduceIte, reduceCtorEq, Nat.reduceAdd, Nat.reduceMul, Nat.reduceLeDiff,  hset, hlc1, hloc, hr', q1, q2, hw', hw2', hlen, hl1, hok, hcl2]); rfl))
    | fail)
        refine ⟨_, ?_, A, x :: B, _, k - 1, rfl, by rw [← hAB]; simp, by rw [q3]; simp, by omega, rfl, rfl, rfl⟩
        simp
end Go.Proofs.YtblmakgjdenpfaaDoor.AM
namespace Go.Proofs.YtblmakgjdenpfaaDoor.AM
open Go
variable {α : Type} [Inhabited α] {q : Pl} {enc : α → List Value} {val : α → Value} {cv : Value} {key : α → Int} {idx : α → Int}
theorem sorted_get {X : List α} (h : X.Pairwise (ltK key idx)) {i j : Nat} (hj : j < X.length) (hij : i < j) : ltK key idx (X[i]'(by omega)) X[j] := List.pairwise_iff_getElem.1 h _ _ _ _ hij
theorem part_two {X Y : List α} (hX : X.Pairwise (ltK key idx)) (hY : Y.Pairwise (ltK key idx)) {h u : Nat} (hu : u ≤ X.length) (huh : u ≤ h) (hh : h - u ≤ Y.length)
    (h1 : ∀ k, ∀ (a : k < X.length) (b : h - 1 - k < Y.length), k < u → k < h → ltK key idx X[k] Y[h - 1 - k]) (h2 : ∀ k, ∀ (a : k < X.length) (b : h - 1 - k < Y.length), u ≤ k → k < h → ltK key idx Y[h - 1 - k] X[k]) :
    ∀ x ∈ X.take u ++ Y.take (h - u), ∀ y ∈ X.drop u ++ Y.drop (h - u), ltK key idx x y := by
  intro x hx y hy
  rcases List.mem_append.1 hx with hx | hx <;> rcases List.mem_append.1 hy with hy | hy
  · rw [List.mem_take_iff_getElem] at hx
    rw [List.mem_drop_iff_getElem] at hy
    obtain ⟨i, hi, rfl⟩ := hx
    obtain ⟨j, hj, rfl⟩ := hy
    exact sorted_get (i := i) (j := u + j) hX (by omega) (by omega)
  · rw [List.mem_take_iff_getElem] at hx
    rw [List.mem_drop_iff_getElem] at hy
    obtain ⟨i, hi, rfl⟩ := hx
    obtain ⟨j, hj, rfl⟩ := hy
    have k1 := h1 (u - 1) (by omega) (by omega) (by omega) (by omega)
    have k2 : X[i]'(by omega) = X[u - 1]'(by omega) ∨ ltK key idx (X[i]'(by omega)) (X[u - 1]'(by omega)) := by
      rcases Nat.lt_or_ge i (u - 1) with g | g
      · exact .inr (sorted_get hX (by omega) g)
      · left; congr 1; omega
    have k3 : Y[h - 1 - (u - 1)]'(by omega) = Y[h - u + j] ∨ ltK key idx (Y[h - 1 - (u - 1)]'(by omega)) Y[h - u + j] := by
      rcases Nat.eq_zero_or_pos j with g | g
      · left; congr 1; omega
      · exact .inr (sorted_get (i := h - 1 - (u - 1)) (j := h - u + j) hY (by omega) (by omega))
    rcases k2 with k2 | k2 <;> rcases k3 with k3 | k3
    · rw [k2, ← k3]; exact k1
    · rw [k2]; exact ltK_trans k1 k3
    · rw [← k3]; exact ltK_trans k2 k1
    · exact ltK_trans k2 (ltK_trans k1 k3)
  · rw [List.mem_take_iff_getElem] at hx
    rw [List.mem_drop_iff_getElem] at hy
    obtain ⟨i, hi, rfl⟩ := hx
    obtain ⟨j, hj, rfl⟩ := hy
    have k1 := h2 u (by omega) (by omega) (by omega) (by omega)
    have k2 : Y[i]'(by omega) = Y[h - 1 - u]'(by omega) ∨ ltK key idx (Y[i]'(by omega)) (Y[h - 1 - u]'(by omega)) := by
      rcases Nat.lt_or_ge i (h - 1 - u) with g | g
      · exact .inr (sorted_get hY (by omega) g)
      · left; congr 1; omega
    have k3 : X[u]'(by omega) = X[u + j] ∨ ltK key idx (X[u]'(by omega)) X[u + j] := by
      rcases Nat.eq_zero_or_pos j with g | g
      · left; congr 1; omega
      · exact .inr (sorted_get (i := u) (j := u + j) hX (by omega) (by omega))
    rcases k2 with k2 | k2 <;> rcases k3 with k3 | k3
    · rw [k2, ← k3]; exact k1
    · rw [k2]; exact ltK_trans k1 k3
    · rw [← k3]; exact ltK_trans k2 k1
    · exact ltK_trans k2 (ltK_trans k1 k3)
  · rw [List.mem_take_iff_getElem] at hx
    rw [List.mem_drop_iff_getElem] at hy
    obtain ⟨i, hi, rfl⟩ := hx
    obtain ⟨j, hj, rfl⟩ := hy
    exact sorted_get (i := i) (j := h - u + j) hY (by omega) (by omega)
set_option maxHeartbeats 8000000 in
theorem merge_eq (hc : CmpS q enc val cv key) {n : Nat} (hn2 : n < 1000000000000) : ∀ (N : Nat) (P X Y S : List α) (a m b : Int), X.length + Y.length ≤ N → (P ++ X ++ Y ++ S).length = n → a = P.length → m = P.length + X.length → b = P.length + X.length + Y.length → 0 < X.length → 0 < Y.length →
    X.Pairwise (ltK key idx) → Y.Pairwise (ltK key idx) → (∀ x ∈ X, ∀ y ∈ Y, idx x < idx y) →
    ∃ Z : List α, Z.Perm (X ++ Y) ∧ Z.Pairwise (ltK key idx) ∧ callO PX 122 [(q.s n).val 1, .int .i64 a, .int .i64 m, .int .i64 b, cv] (q.H enc (P ++ X ++ Y ++ S)) = some (.tuple #[], q.H enc (P ++ Z ++ S)) := by
  intro N
  induction N with
  | zero => intros; omega
  | succ N ih =>
  intro P X Y S a m b hN hn ha hm hb hX0 hY0 hXs hYs hXY
  by_cases hX1 : X.length = 1
  · match X, hX1 with
    | [x], _ => exact merge_one hc hn hn2 ha hm (by simpa using hb) hYs (hXY x (by simp))
  by_cases hY1 : Y.length = 1
  · match Y, hY1 with
    | [y], _ => exact merge_last hc hn hn2 ha hm (by simpa using hb) hX1 hXs (fun x hx => hXY x hx y (by simp))
  have hlen : (q.s n).len = n := rfl
  have hset := hc.isF.set
  have hlc1 := hc.isF.lc1
  have hloc := hc.isF.loc
  have hn' := hn
  simp only [List.length_append] at hn'
  have hXYlt : ∀ i j (hi : i < X.length) (hj : j < Y.length), (key Y[j] < key X[i] ↔ ltK key idx Y[j] X[i]) ∧ (¬ key Y[j] < key X[i] ↔ ltK key idx X[i] Y[j]) := fun i j hi hj => by
    have := hXY _ (List.getElem_mem hi) _ (List.getElem_mem hj)
    exact ⟨ltK_key this, by unfold ltK; omega⟩
  obtain ⟨h, hh⟩ : ∃ h : Nat, h = (X.length + Y.length) / 2 + (if (P.length + P.length + X.length + Y.length) / 2 - P.length = (X.length + Y.length) / 2 then 0 else 0) := ⟨_, rfl⟩
  have hh2 : h = (X.length + Y.length) / 2 := by rw [hh]; split <;> rfl
  clear hh
  have hmid : (a + b) / 2 = a + h := by omega
  obtain ⟨lo, hi, hlo, hhi⟩ : ∃ lo hi : Nat, (lo = if h < X.length then h - Y.length else 0) ∧ (hi = if h < X.length then h else X.length) := ⟨_, _, rfl, rfl⟩
  obtain ⟨D, hD⟩ : ∃ D, D = P ++ X ++ Y ++ S := ⟨_, rfl⟩
  have hDl : D.length = n := by rw [hD, ← hn]
  have hr := hc.rd hDl
  have hdx : ∀ (i : Nat) (hi : i < X.length), ati D (a + i) = X[i] := fun i hi => by rw [hD, List.append_assoc (P ++ X)]; exact ati_ix i hi (by omega)
  have hdy : ∀ (i : Nat) (hi : i < Y.length), ati D (m + i) = Y[i] := fun i hi => by rw [hD]; exact ati_ix i hi (by simp only [List.length_append]; omega)
  suffices hw : WpC PX 122 [(q.s n).val 1, .int .i64 a, .int .i64 m, .int .i64 b, cv] (q.H enc D) fun v h1 => v = .tuple #[] ∧ ∃ Z : List α, Z.Perm (X ++ Y) ∧ Z.Pairwise (ltK key idx) ∧ h1 = q.H enc (P ++ Z ++ S) by
    obtain ⟨v, h1, e, rfl, Z, z1, z2, rfl⟩ := hw
    exact ⟨Z, z1, z2, hD ▸ e⟩
  refine wpc_fn (px_ext rfl) (px_fn fn_slices_symMergeCmpFunc_rune) rfl ?_
  unfold LF_slices_symMergeCmpFunc_rune
  simp only [argFr]
  obtain ⟨I, hI⟩ : ∃ I : Nat → Fr → Lc → AH → Prop, I = (fun w fr lc h1 => ∃ (u v : Nat) (s0 r0 : Int), w = v - u ∧ lo ≤ u ∧ u ≤ v ∧ v ≤ hi ∧ s0 = a + u ∧ r0 = a + v ∧
      (∀ k, lo ≤ k → k < u → ∀ (x : k < X.length) (y : h - 1 - k < Y.length), ltK key idx X[k] Y[h - 1 - k]) ∧ (∀ k, v ≤ k → k < hi → ∀ (x : k < X.length) (y : h - 1 - k < Y.length), ltK key idx Y[h - 1 - k] X[k]) ∧
      fr = [(0, (q.s n).val 1), (1, .int .i64 a), (2, .int .i64 m), (3, .int .i64 b), (4, cv), (18, .int .i64 (a + h)), (19, .int .i64 (a + h + m)), (20, .int .i64 s0), (21, .int .i64 r0), (22, .int .i64 (a + h + m - 1))] ∧ lc = [] ∧ h1 = q.H enc D) := ⟨_, rfl⟩
  by_cases hcase : h < X.length
  all_goals
    simp only [hcase, if_true, if_false] at hlo hhi
    (repeat' first
    | (show WpR _ _ _ _ _ _ _ _ _
       first
       | refine wpr_drop ?_
       | refine wpr_p (o := .mv _) (by simp only [ev_mv, opd_s, opd_c, fget, Nat.reduceEqDiff, Nat.one_ne_zero, Nat.zero_ne_one, reduceCtorEq, ↓reduceIte]; rfl) ?_
       | (refine wpr_fork (fun _ => ?_) (fun _ => ?_) <;> try (exfalso; omega))
       | (refine wpr_forkN (fun _ => ?_) (fun _ => ?_) <;> try (exfalso; omega))
       | refine wpr_run rfl ?_
       | refine wpr_pass rfl rfl ?_
       | refine wpr_passS rfl ?_
       | ((first | apply wpr_p | apply wpr_r | apply wpr_callA | apply wpr_callA0 | apply wpr_e0 | apply wpr_e | apply wpr_end0); focus ((try simp (disch := omega) only [push_cast, Nat.reduceEqDiff, ↓reduceIte, reduceCtorEq, Nat.reduceAdd, Nat.reduceMul, Nat.reduceLeDiff,  hset, hlc1, hloc, wrap_u64c, shr_onec, hmid]); rfl))
       | refine wpr_pass0 rfl rfl ?_
       | refine wpr_pass0S rfl ?_
       | (apply wpr_end; (focus ((try simp (disch := omega) only [push_cast, Nat.reduceEqDiff, ↓reduceIte, reduceCtorEq, Nat.reduceAdd, Nat.reduceMul, Nat.reduceLeDiff,  hset, hlc1, hloc, wrap_u64c, shr_onec, hmid]); rfl)); (focus (simp (disch := omega) only [push_cast, Nat.reduceEqDiff, ↓reduceIte, reduceCtorEq, Nat.reduceAdd, Nat.reduceMul, Nat.reduceLeDiff,  hset, hlc1, hloc, wrap_u64c, shr_onec, hmid]; done)))
       | fail)
    | (show Wp _ _ _ _ _ _
       first
       | refine wp_seq ?_
       | refine wp_region0 ?_
       | refine wp_region ?_
       | refine wp_cond_t rfl ?_
       | refine wp_cond_f rfl ?_
       | refine wp_ret ?_
       | refine wp_skip ?_
       | refine wp_exit ?_
       | refine wp_block ?_
       | fail)
    | refine thenQ_norm ?_
    | refine thenQ_ret ?_
    | refine thenQ_exit ?_
    | refine blockQ_norm ?_
    | refine blockQ_ret ?_
    | refine blockQ_same ?_
    | refine blockQ_ne rfl ?_
    | refine loopQ_norm ?_
    | refine loopQ_ret ?_
    | refine loopQ_exit ?_
    | ((first | apply retQ_ret | apply retQ_norm | apply wpc_of); focus ((try simp (disch := omega) only [push_cast, Nat.reduceEqDiff, ↓reduceIte, reduceCtorEq, Nat.reduceAdd, Nat.reduceMul, Nat.reduceLeDiff,  hset, hlc1, hloc, wrap_u64c, shr_onec, hmid]); rfl))
    | fail)
    refine wp_loop I (hi - lo) (by
      rw [hI]
      exact ⟨lo, hi, _, _, rfl, Nat.le_refl _, by omega, Nat.le_refl _, by omega, by omega, by intros; omega, by intros; omega, rfl, rfl, rfl⟩) ?_
    rw [hI]
    clear hI I
    rintro w fr lc h1 ⟨u, v, s0, r0, rfl, hu1, huv, hv1, hs0, hr0, hp1, hp2, rfl, rfl, rfl⟩
    by_cases huv2 : u < v
    · obtain ⟨k, hk⟩ : ∃ k : Nat, k = (u + v) / 2 := ⟨_, rfl⟩
      have hck : (s0 + r0) / 2 = a + k := by omega
      have hkX : k < X.length := by omega
      have hkY : h - 1 - k < Y.length := by omega
      have e1 := hdx k hkX
      have e2 := hdy (h - 1 - k) hkY
      rw [show m + ((h - 1 - k : Nat) : Int) = a + h + m - 1 - (a + k) by omega] at e2
      obtain ⟨mm, c1, c2, c3, c4⟩ := hc.run (ati D (a + h + m - 1 - (a + k))) (ati D (a + k)) D
      rw [hc.vw, hc.vw] at c1
      rw [e1, e2] at c2
      obtain ⟨t1, t2⟩ := hXYlt k (h - 1 - k) hkX hkY
      (repeat' first
    | (show WpR _ _ _ _ _ _ _ _ _
       first
       | refine wpr_drop ?_
       | refine wpr_p (o := .mv _) (by simp only [ev_mv, opd_s, opd_c, fget, Nat.reduceEqDiff, Nat.one_ne_zero, Nat.zero_ne_one, reduceCtorEq, ↓reduceIte]; rfl) ?_
       | (refine wpr_fork (fun _ => ?_) (fun _ => ?_) <;> try (exfalso; omega))
       | (refine wpr_forkN (fun _ => ?_) (fun _ => ?_) <;> try (exfalso; omega))
       | refine wpr_run rfl ?_
       | refine wpr_pass rfl rfl ?_
       | refine wpr_passS rfl ?_
       | ((first | apply wpr_p | apply wpr_r | apply wpr_callA | apply wpr_callA0 | apply wpr_e0 | apply wpr_e | apply wpr_end0); focus ((try simp (disch := omega) only [push_cast, Nat.reduceEqDiff, ↓reduceIte, reduceCtorEq, Nat.reduceAdd, Nat.reduceMul, Nat.reduceLeDiff,  hset, hlc1, hloc, hr, hlen, wrap_u64c, shr_onec, hck]); rfl))
       | refine wpr_pass0 rfl rfl ?_
       | refine wpr_pass0S rfl ?_
       | (apply wpr_end; (focus ((try simp (disch := omega) only [push_cast, Nat.reduceEqDiff, ↓reduceIte, reduceCtorEq, Nat.reduceAdd, Nat.reduceMul, Nat.reduceLeDiff,  hset, hlc1, hloc, hr, hlen, wrap_u64c, shr_onec, hck]); rfl)); (focus (simp (disch := omega) only [push_cast, Nat.reduceEqDiff, ↓reduceIte, reduceCtorEq, Nat.reduceAdd, Nat.reduceMul, Nat.reduceLeDiff,  hset, hlc1, hloc, hr, hlen, wrap_u64c, shr_onec, hck]; done)))
       | fail)
    | (show Wp _ _ _ _ _ _
       first
       | refine wp_seq ?_
       | refine wp_region0 ?_
       | refine wp_region ?_
       | refine wp_cond_t rfl ?_
       | refine wp_cond_f rfl ?_
       | refine wp_ret ?_
       | refine wp_skip ?_
       | refine wp_exit ?_
       | refine wp_block ?_
       | fail)
    | refine thenQ_norm ?_
    | refine thenQ_ret ?_
    | refine thenQ_exit ?_
    | refine blockQ_norm ?_
    | refine blockQ_ret ?_
    | refine blockQ_same ?_
    | refine blockQ_ne rfl ?_
    | refine loopQ_norm ?_
    | refine loopQ_ret ?_
    | refine loopQ_exit ?_
    | ((first | apply retQ_ret | apply retQ_norm | apply wpc_of); focus ((try simp (disch := omega) only [push_cast, Nat.reduceEqDiff, ↓reduceIte, reduceCtorEq, Nat.reduceAdd, Nat.reduceMul, Nat.reduceLeDiff,  hset, hlc1, hloc, hr, hlen, wrap_u64c, shr_onec, hck]); rfl))
    | fail)
      refine wpr_callV (fv := cv) rfl rfl (by first | rfl | simp only [List.all_cons, List.all_nil, hc.okv, Bool.and_self] | (simp (disch := omega) only [push_cast, Nat.reduceEqDiff, ↓reduceIte, reduceCtorEq, Nat.reduceAdd, Nat.reduceMul, Nat.reduceLeDiff, opds, List.all_cons, List.all_nil, hc.okv, Bool.and_self]; done) | fail) ?_
      refine ⟨_, _, c1, ?_⟩
      (repeat' first
    | (show WpR _ _ _ _ _ _ _ _ _
       first
       | refine wpr_drop ?_
       | refine wpr_p (o := .mv _) (by simp only [ev_mv, opd_s, opd_c, fget, Nat.reduceEqDiff, Nat.one_ne_zero, Nat.zero_ne_one, reduceCtorEq, ↓reduceIte]; rfl) ?_
       | (refine wpr_fork (fun _ => ?_) (fun _ => ?_) <;> try (exfalso; omega))
       | (refine wpr_forkN (fun _ => ?_) (fun _ => ?_) <;> try (exfalso; omega))
       | refine wpr_run rfl ?_
       | refine wpr_pass rfl rfl ?_
       | refine wpr_passS rfl ?_
       | ((first | apply wpr_p | apply wpr_r | apply wpr_callA | apply wpr_callA0 | apply wpr_e0 | apply wpr_e | apply wpr_end0); focus ((try simp (disch := omega) only [push_cast, Nat.reduceEqDiff, ↓reduceIte, reduceCtorEq, Nat.reduceAdd, Nat.reduceMul, Nat.reduceLeDiff,  hset, hlc1, hloc, hr]); rfl))
       | refine wpr_pass0 rfl rfl ?_
       | refine wpr_pass0S rfl ?_
       | (apply wpr_end; (focus ((try simp (disch := omega) only [push_cast, Nat.reduceEqDiff, ↓reduceIte, reduceCtorEq, Nat.reduceAdd, Nat.reduceMul, Nat.reduceLeDiff,  hset, hlc1, hloc, hr]); rfl)); (focus (simp (disch := omega) only [push_cast, Nat.reduceEqDiff, ↓reduceIte, reduceCtorEq, Nat.reduceAdd, Nat.reduceMul, Nat.reduceLeDiff,  hset, hlc1, hloc, hr]; done)))
       | fail)
    | (show Wp _ _ _ _ _ _
       first
       | refine wp_seq ?_
       | refine wp_region0 ?_
       | refine wp_region ?_
       | refine wp_cond_t rfl ?_
       | refine wp_cond_f rfl ?_
       | refine wp_ret ?_
       | refine wp_skip ?_
       | refine wp_exit ?_
       | refine wp_block ?_
       | fail)
    | refine thenQ_norm ?_
    | refine thenQ_ret ?_
    | refine thenQ_exit ?_
    | refine blockQ_norm ?_
    | refine blockQ_ret ?_
    | refine blockQ_same ?_
    | refine blockQ_ne rfl ?_
    | refine loopQ_norm ?_
    | refine loopQ_ret ?_
    | refine loopQ_exit ?_
    | ((first | apply retQ_ret | apply retQ_norm | apply wpc_of); focus ((try simp (disch := omega) only [push_cast, Nat.reduceEqDiff, ↓reduceIte, reduceCtorEq, Nat.reduceAdd, Nat.reduceMul, Nat.reduceLeDiff,  hset, hlc1, hloc, hr]); rfl))
    | fail)
      · rename_i g
        have hlt := t1.1 (c2.1 g)
        refine ⟨k - u, by omega, u, k, s0, a + k, rfl, hu1, by omega, by omega, hs0, rfl, hp1, fun z z1 z2 x y => ?_, rfl, rfl, rfl⟩
        rcases Nat.eq_or_lt_of_le z1 with rfl | g1
        · exact hlt
        · have w1 := sorted_get (i := k) (j := z) hXs (by omega) g1
          rcases Nat.eq_or_lt_of_le (show h - 1 - z ≤ h - 1 - k by omega) with g2 | g2
          · omega
          · have w2 := sorted_get (i := h - 1 - z) (j := h - 1 - k) hYs (by omega) g2
            exact ltK_trans w2 (ltK_trans hlt w1)
      · rename_i g
        have hlt := t2.1 (fun x => g (c2.2 x))
        refine ⟨v - (k + 1), by omega, k + 1, v, a + k + 1, r0, rfl, by omega, by omega, hv1, by omega, hr0, fun z z1 z2 x y => ?_, hp2, rfl, rfl, rfl⟩
        rcases Nat.eq_or_lt_of_le (show z ≤ k by omega) with rfl | g1
        · exact hlt
        · have w1 := sorted_get (i := z) (j := k) hXs (by omega) g1
          have w2 := sorted_get (i := h - 1 - k) (j := h - 1 - z) hYs (by omega) (by omega)
          exact ltK_trans w1 (ltK_trans hlt w2)
    · have hvu : v = u := by omega
      subst hvu
      have hs0r : r0 = s0 := by omega
      subst hs0r
      have huX : v ≤ X.length := by omega
      have huh : v ≤ h := by omega
      have hhY : h - v ≤ Y.length := by omega
      have hlow := part_two hXs hYs huX huh hhY (fun k k1 k2 k3 k4 => by
        rcases Nat.lt_or_ge k lo with g | g
        · omega
        · exact hp1 k g k3 k1 k2) (fun k k1 k2 k3 k4 => hp2 k k3 (by omega) k1 k2)
      obtain ⟨X1, hX1e⟩ : ∃ X1, X1 = X.take v := ⟨_, rfl⟩
      obtain ⟨X2, hX2e⟩ : ∃ X2, X2 = X.drop v := ⟨_, rfl⟩
      obtain ⟨Y1, hY1e⟩ : ∃ Y1, Y1 = Y.take (h - v) := ⟨_, rfl⟩
      obtain ⟨Y2, hY2e⟩ : ∃ Y2, Y2 = Y.drop (h - v) := ⟨_, rfl⟩
      have hXe : X = X1 ++ X2 := by rw [hX1e, hX2e, List.take_append_drop]
      have hYe : Y = Y1 ++ Y2 := by rw [hY1e, hY2e, List.take_append_drop]
      have lX1 : X1.length = v := by rw [hX1e, List.length_take]; omega
      have lX2 : X2.length = X.length - v := by rw [hX2e, List.length_drop]
      have lY1 : Y1.length = h - v := by rw [hY1e, List.length_take]; omega
      have lY2 : Y2.length = Y.length - (h - v) := by rw [hY2e, List.length_drop]
      rw [← hX1e, ← hX2e, ← hY1e, ← hY2e] at hlow
      have sX1 : X1.Pairwise (ltK key idx) := by rw [hX1e]; exact hXs.sublist (List.take_sublist _ _)
      have sX2 : X2.Pairwise (ltK key idx) := by rw [hX2e]; exact hXs.sublist (List.drop_sublist _ _)
      have sY1 : Y1.Pairwise (ltK key idx) := by rw [hY1e]; exact hYs.sublist (List.take_sublist _ _)
      have sY2 : Y2.Pairwise (ltK key idx) := by rw [hY2e]; exact hYs.sublist (List.drop_sublist _ _)
      have mX1 : ∀ x ∈ X1, x ∈ X := fun x hx => by rw [hXe]; simp [hx]
      have mX2 : ∀ x ∈ X2, x ∈ X := fun x hx => by rw [hXe]; simp [hx]
      have mY1 : ∀ x ∈ Y1, x ∈ Y := fun x hx => by rw [hYe]; simp [hx]
      have mY2 : ∀ x ∈ Y2, x ∈ Y := fun x hx => by rw [hYe]; simp [hx]
      clear hX1e hX2e hY1e hY2e
      have hrot : 0 < X2.length → 0 < Y1.length → callO PX 135 [(q.s n).val 1, .int .i64 r0, .int .i64 m, .int .i64 (a + h + m - r0), cv] (q.H enc D) = some (.tuple #[], q.H enc (P ++ X1 ++ Y1 ++ (X2 ++ Y2 ++ S))) := fun p1 p2 => by
        have := rotate_eq hc (P := P ++ X1) (U := X2) (V := Y1) (S := Y2 ++ S) (n := n) (a := r0) (m := m) (b := a + h + m - r0) (by simp only [List.length_append]; omega) hn2 (by simp only [List.length_append]; omega) (by simp only [List.length_append]; omega) (by simp only [List.length_append]; omega) p1 p2
        have eD : D = P ++ X1 ++ X2 ++ Y1 ++ (Y2 ++ S) := by rw [hD, hXe, hYe]; simp only [List.append_assoc]
        rw [eD, this]
        simp only [List.append_assoc]
      have hnrot : ¬ (0 < X2.length ∧ 0 < Y1.length) → D = P ++ X1 ++ Y1 ++ (X2 ++ Y2 ++ S) := fun g => by
        rw [hD, hXe, hYe]
        rcases Nat.eq_zero_or_pos X2.length with g1 | g1
        · rw [List.eq_nil_of_length_eq_zero g1]; simp
        · rw [List.eq_nil_of_length_eq_zero (l := Y1) (by omega)]; simp
      obtain ⟨Z1, p1, s1, c1, n1⟩ : ∃ Z1 : List α, Z1.Perm (X1 ++ Y1) ∧ Z1.Pairwise (ltK key idx) ∧ (0 < X1.length ∧ 0 < Y1.length → callO PX 122 [(q.s n).val 1, .int .i64 a, .int .i64 r0, .int .i64 (a + h), cv] (q.H enc (P ++ X1 ++ Y1 ++ (X2 ++ Y2 ++ S))) = some (.tuple #[], q.H enc (P ++ Z1 ++ (X2 ++ Y2 ++ S)))) ∧ (¬ (0 < X1.length ∧ 0 < Y1.length) → Z1 = X1 ++ Y1) := by
        by_cases g : 0 < X1.length ∧ 0 < Y1.length
        · obtain ⟨Z, z1, z2, z3⟩ := ih P X1 Y1 (X2 ++ Y2 ++ S) a r0 (a + h) (by omega) (by simp only [List.length_append]; omega) ha (by omega) (by omega) g.1 g.2 sX1 sY1 (fun x hx y hy => hXY x (mX1 x hx) y (mY1 y hy))
          exact ⟨Z, z1, z2, fun _ => z3, fun h => absurd g h⟩
        · refine ⟨X1 ++ Y1, .refl _, ?_, fun h => absurd h g, fun _ => rfl⟩
          rcases Nat.eq_zero_or_pos X1.length with g1 | g1
          · rw [List.eq_nil_of_length_eq_zero g1]; exact sY1
          · rw [List.eq_nil_of_length_eq_zero (l := Y1) (by omega), List.append_nil]; exact sX1
      have lZ1 : Z1.length = h := by rw [p1.length_eq, List.length_append]; omega
      obtain ⟨Z2, p2, s2, c2, n2⟩ : ∃ Z2 : List α, Z2.Perm (X2 ++ Y2) ∧ Z2.Pairwise (ltK key idx) ∧ (0 < X2.length ∧ 0 < Y2.length → callO PX 122 [(q.s n).val 1, .int .i64 (a + h), .int .i64 (a + h + m - r0), .int .i64 b, cv] (q.H enc (P ++ Z1 ++ (X2 ++ Y2 ++ S))) = some (.tuple #[], q.H enc (P ++ (Z1 ++ Z2) ++ S))) ∧ (¬ (0 < X2.length ∧ 0 < Y2.length) → Z2 = X2 ++ Y2) := by
        by_cases g : 0 < X2.length ∧ 0 < Y2.length
        · obtain ⟨Z, z1, z2, z3⟩ := ih (P ++ Z1) X2 Y2 S (a + h) (a + h + m - r0) b (by omega) (by simp only [List.length_append]; omega) (by simp only [List.length_append]; omega) (by simp only [List.length_append]; omega) (by simp only [List.length_append]; omega) g.1 g.2 sX2 sY2 (fun x hx y hy => hXY x (mX2 x hx) y (mY2 y hy))
          refine ⟨Z, z1, z2, fun _ => ?_, fun h => absurd g h⟩
          have e1 : P ++ Z1 ++ (X2 ++ Y2 ++ S) = P ++ Z1 ++ X2 ++ Y2 ++ S := by simp only [List.append_assoc]
          rw [e1, z3]
          simp only [List.append_assoc]
        · refine ⟨X2 ++ Y2, .refl _, ?_, fun h => absurd h g, fun _ => rfl⟩
          rcases Nat.eq_zero_or_pos X2.length with g1 | g1
          · rw [List.eq_nil_of_length_eq_zero g1]; exact sY2
          · rw [List.eq_nil_of_length_eq_zero (l := Y2) (by omega), List.append_nil]; exact sX2
      have hfin : (Z1 ++ Z2).Perm (X ++ Y) ∧ (Z1 ++ Z2).Pairwise (ltK key idx) := by
        refine ⟨?_, List.pairwise_append.2 ⟨s1, s2, fun x hx y hy => ?_⟩⟩
        · rw [hXe, hYe]
          refine (p1.append p2).trans ?_
          simp only [List.append_assoc]
          refine List.Perm.append_left _ ?_
          rw [← List.append_assoc, ← List.append_assoc]
          exact List.Perm.append_right _ List.perm_append_comm
        · refine hlow x ?_ y ?_
          · have := p1.mem_iff.1 hx; simpa using this
          · have := p2.mem_iff.1 hy; simpa using this
      have hn1 : ¬ (0 < X1.length ∧ 0 < Y1.length) → P ++ X1 ++ Y1 ++ (X2 ++ Y2 ++ S) = P ++ Z1 ++ (X2 ++ Y2 ++ S) := fun g => by rw [n1 g]; simp only [List.append_assoc]
      have hn2' : ¬ (0 < X2.length ∧ 0 < Y2.length) → P ++ Z1 ++ (X2 ++ Y2 ++ S) = P ++ (Z1 ++ Z2) ++ S := fun g => by rw [n2 g]; simp only [List.append_assoc]
      by_cases g0 : 0 < X2.length ∧ 0 < Y1.length
      all_goals by_cases g1 : 0 < X1.length ∧ 0 < Y1.length
      all_goals by_cases g2 : 0 < X2.length ∧ 0 < Y2.length
      all_goals
        first | (have q0 := hrot g0.1 g0.2) | (have q0 := hnrot g0)
        first | (have q1 := c1 g1) | (have q1 := hn1 g1)
        first | (have q2 := c2 g2) | (have q2 := hn2' g2)
        (repeat' first
    | (show WpR _ _ _ _ _ _ _ _ _
       first
       | refine wpr_drop ?_
       | refine wpr_p (o := .mv _) (by simp only [ev_mv, opd_s, opd_c, fget, Nat.reduceEqDiff, Nat.one_ne_zero, Nat.zero_ne_one, reduceCtorEq, ↓reduceIte]; rfl) ?_
       | (refine wpr_fork (fun _ => ?_) (fun _ => ?_) <;> try (exfalso; omega))
       | (refine wpr_forkN (fun _ => ?_) (fun _ => ?_) <;> try (exfalso; omega))
       | refine wpr_run rfl ?_
       | refine wpr_pass rfl rfl ?_
       | refine wpr_passS rfl ?_
       | ((first | apply wpr_p | apply wpr_r | apply wpr_callA | apply wpr_callA0 | apply wpr_e0 | apply wpr_e | apply wpr_end0); focus ((try simp (disch := omega) only [push_cast, Nat.reduceEqDiff, ↓reduceIte, reduceCtorEq, Nat.reduceAdd, Nat.reduceMul, Nat.reduceLeDiff,  hset, hlc1, hloc, q0, q1, q2]); rfl))
       | refine wpr_pass0 rfl rfl ?_
       | refine wpr_pass0S rfl ?_
       | (apply wpr_end; (focus ((try simp (disch := omega) only [push_cast, Nat.reduceEqDiff, ↓reduceIte, reduceCtorEq, Nat.reduceAdd, Nat.reduceMul, Nat.reduceLeDiff,  hset, hlc1, hloc, q0, q1, q2]); rfl)); (focus (simp (disch := omega) only [push_cast, Nat.reduceEqDiff, ↓reduceIte, reduceCtorEq, Nat.reduceAdd, Nat.reduceMul, Nat.reduceLeDiff,  hset, hlc1, hloc, q0, q1, q2]; done)))
       | fail)
    | (show Wp _ _ _ _ _ _
       first
       | refine wp_seq ?_
       | refine wp_region0 ?_
       | refine wp_region ?_
       | refine wp_cond_t rfl ?_
       | refine wp_cond_f rfl ?_
       | refine wp_ret ?_
       | refine wp_skip ?_
       | refine wp_exit ?_
       | refine wp_block ?_
       | fail)
    | refine thenQ_norm ?_
    | refine thenQ_ret ?_
    | refine thenQ_exit ?_
    | refine blockQ_norm ?_
    | refine blockQ_ret ?_
    | refine blockQ_same ?_
    | refine blockQ_ne rfl ?_
    | refine loopQ_norm ?_
    | refine loopQ_ret ?_
    | refine loopQ_exit ?_
    | ((first | apply retQ_ret | apply retQ_norm | apply wpc_of); focus ((try simp (disch := omega) only [push_cast, Nat.reduceEqDiff, ↓reduceIte, reduceCtorEq, Nat.reduceAdd, Nat.reduceMul, Nat.reduceLeDiff,  hset, hlc1, hloc, q0, q1, q2]); rfl))
    | fail)
        all_goals first | exact ⟨rfl, _, hfin.1, hfin.2, rfl⟩ | exact ⟨rfl, _, hfin.1, hfin.2, by rw [q0, q1, q2]⟩
end Go.Proofs.YtblmakgjdenpfaaDoor.AM
