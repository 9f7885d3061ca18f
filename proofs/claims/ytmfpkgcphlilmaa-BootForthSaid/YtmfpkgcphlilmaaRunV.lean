/- utf.Valid of a valid text. -/
import Derived.Test.YtmfpkgcphlilmaaBootK
import Derived.Test.YtmfpkgcphlilmaaBL4
set_option linter.unusedVariables false
set_option linter.unusedSimpArgs false
namespace Go.Proofs.Ytmfpkgcphlilmaa.AM
open Go

theorem valid_spec (x : ByteArray) (hx : x.size ≤ 140737488351232) (hv : validB x.data.toList = true) (h : AH) :
    WpC PX 25 [.string x] h fun v h' => v = .tuple (List.toArray [.agg (List.toArray [.int .i64 0, .int .i64 0]), .bool true]) ∧ h.n ≤ h'.n ∧ ∀ b, b < h.n → h'.get b = h.get b := by
  have e2 := fun h => spotsMk_eq x h
  have hseq := spots_seq x (h.n + 3) hx
  refine wpc_fn (px_ext rfl) (px_fn fn_utf_Valid) rfl ?_
  unfold LF_utf_Valid
  simp only [argFr]
  (repeat' first
    | (show WpR _ _ _ _ _ _ _ _ _
       first
       | refine wpr_drop ?_
       | refine wpr_p (o := .mv _) (by simp only [ev_mv, opd_s, opd_c, fget, Nat.reduceEqDiff, Nat.one_ne_zero, Nat.zero_ne_one, reduceCtorEq, ↓reduceIte]; rfl) ?_
       | (refine wpr_fork (fun _ => ?_) (fun _ => ?_) <;> try (exfalso; omega))
       | (refine wpr_forkN (fun _ => ?_) (fun _ => ?_) <;> try (exfalso; omega))
       | refine wpr_run rfl ?_
       | refine wpr_pass rfl rfl ?_
       | refine wpr_passS rfl ?_
       | ((first | apply wpr_p | apply wpr_r | apply wpr_callA | apply wpr_callA0 | apply wpr_e0 | apply wpr_e | apply wpr_end0); focus ((try simp (disch := first | omega | (simp only [AH.nn_push, AH.nn_set, AH.nn_kill]; omega) | (simp only [AH.nn_push, AH.nn_set, AH.nn_kill]; done) | fail) only [push_cast, Nat.reduceEqDiff, ↓reduceIte, reduceCtorEq, Nat.reduceAdd, Nat.reduceMul, Nat.reduceLeDiff, AH.get_push_eq, AH.get_push_ne, AH.get_set_eq, AH.get_set_ne, AH.push_n, AH.set_n, e2]); rfl))
       | refine wpr_pass0 rfl rfl ?_
       | refine wpr_pass0S rfl ?_
       | (apply wpr_callvA; focus ((try simp (disch := first | omega | (simp only [AH.nn_push, AH.nn_set, AH.nn_kill]; omega) | (simp only [AH.nn_push, AH.nn_set, AH.nn_kill]; done) | fail) only [push_cast, Nat.reduceEqDiff, ↓reduceIte, reduceCtorEq, Nat.reduceAdd, Nat.reduceMul, Nat.reduceLeDiff, AH.get_push_eq, AH.get_push_ne, AH.get_set_eq, AH.get_set_ne, AH.push_n, AH.set_n, e2]); rfl))
       | (apply wpr_end; (focus ((try simp (disch := first | omega | (simp only [AH.nn_push, AH.nn_set, AH.nn_kill]; omega) | (simp only [AH.nn_push, AH.nn_set, AH.nn_kill]; done) | fail) only [push_cast, Nat.reduceEqDiff, ↓reduceIte, reduceCtorEq, Nat.reduceAdd, Nat.reduceMul, Nat.reduceLeDiff, AH.get_push_eq, AH.get_push_ne, AH.get_set_eq, AH.get_set_ne, AH.push_n, AH.set_n, e2]); rfl)); (focus (simp (disch := first | omega | (simp only [AH.nn_push, AH.nn_set, AH.nn_kill]; omega) | (simp only [AH.nn_push, AH.nn_set, AH.nn_kill]; done) | fail) only [push_cast, Nat.reduceEqDiff, ↓reduceIte, reduceCtorEq, Nat.reduceAdd, Nat.reduceMul, Nat.reduceLeDiff, AH.get_push_eq, AH.get_push_ne, AH.get_set_eq, AH.get_set_ne, AH.push_n, AH.set_n, e2]; done)))
       | fail)
    | (show Wp _ _ _ _ _ _
       first
       | refine wp_seq ?_
       | refine wp_region0 ?_
       | refine wp_region ?_
       | refine wp_cond_t rfl ?_
       | refine wp_cond_f rfl ?_
       | refine wp_ret ?_
       | refine wp_skip ?_
       | refine wp_exit ?_
       | refine wp_block ?_
       | fail)
    | refine thenQ_norm ?_
    | refine thenQ_ret ?_
    | refine thenQ_exit ?_
    | refine blockQ_norm ?_
    | refine blockQ_ret ?_
    | refine blockQ_same ?_
    | refine blockQ_ne rfl ?_
    | refine loopQ_norm ?_
    | refine loopQ_ret ?_
    | refine loopQ_exit ?_
    | ((first | apply retQ_ret | apply retQ_norm | apply wpc_of); focus ((try simp (disch := first | omega | (simp only [AH.nn_push, AH.nn_set, AH.nn_kill]; omega) | (simp only [AH.nn_push, AH.nn_set, AH.nn_kill]; done) | fail) only [push_cast, Nat.reduceEqDiff, ↓reduceIte, reduceCtorEq, Nat.reduceAdd, Nat.reduceMul, Nat.reduceLeDiff, AH.get_push_eq, AH.get_push_ne, AH.get_set_eq, AH.get_set_ne, AH.push_n, AH.set_n, e2]); rfl))
    | fail)
  generalize hH0 : ((((h.push (AObj.cells false [Value.int IntKind.i64 0, Value.int IntKind.i64 0])).push (AObj.cells false [Value.bool false])).push (AObj.cells false [Value.int IntKind.i64 0])).set (h.n + 1 + 1) (AObj.cells false [Value.int IntKind.i64 0])).push (AObj.cells false [Value.string x]) = H0
  have n0 : H0.n = h.n + 4 := by rw [← hH0]; simp only [AH.nn_push, AH.nn_set]
  have a0 : H0.get h.n = some (.cells false [.int .i64 0, .int .i64 0]) := by rw [← hH0]; simp (disch := first | omega | (simp only [AH.nn_push, AH.nn_set, AH.nn_kill]; omega) | (simp only [AH.nn_push, AH.nn_set, AH.nn_kill]; done) | fail) only [AH.get_push_eq, AH.get_push_ne, AH.get_set_eq, AH.get_set_ne]
  have a1 : H0.get (h.n + 1) = some (.cells false [.bool false]) := by rw [← hH0]; simp (disch := first | omega | (simp only [AH.nn_push, AH.nn_set, AH.nn_kill]; omega) | (simp only [AH.nn_push, AH.nn_set, AH.nn_kill]; done) | fail) only [AH.get_push_eq, AH.get_push_ne, AH.get_set_eq, AH.get_set_ne]
  have a2 : H0.get (h.n + 2) = some (.cells false [.int .i64 0]) := by rw [← hH0]; simp (disch := first | omega | (simp only [AH.nn_push, AH.nn_set, AH.nn_kill]; omega) | (simp only [AH.nn_push, AH.nn_set, AH.nn_kill]; done) | fail) only [AH.get_push_eq, AH.get_push_ne, AH.get_set_eq, AH.get_set_ne]
  have a3 : H0.get (h.n + 3) = some (.cells false [.string x]) := by rw [← hH0]; simp (disch := first | omega | (simp only [AH.nn_push, AH.nn_set, AH.nn_kill]; omega) | (simp only [AH.nn_push, AH.nn_set, AH.nn_kill]; done) | fail) only [AH.get_push_eq, AH.get_push_ne, AH.get_set_eq, AH.get_set_ne]
  have ak : ∀ b, b < h.n → H0.get b = h.get b := fun b hb => by rw [← hH0]; simp (disch := first | omega | (simp only [AH.nn_push, AH.nn_set, AH.nn_kill]; omega) | (simp only [AH.nn_push, AH.nn_set, AH.nn_kill]; done) | fail) only [AH.get_push_eq, AH.get_push_ne, AH.get_set_eq, AH.get_set_ne]
  clear hH0
  refine wp_rangeP (xs := spotsL x.data.toList) (enc := spotE) (D := fun h1 => h1.get (h.n + 3) = some (.cells false [.string x])) rfl hseq (fun _ => rfl)
    (fun i h1 => (∀ b, b < h.n → h1.get b = h.get b) ∧ h.n + 4 ≤ h1.n ∧ h1.get h.n = some (.cells false [.int .i64 0, .int .i64 0]) ∧ h1.get (h.n + 1) = some (.cells false [.bool false]) ∧ h1.get (h.n + 2) = some (.cells false [.int .i64 i]) ∧ h1.get (h.n + 3) = some (.cells false [.string x]))
    (fun ex h1 => False)
    (fun y => [(2, .pointer (some ⟨h.n, 0, none⟩)), (3, .pointer (some ⟨h.n + 1, 0, none⟩)), (4, .pointer (some ⟨h.n + 2, 0, none⟩)), (5, .int .i64 y.1), (6, .pointer (some ⟨12, 0, some 1⟩))]) (fun y => [(12, .cells false [.int .i32 y.2.1, .int .i64 y.2.2, .bool (isBad2 y.2)])]) ?_ ?_ ?_ ?_ ?_ ?_ ?_ ?_
  · rw [n0]
    rintro i h1 h2 ⟨f0, fn, f1, f2, f3, f4⟩ k
    exact ⟨fun b hb => by rw [k.get b (by omega)]; exact f0 b hb, by rw [k.n]; exact fn, by rw [k.get _ (by omega)]; exact f1, by rw [k.get _ (by omega)]; exact f2, by rw [k.get _ (by omega)]; exact f3, by rw [k.get _ (by omega)]; exact f4⟩
  · exact fun _ _ _ h => h.elim
  · exact fun i h1 f => f.2.2.2.2.2
  · intro y h1
    unfold spotE spotV
    simp only [List.zip_cons_cons, List.zip_nil_right, List.reverse_cons, List.reverse_nil, List.nil_append, List.cons_append, okFr_cons, okFr_nil, okV_eq, isLoc_ptr, isLoc_func, Bool.not_false, if_true]
    (repeat' first
    | (show WpR _ _ _ _ _ _ _ _ _
       first
       | refine wpr_drop ?_
       | refine wpr_p (o := .mv _) (by simp only [ev_mv, opd_s, opd_c, fget, Nat.reduceEqDiff, Nat.one_ne_zero, Nat.zero_ne_one, reduceCtorEq, ↓reduceIte]; rfl) ?_
       | (refine wpr_fork (fun _ => ?_) (fun _ => ?_) <;> try (exfalso; omega))
       | (refine wpr_forkN (fun _ => ?_) (fun _ => ?_) <;> try (exfalso; omega))
       | refine wpr_run rfl ?_
       | refine wpr_pass rfl rfl ?_
       | refine wpr_passS rfl ?_
       | ((first | apply wpr_p | apply wpr_r | apply wpr_callA | apply wpr_callA0 | apply wpr_e0 | apply wpr_e | apply wpr_end0); focus ((try simp (disch := omega) only [push_cast, Nat.reduceEqDiff, ↓reduceIte, reduceCtorEq, Nat.reduceAdd, Nat.reduceMul, Nat.reduceLeDiff]); rfl))
       | refine wpr_pass0 rfl rfl ?_
       | refine wpr_pass0S rfl ?_
       | (apply wpr_end; (focus ((try simp (disch := omega) only [push_cast, Nat.reduceEqDiff, ↓reduceIte, reduceCtorEq, Nat.reduceAdd, Nat.reduceMul, Nat.reduceLeDiff]); rfl)); (focus (simp (disch := omega) only [push_cast, Nat.reduceEqDiff, ↓reduceIte, reduceCtorEq, Nat.reduceAdd, Nat.reduceMul, Nat.reduceLeDiff]; done)))
       | fail)
    | (show Wp _ _ _ _ _ _
       first
       | refine wp_seq ?_
       | refine wp_region0 ?_
       | refine wp_region ?_
       | refine wp_cond_t rfl ?_
       | refine wp_cond_f rfl ?_
       | refine wp_ret ?_
       | refine wp_skip ?_
       | refine wp_exit ?_
       | refine wp_block ?_
       | fail)
    | refine thenQ_norm ?_
    | refine thenQ_ret ?_
    | refine thenQ_exit ?_
    | refine blockQ_norm ?_
    | refine blockQ_ret ?_
    | refine blockQ_same ?_
    | refine blockQ_ne rfl ?_
    | refine loopQ_norm ?_
    | refine loopQ_ret ?_
    | refine loopQ_exit ?_
    | ((first | apply retQ_ret | apply retQ_norm | apply wpc_of); focus ((try simp (disch := omega) only [push_cast, Nat.reduceEqDiff, ↓reduceIte, reduceCtorEq, Nat.reduceAdd, Nat.reduceMul, Nat.reduceLeDiff]); rfl))
    | fail)
    exact ⟨rfl, rfl, rfl, rfl⟩
  · intro o
    have k : ∀ b, b < h.n + 4 → (H0.push o).get b = H0.get b := fun b hb => AH.get_push_ne _ (by omega)
    exact ⟨fun b hb => (k b (by omega)).trans (ak b hb), by rw [AH.push_n, n0]; omega, (k _ (by omega)).trans a0, (k _ (by omega)).trans a1, (k _ (by omega)).trans a2, (k _ (by omega)).trans a3⟩
  · rw [n0]
    rintro i hi h1 o ⟨f0, fn, f1, f2, f3, f4⟩ ho
    have l4 := AH.get_lt ho
    have hbad : isBad2 (spotsL x.data.toList)[i].2 = false := by
      rw [spotsL_get hi]
      have := List.all_eq_true.1 hv _ (List.getElem_mem (by rw [← spotsL_len]; exact hi : i < (spots x.data.toList).length))
      unfold isBad2
      rw [Bool.not_eq_true'] at this
      exact this
    rw [hbad]
    have hil : i < 9223372036854775806 := by
      have h1 := spots_len x.data.toList
      rw [spotsL_len] at hi
      have h2 : x.data.toList.length = x.size := rfl
      omega
    generalize (spotsL x.data.toList)[i] = y
    (repeat' first
    | (show WpR _ _ _ _ _ _ _ _ _
       first
       | refine wpr_drop ?_
       | refine wpr_p (o := .mv _) (by simp only [ev_mv, opd_s, opd_c, fget, Nat.reduceEqDiff, Nat.one_ne_zero, Nat.zero_ne_one, reduceCtorEq, ↓reduceIte]; rfl) ?_
       | (refine wpr_fork (fun _ => ?_) (fun _ => ?_) <;> try (exfalso; omega))
       | (refine wpr_forkN (fun _ => ?_) (fun _ => ?_) <;> try (exfalso; omega))
       | refine wpr_run rfl ?_
       | refine wpr_pass rfl rfl ?_
       | refine wpr_passS rfl ?_
       | ((first | apply wpr_p | apply wpr_r | apply wpr_callA | apply wpr_callA0 | apply wpr_e0 | apply wpr_e | apply wpr_end0); focus ((try simp (disch := first | omega | (simp only [AH.nn_push, AH.nn_set, AH.nn_kill]; omega) | (simp only [AH.nn_push, AH.nn_set, AH.nn_kill]; done) | fail) only [push_cast, Nat.reduceEqDiff, ↓reduceIte, reduceCtorEq, Nat.reduceAdd, Nat.reduceMul, Nat.reduceLeDiff, AH.get_push_eq, AH.get_push_ne, AH.get_set_eq, AH.get_set_ne, AH.push_n, AH.set_n, f1, f2, f3, f4]); rfl))
       | refine wpr_pass0 rfl rfl ?_
       | refine wpr_pass0S rfl ?_
       | (apply wpr_callvA; focus ((try simp (disch := first | omega | (simp only [AH.nn_push, AH.nn_set, AH.nn_kill]; omega) | (simp only [AH.nn_push, AH.nn_set, AH.nn_kill]; done) | fail) only [push_cast, Nat.reduceEqDiff, ↓reduceIte, reduceCtorEq, Nat.reduceAdd, Nat.reduceMul, Nat.reduceLeDiff, AH.get_push_eq, AH.get_push_ne, AH.get_set_eq, AH.get_set_ne, AH.push_n, AH.set_n, f1, f2, f3, f4]); rfl))
       | (apply wpr_end; (focus ((try simp (disch := first | omega | (simp only [AH.nn_push, AH.nn_set, AH.nn_kill]; omega) | (simp only [AH.nn_push, AH.nn_set, AH.nn_kill]; done) | fail) only [push_cast, Nat.reduceEqDiff, ↓reduceIte, reduceCtorEq, Nat.reduceAdd, Nat.reduceMul, Nat.reduceLeDiff, AH.get_push_eq, AH.get_push_ne, AH.get_set_eq, AH.get_set_ne, AH.push_n, AH.set_n, f1, f2, f3, f4]); rfl)); (focus (simp (disch := first | omega | (simp only [AH.nn_push, AH.nn_set, AH.nn_kill]; omega) | (simp only [AH.nn_push, AH.nn_set, AH.nn_kill]; done) | fail) only [push_cast, Nat.reduceEqDiff, ↓reduceIte, reduceCtorEq, Nat.reduceAdd, Nat.reduceMul, Nat.reduceLeDiff, AH.get_push_eq, AH.get_push_ne, AH.get_set_eq, AH.get_set_ne, AH.push_n, AH.set_n, f1, f2, f3, f4]; done)))
       | fail)
    | (show Wp _ _ _ _ _ _
       first
       | refine wp_seq ?_
       | refine wp_region0 ?_
       | refine wp_region ?_
       | refine wp_cond_t rfl ?_
       | refine wp_cond_f rfl ?_
       | refine wp_ret ?_
       | refine wp_skip ?_
       | refine wp_exit ?_
       | refine wp_block ?_
       | fail)
    | refine thenQ_norm ?_
    | refine thenQ_ret ?_
    | refine thenQ_exit ?_
    | refine blockQ_norm ?_
    | refine blockQ_ret ?_
    | refine blockQ_same ?_
    | refine blockQ_ne rfl ?_
    | refine loopQ_norm ?_
    | refine loopQ_ret ?_
    | refine loopQ_exit ?_
    | ((first | apply retQ_ret | apply retQ_norm | apply wpc_of); focus ((try simp (disch := first | omega | (simp only [AH.nn_push, AH.nn_set, AH.nn_kill]; omega) | (simp only [AH.nn_push, AH.nn_set, AH.nn_kill]; done) | fail) only [push_cast, Nat.reduceEqDiff, ↓reduceIte, reduceCtorEq, Nat.reduceAdd, Nat.reduceMul, Nat.reduceLeDiff, AH.get_push_eq, AH.get_push_ne, AH.get_set_eq, AH.get_set_ne, AH.push_n, AH.set_n, f1, f2, f3, f4]); rfl))
    | fail)
    refine ⟨by rw [AH.get_set_ne _ (by omega)]; exact ho, fun b hb => by rw [AH.get_set_ne _ (by omega)]; exact f0 b hb, by rw [AH.set_n]; exact fn, by rw [AH.get_set_ne _ (by omega)]; exact f1, by rw [AH.get_set_ne _ (by omega)]; exact f2, AH.get_set_same _ (by omega), by rw [AH.get_set_ne _ (by omega)]; exact f4⟩
  · rintro h1 ⟨f0, fn, f1, f2, f3, f4⟩
    (repeat' first
    | (show WpR _ _ _ _ _ _ _ _ _
       first
       | refine wpr_drop ?_
       | refine wpr_p (o := .mv _) (by simp only [ev_mv, opd_s, opd_c, fget, Nat.reduceEqDiff, Nat.one_ne_zero, Nat.zero_ne_one, reduceCtorEq, ↓reduceIte]; rfl) ?_
       | (refine wpr_fork (fun _ => ?_) (fun _ => ?_) <;> try (exfalso; omega))
       | (refine wpr_forkN (fun _ => ?_) (fun _ => ?_) <;> try (exfalso; omega))
       | refine wpr_run rfl ?_
       | refine wpr_pass rfl rfl ?_
       | refine wpr_passS rfl ?_
       | ((first | apply wpr_p | apply wpr_r | apply wpr_callA | apply wpr_callA0 | apply wpr_e0 | apply wpr_e | apply wpr_end0); focus ((try simp (disch := first | omega | (simp only [AH.nn_push, AH.nn_set, AH.nn_kill]; omega) | (simp only [AH.nn_push, AH.nn_set, AH.nn_kill]; done) | fail) only [push_cast, Nat.reduceEqDiff, ↓reduceIte, reduceCtorEq, Nat.reduceAdd, Nat.reduceMul, Nat.reduceLeDiff, AH.get_push_eq, AH.get_push_ne, AH.get_set_eq, AH.get_set_ne, AH.push_n, AH.set_n, f1, f2, f3, f4]); rfl))
       | refine wpr_pass0 rfl rfl ?_
       | refine wpr_pass0S rfl ?_
       | (apply wpr_callvA; focus ((try simp (disch := first | omega | (simp only [AH.nn_push, AH.nn_set, AH.nn_kill]; omega) | (simp only [AH.nn_push, AH.nn_set, AH.nn_kill]; done) | fail) only [push_cast, Nat.reduceEqDiff, ↓reduceIte, reduceCtorEq, Nat.reduceAdd, Nat.reduceMul, Nat.reduceLeDiff, AH.get_push_eq, AH.get_push_ne, AH.get_set_eq, AH.get_set_ne, AH.push_n, AH.set_n, f1, f2, f3, f4]); rfl))
       | (apply wpr_end; (focus ((try simp (disch := first | omega | (simp only [AH.nn_push, AH.nn_set, AH.nn_kill]; omega) | (simp only [AH.nn_push, AH.nn_set, AH.nn_kill]; done) | fail) only [push_cast, Nat.reduceEqDiff, ↓reduceIte, reduceCtorEq, Nat.reduceAdd, Nat.reduceMul, Nat.reduceLeDiff, AH.get_push_eq, AH.get_push_ne, AH.get_set_eq, AH.get_set_ne, AH.push_n, AH.set_n, f1, f2, f3, f4]); rfl)); (focus (simp (disch := first | omega | (simp only [AH.nn_push, AH.nn_set, AH.nn_kill]; omega) | (simp only [AH.nn_push, AH.nn_set, AH.nn_kill]; done) | fail) only [push_cast, Nat.reduceEqDiff, ↓reduceIte, reduceCtorEq, Nat.reduceAdd, Nat.reduceMul, Nat.reduceLeDiff, AH.get_push_eq, AH.get_push_ne, AH.get_set_eq, AH.get_set_ne, AH.push_n, AH.set_n, f1, f2, f3, f4]; done)))
       | fail)
    | (show Wp _ _ _ _ _ _
       first
       | refine wp_seq ?_
       | refine wp_region0 ?_
       | refine wp_region ?_
       | refine wp_cond_t rfl ?_
       | refine wp_cond_f rfl ?_
       | refine wp_ret ?_
       | refine wp_skip ?_
       | refine wp_exit ?_
       | refine wp_block ?_
       | fail)
    | refine thenQ_norm ?_
    | refine thenQ_ret ?_
    | refine thenQ_exit ?_
    | refine blockQ_norm ?_
    | refine blockQ_ret ?_
    | refine blockQ_same ?_
    | refine blockQ_ne rfl ?_
    | refine loopQ_norm ?_
    | refine loopQ_ret ?_
    | refine loopQ_exit ?_
    | ((first | apply retQ_ret | apply retQ_norm | apply wpc_of); focus ((try simp (disch := first | omega | (simp only [AH.nn_push, AH.nn_set, AH.nn_kill]; omega) | (simp only [AH.nn_push, AH.nn_set, AH.nn_kill]; done) | fail) only [push_cast, Nat.reduceEqDiff, ↓reduceIte, reduceCtorEq, Nat.reduceAdd, Nat.reduceMul, Nat.reduceLeDiff, AH.get_push_eq, AH.get_push_ne, AH.get_set_eq, AH.get_set_ne, AH.push_n, AH.set_n, f1, f2, f3, f4]); rfl))
    | fail)
    refine ⟨rfl, by rw [AH.set_n, AH.set_n]; omega, fun b hb => ?_⟩
    rw [AH.get_set_ne _ (by omega), AH.get_set_ne _ (by omega)]
    exact f0 b hb
  · exact fun _ _ _ h => h.elim

end Go.Proofs.Ytmfpkgcphlilmaa.AM
