/- The reference of chapter 17: its small functions. -/
import Derived.Test.YtmfpkgcphlilmaaBL3
import Derived.Test.YtmfpkgcphlilmaaBootB
set_option linter.unusedVariables false
set_option linter.unusedSimpArgs false
namespace Go.Proofs.Ytmfpkgcphlilmaa.AM
open Go

theorem wrap_u8q {x : Int} (h1 : 0 ≤ x) (h2 : x < 256) : IntKind.u8.wrap x = x := by
  show (if (false && decide (x % 256 ≥ 128)) = true then x % 256 - 256 else x % 256) = x
  simp only [Bool.false_and, Bool.false_eq_true, if_false]
  omega
theorem wrap_i64q {x : Int} (h1 : -9223372036854775808 ≤ x) (h2 : x < 9223372036854775808) : IntKind.i64.wrap x = x := by
  rw [IntKind.wrap_i64]
  omega
attribute [push_cast] wrap_u8q wrap_i64q

theorem refThr_eq {p : BP} (ok : p.Ok) (bias k : Nat) (h : AH) (hk : k < 1000000000) (hb : bias < 1000000000000000) : callO PX 66 [.agg (bpN p).toArray, .int .i64 bias, .int .i64 k] h = some (.int .i64 (thr p bias k), h) := by
  obtain ⟨b1, b2, l1, l2, h1, s1, s2, d1, d2, i1, f1, f2⟩ := ok
  have hm : k * p.base ≤ k * 36 := Nat.mul_le_mul_left k b2
  obtain ⟨m, hme⟩ : ∃ m, m = k * p.base := ⟨_, rfl⟩
  have hmc : (k : Int) * (p.base : Int) = (m : Int) := by rw [hme]; push_cast; first | done | rfl
  apply WpC.eqn
  unfold bpN bpV
  refine wpc_fn (px_ext rfl) (px_fn fn_guiseref17_threshold) rfl ?_
  unfold LF_guiseref17_threshold
  simp only [argFr]
  (repeat' first
    | (show WpR _ _ _ _ _ _ _ _ _
       first
       | refine wpr_drop ?_
       | refine wpr_p (o := .mv _) (by simp only [ev_mv, opd_s, opd_c, fget, Nat.reduceEqDiff, Nat.one_ne_zero, Nat.zero_ne_one, reduceCtorEq, ↓reduceIte]; rfl) ?_
       | (refine wpr_fork (fun _ => ?_) (fun _ => ?_) <;> try (exfalso; omega))
       | (refine wpr_forkN (fun _ => ?_) (fun _ => ?_) <;> try (exfalso; omega))
       | refine wpr_run rfl ?_
       | refine wpr_pass rfl rfl ?_
       | refine wpr_passS rfl ?_
       | ((first | apply wpr_p | apply wpr_r | apply wpr_callA | apply wpr_callA0 | apply wpr_e0 | apply wpr_e | apply wpr_end0); focus ((try simp (disch := first | omega | (simp only [AH.nn_push, AH.nn_set, AH.nn_kill]; omega) | (simp only [AH.nn_push, AH.nn_set, AH.nn_kill]; done) | fail) only [push_cast, Nat.reduceEqDiff, ↓reduceIte, reduceCtorEq, Nat.reduceAdd, Nat.reduceMul, Nat.reduceLeDiff, AH.get_push_eq, AH.get_push_ne, AH.get_set_eq, AH.get_set_ne, AH.push_n, AH.set_n, hmc]); rfl))
       | refine wpr_pass0 rfl rfl ?_
       | refine wpr_pass0S rfl ?_
       | (apply wpr_callvA; focus ((try simp (disch := first | omega | (simp only [AH.nn_push, AH.nn_set, AH.nn_kill]; omega) | (simp only [AH.nn_push, AH.nn_set, AH.nn_kill]; done) | fail) only [push_cast, Nat.reduceEqDiff, ↓reduceIte, reduceCtorEq, Nat.reduceAdd, Nat.reduceMul, Nat.reduceLeDiff, AH.get_push_eq, AH.get_push_ne, AH.get_set_eq, AH.get_set_ne, AH.push_n, AH.set_n, hmc]); rfl))
       | (apply wpr_end; (focus ((try simp (disch := first | omega | (simp only [AH.nn_push, AH.nn_set, AH.nn_kill]; omega) | (simp only [AH.nn_push, AH.nn_set, AH.nn_kill]; done) | fail) only [push_cast, Nat.reduceEqDiff, ↓reduceIte, reduceCtorEq, Nat.reduceAdd, Nat.reduceMul, Nat.reduceLeDiff, AH.get_push_eq, AH.get_push_ne, AH.get_set_eq, AH.get_set_ne, AH.push_n, AH.set_n, hmc]); rfl)); (focus (simp (disch := first | omega | (simp only [AH.nn_push, AH.nn_set, AH.nn_kill]; omega) | (simp only [AH.nn_push, AH.nn_set, AH.nn_kill]; done) | fail) only [push_cast, Nat.reduceEqDiff, ↓reduceIte, reduceCtorEq, Nat.reduceAdd, Nat.reduceMul, Nat.reduceLeDiff, AH.get_push_eq, AH.get_push_ne, AH.get_set_eq, AH.get_set_ne, AH.push_n, AH.set_n, hmc]; done)))
       | fail)
    | (show Wp _ _ _ _ _ _
       first
       | refine wp_seq ?_
       | refine wp_region0 ?_
       | refine wp_region ?_
       | refine wp_cond_t rfl ?_
       | refine wp_cond_f rfl ?_
       | refine wp_ret ?_
       | refine wp_skip ?_
       | refine wp_exit ?_
       | refine wp_block ?_
       | fail)
    | refine thenQ_norm ?_
    | refine thenQ_ret ?_
    | refine thenQ_exit ?_
    | refine blockQ_norm ?_
    | refine blockQ_ret ?_
    | refine blockQ_same ?_
    | refine blockQ_ne rfl ?_
    | refine loopQ_norm ?_
    | refine loopQ_ret ?_
    | refine loopQ_exit ?_
    | ((first | apply retQ_ret | apply retQ_norm | apply wpc_of); focus ((try simp (disch := first | omega | (simp only [AH.nn_push, AH.nn_set, AH.nn_kill]; omega) | (simp only [AH.nn_push, AH.nn_set, AH.nn_kill]; done) | fail) only [push_cast, Nat.reduceEqDiff, ↓reduceIte, reduceCtorEq, Nat.reduceAdd, Nat.reduceMul, Nat.reduceLeDiff, AH.get_push_eq, AH.get_push_ne, AH.get_set_eq, AH.get_set_ne, AH.push_n, AH.set_n, hmc]); rfl))
    | fail)
  all_goals (refine ⟨?_, rfl⟩; congr 1; unfold thr; omega)

theorem refDigit_eq (d : Nat) (hd : d < 36) (h : AH) : callO PX 67 [.int .i64 d] h = some (.int .u8 ((digC d).toNat : Nat), h) := by
  have := digC_nat hd
  apply WpC.eqn
  refine wpc_fn (px_ext rfl) (px_fn fn_guiseref17_digit) rfl ?_
  unfold LF_guiseref17_digit
  simp only [argFr]
  (repeat' first
    | (show WpR _ _ _ _ _ _ _ _ _
       first
       | refine wpr_drop ?_
       | refine wpr_p (o := .mv _) (by simp only [ev_mv, opd_s, opd_c, fget, Nat.reduceEqDiff, Nat.one_ne_zero, Nat.zero_ne_one, reduceCtorEq, ↓reduceIte]; rfl) ?_
       | (refine wpr_fork (fun _ => ?_) (fun _ => ?_) <;> try (exfalso; omega))
       | (refine wpr_forkN (fun _ => ?_) (fun _ => ?_) <;> try (exfalso; omega))
       | refine wpr_run rfl ?_
       | refine wpr_pass rfl rfl ?_
       | refine wpr_passS rfl ?_
       | ((first | apply wpr_p | apply wpr_r | apply wpr_callA | apply wpr_callA0 | apply wpr_e0 | apply wpr_e | apply wpr_end0); focus ((try simp (disch := first | omega | (simp only [AH.nn_push, AH.nn_set, AH.nn_kill]; omega) | (simp only [AH.nn_push, AH.nn_set, AH.nn_kill]; done) | fail) only [push_cast, Nat.reduceEqDiff, ↓reduceIte, reduceCtorEq, Nat.reduceAdd, Nat.reduceMul, Nat.reduceLeDiff, AH.get_push_eq, AH.get_push_ne, AH.get_set_eq, AH.get_set_ne, AH.push_n, AH.set_n]); rfl))
       | refine wpr_pass0 rfl rfl ?_
       | refine wpr_pass0S rfl ?_
       | (apply wpr_callvA; focus ((try simp (disch := first | omega | (simp only [AH.nn_push, AH.nn_set, AH.nn_kill]; omega) | (simp only [AH.nn_push, AH.nn_set, AH.nn_kill]; done) | fail) only [push_cast, Nat.reduceEqDiff, ↓reduceIte, reduceCtorEq, Nat.reduceAdd, Nat.reduceMul, Nat.reduceLeDiff, AH.get_push_eq, AH.get_push_ne, AH.get_set_eq, AH.get_set_ne, AH.push_n, AH.set_n]); rfl))
       | (apply wpr_end; (focus ((try simp (disch := first | omega | (simp only [AH.nn_push, AH.nn_set, AH.nn_kill]; omega) | (simp only [AH.nn_push, AH.nn_set, AH.nn_kill]; done) | fail) only [push_cast, Nat.reduceEqDiff, ↓reduceIte, reduceCtorEq, Nat.reduceAdd, Nat.reduceMul, Nat.reduceLeDiff, AH.get_push_eq, AH.get_push_ne, AH.get_set_eq, AH.get_set_ne, AH.push_n, AH.set_n]); rfl)); (focus (simp (disch := first | omega | (simp only [AH.nn_push, AH.nn_set, AH.nn_kill]; omega) | (simp only [AH.nn_push, AH.nn_set, AH.nn_kill]; done) | fail) only [push_cast, Nat.reduceEqDiff, ↓reduceIte, reduceCtorEq, Nat.reduceAdd, Nat.reduceMul, Nat.reduceLeDiff, AH.get_push_eq, AH.get_push_ne, AH.get_set_eq, AH.get_set_ne, AH.push_n, AH.set_n]; done)))
       | fail)
    | (show Wp _ _ _ _ _ _
       first
       | refine wp_seq ?_
       | refine wp_region0 ?_
       | refine wp_region ?_
       | refine wp_cond_t rfl ?_
       | refine wp_cond_f rfl ?_
       | refine wp_ret ?_
       | refine wp_skip ?_
       | refine wp_exit ?_
       | refine wp_block ?_
       | fail)
    | refine thenQ_norm ?_
    | refine thenQ_ret ?_
    | refine thenQ_exit ?_
    | refine blockQ_norm ?_
    | refine blockQ_ret ?_
    | refine blockQ_same ?_
    | refine blockQ_ne rfl ?_
    | refine loopQ_norm ?_
    | refine loopQ_ret ?_
    | refine loopQ_exit ?_
    | ((first | apply retQ_ret | apply retQ_norm | apply wpc_of); focus ((try simp (disch := first | omega | (simp only [AH.nn_push, AH.nn_set, AH.nn_kill]; omega) | (simp only [AH.nn_push, AH.nn_set, AH.nn_kill]; done) | fail) only [push_cast, Nat.reduceEqDiff, ↓reduceIte, reduceCtorEq, Nat.reduceAdd, Nat.reduceMul, Nat.reduceLeDiff, AH.get_push_eq, AH.get_push_ne, AH.get_set_eq, AH.get_set_ne, AH.push_n, AH.set_n]); rfl))
    | fail)
  all_goals (refine ⟨?_, rfl⟩; congr 1; split at this <;> omega)

theorem refValue_eq {p : BP} (ok : p.Ok) (c : Nat) (hc : c < 256) (h : AH) : callO PX 68 [.agg (bpN p).toArray, .int .u8 c] h = some (.int .i64 (match digV p.base (UInt8.ofNat c) with | some d => (d : Int) | none => -1), h) := by
  obtain ⟨b1, b2, l1, l2, h1, s1, s2, d1, d2, i1, f1, f2⟩ := ok
  have hcn : (UInt8.ofNat c).toNat = c := by rw [UInt8.toNat_ofNat']; omega
  have hw : digV p.base (UInt8.ofNat c) = if 97 ≤ c ∧ c ≤ 122 ∧ c - 97 < p.base then some (c - 97) else if 48 ≤ c ∧ c ≤ 57 ∧ c - 48 + 26 < p.base then some (c - 48 + 26) else none := by
    unfold digV
    rw [hcn]
  rw [hw]
  apply WpC.eqn
  unfold bpN bpV
  refine wpc_fn (px_ext rfl) (px_fn fn_guiseref17_value) rfl ?_
  unfold LF_guiseref17_value
  simp only [argFr]
  (repeat' first
    | (show WpR _ _ _ _ _ _ _ _ _
       first
       | refine wpr_drop ?_
       | refine wpr_p (o := .mv _) (by simp only [ev_mv, opd_s, opd_c, fget, Nat.reduceEqDiff, Nat.one_ne_zero, Nat.zero_ne_one, reduceCtorEq, ↓reduceIte]; rfl) ?_
       | (refine wpr_fork (fun _ => ?_) (fun _ => ?_) <;> try (exfalso; omega))
       | (refine wpr_forkN (fun _ => ?_) (fun _ => ?_) <;> try (exfalso; omega))
       | refine wpr_run rfl ?_
       | refine wpr_pass rfl rfl ?_
       | refine wpr_passS rfl ?_
       | ((first | apply wpr_p | apply wpr_r | apply wpr_callA | apply wpr_callA0 | apply wpr_e0 | apply wpr_e | apply wpr_end0); focus ((try simp (disch := first | omega | (simp only [AH.nn_push, AH.nn_set, AH.nn_kill]; omega) | (simp only [AH.nn_push, AH.nn_set, AH.nn_kill]; done) | fail) only [push_cast, Nat.reduceEqDiff, ↓reduceIte, reduceCtorEq, Nat.reduceAdd, Nat.reduceMul, Nat.reduceLeDiff, AH.get_push_eq, AH.get_push_ne, AH.get_set_eq, AH.get_set_ne, AH.push_n, AH.set_n]); rfl))
       | refine wpr_pass0 rfl rfl ?_
       | refine wpr_pass0S rfl ?_
       | (apply wpr_callvA; focus ((try simp (disch := first | omega | (simp only [AH.nn_push, AH.nn_set, AH.nn_kill]; omega) | (simp only [AH.nn_push, AH.nn_set, AH.nn_kill]; done) | fail) only [push_cast, Nat.reduceEqDiff, ↓reduceIte, reduceCtorEq, Nat.reduceAdd, Nat.reduceMul, Nat.reduceLeDiff, AH.get_push_eq, AH.get_push_ne, AH.get_set_eq, AH.get_set_ne, AH.push_n, AH.set_n]); rfl))
       | (apply wpr_end; (focus ((try simp (disch := first | omega | (simp only [AH.nn_push, AH.nn_set, AH.nn_kill]; omega) | (simp only [AH.nn_push, AH.nn_set, AH.nn_kill]; done) | fail) only [push_cast, Nat.reduceEqDiff, ↓reduceIte, reduceCtorEq, Nat.reduceAdd, Nat.reduceMul, Nat.reduceLeDiff, AH.get_push_eq, AH.get_push_ne, AH.get_set_eq, AH.get_set_ne, AH.push_n, AH.set_n]); rfl)); (focus (simp (disch := first | omega | (simp only [AH.nn_push, AH.nn_set, AH.nn_kill]; omega) | (simp only [AH.nn_push, AH.nn_set, AH.nn_kill]; done) | fail) only [push_cast, Nat.reduceEqDiff, ↓reduceIte, reduceCtorEq, Nat.reduceAdd, Nat.reduceMul, Nat.reduceLeDiff, AH.get_push_eq, AH.get_push_ne, AH.get_set_eq, AH.get_set_ne, AH.push_n, AH.set_n]; done)))
       | fail)
    | (show Wp _ _ _ _ _ _
       first
       | refine wp_seq ?_
       | refine wp_region0 ?_
       | refine wp_region ?_
       | refine wp_cond_t rfl ?_
       | refine wp_cond_f rfl ?_
       | refine wp_ret ?_
       | refine wp_skip ?_
       | refine wp_exit ?_
       | refine wp_block ?_
       | fail)
    | refine thenQ_norm ?_
    | refine thenQ_ret ?_
    | refine thenQ_exit ?_
    | refine blockQ_norm ?_
    | refine blockQ_ret ?_
    | refine blockQ_same ?_
    | refine blockQ_ne rfl ?_
    | refine loopQ_norm ?_
    | refine loopQ_ret ?_
    | refine loopQ_exit ?_
    | ((first | apply retQ_ret | apply retQ_norm | apply wpc_of); focus ((try simp (disch := first | omega | (simp only [AH.nn_push, AH.nn_set, AH.nn_kill]; omega) | (simp only [AH.nn_push, AH.nn_set, AH.nn_kill]; done) | fail) only [push_cast, Nat.reduceEqDiff, ↓reduceIte, reduceCtorEq, Nat.reduceAdd, Nat.reduceMul, Nat.reduceLeDiff, AH.get_push_eq, AH.get_push_ne, AH.get_set_eq, AH.get_set_ne, AH.push_n, AH.set_n]); rfl))
    | fail)
  all_goals
    refine ⟨?_, rfl⟩
    congr 1
    split
    · rename_i d hd
      split at hd
      · injection hd with hd; omega
      · split at hd
        · injection hd with hd; omega
        · cases hd
    · rename_i hd
      split at hd
      · cases hd
      · split at hd
        · cases hd
        · omega

theorem refBasic_eq (r : Nat) (hr : r < 2147483648) (h : AH) : callO PX 44 [.int .i32 r] h = some (.bool (basicN r), h) := by
  apply WpC.eqn
  refine wpc_fn (px_ext rfl) (px_fn fn_guiseref17_basic) rfl ?_
  unfold LF_guiseref17_basic
  simp only [argFr]
  (repeat' first
    | (show WpR _ _ _ _ _ _ _ _ _
       first
       | refine wpr_drop ?_
       | refine wpr_p (o := .mv _) (by simp only [ev_mv, opd_s, opd_c, fget, Nat.reduceEqDiff, Nat.one_ne_zero, Nat.zero_ne_one, reduceCtorEq, ↓reduceIte]; rfl) ?_
       | (refine wpr_fork (fun _ => ?_) (fun _ => ?_) <;> try (exfalso; omega))
       | (refine wpr_forkN (fun _ => ?_) (fun _ => ?_) <;> try (exfalso; omega))
       | refine wpr_run rfl ?_
       | refine wpr_pass rfl rfl ?_
       | refine wpr_passS rfl ?_
       | ((first | apply wpr_p | apply wpr_r | apply wpr_callA | apply wpr_callA0 | apply wpr_e0 | apply wpr_e | apply wpr_end0); focus ((try simp (disch := first | omega | (simp only [AH.nn_push, AH.nn_set, AH.nn_kill]; omega) | (simp only [AH.nn_push, AH.nn_set, AH.nn_kill]; done) | fail) only [push_cast, Nat.reduceEqDiff, ↓reduceIte, reduceCtorEq, Nat.reduceAdd, Nat.reduceMul, Nat.reduceLeDiff, AH.get_push_eq, AH.get_push_ne, AH.get_set_eq, AH.get_set_ne, AH.push_n, AH.set_n]); rfl))
       | refine wpr_pass0 rfl rfl ?_
       | refine wpr_pass0S rfl ?_
       | (apply wpr_callvA; focus ((try simp (disch := first | omega | (simp only [AH.nn_push, AH.nn_set, AH.nn_kill]; omega) | (simp only [AH.nn_push, AH.nn_set, AH.nn_kill]; done) | fail) only [push_cast, Nat.reduceEqDiff, ↓reduceIte, reduceCtorEq, Nat.reduceAdd, Nat.reduceMul, Nat.reduceLeDiff, AH.get_push_eq, AH.get_push_ne, AH.get_set_eq, AH.get_set_ne, AH.push_n, AH.set_n]); rfl))
       | (apply wpr_end; (focus ((try simp (disch := first | omega | (simp only [AH.nn_push, AH.nn_set, AH.nn_kill]; omega) | (simp only [AH.nn_push, AH.nn_set, AH.nn_kill]; done) | fail) only [push_cast, Nat.reduceEqDiff, ↓reduceIte, reduceCtorEq, Nat.reduceAdd, Nat.reduceMul, Nat.reduceLeDiff, AH.get_push_eq, AH.get_push_ne, AH.get_set_eq, AH.get_set_ne, AH.push_n, AH.set_n]); rfl)); (focus (simp (disch := first | omega | (simp only [AH.nn_push, AH.nn_set, AH.nn_kill]; omega) | (simp only [AH.nn_push, AH.nn_set, AH.nn_kill]; done) | fail) only [push_cast, Nat.reduceEqDiff, ↓reduceIte, reduceCtorEq, Nat.reduceAdd, Nat.reduceMul, Nat.reduceLeDiff, AH.get_push_eq, AH.get_push_ne, AH.get_set_eq, AH.get_set_ne, AH.push_n, AH.set_n]; done)))
       | fail)
    | (show Wp _ _ _ _ _ _
       first
       | refine wp_seq ?_
       | refine wp_region0 ?_
       | refine wp_region ?_
       | refine wp_cond_t rfl ?_
       | refine wp_cond_f rfl ?_
       | refine wp_ret ?_
       | refine wp_skip ?_
       | refine wp_exit ?_
       | refine wp_block ?_
       | fail)
    | refine thenQ_norm ?_
    | refine thenQ_ret ?_
    | refine thenQ_exit ?_
    | refine blockQ_norm ?_
    | refine blockQ_ret ?_
    | refine blockQ_same ?_
    | refine blockQ_ne rfl ?_
    | refine loopQ_norm ?_
    | refine loopQ_ret ?_
    | refine loopQ_exit ?_
    | ((first | apply retQ_ret | apply retQ_norm | apply wpc_of); focus ((try simp (disch := first | omega | (simp only [AH.nn_push, AH.nn_set, AH.nn_kill]; omega) | (simp only [AH.nn_push, AH.nn_set, AH.nn_kill]; done) | fail) only [push_cast, Nat.reduceEqDiff, ↓reduceIte, reduceCtorEq, Nat.reduceAdd, Nat.reduceMul, Nat.reduceLeDiff, AH.get_push_eq, AH.get_push_ne, AH.get_set_eq, AH.get_set_ne, AH.push_n, AH.set_n]); rfl))
    | fail)
  all_goals (refine ⟨?_, rfl⟩; congr 1; symm; unfold basicN; simp only [Bool.or_eq_true, Bool.and_eq_true, beq_iff_eq, decide_eq_true_eq, Bool.or_eq_false_iff, Bool.and_eq_false_iff, beq_eq_false_iff_ne, decide_eq_false_iff_not]; omega)

theorem refAdapted_eq {p : BP} (ok : p.Ok) (fst : Bool) (v cnt : Nat) (h : AH) (hv : v < 10000000000) (hc : 0 < cnt) (hc2 : cnt < 10000000000) :
    callO PX 46 [.agg (bpN p).toArray, .int .i64 v, .int .i64 cnt, .bool fst] h = some (.int .i64 (adapt p fst v cnt), h) := by
  have h1 := ok.b1; have h2 := ok.b2; have h3 := ok.l1; have h4 := ok.l2; have h5 := ok.h1; have h6 := ok.s1; have h7 := ok.s2; have h8 := ok.d1; have h9 := ok.d2
  obtain ⟨span, hspan⟩ : ∃ span, span = p.base - p.low := ⟨_, rfl⟩
  have hspi : (p.base : Int) - p.low = (span : Int) := by omega
  have hsh : span * p.high ≤ 36 * 36 := Nat.mul_le_mul (by omega) (by omega)
  have hshi : (span : Int) * p.high = ((span * p.high : Nat) : Int) := by push_cast; first | done | rfl
  obtain ⟨v1, hv1⟩ : ∃ v1, v1 = if fst = true then v / p.damp else v / 2 := ⟨_, rfl⟩
  have hv1l : v1 ≤ v := by rw [hv1]; split <;> exact Nat.div_le_self _ _
  obtain ⟨v2, hv2⟩ : ∃ v2, v2 = v1 + v1 / cnt := ⟨_, rfl⟩
  have hv2i : (v1 : Int) + (v1 : Int) / (cnt : Int) = (v2 : Int) := by rw [hv2]; push_cast; first | done | rfl
  have hv2l : v2 ≤ 2 * v1 := by rw [hv2]; have := Nat.div_le_self v1 cnt; omega
  have had : adapt p fst v cnt = (adL span (span * p.high / 2) v2 0 v2).1 * p.base + (span + 1) * (adL span (span * p.high / 2) v2 0 v2).2 / ((adL span (span * p.high / 2) v2 0 v2).2 + p.skew) := by
    unfold adapt
    simp only [← hspan, ← hv1, ← hv2]
  rw [had]
  clear had
  generalize span * p.high = sh at hsh hshi ⊢
  apply WpC.eqn
  unfold bpN bpV
  refine wpc_fn (px_ext rfl) (px_fn fn_guiseref17_adapted) rfl ?_
  unfold LF_guiseref17_adapted
  simp only [argFr]
  cases fst
  all_goals
    first
    | (have e0 : (v : Int) / (p.damp : Int) = (v1 : Int) := by rw [hv1, if_pos rfl]; push_cast; first | done | rfl
       (repeat' first
    | (show WpR _ _ _ _ _ _ _ _ _
       first
       | refine wpr_drop ?_
       | refine wpr_p (o := .mv _) (by simp only [ev_mv, opd_s, opd_c, fget, Nat.reduceEqDiff, Nat.one_ne_zero, Nat.zero_ne_one, reduceCtorEq, ↓reduceIte]; rfl) ?_
       | (refine wpr_fork (fun _ => ?_) (fun _ => ?_) <;> try (exfalso; omega))
       | (refine wpr_forkN (fun _ => ?_) (fun _ => ?_) <;> try (exfalso; omega))
       | refine wpr_run rfl ?_
       | refine wpr_pass rfl rfl ?_
       | refine wpr_passS rfl ?_
       | ((first | apply wpr_p | apply wpr_r | apply wpr_callA | apply wpr_callA0 | apply wpr_e0 | apply wpr_e | apply wpr_end0); focus ((try simp (disch := first | omega | (simp only [AH.nn_push, AH.nn_set, AH.nn_kill]; omega) | (simp only [AH.nn_push, AH.nn_set, AH.nn_kill]; done) | fail) only [push_cast, Nat.reduceEqDiff, ↓reduceIte, reduceCtorEq, Nat.reduceAdd, Nat.reduceMul, Nat.reduceLeDiff, AH.get_push_eq, AH.get_push_ne, AH.get_set_eq, AH.get_set_ne, AH.push_n, AH.set_n, e0, hv2i, hspi]); rfl))
       | refine wpr_pass0 rfl rfl ?_
       | refine wpr_pass0S rfl ?_
       | (apply wpr_callvA; focus ((try simp (disch := first | omega | (simp only [AH.nn_push, AH.nn_set, AH.nn_kill]; omega) | (simp only [AH.nn_push, AH.nn_set, AH.nn_kill]; done) | fail) only [push_cast, Nat.reduceEqDiff, ↓reduceIte, reduceCtorEq, Nat.reduceAdd, Nat.reduceMul, Nat.reduceLeDiff, AH.get_push_eq, AH.get_push_ne, AH.get_set_eq, AH.get_set_ne, AH.push_n, AH.set_n, e0, hv2i, hspi]); rfl))
       | (apply wpr_end; (focus ((try simp (disch := first | omega | (simp only [AH.nn_push, AH.nn_set, AH.nn_kill]; omega) | (simp only [AH.nn_push, AH.nn_set, AH.nn_kill]; done) | fail) only [push_cast, Nat.reduceEqDiff, ↓reduceIte, reduceCtorEq, Nat.reduceAdd, Nat.reduceMul, Nat.reduceLeDiff, AH.get_push_eq, AH.get_push_ne, AH.get_set_eq, AH.get_set_ne, AH.push_n, AH.set_n, e0, hv2i, hspi]); rfl)); (focus (simp (disch := first | omega | (simp only [AH.nn_push, AH.nn_set, AH.nn_kill]; omega) | (simp only [AH.nn_push, AH.nn_set, AH.nn_kill]; done) | fail) only [push_cast, Nat.reduceEqDiff, ↓reduceIte, reduceCtorEq, Nat.reduceAdd, Nat.reduceMul, Nat.reduceLeDiff, AH.get_push_eq, AH.get_push_ne, AH.get_set_eq, AH.get_set_ne, AH.push_n, AH.set_n, e0, hv2i, hspi]; done)))
       | fail)
    | (show Wp _ _ _ _ _ _
       first
       | refine wp_seq ?_
       | refine wp_region0 ?_
       | refine wp_region ?_
       | refine wp_cond_t rfl ?_
       | refine wp_cond_f rfl ?_
       | refine wp_ret ?_
       | refine wp_skip ?_
       | refine wp_exit ?_
       | refine wp_block ?_
       | fail)
    | refine thenQ_norm ?_
    | refine thenQ_ret ?_
    | refine thenQ_exit ?_
    | refine blockQ_norm ?_
    | refine blockQ_ret ?_
    | refine blockQ_same ?_
    | refine blockQ_ne rfl ?_
    | refine loopQ_norm ?_
    | refine loopQ_ret ?_
    | refine loopQ_exit ?_
    | ((first | apply retQ_ret | apply retQ_norm | apply wpc_of); focus ((try simp (disch := first | omega | (simp only [AH.nn_push, AH.nn_set, AH.nn_kill]; omega) | (simp only [AH.nn_push, AH.nn_set, AH.nn_kill]; done) | fail) only [push_cast, Nat.reduceEqDiff, ↓reduceIte, reduceCtorEq, Nat.reduceAdd, Nat.reduceMul, Nat.reduceLeDiff, AH.get_push_eq, AH.get_push_ne, AH.get_set_eq, AH.get_set_ne, AH.push_n, AH.set_n, e0, hv2i, hspi]); rfl))
    | fail))
    | (have e0 : (v : Int) / 2 = (v1 : Int) := by rw [hv1, if_neg (by decide)]; push_cast; first | done | rfl
       (repeat' first
    | (show WpR _ _ _ _ _ _ _ _ _
       first
       | refine wpr_drop ?_
       | refine wpr_p (o := .mv _) (by simp only [ev_mv, opd_s, opd_c, fget, Nat.reduceEqDiff, Nat.one_ne_zero, Nat.zero_ne_one, reduceCtorEq, ↓reduceIte]; rfl) ?_
       | (refine wpr_fork (fun _ => ?_) (fun _ => ?_) <;> try (exfalso; omega))
       | (refine wpr_forkN (fun _ => ?_) (fun _ => ?_) <;> try (exfalso; omega))
       | refine wpr_run rfl ?_
       | refine wpr_pass rfl rfl ?_
       | refine wpr_passS rfl ?_
       | ((first | apply wpr_p | apply wpr_r | apply wpr_callA | apply wpr_callA0 | apply wpr_e0 | apply wpr_e | apply wpr_end0); focus ((try simp (disch := first | omega | (simp only [AH.nn_push, AH.nn_set, AH.nn_kill]; omega) | (simp only [AH.nn_push, AH.nn_set, AH.nn_kill]; done) | fail) only [push_cast, Nat.reduceEqDiff, ↓reduceIte, reduceCtorEq, Nat.reduceAdd, Nat.reduceMul, Nat.reduceLeDiff, AH.get_push_eq, AH.get_push_ne, AH.get_set_eq, AH.get_set_ne, AH.push_n, AH.set_n, e0, hv2i, hspi]); rfl))
       | refine wpr_pass0 rfl rfl ?_
       | refine wpr_pass0S rfl ?_
       | (apply wpr_callvA; focus ((try simp (disch := first | omega | (simp only [AH.nn_push, AH.nn_set, AH.nn_kill]; omega) | (simp only [AH.nn_push, AH.nn_set, AH.nn_kill]; done) | fail) only [push_cast, Nat.reduceEqDiff, ↓reduceIte, reduceCtorEq, Nat.reduceAdd, Nat.reduceMul, Nat.reduceLeDiff, AH.get_push_eq, AH.get_push_ne, AH.get_set_eq, AH.get_set_ne, AH.push_n, AH.set_n, e0, hv2i, hspi]); rfl))
       | (apply wpr_end; (focus ((try simp (disch := first | omega | (simp only [AH.nn_push, AH.nn_set, AH.nn_kill]; omega) | (simp only [AH.nn_push, AH.nn_set, AH.nn_kill]; done) | fail) only [push_cast, Nat.reduceEqDiff, ↓reduceIte, reduceCtorEq, Nat.reduceAdd, Nat.reduceMul, Nat.reduceLeDiff, AH.get_push_eq, AH.get_push_ne, AH.get_set_eq, AH.get_set_ne, AH.push_n, AH.set_n, e0, hv2i, hspi]); rfl)); (focus (simp (disch := first | omega | (simp only [AH.nn_push, AH.nn_set, AH.nn_kill]; omega) | (simp only [AH.nn_push, AH.nn_set, AH.nn_kill]; done) | fail) only [push_cast, Nat.reduceEqDiff, ↓reduceIte, reduceCtorEq, Nat.reduceAdd, Nat.reduceMul, Nat.reduceLeDiff, AH.get_push_eq, AH.get_push_ne, AH.get_set_eq, AH.get_set_ne, AH.push_n, AH.set_n, e0, hv2i, hspi]; done)))
       | fail)
    | (show Wp _ _ _ _ _ _
       first
       | refine wp_seq ?_
       | refine wp_region0 ?_
       | refine wp_region ?_
       | refine wp_cond_t rfl ?_
       | refine wp_cond_f rfl ?_
       | refine wp_ret ?_
       | refine wp_skip ?_
       | refine wp_exit ?_
       | refine wp_block ?_
       | fail)
    | refine thenQ_norm ?_
    | refine thenQ_ret ?_
    | refine thenQ_exit ?_
    | refine blockQ_norm ?_
    | refine blockQ_ret ?_
    | refine blockQ_same ?_
    | refine blockQ_ne rfl ?_
    | refine loopQ_norm ?_
    | refine loopQ_ret ?_
    | refine loopQ_exit ?_
    | ((first | apply retQ_ret | apply retQ_norm | apply wpc_of); focus ((try simp (disch := first | omega | (simp only [AH.nn_push, AH.nn_set, AH.nn_kill]; omega) | (simp only [AH.nn_push, AH.nn_set, AH.nn_kill]; done) | fail) only [push_cast, Nat.reduceEqDiff, ↓reduceIte, reduceCtorEq, Nat.reduceAdd, Nat.reduceMul, Nat.reduceLeDiff, AH.get_push_eq, AH.get_push_ne, AH.get_set_eq, AH.get_set_ne, AH.push_n, AH.set_n, e0, hv2i, hspi]); rfl))
    | fail))
    refine wp_loop (fun w fr lc h1 => ∃ (x mm : Nat), w = x ∧ mm + x ≤ v2 ∧ adL span (sh / 2) x mm x = adL span (sh / 2) v2 0 v2 ∧ fr = [(4, .pointer (some ⟨8, 0, some 1⟩)), (9, .int .i64 x), (10, .int .i64 mm)] ∧ lc = [(8, .cells false [.int .i64 p.base, .int .i64 p.low, .int .i64 p.high, .int .i64 p.skew, .int .i64 p.damp, .int .i64 p.bias, .int .i32 p.first])] ∧ h1 = h) v2
      ⟨v2, 0, rfl, by omega, rfl, rfl, rfl, rfl⟩ ?_
    rintro w fr lc h7 ⟨x, mm, rfl, hx, had2, rfl, rfl, rfl⟩
    by_cases hlim : sh / 2 < w
    · have hq : w / span < w := Nat.div_lt_self (by omega) (by omega)
      have hqi : (w : Int) / (span : Int) = ((w / span : Nat) : Int) := by push_cast; first | done | rfl
      rw [adL_step (by omega) hlim] at had2
      generalize w / span = y at hqi hq had2
      (repeat' first
    | (show WpR _ _ _ _ _ _ _ _ _
       first
       | refine wpr_drop ?_
       | refine wpr_p (o := .mv _) (by simp only [ev_mv, opd_s, opd_c, fget, Nat.reduceEqDiff, Nat.one_ne_zero, Nat.zero_ne_one, reduceCtorEq, ↓reduceIte]; rfl) ?_
       | (refine wpr_fork (fun _ => ?_) (fun _ => ?_) <;> try (exfalso; omega))
       | (refine wpr_forkN (fun _ => ?_) (fun _ => ?_) <;> try (exfalso; omega))
       | refine wpr_run rfl ?_
       | refine wpr_pass rfl rfl ?_
       | refine wpr_passS rfl ?_
       | ((first | apply wpr_p | apply wpr_r | apply wpr_callA | apply wpr_callA0 | apply wpr_e0 | apply wpr_e | apply wpr_end0); focus ((try simp (disch := first | omega | (simp only [AH.nn_push, AH.nn_set, AH.nn_kill]; omega) | (simp only [AH.nn_push, AH.nn_set, AH.nn_kill]; done) | fail) only [push_cast, Nat.reduceEqDiff, ↓reduceIte, reduceCtorEq, Nat.reduceAdd, Nat.reduceMul, Nat.reduceLeDiff, AH.get_push_eq, AH.get_push_ne, AH.get_set_eq, AH.get_set_ne, AH.push_n, AH.set_n, hspi, hshi, hqi]); rfl))
       | refine wpr_pass0 rfl rfl ?_
       | refine wpr_pass0S rfl ?_
       | (apply wpr_callvA; focus ((try simp (disch := first | omega | (simp only [AH.nn_push, AH.nn_set, AH.nn_kill]; omega) | (simp only [AH.nn_push, AH.nn_set, AH.nn_kill]; done) | fail) only [push_cast, Nat.reduceEqDiff, ↓reduceIte, reduceCtorEq, Nat.reduceAdd, Nat.reduceMul, Nat.reduceLeDiff, AH.get_push_eq, AH.get_push_ne, AH.get_set_eq, AH.get_set_ne, AH.push_n, AH.set_n, hspi, hshi, hqi]); rfl))
       | (apply wpr_end; (focus ((try simp (disch := first | omega | (simp only [AH.nn_push, AH.nn_set, AH.nn_kill]; omega) | (simp only [AH.nn_push, AH.nn_set, AH.nn_kill]; done) | fail) only [push_cast, Nat.reduceEqDiff, ↓reduceIte, reduceCtorEq, Nat.reduceAdd, Nat.reduceMul, Nat.reduceLeDiff, AH.get_push_eq, AH.get_push_ne, AH.get_set_eq, AH.get_set_ne, AH.push_n, AH.set_n, hspi, hshi, hqi]); rfl)); (focus (simp (disch := first | omega | (simp only [AH.nn_push, AH.nn_set, AH.nn_kill]; omega) | (simp only [AH.nn_push, AH.nn_set, AH.nn_kill]; done) | fail) only [push_cast, Nat.reduceEqDiff, ↓reduceIte, reduceCtorEq, Nat.reduceAdd, Nat.reduceMul, Nat.reduceLeDiff, AH.get_push_eq, AH.get_push_ne, AH.get_set_eq, AH.get_set_ne, AH.push_n, AH.set_n, hspi, hshi, hqi]; done)))
       | fail)
    | (show Wp _ _ _ _ _ _
       first
       | refine wp_seq ?_
       | refine wp_region0 ?_
       | refine wp_region ?_
       | refine wp_cond_t rfl ?_
       | refine wp_cond_f rfl ?_
       | refine wp_ret ?_
       | refine wp_skip ?_
       | refine wp_exit ?_
       | refine wp_block ?_
       | fail)
    | refine thenQ_norm ?_
    | refine thenQ_ret ?_
    | refine thenQ_exit ?_
    | refine blockQ_norm ?_
    | refine blockQ_ret ?_
    | refine blockQ_same ?_
    | refine blockQ_ne rfl ?_
    | refine loopQ_norm ?_
    | refine loopQ_ret ?_
    | refine loopQ_exit ?_
    | ((first | apply retQ_ret | apply retQ_norm | apply wpc_of); focus ((try simp (disch := first | omega | (simp only [AH.nn_push, AH.nn_set, AH.nn_kill]; omega) | (simp only [AH.nn_push, AH.nn_set, AH.nn_kill]; done) | fail) only [push_cast, Nat.reduceEqDiff, ↓reduceIte, reduceCtorEq, Nat.reduceAdd, Nat.reduceMul, Nat.reduceLeDiff, AH.get_push_eq, AH.get_push_ne, AH.get_set_eq, AH.get_set_ne, AH.push_n, AH.set_n, hspi, hshi, hqi]); rfl))
    | fail)
      exact ⟨y, hq, y, mm + 1, rfl, by omega, had2, by simp only [Int.natCast_add]; rfl, rfl, rfl⟩
    · rw [adL_end hlim] at had2
      rw [← had2]
      have hwl : w ≤ 648 := by omega
      have m1 : (span + 1) * w ≤ 37 * 648 := Nat.mul_le_mul (by omega) hwl
      have m2 : mm * p.base ≤ mm * 36 := Nat.mul_le_mul_left mm h2
      have c1 : (mm : Int) * (p.base : Int) = ((mm * p.base : Nat) : Int) := by push_cast; first | done | rfl
      have c2 : ((span : Int) + 1) * (w : Int) = (((span + 1) * w : Nat) : Int) := by push_cast; first | done | rfl
      have c3 : (((span + 1) * w : Nat) : Int) / ((w : Int) + (p.skew : Int)) = (((span + 1) * w / (w + p.skew) : Nat) : Int) := by push_cast; first | done | rfl
      have m3 : (span + 1) * w / (w + p.skew) ≤ (span + 1) * w := Nat.div_le_self _ _
      simp only
      generalize mm * p.base = q1 at c1 m2 ⊢
      generalize (span + 1) * w / (w + p.skew) = q2 at c3 m3 ⊢
      generalize (span + 1) * w = q3 at c2 c3 m1 m3
      (repeat' first
    | (show WpR _ _ _ _ _ _ _ _ _
       first
       | refine wpr_drop ?_
       | refine wpr_p (o := .mv _) (by simp only [ev_mv, opd_s, opd_c, fget, Nat.reduceEqDiff, Nat.one_ne_zero, Nat.zero_ne_one, reduceCtorEq, ↓reduceIte]; rfl) ?_
       | (refine wpr_fork (fun _ => ?_) (fun _ => ?_) <;> try (exfalso; omega))
       | (refine wpr_forkN (fun _ => ?_) (fun _ => ?_) <;> try (exfalso; omega))
       | refine wpr_run rfl ?_
       | refine wpr_pass rfl rfl ?_
       | refine wpr_passS rfl ?_
       | ((first | apply wpr_p | apply wpr_r | apply wpr_callA | apply wpr_callA0 | apply wpr_e0 | apply wpr_e | apply wpr_end0); focus ((try simp (disch := first | omega | (simp only [AH.nn_push, AH.nn_set, AH.nn_kill]; omega) | (simp only [AH.nn_push, AH.nn_set, AH.nn_kill]; done) | fail) only [push_cast, Nat.reduceEqDiff, ↓reduceIte, reduceCtorEq, Nat.reduceAdd, Nat.reduceMul, Nat.reduceLeDiff, AH.get_push_eq, AH.get_push_ne, AH.get_set_eq, AH.get_set_ne, AH.push_n, AH.set_n, hspi, hshi, c1, c2, c3]); rfl))
       | refine wpr_pass0 rfl rfl ?_
       | refine wpr_pass0S rfl ?_
       | (apply wpr_callvA; focus ((try simp (disch := first | omega | (simp only [AH.nn_push, AH.nn_set, AH.nn_kill]; omega) | (simp only [AH.nn_push, AH.nn_set, AH.nn_kill]; done) | fail) only [push_cast, Nat.reduceEqDiff, ↓reduceIte, reduceCtorEq, Nat.reduceAdd, Nat.reduceMul, Nat.reduceLeDiff, AH.get_push_eq, AH.get_push_ne, AH.get_set_eq, AH.get_set_ne, AH.push_n, AH.set_n, hspi, hshi, c1, c2, c3]); rfl))
       | (apply wpr_end; (focus ((try simp (disch := first | omega | (simp only [AH.nn_push, AH.nn_set, AH.nn_kill]; omega) | (simp only [AH.nn_push, AH.nn_set, AH.nn_kill]; done) | fail) only [push_cast, Nat.reduceEqDiff, ↓reduceIte, reduceCtorEq, Nat.reduceAdd, Nat.reduceMul, Nat.reduceLeDiff, AH.get_push_eq, AH.get_push_ne, AH.get_set_eq, AH.get_set_ne, AH.push_n, AH.set_n, hspi, hshi, c1, c2, c3]); rfl)); (focus (simp (disch := first | omega | (simp only [AH.nn_push, AH.nn_set, AH.nn_kill]; omega) | (simp only [AH.nn_push, AH.nn_set, AH.nn_kill]; done) | fail) only [push_cast, Nat.reduceEqDiff, ↓reduceIte, reduceCtorEq, Nat.reduceAdd, Nat.reduceMul, Nat.reduceLeDiff, AH.get_push_eq, AH.get_push_ne, AH.get_set_eq, AH.get_set_ne, AH.push_n, AH.set_n, hspi, hshi, c1, c2, c3]; done)))
       | fail)
    | (show Wp _ _ _ _ _ _
       first
       | refine wp_seq ?_
       | refine wp_region0 ?_
       | refine wp_region ?_
       | refine wp_cond_t rfl ?_
       | refine wp_cond_f rfl ?_
       | refine wp_ret ?_
       | refine wp_skip ?_
       | refine wp_exit ?_
       | refine wp_block ?_
       | fail)
    | refine thenQ_norm ?_
    | refine thenQ_ret ?_
    | refine thenQ_exit ?_
    | refine blockQ_norm ?_
    | refine blockQ_ret ?_
    | refine blockQ_same ?_
    | refine blockQ_ne rfl ?_
    | refine loopQ_norm ?_
    | refine loopQ_ret ?_
    | refine loopQ_exit ?_
    | ((first | apply retQ_ret | apply retQ_norm | apply wpc_of); focus ((try simp (disch := first | omega | (simp only [AH.nn_push, AH.nn_set, AH.nn_kill]; omega) | (simp only [AH.nn_push, AH.nn_set, AH.nn_kill]; done) | fail) only [push_cast, Nat.reduceEqDiff, ↓reduceIte, reduceCtorEq, Nat.reduceAdd, Nat.reduceMul, Nat.reduceLeDiff, AH.get_push_eq, AH.get_push_ne, AH.get_set_eq, AH.get_set_ne, AH.push_n, AH.set_n, hspi, hshi, c1, c2, c3]); rfl))
    | fail)
      refine ⟨?_, rfl⟩
      congr 1

end Go.Proofs.Ytmfpkgcphlilmaa.AM
