/- The laws of bootstrings: small functions. -/
import Derived.Test.YtmfpkgcphlilmaaBL2
import Derived.Test.YtmfpkgcphlilmaaBootA
set_option linter.unusedVariables false
set_option linter.unusedSimpArgs false
namespace Go.Proofs.Ytmfpkgcphlilmaa.AM
open Go

theorem encode_wrong (b l hi s d i f : Int) (hb : -9223372036854775808 ≤ b ∧ b < 9223372036854775808) (hf : -2147483648 ≤ f ∧ f < 2147483648) (hw : ¬ RightI b l hi s d i f) (x : ByteArray) (h : AH) :
    WpC PX 16 [.agg (bpV b l hi s d i f).toArray, .string x] h fun v h' => v = .tuple (List.toArray [.string ⟨#[]⟩, .int .i64 1]) ∧ h.n ≤ h'.n ∧ ∀ b, b < h.n → h'.get b = h.get b := by
  have e1 := fun h => right_eq b l hi s d i f h hb hf
  rw [decide_eq_false hw] at e1
  unfold bpV at e1 ⊢
  refine wpc_fn (px_ext rfl) (px_fn fn_boot_Encode) rfl ?_
  unfold LF_boot_Encode
  simp only [argFr]
  (repeat' first
    | (show WpR _ _ _ _ _ _ _ _ _
       first
       | refine wpr_drop ?_
       | refine wpr_p (o := .mv _) (by simp only [ev_mv, opd_s, opd_c, fget, Nat.reduceEqDiff, Nat.one_ne_zero, Nat.zero_ne_one, reduceCtorEq, ↓reduceIte]; rfl) ?_
       | (refine wpr_fork (fun _ => ?_) (fun _ => ?_) <;> try (exfalso; omega))
       | (refine wpr_forkN (fun _ => ?_) (fun _ => ?_) <;> try (exfalso; omega))
       | refine wpr_run rfl ?_
       | refine wpr_pass rfl rfl ?_
       | refine wpr_passS rfl ?_
       | ((first | apply wpr_p | apply wpr_r | apply wpr_callA | apply wpr_callA0 | apply wpr_e0 | apply wpr_e | apply wpr_end0); focus ((try simp (disch := first | omega | (simp only [AH.nn_push, AH.nn_set, AH.nn_kill]; omega) | (simp only [AH.nn_push, AH.nn_set, AH.nn_kill]; done) | fail) only [push_cast, Nat.reduceEqDiff, ↓reduceIte, reduceCtorEq, Nat.reduceAdd, Nat.reduceMul, Nat.reduceLeDiff, AH.get_push_eq, AH.get_push_ne, AH.get_set_eq, AH.get_set_ne, AH.push_n, AH.set_n, e1]); rfl))
       | refine wpr_pass0 rfl rfl ?_
       | refine wpr_pass0S rfl ?_
       | (apply wpr_callvA; focus ((try simp (disch := first | omega | (simp only [AH.nn_push, AH.nn_set, AH.nn_kill]; omega) | (simp only [AH.nn_push, AH.nn_set, AH.nn_kill]; done) | fail) only [push_cast, Nat.reduceEqDiff, ↓reduceIte, reduceCtorEq, Nat.reduceAdd, Nat.reduceMul, Nat.reduceLeDiff, AH.get_push_eq, AH.get_push_ne, AH.get_set_eq, AH.get_set_ne, AH.push_n, AH.set_n, e1]); rfl))
       | (apply wpr_end; (focus ((try simp (disch := first | omega | (simp only [AH.nn_push, AH.nn_set, AH.nn_kill]; omega) | (simp only [AH.nn_push, AH.nn_set, AH.nn_kill]; done) | fail) only [push_cast, Nat.reduceEqDiff, ↓reduceIte, reduceCtorEq, Nat.reduceAdd, Nat.reduceMul, Nat.reduceLeDiff, AH.get_push_eq, AH.get_push_ne, AH.get_set_eq, AH.get_set_ne, AH.push_n, AH.set_n, e1]); rfl)); (focus (simp (disch := first | omega | (simp only [AH.nn_push, AH.nn_set, AH.nn_kill]; omega) | (simp only [AH.nn_push, AH.nn_set, AH.nn_kill]; done) | fail) only [push_cast, Nat.reduceEqDiff, ↓reduceIte, reduceCtorEq, Nat.reduceAdd, Nat.reduceMul, Nat.reduceLeDiff, AH.get_push_eq, AH.get_push_ne, AH.get_set_eq, AH.get_set_ne, AH.push_n, AH.set_n, e1]; done)))
       | fail)
    | (show Wp _ _ _ _ _ _
       first
       | refine wp_seq ?_
       | refine wp_region0 ?_
       | refine wp_region ?_
       | refine wp_cond_t rfl ?_
       | refine wp_cond_f rfl ?_
       | refine wp_ret ?_
       | refine wp_skip ?_
       | refine wp_exit ?_
       | refine wp_block ?_
       | fail)
    | refine thenQ_norm ?_
    | refine thenQ_ret ?_
    | refine thenQ_exit ?_
    | refine blockQ_norm ?_
    | refine blockQ_ret ?_
    | refine blockQ_same ?_
    | refine blockQ_ne rfl ?_
    | refine loopQ_norm ?_
    | refine loopQ_ret ?_
    | refine loopQ_exit ?_
    | ((first | apply retQ_ret | apply retQ_norm | apply wpc_of); focus ((try simp (disch := first | omega | (simp only [AH.nn_push, AH.nn_set, AH.nn_kill]; omega) | (simp only [AH.nn_push, AH.nn_set, AH.nn_kill]; done) | fail) only [push_cast, Nat.reduceEqDiff, ↓reduceIte, reduceCtorEq, Nat.reduceAdd, Nat.reduceMul, Nat.reduceLeDiff, AH.get_push_eq, AH.get_push_ne, AH.get_set_eq, AH.get_set_ne, AH.push_n, AH.set_n, e1]); rfl))
    | fail)
  refine ⟨rfl, ?_, fun q hq => ?_⟩
  · simp only [AH.push_n, AH.set_n]; omega
  · simp (disch := first | omega | (simp only [AH.nn_push, AH.nn_set, AH.nn_kill]; omega) | (simp only [AH.nn_push, AH.nn_set, AH.nn_kill]; done) | fail) only [AH.get_push_eq, AH.get_push_ne, AH.get_set_eq, AH.get_set_ne]

/-- The text at most so long. -/
theorem few_eq (x : ByteArray) (n : Nat) (h : AH) (hn : n < 9223372036854775808) (hx : x.size < 9223372036854775808) :
    callO PX 19 [.string x, .int .i64 n] h = some (.string ⟨(x.data.toList.take n).toArray⟩, h) := by
  apply WpC.eqn
  refine wpc_fn (px_ext rfl) (px_fn fn_guiselaw17_few) rfl ?_
  unfold LF_guiselaw17_few
  simp only [argFr]
  (repeat' first
    | (show WpR _ _ _ _ _ _ _ _ _
       first
       | refine wpr_drop ?_
       | refine wpr_p (o := .mv _) (by simp only [ev_mv, opd_s, opd_c, fget, Nat.reduceEqDiff, Nat.one_ne_zero, Nat.zero_ne_one, reduceCtorEq, ↓reduceIte]; rfl) ?_
       | (refine wpr_fork (fun _ => ?_) (fun _ => ?_) <;> try (exfalso; omega))
       | (refine wpr_forkN (fun _ => ?_) (fun _ => ?_) <;> try (exfalso; omega))
       | refine wpr_run rfl ?_
       | refine wpr_pass rfl rfl ?_
       | refine wpr_passS rfl ?_
       | ((first | apply wpr_p | apply wpr_r | apply wpr_callA | apply wpr_callA0 | apply wpr_e0 | apply wpr_e | apply wpr_end0); focus ((try simp (disch := first | omega | (simp only [AH.nn_push, AH.nn_set, AH.nn_kill]; omega) | (simp only [AH.nn_push, AH.nn_set, AH.nn_kill]; done) | fail) only [push_cast, Nat.reduceEqDiff, ↓reduceIte, reduceCtorEq, Nat.reduceAdd, Nat.reduceMul, Nat.reduceLeDiff, AH.get_push_eq, AH.get_push_ne, AH.get_set_eq, AH.get_set_ne, AH.push_n, AH.set_n]); rfl))
       | refine wpr_pass0 rfl rfl ?_
       | refine wpr_pass0S rfl ?_
       | (apply wpr_callvA; focus ((try simp (disch := first | omega | (simp only [AH.nn_push, AH.nn_set, AH.nn_kill]; omega) | (simp only [AH.nn_push, AH.nn_set, AH.nn_kill]; done) | fail) only [push_cast, Nat.reduceEqDiff, ↓reduceIte, reduceCtorEq, Nat.reduceAdd, Nat.reduceMul, Nat.reduceLeDiff, AH.get_push_eq, AH.get_push_ne, AH.get_set_eq, AH.get_set_ne, AH.push_n, AH.set_n]); rfl))
       | (apply wpr_end; (focus ((try simp (disch := first | omega | (simp only [AH.nn_push, AH.nn_set, AH.nn_kill]; omega) | (simp only [AH.nn_push, AH.nn_set, AH.nn_kill]; done) | fail) only [push_cast, Nat.reduceEqDiff, ↓reduceIte, reduceCtorEq, Nat.reduceAdd, Nat.reduceMul, Nat.reduceLeDiff, AH.get_push_eq, AH.get_push_ne, AH.get_set_eq, AH.get_set_ne, AH.push_n, AH.set_n]); rfl)); (focus (simp (disch := first | omega | (simp only [AH.nn_push, AH.nn_set, AH.nn_kill]; omega) | (simp only [AH.nn_push, AH.nn_set, AH.nn_kill]; done) | fail) only [push_cast, Nat.reduceEqDiff, ↓reduceIte, reduceCtorEq, Nat.reduceAdd, Nat.reduceMul, Nat.reduceLeDiff, AH.get_push_eq, AH.get_push_ne, AH.get_set_eq, AH.get_set_ne, AH.push_n, AH.set_n]; done)))
       | fail)
    | (show Wp _ _ _ _ _ _
       first
       | refine wp_seq ?_
       | refine wp_region0 ?_
       | refine wp_region ?_
       | refine wp_cond_t rfl ?_
       | refine wp_cond_f rfl ?_
       | refine wp_ret ?_
       | refine wp_skip ?_
       | refine wp_exit ?_
       | refine wp_block ?_
       | fail)
    | refine thenQ_norm ?_
    | refine thenQ_ret ?_
    | refine thenQ_exit ?_
    | refine blockQ_norm ?_
    | refine blockQ_ret ?_
    | refine blockQ_same ?_
    | refine blockQ_ne rfl ?_
    | refine loopQ_norm ?_
    | refine loopQ_ret ?_
    | refine loopQ_exit ?_
    | ((first | apply retQ_ret | apply retQ_norm | apply wpc_of); focus ((try simp (disch := first | omega | (simp only [AH.nn_push, AH.nn_set, AH.nn_kill]; omega) | (simp only [AH.nn_push, AH.nn_set, AH.nn_kill]; done) | fail) only [push_cast, Nat.reduceEqDiff, ↓reduceIte, reduceCtorEq, Nat.reduceAdd, Nat.reduceMul, Nat.reduceLeDiff, AH.get_push_eq, AH.get_push_ne, AH.get_set_eq, AH.get_set_ne, AH.push_n, AH.set_n]); rfl))
    | fail)
  · refine ⟨?_, rfl⟩
    congr 1
    apply ba_ext
    rw [ba_extract _ _ _ (by omega)]
    simp
  · refine ⟨?_, rfl⟩
    congr 1
    apply ba_ext
    have : x.data.toList.length = x.size := rfl
    simp only [List.toList_toArray]
    rw [List.take_of_length_le (by omega)]

theorem plain_eq (b l hi s d i f : Int) (h : AH) : callO PX 12 [.agg (bpV b l hi s d i f).toArray] h = some (.agg (bpV b l hi s d i f).toArray, h) := by
  apply WpC.eqn
  unfold bpV
  refine wpc_fn (px_ext rfl) (px_fn fn_guiselaw17_plain) rfl ?_
  unfold LF_guiselaw17_plain
  simp only [argFr]
  (repeat' first
    | (show WpR _ _ _ _ _ _ _ _ _
       first
       | refine wpr_drop ?_
       | refine wpr_p (o := .mv _) (by simp only [ev_mv, opd_s, opd_c, fget, Nat.reduceEqDiff, Nat.one_ne_zero, Nat.zero_ne_one, reduceCtorEq, ↓reduceIte]; rfl) ?_
       | (refine wpr_fork (fun _ => ?_) (fun _ => ?_) <;> try (exfalso; omega))
       | (refine wpr_forkN (fun _ => ?_) (fun _ => ?_) <;> try (exfalso; omega))
       | refine wpr_run rfl ?_
       | refine wpr_pass rfl rfl ?_
       | refine wpr_passS rfl ?_
       | ((first | apply wpr_p | apply wpr_r | apply wpr_callA | apply wpr_callA0 | apply wpr_e0 | apply wpr_e | apply wpr_end0); focus ((try simp (disch := first | omega | (simp only [AH.nn_push, AH.nn_set, AH.nn_kill]; omega) | (simp only [AH.nn_push, AH.nn_set, AH.nn_kill]; done) | fail) only [push_cast, Nat.reduceEqDiff, ↓reduceIte, reduceCtorEq, Nat.reduceAdd, Nat.reduceMul, Nat.reduceLeDiff, AH.get_push_eq, AH.get_push_ne, AH.get_set_eq, AH.get_set_ne, AH.push_n, AH.set_n]); rfl))
       | refine wpr_pass0 rfl rfl ?_
       | refine wpr_pass0S rfl ?_
       | (apply wpr_callvA; focus ((try simp (disch := first | omega | (simp only [AH.nn_push, AH.nn_set, AH.nn_kill]; omega) | (simp only [AH.nn_push, AH.nn_set, AH.nn_kill]; done) | fail) only [push_cast, Nat.reduceEqDiff, ↓reduceIte, reduceCtorEq, Nat.reduceAdd, Nat.reduceMul, Nat.reduceLeDiff, AH.get_push_eq, AH.get_push_ne, AH.get_set_eq, AH.get_set_ne, AH.push_n, AH.set_n]); rfl))
       | (apply wpr_end; (focus ((try simp (disch := first | omega | (simp only [AH.nn_push, AH.nn_set, AH.nn_kill]; omega) | (simp only [AH.nn_push, AH.nn_set, AH.nn_kill]; done) | fail) only [push_cast, Nat.reduceEqDiff, ↓reduceIte, reduceCtorEq, Nat.reduceAdd, Nat.reduceMul, Nat.reduceLeDiff, AH.get_push_eq, AH.get_push_ne, AH.get_set_eq, AH.get_set_ne, AH.push_n, AH.set_n]); rfl)); (focus (simp (disch := first | omega | (simp only [AH.nn_push, AH.nn_set, AH.nn_kill]; omega) | (simp only [AH.nn_push, AH.nn_set, AH.nn_kill]; done) | fail) only [push_cast, Nat.reduceEqDiff, ↓reduceIte, reduceCtorEq, Nat.reduceAdd, Nat.reduceMul, Nat.reduceLeDiff, AH.get_push_eq, AH.get_push_ne, AH.get_set_eq, AH.get_set_ne, AH.push_n, AH.set_n]; done)))
       | fail)
    | (show Wp _ _ _ _ _ _
       first
       | refine wp_seq ?_
       | refine wp_region0 ?_
       | refine wp_region ?_
       | refine wp_cond_t rfl ?_
       | refine wp_cond_f rfl ?_
       | refine wp_ret ?_
       | refine wp_skip ?_
       | refine wp_exit ?_
       | refine wp_block ?_
       | fail)
    | refine thenQ_norm ?_
    | refine thenQ_ret ?_
    | refine thenQ_exit ?_
    | refine blockQ_norm ?_
    | refine blockQ_ret ?_
    | refine blockQ_same ?_
    | refine blockQ_ne rfl ?_
    | refine loopQ_norm ?_
    | refine loopQ_ret ?_
    | refine loopQ_exit ?_
    | ((first | apply retQ_ret | apply retQ_norm | apply wpc_of); focus ((try simp (disch := first | omega | (simp only [AH.nn_push, AH.nn_set, AH.nn_kill]; omega) | (simp only [AH.nn_push, AH.nn_set, AH.nn_kill]; done) | fail) only [push_cast, Nat.reduceEqDiff, ↓reduceIte, reduceCtorEq, Nat.reduceAdd, Nat.reduceMul, Nat.reduceLeDiff, AH.get_push_eq, AH.get_push_ne, AH.get_set_eq, AH.get_set_ne, AH.push_n, AH.set_n]); rfl))
    | fail)
  exact ⟨rfl, rfl⟩

/-- How many bytes a rune takes. -/
def widthI (r : Int) : Int := if r < 0 ∨ 1114111 < r ∨ (55296 ≤ r ∧ r ≤ 57343) then 0 else if r < 128 then 1 else if r < 2048 then 2 else if r < 65536 then 3 else 4

theorem width_eq (r : Int) (h : AH) : callO PX 42 [.int .i32 r] h = some (.int .i64 (widthI r), h) := by
  apply WpC.eqn
  refine wpc_fn (px_ext rfl) (px_fn fn_guiseref1_Width) rfl ?_
  unfold LF_guiseref1_Width
  simp only [argFr]
  (repeat' first
    | (show WpR _ _ _ _ _ _ _ _ _
       first
       | refine wpr_drop ?_
       | refine wpr_p (o := .mv _) (by simp only [ev_mv, opd_s, opd_c, fget, Nat.reduceEqDiff, Nat.one_ne_zero, Nat.zero_ne_one, reduceCtorEq, ↓reduceIte]; rfl) ?_
       | (refine wpr_fork (fun _ => ?_) (fun _ => ?_) <;> try (exfalso; omega))
       | (refine wpr_forkN (fun _ => ?_) (fun _ => ?_) <;> try (exfalso; omega))
       | refine wpr_run rfl ?_
       | refine wpr_pass rfl rfl ?_
       | refine wpr_passS rfl ?_
       | ((first | apply wpr_p | apply wpr_r | apply wpr_callA | apply wpr_callA0 | apply wpr_e0 | apply wpr_e | apply wpr_end0); focus ((try simp (disch := first | omega | (simp only [AH.nn_push, AH.nn_set, AH.nn_kill]; omega) | (simp only [AH.nn_push, AH.nn_set, AH.nn_kill]; done) | fail) only [push_cast, Nat.reduceEqDiff, ↓reduceIte, reduceCtorEq, Nat.reduceAdd, Nat.reduceMul, Nat.reduceLeDiff, AH.get_push_eq, AH.get_push_ne, AH.get_set_eq, AH.get_set_ne, AH.push_n, AH.set_n]); rfl))
       | refine wpr_pass0 rfl rfl ?_
       | refine wpr_pass0S rfl ?_
       | (apply wpr_callvA; focus ((try simp (disch := first | omega | (simp only [AH.nn_push, AH.nn_set, AH.nn_kill]; omega) | (simp only [AH.nn_push, AH.nn_set, AH.nn_kill]; done) | fail) only [push_cast, Nat.reduceEqDiff, ↓reduceIte, reduceCtorEq, Nat.reduceAdd, Nat.reduceMul, Nat.reduceLeDiff, AH.get_push_eq, AH.get_push_ne, AH.get_set_eq, AH.get_set_ne, AH.push_n, AH.set_n]); rfl))
       | (apply wpr_end; (focus ((try simp (disch := first | omega | (simp only [AH.nn_push, AH.nn_set, AH.nn_kill]; omega) | (simp only [AH.nn_push, AH.nn_set, AH.nn_kill]; done) | fail) only [push_cast, Nat.reduceEqDiff, ↓reduceIte, reduceCtorEq, Nat.reduceAdd, Nat.reduceMul, Nat.reduceLeDiff, AH.get_push_eq, AH.get_push_ne, AH.get_set_eq, AH.get_set_ne, AH.push_n, AH.set_n]); rfl)); (focus (simp (disch := first | omega | (simp only [AH.nn_push, AH.nn_set, AH.nn_kill]; omega) | (simp only [AH.nn_push, AH.nn_set, AH.nn_kill]; done) | fail) only [push_cast, Nat.reduceEqDiff, ↓reduceIte, reduceCtorEq, Nat.reduceAdd, Nat.reduceMul, Nat.reduceLeDiff, AH.get_push_eq, AH.get_push_ne, AH.get_set_eq, AH.get_set_ne, AH.push_n, AH.set_n]; done)))
       | fail)
    | (show Wp _ _ _ _ _ _
       first
       | refine wp_seq ?_
       | refine wp_region0 ?_
       | refine wp_region ?_
       | refine wp_cond_t rfl ?_
       | refine wp_cond_f rfl ?_
       | refine wp_ret ?_
       | refine wp_skip ?_
       | refine wp_exit ?_
       | refine wp_block ?_
       | fail)
    | refine thenQ_norm ?_
    | refine thenQ_ret ?_
    | refine thenQ_exit ?_
    | refine blockQ_norm ?_
    | refine blockQ_ret ?_
    | refine blockQ_same ?_
    | refine blockQ_ne rfl ?_
    | refine loopQ_norm ?_
    | refine loopQ_ret ?_
    | refine loopQ_exit ?_
    | ((first | apply retQ_ret | apply retQ_norm | apply wpc_of); focus ((try simp (disch := first | omega | (simp only [AH.nn_push, AH.nn_set, AH.nn_kill]; omega) | (simp only [AH.nn_push, AH.nn_set, AH.nn_kill]; done) | fail) only [push_cast, Nat.reduceEqDiff, ↓reduceIte, reduceCtorEq, Nat.reduceAdd, Nat.reduceMul, Nat.reduceLeDiff, AH.get_push_eq, AH.get_push_ne, AH.get_set_eq, AH.get_set_ne, AH.push_n, AH.set_n]); rfl))
    | fail)
  all_goals (refine ⟨?_, rfl⟩; congr 1; unfold widthI; repeat' split; all_goals (first | rfl | (exfalso; omega)))

theorem refRight_eq (b l hi s d i f : Int) (h : AH) (hb : -9223372036854775808 ≤ b ∧ b < 9223372036854775808) (hf : -2147483648 ≤ f ∧ f < 2147483648) :
    callO PX 18 [.agg (bpV b l hi s d i f).toArray] h = some (.bool (decide (RightI b l hi s d i f)), h) := by
  have e2 := fun h => width_eq f h
  apply WpC.eqn
  refine wpc_fn (px_ext rfl) (px_fn fn_guiseref17_Right) rfl ?_
  unfold LF_guiseref17_Right bpV
  simp only [argFr]
  by_cases g1 : 3 ≤ b ∧ b ≤ 36
  all_goals
    (repeat' first
    | (show WpR _ _ _ _ _ _ _ _ _
       first
       | refine wpr_drop ?_
       | refine wpr_p (o := .mv _) (by simp only [ev_mv, opd_s, opd_c, fget, Nat.reduceEqDiff, Nat.one_ne_zero, Nat.zero_ne_one, reduceCtorEq, ↓reduceIte]; rfl) ?_
       | (refine wpr_fork (fun _ => ?_) (fun _ => ?_) <;> try (exfalso; omega))
       | (refine wpr_forkN (fun _ => ?_) (fun _ => ?_) <;> try (exfalso; omega))
       | refine wpr_run rfl ?_
       | refine wpr_pass rfl rfl ?_
       | refine wpr_passS rfl ?_
       | ((first | apply wpr_p | apply wpr_r | apply wpr_callA | apply wpr_callA0 | apply wpr_e0 | apply wpr_e | apply wpr_end0); focus ((try simp (disch := first | omega | (simp only [AH.nn_push, AH.nn_set, AH.nn_kill]; omega) | (simp only [AH.nn_push, AH.nn_set, AH.nn_kill]; done) | fail) only [push_cast, Nat.reduceEqDiff, ↓reduceIte, reduceCtorEq, Nat.reduceAdd, Nat.reduceMul, Nat.reduceLeDiff, AH.get_push_eq, AH.get_push_ne, AH.get_set_eq, AH.get_set_ne, AH.push_n, AH.set_n, e2]); rfl))
       | refine wpr_pass0 rfl rfl ?_
       | refine wpr_pass0S rfl ?_
       | (apply wpr_callvA; focus ((try simp (disch := first | omega | (simp only [AH.nn_push, AH.nn_set, AH.nn_kill]; omega) | (simp only [AH.nn_push, AH.nn_set, AH.nn_kill]; done) | fail) only [push_cast, Nat.reduceEqDiff, ↓reduceIte, reduceCtorEq, Nat.reduceAdd, Nat.reduceMul, Nat.reduceLeDiff, AH.get_push_eq, AH.get_push_ne, AH.get_set_eq, AH.get_set_ne, AH.push_n, AH.set_n, e2]); rfl))
       | (apply wpr_end; (focus ((try simp (disch := first | omega | (simp only [AH.nn_push, AH.nn_set, AH.nn_kill]; omega) | (simp only [AH.nn_push, AH.nn_set, AH.nn_kill]; done) | fail) only [push_cast, Nat.reduceEqDiff, ↓reduceIte, reduceCtorEq, Nat.reduceAdd, Nat.reduceMul, Nat.reduceLeDiff, AH.get_push_eq, AH.get_push_ne, AH.get_set_eq, AH.get_set_ne, AH.push_n, AH.set_n, e2]); rfl)); (focus (simp (disch := first | omega | (simp only [AH.nn_push, AH.nn_set, AH.nn_kill]; omega) | (simp only [AH.nn_push, AH.nn_set, AH.nn_kill]; done) | fail) only [push_cast, Nat.reduceEqDiff, ↓reduceIte, reduceCtorEq, Nat.reduceAdd, Nat.reduceMul, Nat.reduceLeDiff, AH.get_push_eq, AH.get_push_ne, AH.get_set_eq, AH.get_set_ne, AH.push_n, AH.set_n, e2]; done)))
       | fail)
    | (show Wp _ _ _ _ _ _
       first
       | refine wp_seq ?_
       | refine wp_region0 ?_
       | refine wp_region ?_
       | refine wp_cond_t rfl ?_
       | refine wp_cond_f rfl ?_
       | refine wp_ret ?_
       | refine wp_skip ?_
       | refine wp_exit ?_
       | refine wp_block ?_
       | fail)
    | refine thenQ_norm ?_
    | refine thenQ_ret ?_
    | refine thenQ_exit ?_
    | refine blockQ_norm ?_
    | refine blockQ_ret ?_
    | refine blockQ_same ?_
    | refine blockQ_ne rfl ?_
    | refine loopQ_norm ?_
    | refine loopQ_ret ?_
    | refine loopQ_exit ?_
    | ((first | apply retQ_ret | apply retQ_norm | apply wpc_of); focus ((try simp (disch := first | omega | (simp only [AH.nn_push, AH.nn_set, AH.nn_kill]; omega) | (simp only [AH.nn_push, AH.nn_set, AH.nn_kill]; done) | fail) only [push_cast, Nat.reduceEqDiff, ↓reduceIte, reduceCtorEq, Nat.reduceAdd, Nat.reduceMul, Nat.reduceLeDiff, AH.get_push_eq, AH.get_push_ne, AH.get_set_eq, AH.get_set_ne, AH.push_n, AH.set_n, e2]); rfl))
    | fail)
  all_goals (refine ⟨?_, rfl⟩; congr 1; symm; unfold RightI; first | (exact decide_eq_true (by omega)) | (exact decide_eq_false (by omega)) | (unfold widthI at *; split at * <;> first | (exact decide_eq_true (by omega)) | (exact decide_eq_false (by omega))))

theorem alive_eq (h : AH) : callO PX 11 [] h = some (.bool true, h) := by
  rw [callO_ext (g := aliveX) (px_at rfl)]
  rfl

end Go.Proofs.Ytmfpkgcphlilmaa.AM
