/- What the small functions answer. -/
import Derived.Test.YtanpdopjgepbkaaSlA
import Derived.Test.YtanpdopjgepbkaaAmOwn
set_option linter.unusedVariables false
set_option linter.unusedSimpArgs false
namespace Go.Proofs.Ytanpdopjgepbkaa.AM
open Go

abbrev IsRune (n : Int) : Prop := 0 ≤ n ∧ n < 0xd800 ∨ 0xdfff < n ∧ n ≤ 0x10ffff

theorem dec_t {c : Prop} [Decidable c] (h : c) : Value.bool true = .bool (decide c) := by simp [h]
theorem dec_f {c : Prop} [Decidable c] (h : ¬ c) : Value.bool false = .bool (decide c) := by simp [h]

@[push_cast] theorem validRune_eq (n : Int) (h : AH) : callO PS 62 [.int .i32 n] h = some (.bool (decide (IsRune n)), h) := by
  apply WpC.eqn
  refine wpc_fn (ps_ext rfl) (ps_fn fn62) rfl ?_
  unfold LF62
  simp only [argFr]
  (repeat' first
    | (show WpR _ _ _ _ _ _ _ _ _
       first
       | refine wpr_p (o := .mv _) (by simp only [ev_mv, opd_s, opd_c, fget, Nat.reduceEqDiff, Nat.one_ne_zero, Nat.zero_ne_one, reduceCtorEq, ↓reduceIte]; rfl) ?_
       | (refine wpr_fork (fun _ => ?_) (fun _ => ?_) <;> try (exfalso; omega))
       | (refine wpr_forkN (fun _ => ?_) (fun _ => ?_) <;> try (exfalso; omega))
       | refine wpr_p (by simp (disch := omega) only [push_cast, Nat.reduceEqDiff, ↓reduceIte, reduceCtorEq, Nat.reduceAdd, Nat.reduceMul, Nat.reduceLeDiff]; rfl) ?_
       | refine wpr_r (by simp (disch := omega) only [push_cast, Nat.reduceEqDiff, ↓reduceIte, reduceCtorEq, Nat.reduceAdd, Nat.reduceMul, Nat.reduceLeDiff]; rfl) ?_
       | refine wpr_run rfl ?_
       | refine wpr_pass rfl rfl ?_
       | refine wpr_passS rfl ?_
       | refine wpr_call (by (try simp (disch := omega) only [push_cast, Nat.reduceEqDiff, ↓reduceIte, reduceCtorEq, Nat.reduceAdd, Nat.reduceMul, Nat.reduceLeDiff]) <;> rfl) (by first | rfl | simp only [push_cast, Nat.reduceEqDiff, ↓reduceIte, reduceCtorEq, Nat.reduceAdd, Nat.reduceMul, Nat.reduceLeDiff]) ?_
       | refine wpr_e0 (by simp (disch := omega) only [push_cast, Nat.reduceEqDiff, ↓reduceIte, reduceCtorEq, Nat.reduceAdd, Nat.reduceMul, Nat.reduceLeDiff]; rfl) ?_
       | refine wpr_e (by simp (disch := omega) only [push_cast, Nat.reduceEqDiff, ↓reduceIte, reduceCtorEq, Nat.reduceAdd, Nat.reduceMul, Nat.reduceLeDiff]; rfl) ?_
       | refine wpr_nil (by first | exact chkT_nil | (simp (disch := omega) only [push_cast, Nat.reduceEqDiff, ↓reduceIte, reduceCtorEq, Nat.reduceAdd, Nat.reduceMul, Nat.reduceLeDiff]; done)) (by (try simp only [push_cast, Nat.reduceEqDiff, ↓reduceIte, reduceCtorEq, Nat.reduceAdd, Nat.reduceMul, Nat.reduceLeDiff]); rfl) (by (try simp only [push_cast, Nat.reduceEqDiff, ↓reduceIte, reduceCtorEq, Nat.reduceAdd, Nat.reduceMul, Nat.reduceLeDiff]); rfl) ?_
       | refine wpr_pass0 rfl rfl ?_
       | refine wpr_pass0S rfl ?_)
    | (show Wp _ _ _ _ _ _
       first
       | refine wp_seq ?_
       | refine wp_region ?_
       | refine wp_cond_t rfl ?_
       | refine wp_cond_f rfl ?_
       | refine wp_ret ?_
       | refine wp_skip ?_
       | refine wp_exit ?_
       | refine wp_block ?_)
    | refine thenQ_norm ?_
    | refine thenQ_ret ?_
    | refine thenQ_exit ?_
    | refine blockQ_norm ?_
    | refine blockQ_ret ?_
    | refine blockQ_same ?_
    | refine blockQ_ne rfl ?_
    | refine loopQ_norm ?_
    | refine loopQ_ret ?_
    | refine loopQ_exit ?_
    | refine retQ_ret (by (try simp (disch := omega) only [push_cast, Nat.reduceEqDiff, ↓reduceIte, reduceCtorEq, Nat.reduceAdd, Nat.reduceMul, Nat.reduceLeDiff]); rfl) ?_
    | refine retQ_norm (by (try simp (disch := omega) only [push_cast, Nat.reduceEqDiff, ↓reduceIte, reduceCtorEq, Nat.reduceAdd, Nat.reduceMul, Nat.reduceLeDiff]); rfl) ?_
    | refine wpc_of (by simp (disch := omega) only [push_cast, Nat.reduceEqDiff, ↓reduceIte, reduceCtorEq, Nat.reduceAdd, Nat.reduceMul, Nat.reduceLeDiff]; rfl) ?_)
  all_goals refine ⟨?_, rfl⟩
  all_goals first | exact dec_t (by omega) | exact dec_f (by omega)

@[push_cast] theorem refRune_eq (n : Int) (h : AH) : callO PS 65 [.int .i64 n] h = some (.bool (decide (IsRune n)), h) := by
  apply WpC.eqn
  refine wpc_fn (ps_ext rfl) (ps_fn fn65) rfl ?_
  unfold LF65
  simp only [argFr]
  (repeat' first
    | (show WpR _ _ _ _ _ _ _ _ _
       first
       | refine wpr_p (o := .mv _) (by simp only [ev_mv, opd_s, opd_c, fget, Nat.reduceEqDiff, Nat.one_ne_zero, Nat.zero_ne_one, reduceCtorEq, ↓reduceIte]; rfl) ?_
       | (refine wpr_fork (fun _ => ?_) (fun _ => ?_) <;> try (exfalso; omega))
       | (refine wpr_forkN (fun _ => ?_) (fun _ => ?_) <;> try (exfalso; omega))
       | refine wpr_p (by simp (disch := omega) only [push_cast, Nat.reduceEqDiff, ↓reduceIte, reduceCtorEq, Nat.reduceAdd, Nat.reduceMul, Nat.reduceLeDiff]; rfl) ?_
       | refine wpr_r (by simp (disch := omega) only [push_cast, Nat.reduceEqDiff, ↓reduceIte, reduceCtorEq, Nat.reduceAdd, Nat.reduceMul, Nat.reduceLeDiff]; rfl) ?_
       | refine wpr_run rfl ?_
       | refine wpr_pass rfl rfl ?_
       | refine wpr_passS rfl ?_
       | refine wpr_call (by (try simp (disch := omega) only [push_cast, Nat.reduceEqDiff, ↓reduceIte, reduceCtorEq, Nat.reduceAdd, Nat.reduceMul, Nat.reduceLeDiff]) <;> rfl) (by first | rfl | simp only [push_cast, Nat.reduceEqDiff, ↓reduceIte, reduceCtorEq, Nat.reduceAdd, Nat.reduceMul, Nat.reduceLeDiff]) ?_
       | refine wpr_e0 (by simp (disch := omega) only [push_cast, Nat.reduceEqDiff, ↓reduceIte, reduceCtorEq, Nat.reduceAdd, Nat.reduceMul, Nat.reduceLeDiff]; rfl) ?_
       | refine wpr_e (by simp (disch := omega) only [push_cast, Nat.reduceEqDiff, ↓reduceIte, reduceCtorEq, Nat.reduceAdd, Nat.reduceMul, Nat.reduceLeDiff]; rfl) ?_
       | refine wpr_nil (by first | exact chkT_nil | (simp (disch := omega) only [push_cast, Nat.reduceEqDiff, ↓reduceIte, reduceCtorEq, Nat.reduceAdd, Nat.reduceMul, Nat.reduceLeDiff]; done)) (by (try simp only [push_cast, Nat.reduceEqDiff, ↓reduceIte, reduceCtorEq, Nat.reduceAdd, Nat.reduceMul, Nat.reduceLeDiff]); rfl) (by (try simp only [push_cast, Nat.reduceEqDiff, ↓reduceIte, reduceCtorEq, Nat.reduceAdd, Nat.reduceMul, Nat.reduceLeDiff]); rfl) ?_
       | refine wpr_pass0 rfl rfl ?_
       | refine wpr_pass0S rfl ?_)
    | (show Wp _ _ _ _ _ _
       first
       | refine wp_seq ?_
       | refine wp_region ?_
       | refine wp_cond_t rfl ?_
       | refine wp_cond_f rfl ?_
       | refine wp_ret ?_
       | refine wp_skip ?_
       | refine wp_exit ?_
       | refine wp_block ?_)
    | refine thenQ_norm ?_
    | refine thenQ_ret ?_
    | refine thenQ_exit ?_
    | refine blockQ_norm ?_
    | refine blockQ_ret ?_
    | refine blockQ_same ?_
    | refine blockQ_ne rfl ?_
    | refine loopQ_norm ?_
    | refine loopQ_ret ?_
    | refine loopQ_exit ?_
    | refine retQ_ret (by (try simp (disch := omega) only [push_cast, Nat.reduceEqDiff, ↓reduceIte, reduceCtorEq, Nat.reduceAdd, Nat.reduceMul, Nat.reduceLeDiff]); rfl) ?_
    | refine retQ_norm (by (try simp (disch := omega) only [push_cast, Nat.reduceEqDiff, ↓reduceIte, reduceCtorEq, Nat.reduceAdd, Nat.reduceMul, Nat.reduceLeDiff]); rfl) ?_
    | refine wpc_of (by simp (disch := omega) only [push_cast, Nat.reduceEqDiff, ↓reduceIte, reduceCtorEq, Nat.reduceAdd, Nat.reduceMul, Nat.reduceLeDiff]; rfl) ?_)
  all_goals refine ⟨?_, rfl⟩
  all_goals first | exact dec_t (by omega) | exact dec_f (by omega)

/-- A rune's rank. -/
def rankF (n : Int) : Int := if n < 0xd800 then max n 0 else if n < 0xe000 then 0xd800 else min (n - 2048) 1112064
def runeF (n : Int) : Int := if n ≥ 0xd800 then n + 2048 else n

@[push_cast] theorem rank_eq (n : Int) (h : AH) (h1 : -2147483648 ≤ n) (h2 : n ≤ 2147483648) : callO PS 64 [.int .i64 n] h = some (.int .i64 (rankF n), h) := by
  apply WpC.eqn
  refine wpc_fn (ps_ext rfl) (ps_fn fn64) rfl ?_
  unfold LF64
  simp only [argFr]
  (repeat' first
    | (show WpR _ _ _ _ _ _ _ _ _
       first
       | refine wpr_p (o := .mv _) (by simp only [ev_mv, opd_s, opd_c, fget, Nat.reduceEqDiff, Nat.one_ne_zero, Nat.zero_ne_one, reduceCtorEq, ↓reduceIte]; rfl) ?_
       | (refine wpr_fork (fun _ => ?_) (fun _ => ?_) <;> try (exfalso; omega))
       | (refine wpr_forkN (fun _ => ?_) (fun _ => ?_) <;> try (exfalso; omega))
       | refine wpr_p (by simp (disch := omega) only [push_cast, Nat.reduceEqDiff, ↓reduceIte, reduceCtorEq, Nat.reduceAdd, Nat.reduceMul, Nat.reduceLeDiff]; rfl) ?_
       | refine wpr_r (by simp (disch := omega) only [push_cast, Nat.reduceEqDiff, ↓reduceIte, reduceCtorEq, Nat.reduceAdd, Nat.reduceMul, Nat.reduceLeDiff]; rfl) ?_
       | refine wpr_run rfl ?_
       | refine wpr_pass rfl rfl ?_
       | refine wpr_passS rfl ?_
       | refine wpr_call (by (try simp (disch := omega) only [push_cast, Nat.reduceEqDiff, ↓reduceIte, reduceCtorEq, Nat.reduceAdd, Nat.reduceMul, Nat.reduceLeDiff]) <;> rfl) (by first | rfl | simp only [push_cast, Nat.reduceEqDiff, ↓reduceIte, reduceCtorEq, Nat.reduceAdd, Nat.reduceMul, Nat.reduceLeDiff]) ?_
       | refine wpr_e0 (by simp (disch := omega) only [push_cast, Nat.reduceEqDiff, ↓reduceIte, reduceCtorEq, Nat.reduceAdd, Nat.reduceMul, Nat.reduceLeDiff]; rfl) ?_
       | refine wpr_e (by simp (disch := omega) only [push_cast, Nat.reduceEqDiff, ↓reduceIte, reduceCtorEq, Nat.reduceAdd, Nat.reduceMul, Nat.reduceLeDiff]; rfl) ?_
       | refine wpr_nil (by first | exact chkT_nil | (simp (disch := omega) only [push_cast, Nat.reduceEqDiff, ↓reduceIte, reduceCtorEq, Nat.reduceAdd, Nat.reduceMul, Nat.reduceLeDiff]; done)) (by (try simp only [push_cast, Nat.reduceEqDiff, ↓reduceIte, reduceCtorEq, Nat.reduceAdd, Nat.reduceMul, Nat.reduceLeDiff]); rfl) (by (try simp only [push_cast, Nat.reduceEqDiff, ↓reduceIte, reduceCtorEq, Nat.reduceAdd, Nat.reduceMul, Nat.reduceLeDiff]); rfl) ?_
       | refine wpr_pass0 rfl rfl ?_
       | refine wpr_pass0S rfl ?_)
    | (show Wp _ _ _ _ _ _
       first
       | refine wp_seq ?_
       | refine wp_region ?_
       | refine wp_cond_t rfl ?_
       | refine wp_cond_f rfl ?_
       | refine wp_ret ?_
       | refine wp_skip ?_
       | refine wp_exit ?_
       | refine wp_block ?_)
    | refine thenQ_norm ?_
    | refine thenQ_ret ?_
    | refine thenQ_exit ?_
    | refine blockQ_norm ?_
    | refine blockQ_ret ?_
    | refine blockQ_same ?_
    | refine blockQ_ne rfl ?_
    | refine loopQ_norm ?_
    | refine loopQ_ret ?_
    | refine loopQ_exit ?_
    | refine retQ_ret (by (try simp (disch := omega) only [push_cast, Nat.reduceEqDiff, ↓reduceIte, reduceCtorEq, Nat.reduceAdd, Nat.reduceMul, Nat.reduceLeDiff]); rfl) ?_
    | refine retQ_norm (by (try simp (disch := omega) only [push_cast, Nat.reduceEqDiff, ↓reduceIte, reduceCtorEq, Nat.reduceAdd, Nat.reduceMul, Nat.reduceLeDiff]); rfl) ?_
    | refine wpc_of (by simp (disch := omega) only [push_cast, Nat.reduceEqDiff, ↓reduceIte, reduceCtorEq, Nat.reduceAdd, Nat.reduceMul, Nat.reduceLeDiff]; rfl) ?_)
  all_goals first | refine ⟨?_, rfl⟩
  all_goals (unfold rankF; congr 1; omega)

@[push_cast] theorem runeOf_eq (n : Int) (h : AH) (h1 : -1000000000 ≤ n) (h2 : n ≤ 1000000000) : callO PS 60 [.int .i64 n] h = some (.int .i32 (runeF n), h) := by
  apply WpC.eqn
  refine wpc_fn (ps_ext rfl) (ps_fn fn60) rfl ?_
  unfold LF60
  simp only [argFr]
  (repeat' first
    | (show WpR _ _ _ _ _ _ _ _ _
       first
       | refine wpr_p (o := .mv _) (by simp only [ev_mv, opd_s, opd_c, fget, Nat.reduceEqDiff, Nat.one_ne_zero, Nat.zero_ne_one, reduceCtorEq, ↓reduceIte]; rfl) ?_
       | (refine wpr_fork (fun _ => ?_) (fun _ => ?_) <;> try (exfalso; omega))
       | (refine wpr_forkN (fun _ => ?_) (fun _ => ?_) <;> try (exfalso; omega))
       | refine wpr_p (by simp (disch := omega) only [push_cast, Nat.reduceEqDiff, ↓reduceIte, reduceCtorEq, Nat.reduceAdd, Nat.reduceMul, Nat.reduceLeDiff]; rfl) ?_
       | refine wpr_r (by simp (disch := omega) only [push_cast, Nat.reduceEqDiff, ↓reduceIte, reduceCtorEq, Nat.reduceAdd, Nat.reduceMul, Nat.reduceLeDiff]; rfl) ?_
       | refine wpr_run rfl ?_
       | refine wpr_pass rfl rfl ?_
       | refine wpr_passS rfl ?_
       | refine wpr_call (by (try simp (disch := omega) only [push_cast, Nat.reduceEqDiff, ↓reduceIte, reduceCtorEq, Nat.reduceAdd, Nat.reduceMul, Nat.reduceLeDiff]) <;> rfl) (by first | rfl | simp only [push_cast, Nat.reduceEqDiff, ↓reduceIte, reduceCtorEq, Nat.reduceAdd, Nat.reduceMul, Nat.reduceLeDiff]) ?_
       | refine wpr_e0 (by simp (disch := omega) only [push_cast, Nat.reduceEqDiff, ↓reduceIte, reduceCtorEq, Nat.reduceAdd, Nat.reduceMul, Nat.reduceLeDiff]; rfl) ?_
       | refine wpr_e (by simp (disch := omega) only [push_cast, Nat.reduceEqDiff, ↓reduceIte, reduceCtorEq, Nat.reduceAdd, Nat.reduceMul, Nat.reduceLeDiff]; rfl) ?_
       | refine wpr_nil (by first | exact chkT_nil | (simp (disch := omega) only [push_cast, Nat.reduceEqDiff, ↓reduceIte, reduceCtorEq, Nat.reduceAdd, Nat.reduceMul, Nat.reduceLeDiff]; done)) (by (try simp only [push_cast, Nat.reduceEqDiff, ↓reduceIte, reduceCtorEq, Nat.reduceAdd, Nat.reduceMul, Nat.reduceLeDiff]); rfl) (by (try simp only [push_cast, Nat.reduceEqDiff, ↓reduceIte, reduceCtorEq, Nat.reduceAdd, Nat.reduceMul, Nat.reduceLeDiff]); rfl) ?_
       | refine wpr_pass0 rfl rfl ?_
       | refine wpr_pass0S rfl ?_)
    | (show Wp _ _ _ _ _ _
       first
       | refine wp_seq ?_
       | refine wp_region ?_
       | refine wp_cond_t rfl ?_
       | refine wp_cond_f rfl ?_
       | refine wp_ret ?_
       | refine wp_skip ?_
       | refine wp_exit ?_
       | refine wp_block ?_)
    | refine thenQ_norm ?_
    | refine thenQ_ret ?_
    | refine thenQ_exit ?_
    | refine blockQ_norm ?_
    | refine blockQ_ret ?_
    | refine blockQ_same ?_
    | refine blockQ_ne rfl ?_
    | refine loopQ_norm ?_
    | refine loopQ_ret ?_
    | refine loopQ_exit ?_
    | refine retQ_ret (by (try simp (disch := omega) only [push_cast, Nat.reduceEqDiff, ↓reduceIte, reduceCtorEq, Nat.reduceAdd, Nat.reduceMul, Nat.reduceLeDiff]); rfl) ?_
    | refine retQ_norm (by (try simp (disch := omega) only [push_cast, Nat.reduceEqDiff, ↓reduceIte, reduceCtorEq, Nat.reduceAdd, Nat.reduceMul, Nat.reduceLeDiff]); rfl) ?_
    | refine wpc_of (by simp (disch := omega) only [push_cast, Nat.reduceEqDiff, ↓reduceIte, reduceCtorEq, Nat.reduceAdd, Nat.reduceMul, Nat.reduceLeDiff]; rfl) ?_)
  all_goals refine ⟨?_, rfl⟩
  all_goals (unfold runeF; congr 1; omega)

def wrongF (x : Int × Int) : Int := if ¬ IsRune x.1 ∨ ¬ IsRune x.2 then 12 else if x.2 < x.1 then 11 else 0
def spanV (x : Int × Int) : List Value := [.int .i32 x.1, .int .i32 x.2]

@[push_cast] theorem wrong_eq (x y : Int) (h : AH) : callO PS 71 [.agg (List.toArray [.int .i32 x, .int .i32 y])] h = some (.int .i64 (wrongF (x, y)), h) := by
  apply WpC.eqn
  refine wpc_fn (ps_ext rfl) (ps_fn fn71) rfl ?_
  unfold LF71
  simp only [argFr]
  (repeat' first
    | (show WpR _ _ _ _ _ _ _ _ _
       first
       | refine wpr_p (o := .mv _) (by simp only [ev_mv, opd_s, opd_c, fget, Nat.reduceEqDiff, Nat.one_ne_zero, Nat.zero_ne_one, reduceCtorEq, ↓reduceIte]; rfl) ?_
       | (refine wpr_fork (fun _ => ?_) (fun _ => ?_) <;> try (exfalso; omega))
       | (refine wpr_forkN (fun _ => ?_) (fun _ => ?_) <;> try (exfalso; omega))
       | refine wpr_p (by simp (disch := omega) only [push_cast, Nat.reduceEqDiff, ↓reduceIte, reduceCtorEq, Nat.reduceAdd, Nat.reduceMul, Nat.reduceLeDiff]; rfl) ?_
       | refine wpr_r (by simp (disch := omega) only [push_cast, Nat.reduceEqDiff, ↓reduceIte, reduceCtorEq, Nat.reduceAdd, Nat.reduceMul, Nat.reduceLeDiff]; rfl) ?_
       | refine wpr_run rfl ?_
       | refine wpr_pass rfl rfl ?_
       | refine wpr_passS rfl ?_
       | refine wpr_call (by (try simp (disch := omega) only [push_cast, Nat.reduceEqDiff, ↓reduceIte, reduceCtorEq, Nat.reduceAdd, Nat.reduceMul, Nat.reduceLeDiff]) <;> rfl) (by first | rfl | simp only [push_cast, Nat.reduceEqDiff, ↓reduceIte, reduceCtorEq, Nat.reduceAdd, Nat.reduceMul, Nat.reduceLeDiff]) ?_
       | refine wpr_e0 (by simp (disch := omega) only [push_cast, Nat.reduceEqDiff, ↓reduceIte, reduceCtorEq, Nat.reduceAdd, Nat.reduceMul, Nat.reduceLeDiff]; rfl) ?_
       | refine wpr_e (by simp (disch := omega) only [push_cast, Nat.reduceEqDiff, ↓reduceIte, reduceCtorEq, Nat.reduceAdd, Nat.reduceMul, Nat.reduceLeDiff]; rfl) ?_
       | refine wpr_nil (by first | exact chkT_nil | (simp (disch := omega) only [push_cast, Nat.reduceEqDiff, ↓reduceIte, reduceCtorEq, Nat.reduceAdd, Nat.reduceMul, Nat.reduceLeDiff]; done)) (by (try simp only [push_cast, Nat.reduceEqDiff, ↓reduceIte, reduceCtorEq, Nat.reduceAdd, Nat.reduceMul, Nat.reduceLeDiff]); rfl) (by (try simp only [push_cast, Nat.reduceEqDiff, ↓reduceIte, reduceCtorEq, Nat.reduceAdd, Nat.reduceMul, Nat.reduceLeDiff]); rfl) ?_
       | refine wpr_pass0 rfl rfl ?_
       | refine wpr_pass0S rfl ?_)
    | (show Wp _ _ _ _ _ _
       first
       | refine wp_seq ?_
       | refine wp_region ?_
       | refine wp_cond_t rfl ?_
       | refine wp_cond_f rfl ?_
       | refine wp_ret ?_
       | refine wp_skip ?_
       | refine wp_exit ?_
       | refine wp_block ?_)
    | refine thenQ_norm ?_
    | refine thenQ_ret ?_
    | refine thenQ_exit ?_
    | refine blockQ_norm ?_
    | refine blockQ_ret ?_
    | refine blockQ_same ?_
    | refine blockQ_ne rfl ?_
    | refine loopQ_norm ?_
    | refine loopQ_ret ?_
    | refine loopQ_exit ?_
    | refine retQ_ret (by (try simp (disch := omega) only [push_cast, Nat.reduceEqDiff, ↓reduceIte, reduceCtorEq, Nat.reduceAdd, Nat.reduceMul, Nat.reduceLeDiff]); rfl) ?_
    | refine retQ_norm (by (try simp (disch := omega) only [push_cast, Nat.reduceEqDiff, ↓reduceIte, reduceCtorEq, Nat.reduceAdd, Nat.reduceMul, Nat.reduceLeDiff]); rfl) ?_
    | refine wpc_of (by simp (disch := omega) only [push_cast, Nat.reduceEqDiff, ↓reduceIte, reduceCtorEq, Nat.reduceAdd, Nat.reduceMul, Nat.reduceLeDiff]; rfl) ?_)
  all_goals refine ⟨?_, rfl⟩
  all_goals (unfold wrongF; congr 1; omega)

@[push_cast] theorem refWrong_eq (x y : Int) (h : AH) (h1 : -2147483648 ≤ x ∧ x < 2147483648) (h2 : -2147483648 ≤ y ∧ y < 2147483648) : callO PS 72 [.agg (List.toArray [.int .i32 x, .int .i32 y])] h = some (.int .i64 (wrongF (x, y)), h) := by
  apply WpC.eqn
  refine wpc_fn (ps_ext rfl) (ps_fn fn72) rfl ?_
  unfold LF72
  simp only [argFr]
  (repeat' first
    | (show WpR _ _ _ _ _ _ _ _ _
       first
       | refine wpr_p (o := .mv _) (by simp only [ev_mv, opd_s, opd_c, fget, Nat.reduceEqDiff, Nat.one_ne_zero, Nat.zero_ne_one, reduceCtorEq, ↓reduceIte]; rfl) ?_
       | (refine wpr_fork (fun _ => ?_) (fun _ => ?_) <;> try (exfalso; omega))
       | (refine wpr_forkN (fun _ => ?_) (fun _ => ?_) <;> try (exfalso; omega))
       | refine wpr_p (by simp (disch := omega) only [push_cast, Nat.reduceEqDiff, ↓reduceIte, reduceCtorEq, Nat.reduceAdd, Nat.reduceMul, Nat.reduceLeDiff]; rfl) ?_
       | refine wpr_r (by simp (disch := omega) only [push_cast, Nat.reduceEqDiff, ↓reduceIte, reduceCtorEq, Nat.reduceAdd, Nat.reduceMul, Nat.reduceLeDiff]; rfl) ?_
       | refine wpr_run rfl ?_
       | refine wpr_pass rfl rfl ?_
       | refine wpr_passS rfl ?_
       | refine wpr_call (by (try simp (disch := omega) only [push_cast, Nat.reduceEqDiff, ↓reduceIte, reduceCtorEq, Nat.reduceAdd, Nat.reduceMul, Nat.reduceLeDiff]) <;> rfl) (by first | rfl | simp only [push_cast, Nat.reduceEqDiff, ↓reduceIte, reduceCtorEq, Nat.reduceAdd, Nat.reduceMul, Nat.reduceLeDiff]) ?_
       | refine wpr_e0 (by simp (disch := omega) only [push_cast, Nat.reduceEqDiff, ↓reduceIte, reduceCtorEq, Nat.reduceAdd, Nat.reduceMul, Nat.reduceLeDiff]; rfl) ?_
       | refine wpr_e (by simp (disch := omega) only [push_cast, Nat.reduceEqDiff, ↓reduceIte, reduceCtorEq, Nat.reduceAdd, Nat.reduceMul, Nat.reduceLeDiff]; rfl) ?_
       | refine wpr_nil (by first | exact chkT_nil | (simp (disch := omega) only [push_cast, Nat.reduceEqDiff, ↓reduceIte, reduceCtorEq, Nat.reduceAdd, Nat.reduceMul, Nat.reduceLeDiff]; done)) (by (try simp only [push_cast, Nat.reduceEqDiff, ↓reduceIte, reduceCtorEq, Nat.reduceAdd, Nat.reduceMul, Nat.reduceLeDiff]); rfl) (by (try simp only [push_cast, Nat.reduceEqDiff, ↓reduceIte, reduceCtorEq, Nat.reduceAdd, Nat.reduceMul, Nat.reduceLeDiff]); rfl) ?_
       | refine wpr_pass0 rfl rfl ?_
       | refine wpr_pass0S rfl ?_)
    | (show Wp _ _ _ _ _ _
       first
       | refine wp_seq ?_
       | refine wp_region ?_
       | refine wp_cond_t rfl ?_
       | refine wp_cond_f rfl ?_
       | refine wp_ret ?_
       | refine wp_skip ?_
       | refine wp_exit ?_
       | refine wp_block ?_)
    | refine thenQ_norm ?_
    | refine thenQ_ret ?_
    | refine thenQ_exit ?_
    | refine blockQ_norm ?_
    | refine blockQ_ret ?_
    | refine blockQ_same ?_
    | refine blockQ_ne rfl ?_
    | refine loopQ_norm ?_
    | refine loopQ_ret ?_
    | refine loopQ_exit ?_
    | refine retQ_ret (by (try simp (disch := omega) only [push_cast, Nat.reduceEqDiff, ↓reduceIte, reduceCtorEq, Nat.reduceAdd, Nat.reduceMul, Nat.reduceLeDiff]); rfl) ?_
    | refine retQ_norm (by (try simp (disch := omega) only [push_cast, Nat.reduceEqDiff, ↓reduceIte, reduceCtorEq, Nat.reduceAdd, Nat.reduceMul, Nat.reduceLeDiff]); rfl) ?_
    | refine wpc_of (by simp (disch := omega) only [push_cast, Nat.reduceEqDiff, ↓reduceIte, reduceCtorEq, Nat.reduceAdd, Nat.reduceMul, Nat.reduceLeDiff]; rfl) ?_)
  all_goals refine ⟨?_, rfl⟩
  all_goals (unfold wrongF; congr 1; omega)

def upF (n : Int) : Int := if n = 0xd7ff then 0xe000 else n + 1
@[push_cast] theorem up_eq (n : Int) (h : AH) (h1 : -2147483648 ≤ n) (h2 : n < 2147483647) : callO PS 74 [.int .i32 n] h = some (.int .i32 (upF n), h) := by
  apply WpC.eqn
  refine wpc_fn (ps_ext rfl) (ps_fn fn74) rfl ?_
  unfold LF74
  simp only [argFr]
  (repeat' first
    | (show WpR _ _ _ _ _ _ _ _ _
       first
       | refine wpr_p (o := .mv _) (by simp only [ev_mv, opd_s, opd_c, fget, Nat.reduceEqDiff, Nat.one_ne_zero, Nat.zero_ne_one, reduceCtorEq, ↓reduceIte]; rfl) ?_
       | (refine wpr_fork (fun _ => ?_) (fun _ => ?_) <;> try (exfalso; omega))
       | (refine wpr_forkN (fun _ => ?_) (fun _ => ?_) <;> try (exfalso; omega))
       | refine wpr_p (by simp (disch := omega) only [push_cast, Nat.reduceEqDiff, ↓reduceIte, reduceCtorEq, Nat.reduceAdd, Nat.reduceMul, Nat.reduceLeDiff]; rfl) ?_
       | refine wpr_r (by simp (disch := omega) only [push_cast, Nat.reduceEqDiff, ↓reduceIte, reduceCtorEq, Nat.reduceAdd, Nat.reduceMul, Nat.reduceLeDiff]; rfl) ?_
       | refine wpr_run rfl ?_
       | refine wpr_pass rfl rfl ?_
       | refine wpr_passS rfl ?_
       | refine wpr_call (by (try simp (disch := omega) only [push_cast, Nat.reduceEqDiff, ↓reduceIte, reduceCtorEq, Nat.reduceAdd, Nat.reduceMul, Nat.reduceLeDiff]) <;> rfl) (by first | rfl | simp only [push_cast, Nat.reduceEqDiff, ↓reduceIte, reduceCtorEq, Nat.reduceAdd, Nat.reduceMul, Nat.reduceLeDiff]) ?_
       | refine wpr_e0 (by simp (disch := omega) only [push_cast, Nat.reduceEqDiff, ↓reduceIte, reduceCtorEq, Nat.reduceAdd, Nat.reduceMul, Nat.reduceLeDiff]; rfl) ?_
       | refine wpr_e (by simp (disch := omega) only [push_cast, Nat.reduceEqDiff, ↓reduceIte, reduceCtorEq, Nat.reduceAdd, Nat.reduceMul, Nat.reduceLeDiff]; rfl) ?_
       | refine wpr_nil (by first | exact chkT_nil | (simp (disch := omega) only [push_cast, Nat.reduceEqDiff, ↓reduceIte, reduceCtorEq, Nat.reduceAdd, Nat.reduceMul, Nat.reduceLeDiff]; done)) (by (try simp only [push_cast, Nat.reduceEqDiff, ↓reduceIte, reduceCtorEq, Nat.reduceAdd, Nat.reduceMul, Nat.reduceLeDiff]); rfl) (by (try simp only [push_cast, Nat.reduceEqDiff, ↓reduceIte, reduceCtorEq, Nat.reduceAdd, Nat.reduceMul, Nat.reduceLeDiff]); rfl) ?_
       | refine wpr_pass0 rfl rfl ?_
       | refine wpr_pass0S rfl ?_)
    | (show Wp _ _ _ _ _ _
       first
       | refine wp_seq ?_
       | refine wp_region ?_
       | refine wp_cond_t rfl ?_
       | refine wp_cond_f rfl ?_
       | refine wp_ret ?_
       | refine wp_skip ?_
       | refine wp_exit ?_
       | refine wp_block ?_)
    | refine thenQ_norm ?_
    | refine thenQ_ret ?_
    | refine thenQ_exit ?_
    | refine blockQ_norm ?_
    | refine blockQ_ret ?_
    | refine blockQ_same ?_
    | refine blockQ_ne rfl ?_
    | refine loopQ_norm ?_
    | refine loopQ_ret ?_
    | refine loopQ_exit ?_
    | refine retQ_ret (by (try simp (disch := omega) only [push_cast, Nat.reduceEqDiff, ↓reduceIte, reduceCtorEq, Nat.reduceAdd, Nat.reduceMul, Nat.reduceLeDiff]); rfl) ?_
    | refine retQ_norm (by (try simp (disch := omega) only [push_cast, Nat.reduceEqDiff, ↓reduceIte, reduceCtorEq, Nat.reduceAdd, Nat.reduceMul, Nat.reduceLeDiff]); rfl) ?_
    | refine wpc_of (by simp (disch := omega) only [push_cast, Nat.reduceEqDiff, ↓reduceIte, reduceCtorEq, Nat.reduceAdd, Nat.reduceMul, Nat.reduceLeDiff]; rfl) ?_)
  all_goals refine ⟨?_, rfl⟩
  all_goals (unfold upF; congr 1; omega)

def sizeF (x : Int × Int) : Int := if x.1 < 0xd800 ∧ 0xdfff < x.2 then x.2 - x.1 + 1 - 2048 else x.2 - x.1 + 1
@[push_cast] theorem size_eq (x y : Int) (h : AH) (h1 : -2147483648 ≤ x ∧ x < 2147483648) (h2 : -2147483648 ≤ y ∧ y < 2147483648) : callO PS 61 [.agg (List.toArray [.int .i32 x, .int .i32 y])] h = some (.int .i64 (sizeF (x, y)), h) := by
  apply WpC.eqn
  refine wpc_fn (ps_ext rfl) (ps_fn fn61) rfl ?_
  unfold LF61
  simp only [argFr]
  (repeat' first
    | (show WpR _ _ _ _ _ _ _ _ _
       first
       | refine wpr_p (o := .mv _) (by simp only [ev_mv, opd_s, opd_c, fget, Nat.reduceEqDiff, Nat.one_ne_zero, Nat.zero_ne_one, reduceCtorEq, ↓reduceIte]; rfl) ?_
       | (refine wpr_fork (fun _ => ?_) (fun _ => ?_) <;> try (exfalso; omega))
       | (refine wpr_forkN (fun _ => ?_) (fun _ => ?_) <;> try (exfalso; omega))
       | refine wpr_p (by simp (disch := omega) only [push_cast, Nat.reduceEqDiff, ↓reduceIte, reduceCtorEq, Nat.reduceAdd, Nat.reduceMul, Nat.reduceLeDiff]; rfl) ?_
       | refine wpr_r (by simp (disch := omega) only [push_cast, Nat.reduceEqDiff, ↓reduceIte, reduceCtorEq, Nat.reduceAdd, Nat.reduceMul, Nat.reduceLeDiff]; rfl) ?_
       | refine wpr_run rfl ?_
       | refine wpr_pass rfl rfl ?_
       | refine wpr_passS rfl ?_
       | refine wpr_call (by (try simp (disch := omega) only [push_cast, Nat.reduceEqDiff, ↓reduceIte, reduceCtorEq, Nat.reduceAdd, Nat.reduceMul, Nat.reduceLeDiff]) <;> rfl) (by first | rfl | simp only [push_cast, Nat.reduceEqDiff, ↓reduceIte, reduceCtorEq, Nat.reduceAdd, Nat.reduceMul, Nat.reduceLeDiff]) ?_
       | refine wpr_e0 (by simp (disch := omega) only [push_cast, Nat.reduceEqDiff, ↓reduceIte, reduceCtorEq, Nat.reduceAdd, Nat.reduceMul, Nat.reduceLeDiff]; rfl) ?_
       | refine wpr_e (by simp (disch := omega) only [push_cast, Nat.reduceEqDiff, ↓reduceIte, reduceCtorEq, Nat.reduceAdd, Nat.reduceMul, Nat.reduceLeDiff]; rfl) ?_
       | refine wpr_nil (by first | exact chkT_nil | (simp (disch := omega) only [push_cast, Nat.reduceEqDiff, ↓reduceIte, reduceCtorEq, Nat.reduceAdd, Nat.reduceMul, Nat.reduceLeDiff]; done)) (by (try simp only [push_cast, Nat.reduceEqDiff, ↓reduceIte, reduceCtorEq, Nat.reduceAdd, Nat.reduceMul, Nat.reduceLeDiff]); rfl) (by (try simp only [push_cast, Nat.reduceEqDiff, ↓reduceIte, reduceCtorEq, Nat.reduceAdd, Nat.reduceMul, Nat.reduceLeDiff]); rfl) ?_
       | refine wpr_pass0 rfl rfl ?_
       | refine wpr_pass0S rfl ?_)
    | (show Wp _ _ _ _ _ _
       first
       | refine wp_seq ?_
       | refine wp_region ?_
       | refine wp_cond_t rfl ?_
       | refine wp_cond_f rfl ?_
       | refine wp_ret ?_
       | refine wp_skip ?_
       | refine wp_exit ?_
       | refine wp_block ?_)
    | refine thenQ_norm ?_
    | refine thenQ_ret ?_
    | refine thenQ_exit ?_
    | refine blockQ_norm ?_
    | refine blockQ_ret ?_
    | refine blockQ_same ?_
    | refine blockQ_ne rfl ?_
    | refine loopQ_norm ?_
    | refine loopQ_ret ?_
    | refine loopQ_exit ?_
    | refine retQ_ret (by (try simp (disch := omega) only [push_cast, Nat.reduceEqDiff, ↓reduceIte, reduceCtorEq, Nat.reduceAdd, Nat.reduceMul, Nat.reduceLeDiff]); rfl) ?_
    | refine retQ_norm (by (try simp (disch := omega) only [push_cast, Nat.reduceEqDiff, ↓reduceIte, reduceCtorEq, Nat.reduceAdd, Nat.reduceMul, Nat.reduceLeDiff]); rfl) ?_
    | refine wpc_of (by simp (disch := omega) only [push_cast, Nat.reduceEqDiff, ↓reduceIte, reduceCtorEq, Nat.reduceAdd, Nat.reduceMul, Nat.reduceLeDiff]; rfl) ?_)
  all_goals refine ⟨?_, rfl⟩
  all_goals (unfold sizeF; congr 1; omega)

end Go.Proofs.Ytanpdopjgepbkaa.AM
