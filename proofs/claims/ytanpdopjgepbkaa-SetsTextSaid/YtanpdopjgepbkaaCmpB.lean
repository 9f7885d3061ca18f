/- The order of rows: the closure that 'made' hands to the library's sort. -/
import Derived.Test.YtanpdopjgepbkaaSlA
import Derived.Test.YtanpdopjgepbkaaAmExt
set_option linter.unusedVariables false
set_option linter.unusedSimpArgs false
namespace Go.Proofs.Ytanpdopjgepbkaa.AM
open Go

/-- The program without contracts. -/
noncomputable def PA : Prg := withExt (autoPrg Try.prog) (fun _ => none)
theorem pa_fn {f : FuncId} {lf : LFunc} (hf : (autoPrg Try.prog).fn f = some lf) : PA.fn f = some lf := by
  unfold PA
  rw [withExt_fn]
  exact hf
theorem pa_ext {f : FuncId} : PA.ext f = none := by
  unfold PA
  rw [withExt_ext]

def LF86 : LFunc :=
  .mk 2 [.tmp 4] (.seq (.region [.mk (some 4) (.p (.mv (.c (.int .i64 0)))) none] [0, 1] []) (.seq (.region [.mk (some 7) (.p (.mv (.s 0))) none, .mk (some 8) (.e (.call 92 [.s 7]))
  none, .mk (some 5) (.p (.mv (.s 8))) none] [0, 1, 5] []) (.seq (.region [.mk (some 9) (.p (.mv (.s 1))) none, .mk (some 10) (.e (.call 92 [.s 9])) none, .mk (some 6) (.p (.mv (.s
  10))) none] [0, 1, 5, 6] []) (.seq (.seq (.region [.mk (some 11) (.p (.mv (.s 5))) none] [0, 1, 6, 11] []) (.cond (.s 11) (.seq (.seq (.region [.mk (some 12) (.p (.mv (.s 6)))
  none] [12] []) (.cond (.s 12) (.seq (.region [.mk (some 4) (.p (.mv (.c (.int .i64 0)))) none] [4] []) .ret) .skip)) (.seq (.region [.mk (some 4) (.p (.mv (.c (.int .i64 (-1)))))
  none] [4] []) .ret)) .skip)) (.seq (.seq (.region [.mk (some 13) (.p (.mv (.s 6))) none] [0, 1, 13] []) (.cond (.s 13) (.seq (.region [.mk (some 4) (.p (.mv (.c (.int .i64 1))))
  none] [4] []) .ret) .skip)) (.seq (.seq (.region [.mk (some 14) (.p (.mv (.s 0))) none, .mk (some 15) (.p (.mv (.s 1))) none, .mk (some 16) (.p (.bin .lss (.s 14) (.s 15))) none]
  [0, 1, 16] []) (.cond (.s 16) (.seq (.region [.mk (some 4) (.p (.mv (.c (.int .i64 (-1))))) none] [4] []) .ret) .skip)) (.seq (.seq (.region [.mk (some 17) (.p (.mv (.s 0))) none,
  .mk (some 18) (.p (.mv (.s 1))) none, .mk (some 19) (.p (.bin .gtr (.s 17) (.s 18))) none] [19] []) (.cond (.s 19) (.seq (.region [.mk (some 4) (.p (.mv (.c (.int .i64 1)))) none]
  [4] []) .ret) .skip)) (.seq (.region [.mk (some 4) (.p (.mv (.c (.int .i64 0)))) none] [4] []) .ret))))))))
theorem fn86 : (autoPrg Try.prog).fn 86 = some LF86 := by kernel_rfl

def LF88 : LFunc :=
  .mk 2 [.tmp 4] (.seq (.region [.mk (some 2) (.e (.boxL 2 2 (.s 0))) none, .mk (some 3) (.e (.boxL 3 2 (.s 1))) none, .mk (some 4) (.p (.mv (.c (.int .i64 0)))) none] [2, 3] [])
  (.seq (.region [.mk (some 5) (.p (.faddr 0 (.s 2))) none, .mk (some 6) (.r (.load none (.s 5))) none, .mk (some 7) (.p (.faddr 0 (.s 3))) none, .mk (some 8) (.r (.load none (.s
  7))) none, .mk (some 9) (.e (.call 86 [.s 6, .s 8])) none, .mk (some 10) (.p (.faddr 1 (.s 2))) none, .mk (some 11) (.r (.load none (.s 10))) none, .mk (some 12) (.p (.faddr 1 (.s
  3))) none, .mk (some 13) (.r (.load none (.s 12))) none, .mk (some 14) (.e (.call 86 [.s 11, .s 13])) none, .mk (some 15) (.e (.litH 2 1 [.int .i64 0] [(0, 1, .s 9), (1, 1, .s
  14)])) none, .mk (some 16) (.e (.call 89 [.s 15])) none, .mk (some 4) (.p (.mv (.s 16))) none] [4] [(6, 0), (8, 0)]) .ret))
theorem fn88 : (autoPrg Try.prog).fn 88 = some LF88 := by kernel_rfl

def LF89 : LFunc :=
  .mk 1 [.tmp 2] (.seq (.region [.mk (some 2) (.p (.mv (.c (.int .i64 0)))) none] [0] []) (.seq (.region [.mk (some 3) (.p (.mv (.c (.int .i64 0)))) none] [0, 3] []) (.seq (.seq
  (.region [.mk (some 6) (.p (.mv (.s 0))) none, .mk (some 7) (.p (.len (.s 6))) none, .mk (some 8) (.p (.mv (.c (.int .i64 0)))) none] [3, 6, 7, 8] []) (.block 0 (.loop (.seq
  (.region [.mk (some 9) (.p (.bin .lss (.s 8) (.s 7))) none] [3, 6, 7, 8, 9] []) (.seq (.cond (.s 9) .skip (.exit 0)) (.seq (.block 1 (.seq (.region [.mk (some 10) (.p (.iaddr 1
  (.s 6) (.s 8))) none, .mk (some 11) (.r (.load none (.s 10))) none, .mk (some 5) (.p (.mv (.s 11))) none] [3, 5, 6, 7, 8] []) (.seq (.region [.mk (some 12) (.p (.mv (.s 5))) none,
  .mk (some 13) (.p (.mv (.s 3))) none, .mk (some 14) (.p (.bin .neq (.s 12) (.s 13))) none] [3, 5, 6, 7, 8, 14] []) (.cond (.s 14) (.seq (.region [.mk (some 15) (.p (.mv (.s 5)))
  none, .mk (some 2) (.p (.mv (.s 15))) none] [2] []) .ret) .skip)))) (.region [.mk (some 16) (.p (.bin .add (.s 8) (.c (.int .i64 1)))) none, .mk (some 8) (.p (.mv (.s 16))) none]
  [3, 6, 7, 8] []))))))) (.seq (.region [.mk (some 17) (.p (.mv (.s 3))) none, .mk (some 2) (.p (.mv (.s 17))) none] [2] []) .ret))))
theorem fn89 : (autoPrg Try.prog).fn 89 = some LF89 := by kernel_rfl

def LF92 : LFunc :=
  .mk 1 [.tmp 2] (.seq (.region [.mk (some 2) (.p (.mv (.c (.bool false)))) none] [0] []) (.seq (.region [.mk (some 3) (.p (.mv (.s 0))) none, .mk (some 4) (.p (.mv (.s 0))) none,
  .mk (some 5) (.p (.bin .neq (.s 3) (.s 4))) none, .mk (some 2) (.p (.mv (.s 5))) none] [2] []) .ret))
theorem fn92 : (autoPrg Try.prog).fn 92 = some LF92 := by kernel_rfl

@[push_cast] theorem isNaN_eq (n : Int) (h : AH) : callO PA 92 [.int .i64 n] h = some (.bool false, h) := by
  apply WpC.eqn
  refine wpc_fn pa_ext (pa_fn fn92) rfl ?_
  unfold LF92
  simp only [argFr]
  (repeat' first
    | (show WpR _ _ _ _ _ _ _ _ _
       first
       | refine wpr_p (o := .mv _) (by simp only [ev_mv, opd_s, opd_c, fget, Nat.reduceEqDiff, Nat.one_ne_zero, Nat.zero_ne_one, reduceCtorEq, ↓reduceIte]; rfl) ?_
       | (refine wpr_fork (fun _ => ?_) (fun _ => ?_) <;> try (exfalso; omega))
       | (refine wpr_forkN (fun _ => ?_) (fun _ => ?_) <;> try (exfalso; omega))
       | refine wpr_p (by simp (disch := omega) only [push_cast, Nat.reduceEqDiff, ↓reduceIte, reduceCtorEq, Nat.reduceAdd, Nat.reduceMul, Nat.reduceLeDiff]; rfl) ?_
       | refine wpr_r (by simp (disch := omega) only [push_cast, Nat.reduceEqDiff, ↓reduceIte, reduceCtorEq, Nat.reduceAdd, Nat.reduceMul, Nat.reduceLeDiff]; rfl) ?_
       | refine wpr_run rfl ?_
       | refine wpr_pass rfl rfl ?_
       | refine wpr_passS rfl ?_
       | refine wpr_call (by (try simp (disch := omega) only [push_cast, Nat.reduceEqDiff, ↓reduceIte, reduceCtorEq, Nat.reduceAdd, Nat.reduceMul, Nat.reduceLeDiff]) <;> rfl) (by first | rfl | simp only [push_cast, Nat.reduceEqDiff, ↓reduceIte, reduceCtorEq, Nat.reduceAdd, Nat.reduceMul, Nat.reduceLeDiff]) ?_
       | refine wpr_e0 (by simp (disch := omega) only [push_cast, Nat.reduceEqDiff, ↓reduceIte, reduceCtorEq, Nat.reduceAdd, Nat.reduceMul, Nat.reduceLeDiff]; rfl) ?_
       | refine wpr_e (by simp (disch := omega) only [push_cast, Nat.reduceEqDiff, ↓reduceIte, reduceCtorEq, Nat.reduceAdd, Nat.reduceMul, Nat.reduceLeDiff]; rfl) ?_
       | refine wpr_nil (by first | exact chkT_nil | (simp (disch := omega) only [push_cast, Nat.reduceEqDiff, ↓reduceIte, reduceCtorEq, Nat.reduceAdd, Nat.reduceMul, Nat.reduceLeDiff]; done)) (by (try simp only [push_cast, Nat.reduceEqDiff, ↓reduceIte, reduceCtorEq, Nat.reduceAdd, Nat.reduceMul, Nat.reduceLeDiff]); rfl) (by (try simp only [push_cast, Nat.reduceEqDiff, ↓reduceIte, reduceCtorEq, Nat.reduceAdd, Nat.reduceMul, Nat.reduceLeDiff]); rfl) ?_
       | refine wpr_pass0 rfl rfl ?_
       | refine wpr_pass0S rfl ?_)
    | (show Wp _ _ _ _ _ _
       first
       | refine wp_seq ?_
       | refine wp_region ?_
       | refine wp_cond_t rfl ?_
       | refine wp_cond_f rfl ?_
       | refine wp_ret ?_
       | refine wp_skip ?_
       | refine wp_exit ?_
       | refine wp_block ?_)
    | refine thenQ_norm ?_
    | refine thenQ_ret ?_
    | refine thenQ_exit ?_
    | refine blockQ_norm ?_
    | refine blockQ_ret ?_
    | refine blockQ_same ?_
    | refine blockQ_ne rfl ?_
    | refine loopQ_norm ?_
    | refine loopQ_ret ?_
    | refine loopQ_exit ?_
    | refine retQ_ret (by (try simp (disch := omega) only [push_cast, Nat.reduceEqDiff, ↓reduceIte, reduceCtorEq, Nat.reduceAdd, Nat.reduceMul, Nat.reduceLeDiff]); rfl) ?_
    | refine retQ_norm (by (try simp (disch := omega) only [push_cast, Nat.reduceEqDiff, ↓reduceIte, reduceCtorEq, Nat.reduceAdd, Nat.reduceMul, Nat.reduceLeDiff]); rfl) ?_
    | refine wpc_of (by simp (disch := omega) only [push_cast, Nat.reduceEqDiff, ↓reduceIte, reduceCtorEq, Nat.reduceAdd, Nat.reduceMul, Nat.reduceLeDiff]; rfl) ?_)
  all_goals first | exact ⟨rfl, rfl⟩ | trace_state

def cmpF (x y : Int) : Int := if x < y then -1 else if y < x then 1 else 0
@[push_cast] theorem compare_eq (x y : Int) (h : AH) : callO PA 86 [.int .i64 x, .int .i64 y] h = some (.int .i64 (cmpF x y), h) := by
  apply WpC.eqn
  refine wpc_fn pa_ext (pa_fn fn86) rfl ?_
  unfold LF86
  simp only [argFr]
  (repeat' first
    | (show WpR _ _ _ _ _ _ _ _ _
       first
       | refine wpr_p (o := .mv _) (by simp only [ev_mv, opd_s, opd_c, fget, Nat.reduceEqDiff, Nat.one_ne_zero, Nat.zero_ne_one, reduceCtorEq, ↓reduceIte]; rfl) ?_
       | (refine wpr_fork (fun _ => ?_) (fun _ => ?_) <;> try (exfalso; omega))
       | (refine wpr_forkN (fun _ => ?_) (fun _ => ?_) <;> try (exfalso; omega))
       | refine wpr_p (by simp (disch := omega) only [push_cast, Nat.reduceEqDiff, ↓reduceIte, reduceCtorEq, Nat.reduceAdd, Nat.reduceMul, Nat.reduceLeDiff]; rfl) ?_
       | refine wpr_r (by simp (disch := omega) only [push_cast, Nat.reduceEqDiff, ↓reduceIte, reduceCtorEq, Nat.reduceAdd, Nat.reduceMul, Nat.reduceLeDiff]; rfl) ?_
       | refine wpr_run rfl ?_
       | refine wpr_pass rfl rfl ?_
       | refine wpr_passS rfl ?_
       | refine wpr_call (by (try simp (disch := omega) only [push_cast, Nat.reduceEqDiff, ↓reduceIte, reduceCtorEq, Nat.reduceAdd, Nat.reduceMul, Nat.reduceLeDiff]) <;> rfl) (by first | rfl | simp only [push_cast, Nat.reduceEqDiff, ↓reduceIte, reduceCtorEq, Nat.reduceAdd, Nat.reduceMul, Nat.reduceLeDiff]) ?_
       | refine wpr_e0 (by simp (disch := omega) only [push_cast, Nat.reduceEqDiff, ↓reduceIte, reduceCtorEq, Nat.reduceAdd, Nat.reduceMul, Nat.reduceLeDiff]; rfl) ?_
       | refine wpr_e (by simp (disch := omega) only [push_cast, Nat.reduceEqDiff, ↓reduceIte, reduceCtorEq, Nat.reduceAdd, Nat.reduceMul, Nat.reduceLeDiff]; rfl) ?_
       | refine wpr_nil (by first | exact chkT_nil | (simp (disch := omega) only [push_cast, Nat.reduceEqDiff, ↓reduceIte, reduceCtorEq, Nat.reduceAdd, Nat.reduceMul, Nat.reduceLeDiff]; done)) (by (try simp only [push_cast, Nat.reduceEqDiff, ↓reduceIte, reduceCtorEq, Nat.reduceAdd, Nat.reduceMul, Nat.reduceLeDiff]); rfl) (by (try simp only [push_cast, Nat.reduceEqDiff, ↓reduceIte, reduceCtorEq, Nat.reduceAdd, Nat.reduceMul, Nat.reduceLeDiff]); rfl) ?_
       | refine wpr_pass0 rfl rfl ?_
       | refine wpr_pass0S rfl ?_)
    | (show Wp _ _ _ _ _ _
       first
       | refine wp_seq ?_
       | refine wp_region ?_
       | refine wp_cond_t rfl ?_
       | refine wp_cond_f rfl ?_
       | refine wp_ret ?_
       | refine wp_skip ?_
       | refine wp_exit ?_
       | refine wp_block ?_)
    | refine thenQ_norm ?_
    | refine thenQ_ret ?_
    | refine thenQ_exit ?_
    | refine blockQ_norm ?_
    | refine blockQ_ret ?_
    | refine blockQ_same ?_
    | refine blockQ_ne rfl ?_
    | refine loopQ_norm ?_
    | refine loopQ_ret ?_
    | refine loopQ_exit ?_
    | refine retQ_ret (by (try simp (disch := omega) only [push_cast, Nat.reduceEqDiff, ↓reduceIte, reduceCtorEq, Nat.reduceAdd, Nat.reduceMul, Nat.reduceLeDiff]); rfl) ?_
    | refine retQ_norm (by (try simp (disch := omega) only [push_cast, Nat.reduceEqDiff, ↓reduceIte, reduceCtorEq, Nat.reduceAdd, Nat.reduceMul, Nat.reduceLeDiff]); rfl) ?_
    | refine wpc_of (by simp (disch := omega) only [push_cast, Nat.reduceEqDiff, ↓reduceIte, reduceCtorEq, Nat.reduceAdd, Nat.reduceMul, Nat.reduceLeDiff]; rfl) ?_)
  all_goals (refine ⟨?_, rfl⟩; unfold cmpF; congr 1; omega)

def cellV (n : Int) : List Value := [.int .i64 n]
theorem or_eq (a b : Int) (s : Sl) (h : AH) (hr : Reads h 1 s ([a, b].map cellV)) : callO PA 89 [s.val 1] h = some (.int .i64 (if a = 0 then b else a), h) := by
  have hlen := hr.len
  simp only [List.length_cons, List.length_nil] at hlen
  apply WpC.eqn
  refine wpc_fn pa_ext (pa_fn fn89) rfl ?_
  unfold LF89
  simp only [argFr]
  (repeat' first
    | (show WpR _ _ _ _ _ _ _ _ _
       first
       | refine wpr_p (o := .mv _) (by simp only [ev_mv, opd_s, opd_c, fget, Nat.reduceEqDiff, Nat.one_ne_zero, Nat.zero_ne_one, reduceCtorEq, ↓reduceIte]; rfl) ?_
       | (refine wpr_fork (fun _ => ?_) (fun _ => ?_) <;> try (exfalso; omega))
       | (refine wpr_forkN (fun _ => ?_) (fun _ => ?_) <;> try (exfalso; omega))
       | refine wpr_p (by simp (disch := omega) only [push_cast, Nat.reduceEqDiff, ↓reduceIte, reduceCtorEq, Nat.reduceAdd, Nat.reduceMul, Nat.reduceLeDiff, hlen]; rfl) ?_
       | refine wpr_r (by simp (disch := omega) only [push_cast, Nat.reduceEqDiff, ↓reduceIte, reduceCtorEq, Nat.reduceAdd, Nat.reduceMul, Nat.reduceLeDiff, hlen]; rfl) ?_
       | refine wpr_run rfl ?_
       | refine wpr_pass rfl rfl ?_
       | refine wpr_passS rfl ?_
       | refine wpr_call (by (try simp (disch := omega) only [push_cast, Nat.reduceEqDiff, ↓reduceIte, reduceCtorEq, Nat.reduceAdd, Nat.reduceMul, Nat.reduceLeDiff, hlen]) <;> rfl) (by first | rfl | simp only [push_cast, Nat.reduceEqDiff, ↓reduceIte, reduceCtorEq, Nat.reduceAdd, Nat.reduceMul, Nat.reduceLeDiff, hlen]) ?_
       | refine wpr_e0 (by simp (disch := omega) only [push_cast, Nat.reduceEqDiff, ↓reduceIte, reduceCtorEq, Nat.reduceAdd, Nat.reduceMul, Nat.reduceLeDiff, hlen]; rfl) ?_
       | refine wpr_e (by simp (disch := omega) only [push_cast, Nat.reduceEqDiff, ↓reduceIte, reduceCtorEq, Nat.reduceAdd, Nat.reduceMul, Nat.reduceLeDiff, hlen]; rfl) ?_
       | refine wpr_nil (by first | exact chkT_nil | (simp (disch := omega) only [push_cast, Nat.reduceEqDiff, ↓reduceIte, reduceCtorEq, Nat.reduceAdd, Nat.reduceMul, Nat.reduceLeDiff, hlen]; done)) (by (try simp only [push_cast, Nat.reduceEqDiff, ↓reduceIte, reduceCtorEq, Nat.reduceAdd, Nat.reduceMul, Nat.reduceLeDiff, hlen]); rfl) (by (try simp only [push_cast, Nat.reduceEqDiff, ↓reduceIte, reduceCtorEq, Nat.reduceAdd, Nat.reduceMul, Nat.reduceLeDiff, hlen]); rfl) ?_
       | refine wpr_pass0 rfl rfl ?_
       | refine wpr_pass0S rfl ?_)
    | (show Wp _ _ _ _ _ _
       first
       | refine wp_seq ?_
       | refine wp_region ?_
       | refine wp_cond_t rfl ?_
       | refine wp_cond_f rfl ?_
       | refine wp_ret ?_
       | refine wp_skip ?_
       | refine wp_exit ?_
       | refine wp_block ?_)
    | refine thenQ_norm ?_
    | refine thenQ_ret ?_
    | refine thenQ_exit ?_
    | refine blockQ_norm ?_
    | refine blockQ_ret ?_
    | refine blockQ_same ?_
    | refine blockQ_ne rfl ?_
    | refine loopQ_norm ?_
    | refine loopQ_ret ?_
    | refine loopQ_exit ?_
    | refine retQ_ret (by (try simp (disch := omega) only [push_cast, Nat.reduceEqDiff, ↓reduceIte, reduceCtorEq, Nat.reduceAdd, Nat.reduceMul, Nat.reduceLeDiff, hlen]); rfl) ?_
    | refine retQ_norm (by (try simp (disch := omega) only [push_cast, Nat.reduceEqDiff, ↓reduceIte, reduceCtorEq, Nat.reduceAdd, Nat.reduceMul, Nat.reduceLeDiff, hlen]); rfl) ?_
    | refine wpc_of (by simp (disch := omega) only [push_cast, Nat.reduceEqDiff, ↓reduceIte, reduceCtorEq, Nat.reduceAdd, Nat.reduceMul, Nat.reduceLeDiff, hlen]; rfl) ?_)
  refine wp_loop (fun n fr lc h1 => ∃ (i : Nat), n = 2 - i ∧ i ≤ 2 ∧ fr = [(3, .int .i64 0), (6, s.val 1), (7, .int .i64 2), (8, .int .i64 i)] ∧ lc = [] ∧ h1 = h ∧ (0 < i → a = 0) ∧ (1 < i → b = 0)) 2 ⟨0, rfl, by omega, rfl, rfl, rfl, by omega, by omega⟩ ?_
  rintro n fr lc h1 ⟨i, rfl, hi, rfl, rfl, rfl, z1, z2⟩
  have r0 : ∀ lc, Mem.rd ⟨lc, h1⟩ (s.adr 1 0) 1 = some (cellV a) := fun lc => rd_map (l := [a, b]) hr (by simp)
  have r1 : ∀ lc, Mem.rd ⟨lc, h1⟩ (s.adr 1 1) 1 = some (cellV b) := fun lc => rd_map (l := [a, b]) hr (by simp)
  match i, hi with
  | 0, _ =>
    (repeat' first
    | (show WpR _ _ _ _ _ _ _ _ _
       first
       | refine wpr_p (o := .mv _) (by simp only [ev_mv, opd_s, opd_c, fget, Nat.reduceEqDiff, Nat.one_ne_zero, Nat.zero_ne_one, reduceCtorEq, ↓reduceIte]; rfl) ?_
       | (refine wpr_fork (fun _ => ?_) (fun _ => ?_) <;> try (exfalso; omega))
       | (refine wpr_forkN (fun _ => ?_) (fun _ => ?_) <;> try (exfalso; omega))
       | refine wpr_p (by simp (disch := omega) only [push_cast, Nat.reduceEqDiff, ↓reduceIte, reduceCtorEq, Nat.reduceAdd, Nat.reduceMul, Nat.reduceLeDiff, hlen, r0, cellV, Int.toNat_zero, Int.natCast_zero]; rfl) ?_
       | refine wpr_r (by simp (disch := omega) only [push_cast, Nat.reduceEqDiff, ↓reduceIte, reduceCtorEq, Nat.reduceAdd, Nat.reduceMul, Nat.reduceLeDiff, hlen, r0, cellV, Int.toNat_zero, Int.natCast_zero]; rfl) ?_
       | refine wpr_run rfl ?_
       | refine wpr_pass rfl rfl ?_
       | refine wpr_passS rfl ?_
       | refine wpr_call (by (try simp (disch := omega) only [push_cast, Nat.reduceEqDiff, ↓reduceIte, reduceCtorEq, Nat.reduceAdd, Nat.reduceMul, Nat.reduceLeDiff, hlen, r0, cellV, Int.toNat_zero, Int.natCast_zero]) <;> rfl) (by first | rfl | simp only [push_cast, Nat.reduceEqDiff, ↓reduceIte, reduceCtorEq, Nat.reduceAdd, Nat.reduceMul, Nat.reduceLeDiff, hlen, r0, cellV, Int.toNat_zero, Int.natCast_zero]) ?_
       | refine wpr_e0 (by simp (disch := omega) only [push_cast, Nat.reduceEqDiff, ↓reduceIte, reduceCtorEq, Nat.reduceAdd, Nat.reduceMul, Nat.reduceLeDiff, hlen, r0, cellV, Int.toNat_zero, Int.natCast_zero]; rfl) ?_
       | refine wpr_e (by simp (disch := omega) only [push_cast, Nat.reduceEqDiff, ↓reduceIte, reduceCtorEq, Nat.reduceAdd, Nat.reduceMul, Nat.reduceLeDiff, hlen, r0, cellV, Int.toNat_zero, Int.natCast_zero]; rfl) ?_
       | refine wpr_nil (by first | exact chkT_nil | (simp (disch := omega) only [push_cast, Nat.reduceEqDiff, ↓reduceIte, reduceCtorEq, Nat.reduceAdd, Nat.reduceMul, Nat.reduceLeDiff, hlen, r0, cellV, Int.toNat_zero, Int.natCast_zero]; done)) (by (try simp only [push_cast, Nat.reduceEqDiff, ↓reduceIte, reduceCtorEq, Nat.reduceAdd, Nat.reduceMul, Nat.reduceLeDiff, hlen, r0, cellV, Int.toNat_zero, Int.natCast_zero]); rfl) (by (try simp only [push_cast, Nat.reduceEqDiff, ↓reduceIte, reduceCtorEq, Nat.reduceAdd, Nat.reduceMul, Nat.reduceLeDiff, hlen, r0, cellV, Int.toNat_zero, Int.natCast_zero]); rfl) ?_
       | refine wpr_pass0 rfl rfl ?_
       | refine wpr_pass0S rfl ?_)
    | (show Wp _ _ _ _ _ _
       first
       | refine wp_seq ?_
       | refine wp_region ?_
       | refine wp_cond_t rfl ?_
       | refine wp_cond_f rfl ?_
       | refine wp_ret ?_
       | refine wp_skip ?_
       | refine wp_exit ?_
       | refine wp_block ?_)
    | refine thenQ_norm ?_
    | refine thenQ_ret ?_
    | refine thenQ_exit ?_
    | refine blockQ_norm ?_
    | refine blockQ_ret ?_
    | refine blockQ_same ?_
    | refine blockQ_ne rfl ?_
    | refine loopQ_norm ?_
    | refine loopQ_ret ?_
    | refine loopQ_exit ?_
    | refine retQ_ret (by (try simp (disch := omega) only [push_cast, Nat.reduceEqDiff, ↓reduceIte, reduceCtorEq, Nat.reduceAdd, Nat.reduceMul, Nat.reduceLeDiff, hlen, r0, cellV, Int.toNat_zero, Int.natCast_zero]); rfl) ?_
    | refine retQ_norm (by (try simp (disch := omega) only [push_cast, Nat.reduceEqDiff, ↓reduceIte, reduceCtorEq, Nat.reduceAdd, Nat.reduceMul, Nat.reduceLeDiff, hlen, r0, cellV, Int.toNat_zero, Int.natCast_zero]); rfl) ?_
    | refine wpc_of (by simp (disch := omega) only [push_cast, Nat.reduceEqDiff, ↓reduceIte, reduceCtorEq, Nat.reduceAdd, Nat.reduceMul, Nat.reduceLeDiff, hlen, r0, cellV, Int.toNat_zero, Int.natCast_zero]; rfl) ?_)
    · rename_i g1 g2
      exact ⟨_, by omega, 1, rfl, by omega, rfl, rfl, rfl, fun _ => g2, by omega⟩
    · rename_i g1 g2
      exact ⟨by rw [if_neg g2], rfl⟩
  | 1, _ =>
    (repeat' first
    | (show WpR _ _ _ _ _ _ _ _ _
       first
       | refine wpr_p (o := .mv _) (by simp only [ev_mv, opd_s, opd_c, fget, Nat.reduceEqDiff, Nat.one_ne_zero, Nat.zero_ne_one, reduceCtorEq, ↓reduceIte]; rfl) ?_
       | (refine wpr_fork (fun _ => ?_) (fun _ => ?_) <;> try (exfalso; omega))
       | (refine wpr_forkN (fun _ => ?_) (fun _ => ?_) <;> try (exfalso; omega))
       | refine wpr_p (by simp (disch := omega) only [push_cast, Nat.reduceEqDiff, ↓reduceIte, reduceCtorEq, Nat.reduceAdd, Nat.reduceMul, Nat.reduceLeDiff, hlen, r1, cellV, Int.zero_add, Int.toNat_one]; rfl) ?_
       | refine wpr_r (by simp (disch := omega) only [push_cast, Nat.reduceEqDiff, ↓reduceIte, reduceCtorEq, Nat.reduceAdd, Nat.reduceMul, Nat.reduceLeDiff, hlen, r1, cellV, Int.zero_add, Int.toNat_one]; rfl) ?_
       | refine wpr_run rfl ?_
       | refine wpr_pass rfl rfl ?_
       | refine wpr_passS rfl ?_
       | refine wpr_call (by (try simp (disch := omega) only [push_cast, Nat.reduceEqDiff, ↓reduceIte, reduceCtorEq, Nat.reduceAdd, Nat.reduceMul, Nat.reduceLeDiff, hlen, r1, cellV, Int.zero_add, Int.toNat_one]) <;> rfl) (by first | rfl | simp only [push_cast, Nat.reduceEqDiff, ↓reduceIte, reduceCtorEq, Nat.reduceAdd, Nat.reduceMul, Nat.reduceLeDiff, hlen, r1, cellV, Int.zero_add, Int.toNat_one]) ?_
       | refine wpr_e0 (by simp (disch := omega) only [push_cast, Nat.reduceEqDiff, ↓reduceIte, reduceCtorEq, Nat.reduceAdd, Nat.reduceMul, Nat.reduceLeDiff, hlen, r1, cellV, Int.zero_add, Int.toNat_one]; rfl) ?_
       | refine wpr_e (by simp (disch := omega) only [push_cast, Nat.reduceEqDiff, ↓reduceIte, reduceCtorEq, Nat.reduceAdd, Nat.reduceMul, Nat.reduceLeDiff, hlen, r1, cellV, Int.zero_add, Int.toNat_one]; rfl) ?_
       | refine wpr_nil (by first | exact chkT_nil | (simp (disch := omega) only [push_cast, Nat.reduceEqDiff, ↓reduceIte, reduceCtorEq, Nat.reduceAdd, Nat.reduceMul, Nat.reduceLeDiff, hlen, r1, cellV, Int.zero_add, Int.toNat_one]; done)) (by (try simp only [push_cast, Nat.reduceEqDiff, ↓reduceIte, reduceCtorEq, Nat.reduceAdd, Nat.reduceMul, Nat.reduceLeDiff, hlen, r1, cellV, Int.zero_add, Int.toNat_one]); rfl) (by (try simp only [push_cast, Nat.reduceEqDiff, ↓reduceIte, reduceCtorEq, Nat.reduceAdd, Nat.reduceMul, Nat.reduceLeDiff, hlen, r1, cellV, Int.zero_add, Int.toNat_one]); rfl) ?_
       | refine wpr_pass0 rfl rfl ?_
       | refine wpr_pass0S rfl ?_)
    | (show Wp _ _ _ _ _ _
       first
       | refine wp_seq ?_
       | refine wp_region ?_
       | refine wp_cond_t rfl ?_
       | refine wp_cond_f rfl ?_
       | refine wp_ret ?_
       | refine wp_skip ?_
       | refine wp_exit ?_
       | refine wp_block ?_)
    | refine thenQ_norm ?_
    | refine thenQ_ret ?_
    | refine thenQ_exit ?_
    | refine blockQ_norm ?_
    | refine blockQ_ret ?_
    | refine blockQ_same ?_
    | refine blockQ_ne rfl ?_
    | refine loopQ_norm ?_
    | refine loopQ_ret ?_
    | refine loopQ_exit ?_
    | refine retQ_ret (by (try simp (disch := omega) only [push_cast, Nat.reduceEqDiff, ↓reduceIte, reduceCtorEq, Nat.reduceAdd, Nat.reduceMul, Nat.reduceLeDiff, hlen, r1, cellV, Int.zero_add, Int.toNat_one]); rfl) ?_
    | refine retQ_norm (by (try simp (disch := omega) only [push_cast, Nat.reduceEqDiff, ↓reduceIte, reduceCtorEq, Nat.reduceAdd, Nat.reduceMul, Nat.reduceLeDiff, hlen, r1, cellV, Int.zero_add, Int.toNat_one]); rfl) ?_
    | refine wpc_of (by simp (disch := omega) only [push_cast, Nat.reduceEqDiff, ↓reduceIte, reduceCtorEq, Nat.reduceAdd, Nat.reduceMul, Nat.reduceLeDiff, hlen, r1, cellV, Int.zero_add, Int.toNat_one]; rfl) ?_)
    · rename_i g1 g2
      exact ⟨_, by omega, 2, rfl, by omega, rfl, rfl, rfl, fun _ => z1 (by omega), fun _ => g2⟩
    · rename_i g1 g2
      exact ⟨by rw [if_pos (z1 (by omega))], rfl⟩
  | 2, _ =>
    (repeat' first
    | (show WpR _ _ _ _ _ _ _ _ _
       first
       | refine wpr_p (o := .mv _) (by simp only [ev_mv, opd_s, opd_c, fget, Nat.reduceEqDiff, Nat.one_ne_zero, Nat.zero_ne_one, reduceCtorEq, ↓reduceIte]; rfl) ?_
       | (refine wpr_fork (fun _ => ?_) (fun _ => ?_) <;> try (exfalso; omega))
       | (refine wpr_forkN (fun _ => ?_) (fun _ => ?_) <;> try (exfalso; omega))
       | refine wpr_p (by simp (disch := omega) only [push_cast, Nat.reduceEqDiff, ↓reduceIte, reduceCtorEq, Nat.reduceAdd, Nat.reduceMul, Nat.reduceLeDiff, hlen]; rfl) ?_
       | refine wpr_r (by simp (disch := omega) only [push_cast, Nat.reduceEqDiff, ↓reduceIte, reduceCtorEq, Nat.reduceAdd, Nat.reduceMul, Nat.reduceLeDiff, hlen]; rfl) ?_
       | refine wpr_run rfl ?_
       | refine wpr_pass rfl rfl ?_
       | refine wpr_passS rfl ?_
       | refine wpr_call (by (try simp (disch := omega) only [push_cast, Nat.reduceEqDiff, ↓reduceIte, reduceCtorEq, Nat.reduceAdd, Nat.reduceMul, Nat.reduceLeDiff, hlen]) <;> rfl) (by first | rfl | simp only [push_cast, Nat.reduceEqDiff, ↓reduceIte, reduceCtorEq, Nat.reduceAdd, Nat.reduceMul, Nat.reduceLeDiff, hlen]) ?_
       | refine wpr_e0 (by simp (disch := omega) only [push_cast, Nat.reduceEqDiff, ↓reduceIte, reduceCtorEq, Nat.reduceAdd, Nat.reduceMul, Nat.reduceLeDiff, hlen]; rfl) ?_
       | refine wpr_e (by simp (disch := omega) only [push_cast, Nat.reduceEqDiff, ↓reduceIte, reduceCtorEq, Nat.reduceAdd, Nat.reduceMul, Nat.reduceLeDiff, hlen]; rfl) ?_
       | refine wpr_nil (by first | exact chkT_nil | (simp (disch := omega) only [push_cast, Nat.reduceEqDiff, ↓reduceIte, reduceCtorEq, Nat.reduceAdd, Nat.reduceMul, Nat.reduceLeDiff, hlen]; done)) (by (try simp only [push_cast, Nat.reduceEqDiff, ↓reduceIte, reduceCtorEq, Nat.reduceAdd, Nat.reduceMul, Nat.reduceLeDiff, hlen]); rfl) (by (try simp only [push_cast, Nat.reduceEqDiff, ↓reduceIte, reduceCtorEq, Nat.reduceAdd, Nat.reduceMul, Nat.reduceLeDiff, hlen]); rfl) ?_
       | refine wpr_pass0 rfl rfl ?_
       | refine wpr_pass0S rfl ?_)
    | (show Wp _ _ _ _ _ _
       first
       | refine wp_seq ?_
       | refine wp_region ?_
       | refine wp_cond_t rfl ?_
       | refine wp_cond_f rfl ?_
       | refine wp_ret ?_
       | refine wp_skip ?_
       | refine wp_exit ?_
       | refine wp_block ?_)
    | refine thenQ_norm ?_
    | refine thenQ_ret ?_
    | refine thenQ_exit ?_
    | refine blockQ_norm ?_
    | refine blockQ_ret ?_
    | refine blockQ_same ?_
    | refine blockQ_ne rfl ?_
    | refine loopQ_norm ?_
    | refine loopQ_ret ?_
    | refine loopQ_exit ?_
    | refine retQ_ret (by (try simp (disch := omega) only [push_cast, Nat.reduceEqDiff, ↓reduceIte, reduceCtorEq, Nat.reduceAdd, Nat.reduceMul, Nat.reduceLeDiff, hlen]); rfl) ?_
    | refine retQ_norm (by (try simp (disch := omega) only [push_cast, Nat.reduceEqDiff, ↓reduceIte, reduceCtorEq, Nat.reduceAdd, Nat.reduceMul, Nat.reduceLeDiff, hlen]); rfl) ?_
    | refine wpc_of (by simp (disch := omega) only [push_cast, Nat.reduceEqDiff, ↓reduceIte, reduceCtorEq, Nat.reduceAdd, Nat.reduceMul, Nat.reduceLeDiff, hlen]; rfl) ?_)
    exact ⟨by rw [if_pos (z1 (by omega)), z2 (by omega)], rfl⟩

/-- The order of two rows. -/
def cmpRow (x y : Int × Int) : Int := if cmpF x.1 y.1 = 0 then cmpF x.2 y.2 else cmpF x.1 y.1

theorem closure_spec (x y : Int × Int) (h : AH) : WpC PA 88 [.agg (rowV x).toArray, .agg (rowV y).toArray] h fun v _ => v = .int .i64 (cmpRow x y) := by
  refine wpc_fn pa_ext (pa_fn fn88) rfl ?_
  unfold LF88 rowV
  simp only [argFr]
  (repeat' first
    | (show WpR _ _ _ _ _ _ _ _ _
       first
       | refine wpr_p (o := .mv _) (by simp only [ev_mv, opd_s, opd_c, fget, Nat.reduceEqDiff, Nat.one_ne_zero, Nat.zero_ne_one, reduceCtorEq, ↓reduceIte]; rfl) ?_
       | (refine wpr_fork (fun _ => ?_) (fun _ => ?_) <;> try (exfalso; omega))
       | (refine wpr_forkN (fun _ => ?_) (fun _ => ?_) <;> try (exfalso; omega))
       | refine wpr_p (by simp (disch := omega) only [push_cast, Nat.reduceEqDiff, ↓reduceIte, reduceCtorEq, Nat.reduceAdd, Nat.reduceMul, Nat.reduceLeDiff]; rfl) ?_
       | refine wpr_r (by simp (disch := omega) only [push_cast, Nat.reduceEqDiff, ↓reduceIte, reduceCtorEq, Nat.reduceAdd, Nat.reduceMul, Nat.reduceLeDiff]; rfl) ?_
       | refine wpr_run rfl ?_
       | refine wpr_pass rfl rfl ?_
       | refine wpr_passS rfl ?_
       | refine wpr_call (by (try simp (disch := omega) only [push_cast, Nat.reduceEqDiff, ↓reduceIte, reduceCtorEq, Nat.reduceAdd, Nat.reduceMul, Nat.reduceLeDiff]) <;> rfl) (by first | rfl | simp only [push_cast, Nat.reduceEqDiff, ↓reduceIte, reduceCtorEq, Nat.reduceAdd, Nat.reduceMul, Nat.reduceLeDiff]) ?_
       | refine wpr_e0 (by simp (disch := omega) only [push_cast, Nat.reduceEqDiff, ↓reduceIte, reduceCtorEq, Nat.reduceAdd, Nat.reduceMul, Nat.reduceLeDiff]; rfl) ?_
       | refine wpr_e (by simp (disch := omega) only [push_cast, Nat.reduceEqDiff, ↓reduceIte, reduceCtorEq, Nat.reduceAdd, Nat.reduceMul, Nat.reduceLeDiff]; rfl) ?_
       | refine wpr_nil (by first | exact chkT_nil | (simp (disch := omega) only [push_cast, Nat.reduceEqDiff, ↓reduceIte, reduceCtorEq, Nat.reduceAdd, Nat.reduceMul, Nat.reduceLeDiff]; done)) (by (try simp only [push_cast, Nat.reduceEqDiff, ↓reduceIte, reduceCtorEq, Nat.reduceAdd, Nat.reduceMul, Nat.reduceLeDiff]); rfl) (by (try simp only [push_cast, Nat.reduceEqDiff, ↓reduceIte, reduceCtorEq, Nat.reduceAdd, Nat.reduceMul, Nat.reduceLeDiff]); rfl) ?_
       | refine wpr_pass0 rfl rfl ?_
       | refine wpr_pass0S rfl ?_)
    | (show Wp _ _ _ _ _ _
       first
       | refine wp_seq ?_
       | refine wp_region ?_
       | refine wp_cond_t rfl ?_
       | refine wp_cond_f rfl ?_
       | refine wp_ret ?_
       | refine wp_skip ?_
       | refine wp_exit ?_
       | refine wp_block ?_)
    | refine thenQ_norm ?_
    | refine thenQ_ret ?_
    | refine thenQ_exit ?_
    | refine blockQ_norm ?_
    | refine blockQ_ret ?_
    | refine blockQ_same ?_
    | refine blockQ_ne rfl ?_
    | refine loopQ_norm ?_
    | refine loopQ_ret ?_
    | refine loopQ_exit ?_
    | refine retQ_ret (by (try simp (disch := omega) only [push_cast, Nat.reduceEqDiff, ↓reduceIte, reduceCtorEq, Nat.reduceAdd, Nat.reduceMul, Nat.reduceLeDiff]); rfl) ?_
    | refine retQ_norm (by (try simp (disch := omega) only [push_cast, Nat.reduceEqDiff, ↓reduceIte, reduceCtorEq, Nat.reduceAdd, Nat.reduceMul, Nat.reduceLeDiff]); rfl) ?_
    | refine wpc_of (by simp (disch := omega) only [push_cast, Nat.reduceEqDiff, ↓reduceIte, reduceCtorEq, Nat.reduceAdd, Nat.reduceMul, Nat.reduceLeDiff]; rfl) ?_)
  have hr : Reads (h.push (.cells false [.int .i64 (cmpF x.1 y.1), .int .i64 (cmpF x.2 y.2)])) 1 (.at h.n 0 2) ([cmpF x.1 y.1, cmpF x.2 y.2].map cellV) :=
    ⟨rfl, by simp [cellV], .inr ⟨false, [], [], AH.get_push_same h _, rfl⟩⟩
  refine wpc_of (or_eq _ _ _ _ hr) ?_
  (repeat' first
    | (show WpR _ _ _ _ _ _ _ _ _
       first
       | refine wpr_p (o := .mv _) (by simp only [ev_mv, opd_s, opd_c, fget, Nat.reduceEqDiff, Nat.one_ne_zero, Nat.zero_ne_one, reduceCtorEq, ↓reduceIte]; rfl) ?_
       | (refine wpr_fork (fun _ => ?_) (fun _ => ?_) <;> try (exfalso; omega))
       | (refine wpr_forkN (fun _ => ?_) (fun _ => ?_) <;> try (exfalso; omega))
       | refine wpr_p (by simp (disch := omega) only [push_cast, Nat.reduceEqDiff, ↓reduceIte, reduceCtorEq, Nat.reduceAdd, Nat.reduceMul, Nat.reduceLeDiff]; rfl) ?_
       | refine wpr_r (by simp (disch := omega) only [push_cast, Nat.reduceEqDiff, ↓reduceIte, reduceCtorEq, Nat.reduceAdd, Nat.reduceMul, Nat.reduceLeDiff]; rfl) ?_
       | refine wpr_run rfl ?_
       | refine wpr_pass rfl rfl ?_
       | refine wpr_passS rfl ?_
       | refine wpr_call (by (try simp (disch := omega) only [push_cast, Nat.reduceEqDiff, ↓reduceIte, reduceCtorEq, Nat.reduceAdd, Nat.reduceMul, Nat.reduceLeDiff]) <;> rfl) (by first | rfl | simp only [push_cast, Nat.reduceEqDiff, ↓reduceIte, reduceCtorEq, Nat.reduceAdd, Nat.reduceMul, Nat.reduceLeDiff]) ?_
       | refine wpr_e0 (by simp (disch := omega) only [push_cast, Nat.reduceEqDiff, ↓reduceIte, reduceCtorEq, Nat.reduceAdd, Nat.reduceMul, Nat.reduceLeDiff]; rfl) ?_
       | refine wpr_e (by simp (disch := omega) only [push_cast, Nat.reduceEqDiff, ↓reduceIte, reduceCtorEq, Nat.reduceAdd, Nat.reduceMul, Nat.reduceLeDiff]; rfl) ?_
       | refine wpr_nil (by first | exact chkT_nil | (simp (disch := omega) only [push_cast, Nat.reduceEqDiff, ↓reduceIte, reduceCtorEq, Nat.reduceAdd, Nat.reduceMul, Nat.reduceLeDiff]; done)) (by (try simp only [push_cast, Nat.reduceEqDiff, ↓reduceIte, reduceCtorEq, Nat.reduceAdd, Nat.reduceMul, Nat.reduceLeDiff]); rfl) (by (try simp only [push_cast, Nat.reduceEqDiff, ↓reduceIte, reduceCtorEq, Nat.reduceAdd, Nat.reduceMul, Nat.reduceLeDiff]); rfl) ?_
       | refine wpr_pass0 rfl rfl ?_
       | refine wpr_pass0S rfl ?_)
    | (show Wp _ _ _ _ _ _
       first
       | refine wp_seq ?_
       | refine wp_region ?_
       | refine wp_cond_t rfl ?_
       | refine wp_cond_f rfl ?_
       | refine wp_ret ?_
       | refine wp_skip ?_
       | refine wp_exit ?_
       | refine wp_block ?_)
    | refine thenQ_norm ?_
    | refine thenQ_ret ?_
    | refine thenQ_exit ?_
    | refine blockQ_norm ?_
    | refine blockQ_ret ?_
    | refine blockQ_same ?_
    | refine blockQ_ne rfl ?_
    | refine loopQ_norm ?_
    | refine loopQ_ret ?_
    | refine loopQ_exit ?_
    | refine retQ_ret (by (try simp (disch := omega) only [push_cast, Nat.reduceEqDiff, ↓reduceIte, reduceCtorEq, Nat.reduceAdd, Nat.reduceMul, Nat.reduceLeDiff]); rfl) ?_
    | refine retQ_norm (by (try simp (disch := omega) only [push_cast, Nat.reduceEqDiff, ↓reduceIte, reduceCtorEq, Nat.reduceAdd, Nat.reduceMul, Nat.reduceLeDiff]); rfl) ?_
    | refine wpc_of (by simp (disch := omega) only [push_cast, Nat.reduceEqDiff, ↓reduceIte, reduceCtorEq, Nat.reduceAdd, Nat.reduceMul, Nat.reduceLeDiff]; rfl) ?_)
  rfl

end Go.Proofs.Ytanpdopjgepbkaa.AM
