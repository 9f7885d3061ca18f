/- The order of rows: the closure that 'made' hands to the library's sort. -/
import Derived.Test.YtanpdopjgepbkaaSA
import Derived.Test.YtanpdopjgepbkaaAmE
import Derived.Shelf.SlSortCmp.NoneTotal
import Derived.Test.YtanpdopjgepbkaaSB
import Derived.Shelf.Spec.SlicesGrow
import Derived.ProofKit
set_option linter.unusedVariables false
set_option linter.unusedSimpArgs false
namespace Go.Proofs.Ytanpdopjgepbkaa.AM
open Go

/-- The program without contracts. -/
noncomputable def PA : Prg := withExt (autoPrg Try.prog) (fun _ => none)
theorem pa_fn {f : FuncId} {lf : LFunc} (hf : (autoPrg Try.prog).fn f = some lf) : PA.fn f = some lf := by
  unfold PA
  rw [withExt_fn]
  exact hf
theorem pa_ext {f : FuncId} : PA.ext f = none := by
  unfold PA
  rw [withExt_ext]

def LF86 : LFunc :=
  .mk 2 [.tmp 4] (.seq (.region [.mk (some 4) (.p (.mv (.c (.int .i64 0)))) none] [0, 1] []) (.seq (.region [.mk (some 7) (.p (.mv (.s 0))) none, .mk (some 8) (.e (.call 92 [.s 7]))
  none, .mk (some 5) (.p (.mv (.s 8))) none] [0, 1, 5] []) (.seq (.region [.mk (some 9) (.p (.mv (.s 1))) none, .mk (some 10) (.e (.call 92 [.s 9])) none, .mk (some 6) (.p (.mv (.s
  10))) none] [0, 1, 5, 6] []) (.seq (.seq (.region [.mk (some 11) (.p (.mv (.s 5))) none] [0, 1, 6, 11] []) (.cond (.s 11) (.seq (.seq (.region [.mk (some 12) (.p (.mv (.s 6)))
  none] [12] []) (.cond (.s 12) (.seq (.region [.mk (some 4) (.p (.mv (.c (.int .i64 0)))) none] [4] []) .ret) .skip)) (.seq (.region [.mk (some 4) (.p (.mv (.c (.int .i64 (-1)))))
  none] [4] []) .ret)) .skip)) (.seq (.seq (.region [.mk (some 13) (.p (.mv (.s 6))) none] [0, 1, 13] []) (.cond (.s 13) (.seq (.region [.mk (some 4) (.p (.mv (.c (.int .i64 1))))
  none] [4] []) .ret) .skip)) (.seq (.seq (.region [.mk (some 14) (.p (.mv (.s 0))) none, .mk (some 15) (.p (.mv (.s 1))) none, .mk (some 16) (.p (.bin .lss (.s 14) (.s 15))) none]
  [0, 1, 16] []) (.cond (.s 16) (.seq (.region [.mk (some 4) (.p (.mv (.c (.int .i64 (-1))))) none] [4] []) .ret) .skip)) (.seq (.seq (.region [.mk (some 17) (.p (.mv (.s 0))) none,
  .mk (some 18) (.p (.mv (.s 1))) none, .mk (some 19) (.p (.bin .gtr (.s 17) (.s 18))) none] [19] []) (.cond (.s 19) (.seq (.region [.mk (some 4) (.p (.mv (.c (.int .i64 1)))) none]
  [4] []) .ret) .skip)) (.seq (.region [.mk (some 4) (.p (.mv (.c (.int .i64 0)))) none] [4] []) .ret))))))))
theorem fn86 : (autoPrg Try.prog).fn 86 = some LF86 := by kernel_rfl

def LF88 : LFunc :=
  .mk 2 [.tmp 4] (.seq (.region [.mk (some 2) (.e (.boxL 2 2 (.s 0))) none, .mk (some 3) (.e (.boxL 3 2 (.s 1))) none, .mk (some 4) (.p (.mv (.c (.int .i64 0)))) none] [2, 3] [])
  (.seq (.region [.mk (some 5) (.p (.faddr 0 (.s 2))) none, .mk (some 6) (.r (.load none (.s 5))) none, .mk (some 7) (.p (.faddr 0 (.s 3))) none, .mk (some 8) (.r (.load none (.s
  7))) none, .mk (some 9) (.e (.call 86 [.s 6, .s 8])) none, .mk (some 10) (.p (.faddr 1 (.s 2))) none, .mk (some 11) (.r (.load none (.s 10))) none, .mk (some 12) (.p (.faddr 1 (.s
  3))) none, .mk (some 13) (.r (.load none (.s 12))) none, .mk (some 14) (.e (.call 86 [.s 11, .s 13])) none, .mk (some 15) (.e (.litH 2 1 [.int .i64 0] [(0, 1, .s 9), (1, 1, .s
  14)])) none, .mk (some 16) (.e (.call 89 [.s 15])) none, .mk (some 4) (.p (.mv (.s 16))) none] [4] [(6, 0), (8, 0)]) .ret))
theorem fn88 : (autoPrg Try.prog).fn 88 = some LF88 := by kernel_rfl

def LF89 : LFunc :=
  .mk 1 [.tmp 2] (.seq (.region [.mk (some 2) (.p (.mv (.c (.int .i64 0)))) none] [0] []) (.seq (.region [.mk (some 3) (.p (.mv (.c (.int .i64 0)))) none] [0, 3] []) (.seq (.seq
  (.region [.mk (some 6) (.p (.mv (.s 0))) none, .mk (some 7) (.p (.len (.s 6))) none, .mk (some 8) (.p (.mv (.c (.int .i64 0)))) none] [3, 6, 7, 8] []) (.block 0 (.loop (.seq
  (.region [.mk (some 9) (.p (.bin .lss (.s 8) (.s 7))) none] [3, 6, 7, 8, 9] []) (.seq (.cond (.s 9) .skip (.exit 0)) (.seq (.block 1 (.seq (.region [.mk (some 10) (.p (.iaddr 1
  (.s 6) (.s 8))) none, .mk (some 11) (.r (.load none (.s 10))) none, .mk (some 5) (.p (.mv (.s 11))) none] [3, 5, 6, 7, 8] []) (.seq (.region [.mk (some 12) (.p (.mv (.s 5))) none,
  .mk (some 13) (.p (.mv (.s 3))) none, .mk (some 14) (.p (.bin .neq (.s 12) (.s 13))) none] [3, 5, 6, 7, 8, 14] []) (.cond (.s 14) (.seq (.region [.mk (some 15) (.p (.mv (.s 5)))
  none, .mk (some 2) (.p (.mv (.s 15))) none] [2] []) .ret) .skip)))) (.region [.mk (some 16) (.p (.bin .add (.s 8) (.c (.int .i64 1)))) none, .mk (some 8) (.p (.mv (.s 16))) none]
  [3, 6, 7, 8] []))))))) (.seq (.region [.mk (some 17) (.p (.mv (.s 3))) none, .mk (some 2) (.p (.mv (.s 17))) none] [2] []) .ret))))
theorem fn89 : (autoPrg Try.prog).fn 89 = some LF89 := by kernel_rfl

def LF92 : LFunc :=
  .mk 1 [.tmp 2] (.seq (.region [.mk (some 2) (.p (.mv (.c (.bool false)))) none] [0] []) (.seq (.region [.mk (some 3) (.p (.mv (.s 0))) none, .mk (some 4) (.p (.mv (.s 0))) none,
  .mk (some 5) (.p (.bin .neq (.s 3) (.s 4))) none, .mk (some 2) (.p (.mv (.s 5))) none] [2] []) .ret))
theorem fn92 : (autoPrg Try.prog).fn 92 = some LF92 := by kernel_rfl

@[push_cast] theorem isNaN_eq (n : Int) (h : AH) : callO PA 92 [.int .i64 n] h = some (.bool false, h) := by
  apply WpC.eqn
  refine wpc_fn pa_ext (pa_fn fn92) rfl ?_
  unfold LF92
  simp only [argFr]
  (repeat' first
    | (show WpR _ _ _ _ _ _ _ _ _
       first
       | refine wpr_drop ?_
       | refine wpr_p (o := .mv _) (by simp only [ev_mv, opd_s, opd_c, fget, Nat.reduceEqDiff, Nat.one_ne_zero, Nat.zero_ne_one, reduceCtorEq, ↓reduceIte]; rfl) ?_
       | (refine wpr_fork (fun _ => ?_) (fun _ => ?_) <;> try (exfalso; omega))
       | (refine wpr_forkN (fun _ => ?_) (fun _ => ?_) <;> try (exfalso; omega))
       | refine wpr_run rfl ?_
       | refine wpr_pass rfl rfl ?_
       | refine wpr_passS rfl ?_
       | ((first | apply wpr_p | apply wpr_r | apply wpr_callA | apply wpr_callA0 | apply wpr_e0 | apply wpr_e | apply wpr_end0); focus ((try simp (disch := omega) only [push_cast, Nat.reduceEqDiff, ↓reduceIte, reduceCtorEq, Nat.reduceAdd, Nat.reduceMul, Nat.reduceLeDiff]); rfl))
       | refine wpr_pass0 rfl rfl ?_
       | refine wpr_pass0S rfl ?_
       | (apply wpr_end; (focus ((try simp (disch := omega) only [push_cast, Nat.reduceEqDiff, ↓reduceIte, reduceCtorEq, Nat.reduceAdd, Nat.reduceMul, Nat.reduceLeDiff]); rfl)); (focus (simp (disch := omega) only [push_cast, Nat.reduceEqDiff, ↓reduceIte, reduceCtorEq, Nat.reduceAdd, Nat.reduceMul, Nat.reduceLeDiff]; done)))
       | fail)
    | (show Wp _ _ _ _ _ _
       first
       | refine wp_seq ?_
       | refine wp_region0 ?_
       | refine wp_region ?_
       | refine wp_cond_t rfl ?_
       | refine wp_cond_f rfl ?_
       | refine wp_ret ?_
       | refine wp_skip ?_
       | refine wp_exit ?_
       | refine wp_block ?_
       | fail)
    | refine thenQ_norm ?_
    | refine thenQ_ret ?_
    | refine thenQ_exit ?_
    | refine blockQ_norm ?_
    | refine blockQ_ret ?_
    | refine blockQ_same ?_
    | refine blockQ_ne rfl ?_
    | refine loopQ_norm ?_
    | refine loopQ_ret ?_
    | refine loopQ_exit ?_
    | ((first | apply retQ_ret | apply retQ_norm | apply wpc_of); focus ((try simp (disch := omega) only [push_cast, Nat.reduceEqDiff, ↓reduceIte, reduceCtorEq, Nat.reduceAdd, Nat.reduceMul, Nat.reduceLeDiff]); rfl))
    | fail)
  all_goals first | exact ⟨rfl, rfl⟩ | trace_state

def cmpF (x y : Int) : Int := if x < y then -1 else if y < x then 1 else 0
@[push_cast] theorem compare_eq (x y : Int) (h : AH) : callO PA 86 [.int .i64 x, .int .i64 y] h = some (.int .i64 (cmpF x y), h) := by
  apply WpC.eqn
  refine wpc_fn pa_ext (pa_fn fn86) rfl ?_
  unfold LF86
  simp only [argFr]
  (repeat' first
    | (show WpR _ _ _ _ _ _ _ _ _
       first
       | refine wpr_drop ?_
       | refine wpr_p (o := .mv _) (by simp only [ev_mv, opd_s, opd_c, fget, Nat.reduceEqDiff, Nat.one_ne_zero, Nat.zero_ne_one, reduceCtorEq, ↓reduceIte]; rfl) ?_
       | (refine wpr_fork (fun _ => ?_) (fun _ => ?_) <;> try (exfalso; omega))
       | (refine wpr_forkN (fun _ => ?_) (fun _ => ?_) <;> try (exfalso; omega))
       | refine wpr_run rfl ?_
       | refine wpr_pass rfl rfl ?_
       | refine wpr_passS rfl ?_
       | ((first | apply wpr_p | apply wpr_r | apply wpr_callA | apply wpr_callA0 | apply wpr_e0 | apply wpr_e | apply wpr_end0); focus ((try simp (disch := omega) only [push_cast, Nat.reduceEqDiff, ↓reduceIte, reduceCtorEq, Nat.reduceAdd, Nat.reduceMul, Nat.reduceLeDiff]); rfl))
       | refine wpr_pass0 rfl rfl ?_
       | refine wpr_pass0S rfl ?_
       | (apply wpr_end; (focus ((try simp (disch := omega) only [push_cast, Nat.reduceEqDiff, ↓reduceIte, reduceCtorEq, Nat.reduceAdd, Nat.reduceMul, Nat.reduceLeDiff]); rfl)); (focus (simp (disch := omega) only [push_cast, Nat.reduceEqDiff, ↓reduceIte, reduceCtorEq, Nat.reduceAdd, Nat.reduceMul, Nat.reduceLeDiff]; done)))
       | fail)
    | (show Wp _ _ _ _ _ _
       first
       | refine wp_seq ?_
       | refine wp_region0 ?_
       | refine wp_region ?_
       | refine wp_cond_t rfl ?_
       | refine wp_cond_f rfl ?_
       | refine wp_ret ?_
       | refine wp_skip ?_
       | refine wp_exit ?_
       | refine wp_block ?_
       | fail)
    | refine thenQ_norm ?_
    | refine thenQ_ret ?_
    | refine thenQ_exit ?_
    | refine blockQ_norm ?_
    | refine blockQ_ret ?_
    | refine blockQ_same ?_
    | refine blockQ_ne rfl ?_
    | refine loopQ_norm ?_
    | refine loopQ_ret ?_
    | refine loopQ_exit ?_
    | ((first | apply retQ_ret | apply retQ_norm | apply wpc_of); focus ((try simp (disch := omega) only [push_cast, Nat.reduceEqDiff, ↓reduceIte, reduceCtorEq, Nat.reduceAdd, Nat.reduceMul, Nat.reduceLeDiff]); rfl))
    | fail)
  all_goals (refine ⟨?_, rfl⟩; unfold cmpF; congr 1; omega)

def cellV (n : Int) : List Value := [.int .i64 n]
theorem or_eq (a b : Int) (s : Sl) (h : AH) (hr : Reads h 1 s ([a, b].map cellV)) : callO PA 89 [s.val 1] h = some (.int .i64 (if a = 0 then b else a), h) := by
  have hlen := hr.len
  simp only [List.length_cons, List.length_nil] at hlen
  apply WpC.eqn
  refine wpc_fn pa_ext (pa_fn fn89) rfl ?_
  unfold LF89
  simp only [argFr]
  (repeat' first
    | (show WpR _ _ _ _ _ _ _ _ _
       first
       | refine wpr_drop ?_
       | refine wpr_p (o := .mv _) (by simp only [ev_mv, opd_s, opd_c, fget, Nat.reduceEqDiff, Nat.one_ne_zero, Nat.zero_ne_one, reduceCtorEq, ↓reduceIte]; rfl) ?_
       | (refine wpr_fork (fun _ => ?_) (fun _ => ?_) <;> try (exfalso; omega))
       | (refine wpr_forkN (fun _ => ?_) (fun _ => ?_) <;> try (exfalso; omega))
       | refine wpr_run rfl ?_
       | refine wpr_pass rfl rfl ?_
       | refine wpr_passS rfl ?_
       | ((first | apply wpr_p | apply wpr_r | apply wpr_callA | apply wpr_callA0 | apply wpr_e0 | apply wpr_e | apply wpr_end0); focus ((try simp (disch := omega) only [push_cast, Nat.reduceEqDiff, ↓reduceIte, reduceCtorEq, Nat.reduceAdd, Nat.reduceMul, Nat.reduceLeDiff, hlen]); rfl))
       | refine wpr_pass0 rfl rfl ?_
       | refine wpr_pass0S rfl ?_
       | (apply wpr_end; (focus ((try simp (disch := omega) only [push_cast, Nat.reduceEqDiff, ↓reduceIte, reduceCtorEq, Nat.reduceAdd, Nat.reduceMul, Nat.reduceLeDiff, hlen]); rfl)); (focus (simp (disch := omega) only [push_cast, Nat.reduceEqDiff, ↓reduceIte, reduceCtorEq, Nat.reduceAdd, Nat.reduceMul, Nat.reduceLeDiff, hlen]; done)))
       | fail)
    | (show Wp _ _ _ _ _ _
       first
       | refine wp_seq ?_
       | refine wp_region0 ?_
       | refine wp_region ?_
       | refine wp_cond_t rfl ?_
       | refine wp_cond_f rfl ?_
       | refine wp_ret ?_
       | refine wp_skip ?_
       | refine wp_exit ?_
       | refine wp_block ?_
       | fail)
    | refine thenQ_norm ?_
    | refine thenQ_ret ?_
    | refine thenQ_exit ?_
    | refine blockQ_norm ?_
    | refine blockQ_ret ?_
    | refine blockQ_same ?_
    | refine blockQ_ne rfl ?_
    | refine loopQ_norm ?_
    | refine loopQ_ret ?_
    | refine loopQ_exit ?_
    | ((first | apply retQ_ret | apply retQ_norm | apply wpc_of); focus ((try simp (disch := omega) only [push_cast, Nat.reduceEqDiff, ↓reduceIte, reduceCtorEq, Nat.reduceAdd, Nat.reduceMul, Nat.reduceLeDiff, hlen]); rfl))
    | fail)
  refine wp_loop (fun n fr lc h1 => ∃ (i : Nat), n = 2 - i ∧ i ≤ 2 ∧ fr = [(3, .int .i64 0), (6, s.val 1), (7, .int .i64 2), (8, .int .i64 i)] ∧ lc = [] ∧ h1 = h ∧ (0 < i → a = 0) ∧ (1 < i → b = 0)) 2 ⟨0, rfl, by omega, rfl, rfl, rfl, by omega, by omega⟩ ?_
  rintro n fr lc h1 ⟨i, rfl, hi, rfl, rfl, rfl, z1, z2⟩
  have r0 : ∀ lc, Mem.rd ⟨lc, h1⟩ (s.adr 1 0) 1 = some (cellV a) := fun lc => rd_map (l := [a, b]) hr (by simp)
  have r1 : ∀ lc, Mem.rd ⟨lc, h1⟩ (s.adr 1 1) 1 = some (cellV b) := fun lc => rd_map (l := [a, b]) hr (by simp)
  match i, hi with
  | 0, _ =>
    (repeat' first
    | (show WpR _ _ _ _ _ _ _ _ _
       first
       | refine wpr_drop ?_
       | refine wpr_p (o := .mv _) (by simp only [ev_mv, opd_s, opd_c, fget, Nat.reduceEqDiff, Nat.one_ne_zero, Nat.zero_ne_one, reduceCtorEq, ↓reduceIte]; rfl) ?_
       | (refine wpr_fork (fun _ => ?_) (fun _ => ?_) <;> try (exfalso; omega))
       | (refine wpr_forkN (fun _ => ?_) (fun _ => ?_) <;> try (exfalso; omega))
       | refine wpr_run rfl ?_
       | refine wpr_pass rfl rfl ?_
       | refine wpr_passS rfl ?_
       | ((first | apply wpr_p | apply wpr_r | apply wpr_callA | apply wpr_callA0 | apply wpr_e0 | apply wpr_e | apply wpr_end0); focus ((try simp (disch := omega) only [push_cast, Nat.reduceEqDiff, ↓reduceIte, reduceCtorEq, Nat.reduceAdd, Nat.reduceMul, Nat.reduceLeDiff, hlen, r0, cellV, Int.toNat_zero, Int.natCast_zero]); rfl))
       | refine wpr_pass0 rfl rfl ?_
       | refine wpr_pass0S rfl ?_
       | (apply wpr_end; (focus ((try simp (disch := omega) only [push_cast, Nat.reduceEqDiff, ↓reduceIte, reduceCtorEq, Nat.reduceAdd, Nat.reduceMul, Nat.reduceLeDiff, hlen, r0, cellV, Int.toNat_zero, Int.natCast_zero]); rfl)); (focus (simp (disch := omega) only [push_cast, Nat.reduceEqDiff, ↓reduceIte, reduceCtorEq, Nat.reduceAdd, Nat.reduceMul, Nat.reduceLeDiff, hlen, r0, cellV, Int.toNat_zero, Int.natCast_zero]; done)))
       | fail)
    | (show Wp _ _ _ _ _ _
       first
       | refine wp_seq ?_
       | refine wp_region0 ?_
       | refine wp_region ?_
       | refine wp_cond_t rfl ?_
       | refine wp_cond_f rfl ?_
       | refine wp_ret ?_
       | refine wp_skip ?_
       | refine wp_exit ?_
       | refine wp_block ?_
       | fail)
    | refine thenQ_norm ?_
    | refine thenQ_ret ?_
    | refine thenQ_exit ?_
    | refine blockQ_norm ?_
    | refine blockQ_ret ?_
    | refine blockQ_same ?_
    | refine blockQ_ne rfl ?_
    | refine loopQ_norm ?_
    | refine loopQ_ret ?_
    | refine loopQ_exit ?_
    | ((first | apply retQ_ret | apply retQ_norm | apply wpc_of); focus ((try simp (disch := omega) only [push_cast, Nat.reduceEqDiff, ↓reduceIte, reduceCtorEq, Nat.reduceAdd, Nat.reduceMul, Nat.reduceLeDiff, hlen, r0, cellV, Int.toNat_zero, Int.natCast_zero]); rfl))
    | fail)
    · rename_i g1 g2
      exact ⟨_, by omega, 1, rfl, by omega, rfl, rfl, rfl, fun _ => g2, by omega⟩
    · rename_i g1 g2
      exact ⟨by rw [if_neg g2], rfl⟩
  | 1, _ =>
    (repeat' first
    | (show WpR _ _ _ _ _ _ _ _ _
       first
       | refine wpr_drop ?_
       | refine wpr_p (o := .mv _) (by simp only [ev_mv, opd_s, opd_c, fget, Nat.reduceEqDiff, Nat.one_ne_zero, Nat.zero_ne_one, reduceCtorEq, ↓reduceIte]; rfl) ?_
       | (refine wpr_fork (fun _ => ?_) (fun _ => ?_) <;> try (exfalso; omega))
       | (refine wpr_forkN (fun _ => ?_) (fun _ => ?_) <;> try (exfalso; omega))
       | refine wpr_run rfl ?_
       | refine wpr_pass rfl rfl ?_
       | refine wpr_passS rfl ?_
       | ((first | apply wpr_p | apply wpr_r | apply wpr_callA | apply wpr_callA0 | apply wpr_e0 | apply wpr_e | apply wpr_end0); focus ((try simp (disch := omega) only [push_cast, Nat.reduceEqDiff, ↓reduceIte, reduceCtorEq, Nat.reduceAdd, Nat.reduceMul, Nat.reduceLeDiff, hlen, r1, cellV, Int.zero_add, Int.toNat_one]); rfl))
       | refine wpr_pass0 rfl rfl ?_
       | refine wpr_pass0S rfl ?_
       | (apply wpr_end; (focus ((try simp (disch := omega) only [push_cast, Nat.reduceEqDiff, ↓reduceIte, reduceCtorEq, Nat.reduceAdd, Nat.reduceMul, Nat.reduceLeDiff, hlen, r1, cellV, Int.zero_add, Int.toNat_one]); rfl)); (focus (simp (disch := omega) only [push_cast, Nat.reduceEqDiff, ↓reduceIte, reduceCtorEq, Nat.reduceAdd, Nat.reduceMul, Nat.reduceLeDiff, hlen, r1, cellV, Int.zero_add, Int.toNat_one]; done)))
       | fail)
    | (show Wp _ _ _ _ _ _
       first
       | refine wp_seq ?_
       | refine wp_region0 ?_
       | refine wp_region ?_
       | refine wp_cond_t rfl ?_
       | refine wp_cond_f rfl ?_
       | refine wp_ret ?_
       | refine wp_skip ?_
       | refine wp_exit ?_
       | refine wp_block ?_
       | fail)
    | refine thenQ_norm ?_
    | refine thenQ_ret ?_
    | refine thenQ_exit ?_
    | refine blockQ_norm ?_
    | refine blockQ_ret ?_
    | refine blockQ_same ?_
    | refine blockQ_ne rfl ?_
    | refine loopQ_norm ?_
    | refine loopQ_ret ?_
    | refine loopQ_exit ?_
    | ((first | apply retQ_ret | apply retQ_norm | apply wpc_of); focus ((try simp (disch := omega) only [push_cast, Nat.reduceEqDiff, ↓reduceIte, reduceCtorEq, Nat.reduceAdd, Nat.reduceMul, Nat.reduceLeDiff, hlen, r1, cellV, Int.zero_add, Int.toNat_one]); rfl))
    | fail)
    · rename_i g1 g2
      exact ⟨_, by omega, 2, rfl, by omega, rfl, rfl, rfl, fun _ => z1 (by omega), fun _ => g2⟩
    · rename_i g1 g2
      exact ⟨by rw [if_pos (z1 (by omega))], rfl⟩
  | 2, _ =>
    (repeat' first
    | (show WpR _ _ _ _ _ _ _ _ _
       first
       | refine wpr_drop ?_
       | refine wpr_p (o := .mv _) (by simp only [ev_mv, opd_s, opd_c, fget, Nat.reduceEqDiff, Nat.one_ne_zero, Nat.zero_ne_one, reduceCtorEq, ↓reduceIte]; rfl) ?_
       | (refine wpr_fork (fun _ => ?_) (fun _ => ?_) <;> try (exfalso; omega))
       | (refine wpr_forkN (fun _ => ?_) (fun _ => ?_) <;> try (exfalso; omega))
       | refine wpr_run rfl ?_
       | refine wpr_pass rfl rfl ?_
       | refine wpr_passS rfl ?_
       | ((first | apply wpr_p | apply wpr_r | apply wpr_callA | apply wpr_callA0 | apply wpr_e0 | apply wpr_e | apply wpr_end0); focus ((try simp (disch := omega) only [push_cast, Nat.reduceEqDiff, ↓reduceIte, reduceCtorEq, Nat.reduceAdd, Nat.reduceMul, Nat.reduceLeDiff, hlen]); rfl))
       | refine wpr_pass0 rfl rfl ?_
       | refine wpr_pass0S rfl ?_
       | (apply wpr_end; (focus ((try simp (disch := omega) only [push_cast, Nat.reduceEqDiff, ↓reduceIte, reduceCtorEq, Nat.reduceAdd, Nat.reduceMul, Nat.reduceLeDiff, hlen]); rfl)); (focus (simp (disch := omega) only [push_cast, Nat.reduceEqDiff, ↓reduceIte, reduceCtorEq, Nat.reduceAdd, Nat.reduceMul, Nat.reduceLeDiff, hlen]; done)))
       | fail)
    | (show Wp _ _ _ _ _ _
       first
       | refine wp_seq ?_
       | refine wp_region0 ?_
       | refine wp_region ?_
       | refine wp_cond_t rfl ?_
       | refine wp_cond_f rfl ?_
       | refine wp_ret ?_
       | refine wp_skip ?_
       | refine wp_exit ?_
       | refine wp_block ?_
       | fail)
    | refine thenQ_norm ?_
    | refine thenQ_ret ?_
    | refine thenQ_exit ?_
    | refine blockQ_norm ?_
    | refine blockQ_ret ?_
    | refine blockQ_same ?_
    | refine blockQ_ne rfl ?_
    | refine loopQ_norm ?_
    | refine loopQ_ret ?_
    | refine loopQ_exit ?_
    | ((first | apply retQ_ret | apply retQ_norm | apply wpc_of); focus ((try simp (disch := omega) only [push_cast, Nat.reduceEqDiff, ↓reduceIte, reduceCtorEq, Nat.reduceAdd, Nat.reduceMul, Nat.reduceLeDiff, hlen]); rfl))
    | fail)
    exact ⟨by rw [if_pos (z1 (by omega)), z2 (by omega)], rfl⟩

/-- The order of two rows. -/
def cmpRow (x y : Int × Int) : Int := if cmpF x.1 y.1 = 0 then cmpF x.2 y.2 else cmpF x.1 y.1

theorem closure_spec (x y : Int × Int) (h : AH) : WpC PA 88 [.agg (rowV x).toArray, .agg (rowV y).toArray] h fun v _ => v = .int .i64 (cmpRow x y) := by
  refine wpc_fn pa_ext (pa_fn fn88) rfl ?_
  unfold LF88 rowV
  simp only [argFr]
  (repeat' first
    | (show WpR _ _ _ _ _ _ _ _ _
       first
       | refine wpr_drop ?_
       | refine wpr_p (o := .mv _) (by simp only [ev_mv, opd_s, opd_c, fget, Nat.reduceEqDiff, Nat.one_ne_zero, Nat.zero_ne_one, reduceCtorEq, ↓reduceIte]; rfl) ?_
       | (refine wpr_fork (fun _ => ?_) (fun _ => ?_) <;> try (exfalso; omega))
       | (refine wpr_forkN (fun _ => ?_) (fun _ => ?_) <;> try (exfalso; omega))
       | refine wpr_run rfl ?_
       | refine wpr_pass rfl rfl ?_
       | refine wpr_passS rfl ?_
       | ((first | apply wpr_p | apply wpr_r | apply wpr_callA | apply wpr_callA0 | apply wpr_e0 | apply wpr_e | apply wpr_end0); focus ((try simp (disch := omega) only [push_cast, Nat.reduceEqDiff, ↓reduceIte, reduceCtorEq, Nat.reduceAdd, Nat.reduceMul, Nat.reduceLeDiff]); rfl))
       | refine wpr_pass0 rfl rfl ?_
       | refine wpr_pass0S rfl ?_
       | (apply wpr_end; (focus ((try simp (disch := omega) only [push_cast, Nat.reduceEqDiff, ↓reduceIte, reduceCtorEq, Nat.reduceAdd, Nat.reduceMul, Nat.reduceLeDiff]); rfl)); (focus (simp (disch := omega) only [push_cast, Nat.reduceEqDiff, ↓reduceIte, reduceCtorEq, Nat.reduceAdd, Nat.reduceMul, Nat.reduceLeDiff]; done)))
       | fail)
    | (show Wp _ _ _ _ _ _
       first
       | refine wp_seq ?_
       | refine wp_region0 ?_
       | refine wp_region ?_
       | refine wp_cond_t rfl ?_
       | refine wp_cond_f rfl ?_
       | refine wp_ret ?_
       | refine wp_skip ?_
       | refine wp_exit ?_
       | refine wp_block ?_
       | fail)
    | refine thenQ_norm ?_
    | refine thenQ_ret ?_
    | refine thenQ_exit ?_
    | refine blockQ_norm ?_
    | refine blockQ_ret ?_
    | refine blockQ_same ?_
    | refine blockQ_ne rfl ?_
    | refine loopQ_norm ?_
    | refine loopQ_ret ?_
    | refine loopQ_exit ?_
    | ((first | apply retQ_ret | apply retQ_norm | apply wpc_of); focus ((try simp (disch := omega) only [push_cast, Nat.reduceEqDiff, ↓reduceIte, reduceCtorEq, Nat.reduceAdd, Nat.reduceMul, Nat.reduceLeDiff]); rfl))
    | fail)
  have hr : Reads (h.push (.cells false [.int .i64 (cmpF x.1 y.1), .int .i64 (cmpF x.2 y.2)])) 1 (.at h.n 0 2) ([cmpF x.1 y.1, cmpF x.2 y.2].map cellV) :=
    ⟨rfl, by simp [cellV], .inr ⟨false, [], [], AH.get_push_same h _, rfl⟩⟩
  refine wpc_of (or_eq _ _ _ _ hr) ?_
  (repeat' first
    | (show WpR _ _ _ _ _ _ _ _ _
       first
       | refine wpr_drop ?_
       | refine wpr_p (o := .mv _) (by simp only [ev_mv, opd_s, opd_c, fget, Nat.reduceEqDiff, Nat.one_ne_zero, Nat.zero_ne_one, reduceCtorEq, ↓reduceIte]; rfl) ?_
       | (refine wpr_fork (fun _ => ?_) (fun _ => ?_) <;> try (exfalso; omega))
       | (refine wpr_forkN (fun _ => ?_) (fun _ => ?_) <;> try (exfalso; omega))
       | refine wpr_run rfl ?_
       | refine wpr_pass rfl rfl ?_
       | refine wpr_passS rfl ?_
       | ((first | apply wpr_p | apply wpr_r | apply wpr_callA | apply wpr_callA0 | apply wpr_e0 | apply wpr_e | apply wpr_end0); focus ((try simp (disch := omega) only [push_cast, Nat.reduceEqDiff, ↓reduceIte, reduceCtorEq, Nat.reduceAdd, Nat.reduceMul, Nat.reduceLeDiff]); rfl))
       | refine wpr_pass0 rfl rfl ?_
       | refine wpr_pass0S rfl ?_
       | (apply wpr_end; (focus ((try simp (disch := omega) only [push_cast, Nat.reduceEqDiff, ↓reduceIte, reduceCtorEq, Nat.reduceAdd, Nat.reduceMul, Nat.reduceLeDiff]); rfl)); (focus (simp (disch := omega) only [push_cast, Nat.reduceEqDiff, ↓reduceIte, reduceCtorEq, Nat.reduceAdd, Nat.reduceMul, Nat.reduceLeDiff]; done)))
       | fail)
    | (show Wp _ _ _ _ _ _
       first
       | refine wp_seq ?_
       | refine wp_region0 ?_
       | refine wp_region ?_
       | refine wp_cond_t rfl ?_
       | refine wp_cond_f rfl ?_
       | refine wp_ret ?_
       | refine wp_skip ?_
       | refine wp_exit ?_
       | refine wp_block ?_
       | fail)
    | refine thenQ_norm ?_
    | refine thenQ_ret ?_
    | refine thenQ_exit ?_
    | refine blockQ_norm ?_
    | refine blockQ_ret ?_
    | refine blockQ_same ?_
    | refine blockQ_ne rfl ?_
    | refine loopQ_norm ?_
    | refine loopQ_ret ?_
    | refine loopQ_exit ?_
    | ((first | apply retQ_ret | apply retQ_norm | apply wpc_of); focus ((try simp (disch := omega) only [push_cast, Nat.reduceEqDiff, ↓reduceIte, reduceCtorEq, Nat.reduceAdd, Nat.reduceMul, Nat.reduceLeDiff]); rfl))
    | fail)
  rfl

end Go.Proofs.Ytanpdopjgepbkaa.AM
/- The library's sort as it lies in this program. -/
set_option linter.unusedVariables false
namespace Go.Proofs.Ytanpdopjgepbkaa.AM
open Go Go.Shelf Go.RowKit Go.Lib Go.Sort

def sortRen : Ren where
  f := fun n => match n with
    | 6 => 87 | 14 => 93 | 15 => 94 | 20 => 95 | 21 => 96 | 22 => 97 | 23 => 98 | 24 => 99 | 25 => 100 | 26 => 101 | 27 => 102 | 28 => 103 | 29 => 104 | 46 => 105 | 47 => 106 | 48 => 107 | 49 => 108 | 50 => 109 | 57 => 110 | _ => 0
  t := fun n => match n with
    | 0 => 0 | 3 => 3 | 4 => 4 | 5 => 5 | 9 => 9 | 22 => 90 | 24 => 94 | 25 => 120 | 39 => 124 | 45 => 128 | 46 => 129 | 50 => 114 | 53 => 51 | 55 => 136 | 66 => 137 | 70 => 141 | 76 => 143 | 77 => 60 | _ => 0
  g := fun n => n

theorem srt_f6 : Bears Try.prog 87 (SlBodyF.n6 sortRen) := ⟨Try.f87.name, by decide, Try.func87.trans (by kernel_rfl)⟩
theorem srt_f14 : Bears Try.prog 93 (SlBodyF.n14 sortRen) := ⟨Try.f93.name, by decide, Try.func93.trans (by kernel_rfl)⟩
theorem srt_f15 : Try.prog.funcs[94]? = some (SlBodyF.n15 sortRen) := Try.func94.trans (by kernel_rfl)
theorem srt_f20 : Bears Try.prog 95 (SlBodyF.n20 sortRen) := ⟨Try.f95.name, by decide, Try.func95.trans (by kernel_rfl)⟩
theorem srt_f21 : Bears Try.prog 96 (SlBodyF.n21 sortRen) := ⟨Try.f96.name, by decide, Try.func96.trans (by kernel_rfl)⟩
theorem srt_f22 : Bears Try.prog 97 (SlBodyF.n22 sortRen) := ⟨Try.f97.name, by decide, Try.func97.trans (by kernel_rfl)⟩
theorem srt_f23 : Bears Try.prog 98 (SlBodyF.n23 sortRen) := ⟨Try.f98.name, by decide, Try.func98.trans (by kernel_rfl)⟩
theorem srt_f24 : Bears Try.prog 99 (SlBodyF.n24 sortRen) := ⟨Try.f99.name, by decide, Try.func99.trans (by kernel_rfl)⟩
theorem srt_f25 : Bears Try.prog 100 (SlBodyF.n25 sortRen) := ⟨Try.f100.name, by decide, Try.func100.trans (by kernel_rfl)⟩
theorem srt_f26 : Bears Try.prog 101 (SlBodyF.n26 sortRen) := ⟨Try.f101.name, by decide, Try.func101.trans (by kernel_rfl)⟩
theorem srt_f27 : Bears Try.prog 102 (SlBodyF.n27 sortRen) := ⟨Try.f102.name, by decide, Try.func102.trans (by kernel_rfl)⟩
theorem srt_f28 : Try.prog.funcs[103]? = some (SlBodyF.n28 sortRen) := Try.func103.trans (by kernel_rfl)
theorem srt_f29 : Try.prog.funcs[104]? = some (SlBodyF.n29 sortRen) := Try.func104.trans (by kernel_rfl)
theorem srt_f46 : Bears Try.prog 105 (SlBodyF.n46 sortRen) := ⟨Try.f105.name, by decide, Try.func105.trans (by kernel_rfl)⟩
theorem srt_f47 : Try.prog.funcs[106]? = some (SlBodyF.n47 sortRen) := Try.func106.trans (by kernel_rfl)
theorem srt_f48 : Try.prog.funcs[107]? = some (SlBodyF.n48 sortRen) := Try.func107.trans (by kernel_rfl)
theorem srt_f49 : Bears Try.prog 108 (SlBodyF.n49 sortRen) := ⟨Try.f108.name, by decide, Try.func108.trans (by kernel_rfl)⟩
theorem srt_f50 : Bears Try.prog 109 (SlBodyF.n50 sortRen) := ⟨Try.f109.name, by decide, Try.func109.trans (by kernel_rfl)⟩
theorem srt_f57 : Bears Try.prog 110 (SlBodyF.n57 sortRen) := ⟨Try.f110.name, by decide, Try.func110.trans (by kernel_rfl)⟩

theorem sortLays : SlLaysF0.n6 Try.prog sortRen where
  mixed := by kernel_rfl
  f6 := srt_f6
  f14 := srt_f14
  f15 := srt_f15
  f20 := srt_f20
  f21 := srt_f21
  f22 := srt_f22
  f23 := srt_f23
  f24 := srt_f24
  f25 := srt_f25
  f26 := srt_f26
  f27 := srt_f27
  f28 := srt_f28
  f29 := srt_f29
  f46 := srt_f46
  f47 := srt_f47
  f48 := srt_f48
  f49 := srt_f49
  f50 := srt_f50
  f57 := srt_f57
  t0 := Try.underlying0
  a0 := fun w => by kernel_rfl
  z0 := fun w => by kernel_rfl
  v0 := fun w => by kernel_rfl
  t3 := Try.underlying3
  a3 := fun w => by kernel_rfl
  z3 := fun w => by kernel_rfl
  v3 := fun w => by kernel_rfl
  t4 := Try.underlying4
  a4 := fun w => by kernel_rfl
  z4 := fun w => by kernel_rfl
  v4 := fun w => by kernel_rfl
  t5 := Try.underlying5
  a5 := fun w => by kernel_rfl
  z5 := fun w => by kernel_rfl
  v5 := fun w => by kernel_rfl
  t9 := Try.underlying9
  a9 := fun w => by kernel_rfl
  z9 := fun w => by kernel_rfl
  v9 := fun w => by kernel_rfl
  t22 := Try.underlying90
  a22 := fun w => by kernel_rfl
  z22 := fun w => by kernel_rfl
  v22 := fun w => by kernel_rfl
  t25 := Try.underlying120
  a25 := fun w => by kernel_rfl
  z25 := fun w => by kernel_rfl
  v25 := fun w => by kernel_rfl
  t39 := Try.underlying124
  a39 := fun w => by kernel_rfl
  z39 := fun w => by kernel_rfl
  v39 := fun w => by kernel_rfl
  t45 := Try.underlying128
  a45 := fun w => by kernel_rfl
  z45 := fun w => by kernel_rfl
  v45 := fun w => by kernel_rfl
  t46 := Try.underlying129
  a46 := fun w => by kernel_rfl
  z46 := fun w => by kernel_rfl
  v46 := fun w => by kernel_rfl
  t50 := Try.underlying114
  a50 := fun w => by kernel_rfl
  z50 := fun w => by kernel_rfl
  v50 := fun w => by kernel_rfl
  t53 := Try.underlying51
  a53 := fun w => by kernel_rfl
  z53 := fun w => by kernel_rfl
  v53 := fun w => by kernel_rfl
  t55 := Try.underlying136
  a55 := fun w => by kernel_rfl
  z55 := fun w => by kernel_rfl
  v55 := fun w => by kernel_rfl
  t66 := Try.underlying137
  a66 := fun w => by kernel_rfl
  z66 := fun w => by kernel_rfl
  v66 := fun w => by kernel_rfl
  t70 := Try.underlying141
  a70 := fun w => by kernel_rfl
  z70 := fun w => by kernel_rfl
  v70 := fun w => by kernel_rfl
  t76 := Try.underlying143
  a76 := fun w => by kernel_rfl
  z76 := fun w => by kernel_rfl
  v76 := fun w => by kernel_rfl
  t77 := Try.underlying60
  a77 := fun w => by kernel_rfl
  z77 := fun w => by kernel_rfl
  v77 := fun w => by kernel_rfl

end Go.Proofs.Ytanpdopjgepbkaa.AM

/- The library's sort with the closure of 'made' keeps the contract 'sortX'. -/
set_option linter.unusedVariables false
set_option linter.unusedSimpArgs false
namespace Go.Proofs.Ytanpdopjgepbkaa.AM
open Go Go.Shelf Go.RowKit Go.Lib Go.Sort

theorem mixedOrders : Try.prog.follows .mixedOrders = true := by kernel_rfl

theorem pa_ok (B : Nat) : PrgOk Try.prog B PA where
  fn := fun f lf h => (autoPrg_ok Try.prog B).fn f lf (by unfold PA at h; rw [withExt_fn] at h; exact h)
  ext := fun f g hg => by unfold PA at hg; rw [withExt_ext] at hg; cases hg

theorem world_grow {W w' : World} (h1 : W.heap.size ≤ w'.heap.size) (h2 : ∀ c, c < W.heap.size → w'.heap[c]? = W.heap[c]?) (ho : w'.os = W.os) (ht : w'.tape = W.tape) (hu : w'.output = W.output) (hd : W.drawn ≤ w'.drawn) :
    ∃ q os', w' = grow (W.drewN q) os' := by
  refine ⟨w'.drawn - W.drawn, w'.heap.extract W.heap.size w'.heap.size, ?_⟩
  have hh : w'.heap = W.heap ++ w'.heap.extract W.heap.size w'.heap.size := by
    apply Array.ext_getElem?
    intro i
    by_cases hi : i < W.heap.size
    · rw [h2 i hi, Array.getElem?_append_left hi]
    · rw [Array.getElem?_append_right (by omega)]
      simp only [Array.getElem?_extract]
      by_cases hw : i < w'.heap.size
      · rw [if_pos (by omega), show W.heap.size + (i - W.heap.size) = i by omega]
      · rw [if_neg (by omega), Array.getElem?_eq_none (by omega)]
  obtain ⟨heap, tape, drawn, os, output⟩ := w'
  simp only at *
  subst ho ht hu
  simp only [grow, World.drewN]
  rw [← hh, show W.drawn + (drawn - W.drawn) = drawn by omega]

/-- The closure, in whatever world. -/
theorem closure_calls (x y : Int × Int) (W : World) : Calls Try.prog 88 #[.agg (rowV x).toArray, .agg (rowV y).toArray] W fun e w' => e = .returned (.int .i64 (cmpRow x y)) ∧ ∃ q os', w' = grow (W.drewN q) os' := by
  obtain ⟨v, h', h1, rfl⟩ := closure_spec x y ⟨Try.prog.globals.size, .e⟩
  obtain ⟨k, hk⟩ := callO_iff.1 h1
  have hrow : ∀ x : Int × Int, VRel (varsRho Try.prog) (.agg (rowV x).toArray) (.agg (rowV x).toArray) := fun x => .flatV (by simp [flatV, rowV, flat0])
  refine ((callsIn_wide (n := 0)).1 (run_sound (B := 0) mixedOrders (pa_ok 0) hk (Nat.zero_le _) (hrel_empty Try.prog 0 W) (.cons (hrow x) (.cons (hrow y) .nil)) 0)).mono fun e w' he => ?_
  obtain ⟨u, ρ', rfl, g1, g2, g3⟩ := he
  cases g3
  refine ⟨rfl, world_grow g2.size (fun c hc => g2.keep c hc fun ⟨b', o, δ, N, k1, _⟩ => ?_) g2.os g2.tape g2.output g2.drawn⟩
  simp only [AH.get, Tr.get] at k1
  split at k1 <;> cases k1

theorem rowsOf_inv : ∀ {L : List Value} {ps : List (Int × Int)}, rowsOf L = some ps → L = (ps.map rowV).flatten
  | [], ps, h => by simp only [rowsOf, Option.some.injEq] at h; subst h; rfl
  | [v], ps, h => by cases v <;> simp [rowsOf] at h
  | v :: u :: r, ps, h => by
    unfold rowsOf at h
    split at h
    · cases ‹v :: u :: r = []›
    · rename_i a b r' e
      injection e with e1 e2
      injection e2 with e2 e3
      subst e1 e2 e3
      obtain ⟨q, hq, rfl⟩ := Option.map_eq_some_iff.1 h
      have := rowsOf_inv hq
      simp [rowV, ← this]
    · cases h

theorem cmpRow_lt (x y : Int × Int) : cmpRow x y < 0 ↔ x.1 < y.1 ∨ x.1 = y.1 ∧ x.2 < y.2 := by
  unfold cmpRow cmpF
  split <;> split <;> (try split) <;> omega
theorem ltOf_cmp (x y : Int × Int) : ltOf cmpRow x y = decide (x.1 < y.1 ∨ x.1 = y.1 ∧ x.2 < y.2) := by
  unfold ltOf
  by_cases h : x.1 < y.1 ∨ x.1 = y.1 ∧ x.2 < y.2
  · rw [decide_eq_true h, decide_eq_true ((cmpRow_lt x y).2 h)]
  · rw [decide_eq_false h, decide_eq_false (fun hc => h ((cmpRow_lt x y).1 hc))]
theorem swo_cmp : SWO (ltOf cmpRow) where
  irrefl := fun x => by rw [ltOf_cmp]; simp
  trans := fun x y z h1 h2 => by rw [ltOf_cmp] at *; simp only [decide_eq_true_eq] at *; omega
  ntrans := fun x y z h1 h2 => by rw [ltOf_cmp] at *; simp only [decide_eq_false_iff_not] at *; omega
theorem total_cmp (x y : Int × Int) (h1 : ltOf cmpRow x y = false) (h2 : ltOf cmpRow y x = false) : x = y := by
  rw [ltOf_cmp] at *
  simp only [decide_eq_false_iff_not] at *
  exact Prod.ext (by omega) (by omega)
theorem sort_same (l : List (Int × Int)) : (l.mergeSort fun x y => !(ltOf cmpRow) y x) = sortF l := by
  unfold sortF
  congr 1
  funext x y
  rw [ltOf_cmp]
  unfold leRow
  by_cases h : x.1 < y.1 ∨ x.1 = y.1 ∧ x.2 ≤ y.2
  · rw [decide_eq_true h, decide_eq_false (by omega)]; rfl
  · rw [decide_eq_false h, decide_eq_true (by omega)]; rfl

theorem flatK_get (d : Array (Int × Int)) (j : Nat) (hj : j < d.size * 2) : ((d.toList.map rowV).flatten)[j]? = some (flatK rowV 2 d)[j]! := by
  rw [get_flatK _ _ _ _ hj]
  have hlt : j / 2 < d.size := by omega
  have h := flatten_part (e := 2) (xss := d.toList.map rowV) (fun x hx => by obtain ⟨y, _, rfl⟩ := List.mem_map.1 hx; rfl) (j / 2) (by simpa using hlt) []
  rw [List.append_nil, List.getElem_map] at h
  have h2 : ((d.toList.map rowV).flatten)[j]? = (((d.toList.map rowV).flatten.drop (j / 2 * 2)).take 2)[j % 2]? := by
    rw [List.getElem?_take_of_lt (by omega), List.getElem?_drop]
    congr 1
    omega
  rw [h2, h]
  have hd : d[j / 2]! = d.toList[j / 2]'(by simpa using hlt) := by simp [hlt]
  rw [hd]
  generalize d.toList[j / 2] = x
  have : j % 2 = 0 ∨ j % 2 = 1 := by omega
  rcases this with e | e <;> rw [e] <;> rfl

theorem mapBlock_get (w : World) (blk : Nat) (f : Array Value → Array Value) {c : Array Value} {e : TypeId} {fr : Nat × Nat} (hb : w.heap[blk]? = some (.cells c e fr)) : (mapBlock w blk f).heap[blk]? = some (.cells (f c) e fr) := by
  simp only [mapBlock, Array.getElem?_modify, if_true, hb, Option.map_some, onCells]
theorem mapBlock_ne (w : World) (blk : Nat) (f : Array Value → Array Value) {b : Nat} (h : blk ≠ b) : (mapBlock w blk f).heap[b]? = w.heap[b]? := by
  simp only [mapBlock, Array.getElem?_modify, if_neg h]

theorem sort_ok (B : Nat) : ∀ args h v h', sortX args h = some (v, h') → FnOk Try.prog 87 ∧
    ∀ ρ w argsC n, B ≤ w.heap.size → HRel Try.prog B ρ h w → VRels ρ args argsC.toList → CallsIn Fence.wide n Try.prog 87 argsC w (CallPost Try.prog B ρ h w v h') := by
  intro args h v h' hx
  refine ⟨⟨Try.f87, Try.func87, by decide, rfl⟩, fun ρ w argsC n hB hh ha => ?_⟩
  have eg : ∀ args w, (callFunc 88 args).run Try.prog w = .ok (.enter 88 args) w := enters_of Try.func88 (by kernel_rfl) rfl
  obtain ⟨L⟩ := argsC
  change VRels ρ args L at ha
  unfold sortX at hx
  split at hx
  · -- nil
    rename_i n0 e0 g a b
    split at hx
    · rename_i hc
      obtain ⟨rfl, rfl, rfl, ha1, hb1⟩ := hc
      injection hx with hx
      injection hx with hv hh'
      subst hv hh'
      cases ha with
      | cons hs ha2 =>
        cases ha2 with
        | cons hf hnil =>
          cases hnil
          cases hs
          cases hf with
          | func _ _ _ a' b' q1 q2 _ _ =>
            have ea : a' = #[] := Array.eq_empty_of_size_eq_zero (by omega)
            have eb : b' = #[] := Array.eq_empty_of_size_eq_zero (by omega)
            subst ea eb
            have hcon := AnyF.slices_SortFunc_none sortLays none 0 (.func (.func 88) #[] #[]) w
            refine ((callsIn_wide (n := n)).2 (hcon.mono fun e w' he => ?_))
            obtain ⟨rfl, rfl⟩ := he
            exact ⟨_, ρ, rfl, hh, Trans.refl ρ h _, .tuple _ _ rfl (by simp)⟩
    · cases hx
  · rename_i bk o n0 e0 g a b
    split at hx
    · rename_i xs hget
      split at hx
      · rename_i hc
        obtain ⟨hn0, hn1, rfl, rfl, ha1, hb1, hle⟩ := hc
        split at hx
        · rename_i ps hps
          injection hx with hx
          injection hx with hv hh'
          subst hv hh'
          have hflat := rowsOf_inv hps
          have hpl : ps.length = n0 := by
            have h1 := congrArg List.length hflat
            rw [List.length_take, List.length_drop, flatten_len (e := 2) (fun x hx => by obtain ⟨y, _, rfl⟩ := List.mem_map.1 hx; rfl), List.length_map] at h1
            omega
          cases ha with
          | cons hs ha2 =>
            cases ha2 with
            | cons hf hnil =>
              cases hnil
              cases hf with
              | func _ _ _ a' b' q1 q2 _ _ =>
                have ea : a' = #[] := Array.eq_empty_of_size_eq_zero (by omega)
                have eb : b' = #[] := Array.eq_empty_of_size_eq_zero (by omega)
                subst ea eb
                cases hs with
                | slZ => omega
                | sl _ _ c δ N _ _ k hρ hk hkN =>
                  obtain ⟨c', δ', N', x, r1, r2, r3, r4, r5⟩ := hh.live bk _ hget
                  rw [hρ] at r1
                  injection r1 with r1
                  injection r1 with e1 r1
                  injection r1 with e2 e3
                  subst e1 e2 e3
                  cases x with
                  | cells cs tt fz =>
                    obtain ⟨f1, f2, f3, f4⟩ := r3
                    have hBc := r4 rfl
                    have hcs : c < w.heap.size := (Array.getElem?_eq_some_iff.1 r2).1
                    subst hpl
                    have hlenF : ∀ l : List (Int × Int), ((l.map rowV).flatten).length = l.length * 2 := fun l => by
                      rw [flatten_len (e := 2) (fun x hx => by obtain ⟨y, _, rfl⟩ := List.mem_map.1 hx; rfl), List.length_map]
                    have hint : ∀ (l : List (Int × Int)) (i : Nat) v, ((l.map rowV).flatten)[i]? = some v → ∃ n, v = .int .i64 n := fun l i v hv => by
                      obtain ⟨j, hj, hor⟩ := pairs_get (f := rowV) (fun x => ⟨_, _, rfl⟩) l i v hv
                      rcases hor with ⟨_, h2⟩ | ⟨_, h2⟩
                      · simp only [rowV, List.getElem?_cons_zero, Option.some.injEq] at h2; exact ⟨_, h2.symm⟩
                      · simp only [rowV, List.getElem?_cons_succ, List.getElem?_cons_zero, Option.some.injEq] at h2; exact ⟨_, h2.symm⟩
                    have hxs : ∀ j, j < ps.length * 2 → xs[o + j]? = ((ps.map rowV).flatten)[j]? := fun j hj => by
                      rw [← hflat, List.getElem?_take_of_lt hj, List.getElem?_drop]
                    have hfl : ∀ (l : List (Int × Int)) j, j < l.length * 2 → ((l.map rowV).flatten)[j]? = some (flatK rowV 2 l.toArray)[j]! := fun l j hj => flatK_get l.toArray j (by simpa using hj)
                    have hH : HoldsK rowV 2 w c (δ + o) ps.toArray := fun j hj => by
                      have hj' : j < ps.length * 2 := by simpa using hj
                      have h1 := hfl ps j hj'
                      obtain ⟨m, hm⟩ := hint ps j _ h1
                      obtain ⟨_, u, hu, hvu⟩ := f4 (o + j) _ ((hxs j hj').trans h1)
                      rw [hm] at hvu ⊢
                      cases hvu
                      refine ⟨?_, ?_⟩
                      · simp only [World.cell?, r2, Option.isSome_none]
                        rw [Nat.add_assoc]
                        simpa using hu
                      · simp only [World.frozen?, r2]
                        have := f3 rfl (δ + o + j) (by omega)
                        simp only [Bool.and_eq_false_imp, decide_eq_true_eq, decide_eq_false_iff_not]
                        omega
                    have hcon := AnyQ.slices_SortFunc_total sortLays 2 (fun w => by kernel_rfl) (fun w => by kernel_rfl) rowV (fun x => rfl) (fun x v hv => by simp [rowV] at hv; rcases hv with rfl | rfl <;> rfl) cmpRow swo_cmp 88 #[] c (δ + o) k ps.toArray w eg
                      (fun m os dk hdk x y => closure_calls x y _) hH hcs (by simp; omega) total_cmp
                    have hsz : ps.toArray.size = ps.length := by simp
                    rw [hsz] at hcon
                    refine ((callsIn_wide (n := n)).2 (hcon.mono fun e w' he => ?_))
                    obtain ⟨rfl, n', os, hw'⟩ := he
                    rw [show ps.toArray.toList = ps from rfl, sort_same] at hw'
                    have hSl := sortF_length ps
                    have hF : (flatK rowV 2 (sortF ps).toArray).size = ps.length * 2 := by simp [hSl]
                    have hheap : w'.heap = (mapBlock w c (putCells id (δ + o) (flatK rowV 2 (sortF ps).toArray))).heap ++ os := by
                      rw [hw']; rfl
                    have hms : (mapBlock w c (putCells id (δ + o) (flatK rowV 2 (sortF ps).toArray))).heap.size = w.heap.size := by simp [mapBlock]
                    have hget1 : w'.heap[c]? = some (.cells (putCells id (δ + o) (flatK rowV 2 (sortF ps).toArray) cs) tt fz) := by
                      rw [hheap, Array.getElem?_append_left (by omega), mapBlock_get w c _ r2]
                    have hget2 : ∀ b, b < w.heap.size → b ≠ c → w'.heap[b]? = w.heap[b]? := fun b hb hne => by
                      rw [hheap, Array.getElem?_append_left (by omega), mapBlock_ne w c _ (fun e => hne e.symm)]
                    have hput : ∀ m, (putCells id (δ + o) (flatK rowV 2 (sortF ps).toArray) cs)[m]? = cs[m]?.map fun x => if δ + o ≤ m ∧ m < δ + o + ps.length * 2 then (flatK rowV 2 (sortF ps).toArray)[m - (δ + o)]! else x := fun m => by
                      simp only [putCells, Array.getElem?_mapIdx, hF, id]
                    have hbk := AH.get_lt hget
                    refine ⟨_, ρ, rfl, ⟨hh.len, fun b ob hb => ?_, hh.glob, fun b b' ob ob' c1 δ1 N1 c2 δ2 N2 h1 h2 hne hro e1 e2 => ?_⟩, ⟨.refl ρ, by rw [hheap]; simp [hms], by rw [hw']; rfl, by rw [hw']; rfl, by rw [hw']; rfl, by rw [hw']; exact Nat.le_add_right _ _, fun c0 hc0 hm => ?_, fun c0 hc0 hm => ?_⟩, .tuple _ _ rfl (by simp)⟩
                    · by_cases e : b = bk
                      · subst e
                        rw [AH.get_set_same _ hbk] at hb
                        injection hb with hb
                        subst hb
                        refine ⟨c, δ, N, _, hρ, hget1, ⟨by simp [putCells]; exact f1, ?_, f3, fun i v hv => ?_⟩, fun _ => hBc, fun h => by cases h⟩
                        · simp only [List.length_append, List.length_take, List.length_drop, hlenF, hSl]; omega
                        · have htl : (xs.take o).length = o := by rw [List.length_take]; omega
                          rcases Nat.lt_or_ge i o with hi | hi
                          · rw [List.getElem?_append_left (by omega), List.getElem?_take_of_lt hi] at hv
                            obtain ⟨q1, u, q2, q3⟩ := f4 i v hv
                            exact ⟨q1, u, by rw [hput, q2, Option.map_some, if_neg (by omega)], q3⟩
                          · rw [List.getElem?_append_right (by omega), htl] at hv
                            rcases Nat.lt_or_ge (i - o) (ps.length * 2) with hi2 | hi2
                            · rw [List.getElem?_append_left (by rw [hlenF, hSl]; exact hi2)] at hv
                              obtain ⟨m, rfl⟩ := hint _ _ _ hv
                              have hfv := hfl (sortF ps) (i - o) (by rw [hSl]; exact hi2)
                              rw [hv] at hfv
                              injection hfv with hfv
                              obtain ⟨q1, u, q2, q3⟩ := f4 i xs[i] (List.getElem?_eq_getElem (by omega))
                              refine ⟨rfl, .int .i64 m, ?_, .int _ _⟩
                              rw [hput, q2, Option.map_some, if_pos (by omega), show δ + i - (δ + o) = i - o by omega, ← hfv]
                            · rw [List.getElem?_append_right (by rw [hlenF, hSl]; exact hi2), hlenF, hSl, List.getElem?_drop] at hv
                              rw [show o + ps.length * 2 + (i - o - ps.length * 2) = i by omega] at hv
                              obtain ⟨q1, u, q2, q3⟩ := f4 i v hv
                              exact ⟨q1, u, by rw [hput, q2, Option.map_some, if_neg (by omega)], q3⟩
                      · rw [AH.get_set_ne _ e] at hb
                        obtain ⟨c2, δ2, N2, x2, q1, q2, q3, q4⟩ := hh.live b ob hb
                        have hcc : c2 ≠ c := fun e2 => hh.inj bk b _ ob c δ N c2 δ2 N2 hget hb (fun e3 => e e3.symm) rfl hρ q1 e2.symm
                        exact ⟨c2, δ2, N2, x2, q1, by rw [hget2 c2 (Array.getElem?_eq_some_iff.1 q2).1 hcc]; exact q2, q3, q4⟩
                    · have old : ∀ b ob, (h.set bk (.cells false (xs.take o ++ (((sortF ps).map rowV).flatten ++ xs.drop (o + ps.length * 2))))).get b = some ob → ∃ ob', h.get b = some ob' ∧ ob'.ro = ob.ro := fun b ob hb => by
                        by_cases e : b = bk
                        · subst e
                          rw [AH.get_set_same _ hbk] at hb
                          injection hb with hb
                          subst hb
                          exact ⟨_, hget, rfl⟩
                        · rw [AH.get_set_ne _ e] at hb
                          exact ⟨_, hb, rfl⟩
                      obtain ⟨o1, g1, g2⟩ := old b ob h1
                      obtain ⟨o2, g3, g4⟩ := old b' ob' h2
                      exact hh.inj b b' o1 o2 c1 δ1 N1 c2 δ2 N2 g1 g3 hne (by rw [g2]; exact hro) e1 e2
                    · exact hget2 c0 hc0 (fun e => hm ⟨bk, _, δ, N, hget, rfl, by rw [e]; exact hρ⟩)
                    · obtain ⟨b, ob, δ2, N2, g1, g2, g3⟩ := hm
                      by_cases e : b = bk
                      · subst e
                        exact ⟨b, _, δ2, N2, hget, rfl, g3⟩
                      · rw [AH.get_set_ne _ e] at g1
                        exact ⟨b, ob, δ2, N2, g1, g2, g3⟩
                  | _ => exact r3.elim
        · cases hx
      · cases hx
    · cases hx
  · cases hx

end Go.Proofs.Ytanpdopjgepbkaa.AM

/- The library's Grow of no list keeps the contract 'growX'. -/
set_option linter.unusedVariables false
set_option linter.unusedSimpArgs false
namespace Go.Proofs.Ytanpdopjgepbkaa.AM
open Go Go.Shelf Go.RowKit Go.Lib

def growRen : Ren where
  f := fun n => match n with
    | 4 => 91 | _ => 0
  t := fun n => match n with
    | 0 => 0 | 3 => 3 | 4 => 4 | 9 => 9 | 20 => 20 | 22 => 90 | 25 => 94 | _ => 0
  g := fun n => n

theorem growLays : Lays8.n4 Try.prog growRen where
  mixed := by kernel_rfl
  f4 := ⟨Try.f91.name, by decide, Try.func91.trans (by kernel_rfl)⟩
  t0 := Try.underlying0
  a0 := fun w => by kernel_rfl
  z0 := fun w => by kernel_rfl
  v0 := fun w => by kernel_rfl
  t3 := Try.underlying3
  a3 := fun w => by kernel_rfl
  z3 := fun w => by kernel_rfl
  v3 := fun w => by kernel_rfl
  t4 := Try.underlying4
  a4 := fun w => by kernel_rfl
  z4 := fun w => by kernel_rfl
  v4 := fun w => by kernel_rfl
  t9 := Try.underlying9
  a9 := fun w => by kernel_rfl
  z9 := fun w => by kernel_rfl
  v9 := fun w => by kernel_rfl
  t20 := Try.underlying20
  a20 := fun w => by kernel_rfl
  z20 := fun w => by kernel_rfl
  v20 := fun w => by kernel_rfl
  t22 := Try.underlying90
  a22 := fun w => by kernel_rfl
  z22 := fun w => by kernel_rfl
  v22 := fun w => by kernel_rfl

/-- A block that is laid, of which nothing is told yet. -/
theorem HRel.fresh {P : Program} {B : Nat} {ρ : Rho} {h : AH} {w w' : World} (hh : HRel P B ρ h w) (hB : B ≤ w.heap.size) {cs : Array Value} {t : TypeId} (e : w'.heap = w.heap.push (.cells cs t (0, 0))) :
    HRel P B (ρ ++ [(w.heap.size, 0, cs.size)]) (h.push (.cells false [])) w' where
  len := by simp [hh.len]
  live := fun b o ho => by
    by_cases hb : b = h.n
    · subst hb
      rw [AH.get_push_same] at ho
      injection ho with ho
      subst ho
      exact ⟨w.heap.size, 0, cs.size, .cells cs t (0, 0), by rw [← hh.len]; simp, by rw [e]; simp, ⟨rfl, by simp, fun _ => unfrozen0 _, fun i v hv => by simp at hv⟩, fun _ => hB, (fun h => by cases h)⟩
    · rw [AH.get_push_ne _ hb] at ho
      obtain ⟨c', δ', N', x, q1, q2, q3, q4⟩ := hh.live b o ho
      have hlt := (Array.getElem?_eq_some_iff.1 q2).1
      exact ⟨c', δ', N', x, Ext.snoc _ _ _ _ q1, by rw [e, Array.getElem?_push_lt hlt, ← q2, Array.getElem?_eq_getElem hlt], q3.mono (.snoc _ _), q4⟩
  glob := fun g hg => let ⟨N', hN'⟩ := hh.glob g hg; ⟨N', Ext.snoc _ _ _ _ hN'⟩
  inj := fun b b' o o' c1 δ1 N1 c2 δ2 N2 h1 h2 hne hro e1 e2 => by
    have old : ∀ b o, (h.push (.cells false [])).get b = some o → b ≠ h.n → h.get b = some o ∧ ∀ c δ N, (ρ ++ [(w.heap.size, 0, cs.size)])[b]? = some (c, δ, N) → ρ[b]? = some (c, δ, N) ∧ c < w.heap.size := fun b o ho hb => by
      rw [AH.get_push_ne _ hb] at ho
      refine ⟨ho, fun c δ N hc => ?_⟩
      rw [List.getElem?_append_left (by rw [hh.len]; exact AH.get_lt ho)] at hc
      obtain ⟨c', δ', N', x, q1, q2, _⟩ := hh.live b o ho
      rw [hc] at q1
      injection q1 with q1
      injection q1 with q1 _
      subst q1
      exact ⟨hc, (Array.getElem?_eq_some_iff.1 q2).1⟩
    have new : ∀ c δ N, (ρ ++ [(w.heap.size, 0, cs.size)])[h.n]? = some (c, δ, N) → c = w.heap.size := fun c δ N hc => by
      rw [← hh.len] at hc
      simp only [List.getElem?_append_right (Nat.le_refl _), Nat.sub_self, List.getElem?_cons_zero, Option.some.injEq, Prod.mk.injEq] at hc
      exact hc.1.symm
    by_cases hb : b = h.n
    · subst hb
      have := new _ _ _ e1
      obtain ⟨_, k⟩ := old b' o' h2 (fun e => hne e.symm)
      have := (k _ _ _ e2).2
      omega
    · obtain ⟨a1, k1⟩ := old b o h1 hb
      obtain ⟨a2, a3⟩ := k1 _ _ _ e1
      by_cases hb' : b' = h.n
      · subst hb'
        have := new _ _ _ e2
        omega
      · obtain ⟨b1, l1⟩ := old b' o' h2 hb'
        exact hh.inj b b' o o' c1 δ1 N1 c2 δ2 N2 a1 b1 hne hro a2 (l1 _ _ _ e2).1

theorem grow_ok (B : Nat) : ∀ args h v h', growX args h = some (v, h') → FnOk Try.prog 91 ∧
    ∀ ρ w argsC n, B ≤ w.heap.size → HRel Try.prog B ρ h w → VRels ρ args argsC.toList → CallsIn Fence.wide n Try.prog 91 argsC w (CallPost Try.prog B ρ h w v h') := by
  intro args h v h' hx
  refine ⟨⟨Try.f91, Try.func91, by decide, rfl⟩, fun ρ w argsC n hB hh ha => ?_⟩
  obtain ⟨L⟩ := argsC
  change VRels ρ args L at ha
  unfold growX at hx
  split at hx
  · rename_i n0 e0 k
    split at hx
    · rename_i hc
      obtain ⟨rfl, rfl, hk0, hk1⟩ := hc
      cases ha with
      | cons hs ha2 =>
        cases ha2 with
        | cons hf hnil =>
          cases hnil
          cases hs
          cases hf
          split at hx
          · rename_i hkz
            subst hkz
            injection hx with hx
            injection hx with hv hh'
            subst hv hh'
            have hcon := Any8.slices_Grow_room growLays none 0 0 0 w (by omega) (by omega) (by omega) (by omega)
            refine ((callsIn_wide (n := n)).2 (hcon.mono fun e w' he => ?_))
            obtain ⟨rfl, rfl⟩ := he
            exact ⟨_, ρ, rfl, hh, Trans.refl ρ h _, .slNil⟩
          · rename_i hkz
            injection hx with hx
            injection hx with hv hh'
            subst hv hh'
            obtain ⟨m, rfl⟩ := Int.eq_ofNat_of_zero_le hk0
            have i1 : (Try.prog.info? 94).map (·.size) = some 2 := by kernel_rfl
            have i2 : (Try.prog.info? 94).map (·.bytes) = some 16 := by kernel_rfl
            have i3 : ((Try.prog.info? 94).bind (·.zero)).map (fun z => z.cells.size) = some 2 := by kernel_rfl
            obtain ⟨i0, hi0, hi1⟩ := Option.map_eq_some_iff.1 i1
            rw [hi0] at i2 i3
            simp only [Option.map_some, Option.some.injEq] at i2
            obtain ⟨z, hz0, hz1⟩ := Option.map_eq_some_iff.1 i3
            have hz0' : i0.zero = some z := hz0
            have hcon := Any8.slices_Grow_grow growLays i0 z hi0 hz0' (by omega) none 0 0 m [] w (by omega) (by omega) (by rw [i2]; omega) (by omega) (by simp) (fun _ => rfl) (fun a ha => by cases ha)
            refine ((callsIn_wide (n := n)).2 (hcon.mono fun e w' he => ?_))
            obtain ⟨rfl, hw'⟩ := he
            have hge := grownCap_ge w (0 + m) 0 94
            have hheap : w'.heap = w.heap.push (.cells (([] : List Value).toArray ++ Builtin.zeroCells z.cells (0 + m - 0) ++ Builtin.zeroCells z.cells (grownCap w (0 + m) 0 94 - (0 + m))) 94 (0, 0)) := by rw [hw']; rfl
            refine ⟨_, _, rfl, hh.fresh hB hheap, ⟨.snoc _ _, by rw [hheap]; simp, by rw [hw']; rfl, by rw [hw']; rfl, by rw [hw']; rfl, by rw [hw']; exact Nat.le_succ _, fun c0 hc0 _ => by rw [hheap, Array.getElem?_push_lt hc0, Array.getElem?_eq_getElem hc0], fun c0 hc0 hm => ?_⟩, ?_⟩
            · obtain ⟨b, ob, δ2, N2, g1, g2, g3⟩ := hm
              by_cases hb : b = h.n
              · subst hb
                rw [← hh.len] at g3
                simp only [List.getElem?_append_right (Nat.le_refl _), Nat.sub_self, List.getElem?_cons_zero, Option.some.injEq, Prod.mk.injEq] at g3
                have hc0' : c0 < w.heap.size := hc0
                omega
              · rw [AH.get_push_ne _ hb] at g1
                rw [List.getElem?_append_left (by rw [hh.len]; exact AH.get_lt g1)] at g3
                exact ⟨b, ob, δ2, N2, g1, g2, g3⟩
            · refine .sl h.n 0 w.heap.size 0 _ 0 2 _ (by rw [← hh.len]; exact List.getElem?_concat_length) (Nat.zero_le _) ?_
              have e94 : growRen.t 25 = 94 := rfl
              simp only [e94, Array.size_append, size_zeroCells, hz1, List.size_toArray, List.length_nil]
              omega
    · cases hx
  · cases hx

end Go.Proofs.Ytanpdopjgepbkaa.AM

/- The program with its contracts: each is kept. -/
set_option linter.unusedVariables false
namespace Go.Proofs.Ytanpdopjgepbkaa
open Go Go.ChangeShapes Go.WideShapes Go.ChangeAt Go.RowKit

theorem Try.own : ownKnob Try.prog.godebug = none := by kernel_rfl
theorem Try.laidOut : laidOutB Try.prog = true := by kernel_rfl
theorem Try.mixed : Try.prog.follows .mixedOrders = true := by kernel_rfl

set_option maxRecDepth 100000 in
theorem alive_run : ((AM.runN (AM.autoPrg Try.prog) 200).1 14 [] ⟨Try.prog.globals.size, .e⟩).map (·.1) = some (.bool true) := by kernel_rfl

theorem ps_ok (B : Nat) : AM.PrgOk Try.prog B AM.PS where
  fn := fun f lf h => (AM.autoPrg_ok Try.prog B).fn f lf (by unfold AM.PS at h; rw [AM.withExt_fn] at h; exact h)
  ext := fun f g hg args h v h' hx => by
    unfold AM.PS at hg
    rw [AM.withExt_ext] at hg
    unfold AM.extS at hg
    split at hg
    · rename_i hf
      subst hf
      injection hg with hg
      subst hg
      unfold AM.aliveX at hx
      split at hx
      · rename_i ha
        injection hx with hx
        injection hx with h1 h2
        subst h1 h2
        have : args = [] := by simpa using ha
        subst this
        exact AM.closed_ext Try.mixed alive_run h
      · cases hx
    · split at hg
      · rename_i hf
        subst hf
        injection hg with hg
        subst hg
        exact AM.sort_ok B args h v h' hx
      · split at hg
        · rename_i hf
          subst hf
          injection hg with hg
          subst hg
          exact AM.grow_ok B args h v h' hx
        · cases hg

end Go.Proofs.Ytanpdopjgepbkaa
