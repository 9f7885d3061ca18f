/- The reference of chapter 1: a rune's bytes. -/
import Derived.Test.YtmfpkgcphlilmaaBootQ
import Derived.Test.YtmfpkgcphlilmaaBL2
import Derived.Test.YtmfpkgcphlilmaaBootJ
set_option linter.unusedVariables false
set_option linter.unusedSimpArgs false
namespace Go.Proofs.Ytmfpkgcphlilmaa.AM
open Go

theorem and63 {c : Nat} (hc : c < 2147483648) : binA .and (.int .i32 c) (.int .i32 63) = some (.int .i32 ((c % 64 : Nat) : Int)) := by
  show some (Value.int .i32 (IntKind.i32.wrap (BitVec.ofInt 32 (c : Int) &&& BitVec.ofInt 32 63).toNat)) = _
  have e : (BitVec.ofInt 32 (c : Int) &&& BitVec.ofInt 32 63).toNat = c % 64 := by
    rw [BitVec.toNat_and, show BitVec.ofInt 32 (c : Int) = BitVec.ofNat 32 c from BitVec.ofInt_natCast .., BitVec.toNat_ofNat, Nat.mod_eq_of_lt (by omega)]
    exact Nat.and_two_pow_sub_one_eq_mod c 6
  rw [e]
  congr 2
  have : c % 64 < 64 := Nat.mod_lt _ (by omega)
  rw [IntKind.wrap_i32]
  omega
theorem shr6 {c : Nat} : binA .shr (.int .i32 c) (.int .u64 6) = some (.int .i32 ((c / 64 : Nat) : Int)) := by
  show some (Value.int .i32 ((c : Int).fdiv 64)) = _
  rw [Int.fdiv_eq_ediv_of_nonneg _ (by omega)]
  rfl
theorem shr12 {c : Nat} : binA .shr (.int .i32 c) (.int .u64 12) = some (.int .i32 ((c / 4096 : Nat) : Int)) := by
  show some (Value.int .i32 ((c : Int).fdiv 4096)) = _
  rw [Int.fdiv_eq_ediv_of_nonneg _ (by omega)]
  rfl
theorem shr18 {c : Nat} : binA .shr (.int .i32 c) (.int .u64 18) = some (.int .i32 ((c / 262144 : Nat) : Int)) := by
  show some (Value.int .i32 ((c : Int).fdiv 262144)) = _
  rw [Int.fdiv_eq_ediv_of_nonneg _ (by omega)]
  rfl
theorem or_fin : (∀ m : Fin 64, IntKind.i32.wrap ((BitVec.ofInt 32 128 ||| BitVec.ofInt 32 ((m.val : Nat) : Int)).toNat : Int) = ((128 + m.val : Nat) : Int)) ∧ (∀ m : Fin 32, IntKind.i32.wrap ((BitVec.ofInt 32 192 ||| BitVec.ofInt 32 ((m.val : Nat) : Int)).toNat : Int) = ((192 + m.val : Nat) : Int)) ∧
    (∀ m : Fin 16, IntKind.i32.wrap ((BitVec.ofInt 32 224 ||| BitVec.ofInt 32 ((m.val : Nat) : Int)).toNat : Int) = ((224 + m.val : Nat) : Int)) ∧ (∀ m : Fin 8, IntKind.i32.wrap ((BitVec.ofInt 32 240 ||| BitVec.ofInt 32 ((m.val : Nat) : Int)).toNat : Int) = ((240 + m.val : Nat) : Int)) := by
  decide
theorem or128 {m : Nat} (h : m < 64) : binA .or (.int .i32 128) (.int .i32 m) = some (.int .i32 ((128 + m : Nat) : Int)) := congrArg (fun z => some (Value.int .i32 z)) (or_fin.1 ⟨m, h⟩)
theorem or192 {m : Nat} (h : m < 32) : binA .or (.int .i32 192) (.int .i32 m) = some (.int .i32 ((192 + m : Nat) : Int)) := congrArg (fun z => some (Value.int .i32 z)) (or_fin.2.1 ⟨m, h⟩)
theorem or224 {m : Nat} (h : m < 16) : binA .or (.int .i32 224) (.int .i32 m) = some (.int .i32 ((224 + m : Nat) : Int)) := congrArg (fun z => some (Value.int .i32 z)) (or_fin.2.2.1 ⟨m, h⟩)
theorem or240 {m : Nat} (h : m < 8) : binA .or (.int .i32 240) (.int .i32 m) = some (.int .i32 ((240 + m : Nat) : Int)) := congrArg (fun z => some (Value.int .i32 z)) (or_fin.2.2.2 ⟨m, h⟩)

def byV (b : UInt8) : Value := .int .u8 (b.toNat : Nat)
theorem by_small {m : Nat} (h : m < 256) : byV (UInt8.ofNat m) = .int .u8 m := by
  unfold byV
  have : (UInt8.ofNat m).toNat = m := by rw [UInt8.toNat_ofNat']; omega
  rw [this]

set_option maxRecDepth 20000 in
theorem bytes_eq {c : Nat} (hc : RuneN c) (h : AH) : callO PX 69 [.int .i32 c] h = some (.slice (some ⟨h.n, 0, none⟩) (encN c).length 1, h.push (.cells false ((encN c).map byV))) := by
  have hw : ∀ h, callO PX 42 [.int .i32 c] h = some (.int .i64 (if c < 128 then 1 else if c < 2048 then 2 else if c < 65536 then 3 else 4), h) := fun h => by
    rw [width_eq]
    unfold widthI
    unfold RuneN at hc
    congr 3
    repeat' split
    all_goals first | rfl | (exfalso; omega)
  have hc2 : c ≤ 1114111 := by unfold RuneN at hc; omega
  clear hc
  apply WpC.eqn
  refine wpc_fn (px_ext rfl) (px_fn fn_guiseref1_Bytes) rfl ?_
  unfold LF_guiseref1_Bytes
  simp only [argFr]
  obtain ⟨q6, e6⟩ : ∃ q, q = c / 64 := ⟨_, rfl⟩
  obtain ⟨q12, e12⟩ : ∃ q, q = c / 4096 := ⟨_, rfl⟩
  obtain ⟨q18, e18⟩ : ∃ q, q = c / 262144 := ⟨_, rfl⟩
  obtain ⟨r0, d0⟩ : ∃ q, q = c % 64 := ⟨_, rfl⟩
  obtain ⟨r6, d6⟩ : ∃ q, q = q6 % 64 := ⟨_, rfl⟩
  obtain ⟨r12, d12⟩ : ∃ q, q = q12 % 64 := ⟨_, rfl⟩
  have s6 := shr6 (c := c)
  have s12 := shr12 (c := c)
  have s18 := shr18 (c := c)
  have a0 := and63 (c := c) (by omega)
  have a6 := and63 (c := q6) (by omega)
  have a12 := and63 (c := q12) (by omega)
  rw [← e6] at s6
  rw [← e12] at s12
  rw [← e18] at s18
  rw [← d0] at a0
  rw [← d6] at a6
  rw [← d12] at a12
  have o0 := or128 (m := r0) (by omega)
  have o6 := or128 (m := r6) (by omega)
  have o12 := or128 (m := r12) (by omega)
  unfold encN
  rw [← e6, ← e12, ← e18, ← d0, ← d6, ← d12]
  by_cases g1 : c < 128
  · simp only [if_pos g1] at hw ⊢
    (repeat' first
    | (show WpR _ _ _ _ _ _ _ _ _
       first
       | refine wpr_drop ?_
       | refine wpr_p (o := .mv _) (by simp only [ev_mv, opd_s, opd_c, fget, Nat.reduceEqDiff, Nat.one_ne_zero, Nat.zero_ne_one, reduceCtorEq, ↓reduceIte]; rfl) ?_
       | (refine wpr_fork (fun _ => ?_) (fun _ => ?_) <;> try (exfalso; omega))
       | (refine wpr_forkN (fun _ => ?_) (fun _ => ?_) <;> try (exfalso; omega))
       | refine wpr_run rfl ?_
       | refine wpr_pass rfl rfl ?_
       | refine wpr_passS rfl ?_
       | ((first | apply wpr_p | apply wpr_r | apply wpr_callA | apply wpr_callA0 | apply wpr_e0 | apply wpr_e | apply wpr_end0); focus ((try simp (disch := first | omega | (simp only [AH.nn_push, AH.nn_set, AH.nn_kill]; omega) | (simp only [AH.nn_push, AH.nn_set, AH.nn_kill]; done) | fail) only [push_cast, Nat.reduceEqDiff, ↓reduceIte, reduceCtorEq, Nat.reduceAdd, Nat.reduceMul, Nat.reduceLeDiff, AH.get_push_eq, AH.get_push_ne, AH.get_set_eq, AH.get_set_ne, AH.push_n, AH.set_n, hw]); rfl))
       | refine wpr_pass0 rfl rfl ?_
       | refine wpr_pass0S rfl ?_
       | (apply wpr_callvA; focus ((try simp (disch := first | omega | (simp only [AH.nn_push, AH.nn_set, AH.nn_kill]; omega) | (simp only [AH.nn_push, AH.nn_set, AH.nn_kill]; done) | fail) only [push_cast, Nat.reduceEqDiff, ↓reduceIte, reduceCtorEq, Nat.reduceAdd, Nat.reduceMul, Nat.reduceLeDiff, AH.get_push_eq, AH.get_push_ne, AH.get_set_eq, AH.get_set_ne, AH.push_n, AH.set_n, hw]); rfl))
       | (apply wpr_end; (focus ((try simp (disch := first | omega | (simp only [AH.nn_push, AH.nn_set, AH.nn_kill]; omega) | (simp only [AH.nn_push, AH.nn_set, AH.nn_kill]; done) | fail) only [push_cast, Nat.reduceEqDiff, ↓reduceIte, reduceCtorEq, Nat.reduceAdd, Nat.reduceMul, Nat.reduceLeDiff, AH.get_push_eq, AH.get_push_ne, AH.get_set_eq, AH.get_set_ne, AH.push_n, AH.set_n, hw]); rfl)); (focus (simp (disch := first | omega | (simp only [AH.nn_push, AH.nn_set, AH.nn_kill]; omega) | (simp only [AH.nn_push, AH.nn_set, AH.nn_kill]; done) | fail) only [push_cast, Nat.reduceEqDiff, ↓reduceIte, reduceCtorEq, Nat.reduceAdd, Nat.reduceMul, Nat.reduceLeDiff, AH.get_push_eq, AH.get_push_ne, AH.get_set_eq, AH.get_set_ne, AH.push_n, AH.set_n, hw]; done)))
       | fail)
    | (show Wp _ _ _ _ _ _
       first
       | refine wp_seq ?_
       | refine wp_region0 ?_
       | refine wp_region ?_
       | refine wp_cond_t rfl ?_
       | refine wp_cond_f rfl ?_
       | refine wp_ret ?_
       | refine wp_skip ?_
       | refine wp_exit ?_
       | refine wp_block ?_
       | fail)
    | refine thenQ_norm ?_
    | refine thenQ_ret ?_
    | refine thenQ_exit ?_
    | refine blockQ_norm ?_
    | refine blockQ_ret ?_
    | refine blockQ_same ?_
    | refine blockQ_ne rfl ?_
    | refine loopQ_norm ?_
    | refine loopQ_ret ?_
    | refine loopQ_exit ?_
    | ((first | apply retQ_ret | apply retQ_norm | apply wpc_of); focus ((try simp (disch := first | omega | (simp only [AH.nn_push, AH.nn_set, AH.nn_kill]; omega) | (simp only [AH.nn_push, AH.nn_set, AH.nn_kill]; done) | fail) only [push_cast, Nat.reduceEqDiff, ↓reduceIte, reduceCtorEq, Nat.reduceAdd, Nat.reduceMul, Nat.reduceLeDiff, AH.get_push_eq, AH.get_push_ne, AH.get_set_eq, AH.get_set_ne, AH.push_n, AH.set_n, hw]); rfl))
    | fail)
    exact ⟨rfl, by
      simp only [List.map_cons, List.map_nil]
      rw [by_small (show c < 256 by omega)]⟩
  · simp only [if_neg g1] at hw ⊢
    by_cases g2 : c < 2048
    · have p1 := or192 (m := q6) (by omega)
      simp only [if_pos g2] at hw ⊢
      (repeat' first
    | (show WpR _ _ _ _ _ _ _ _ _
       first
       | refine wpr_drop ?_
       | refine wpr_p (o := .mv _) (by simp only [ev_mv, opd_s, opd_c, fget, Nat.reduceEqDiff, Nat.one_ne_zero, Nat.zero_ne_one, reduceCtorEq, ↓reduceIte]; rfl) ?_
       | (refine wpr_fork (fun _ => ?_) (fun _ => ?_) <;> try (exfalso; omega))
       | (refine wpr_forkN (fun _ => ?_) (fun _ => ?_) <;> try (exfalso; omega))
       | refine wpr_run rfl ?_
       | refine wpr_pass rfl rfl ?_
       | refine wpr_passS rfl ?_
       | ((first | apply wpr_p | apply wpr_r | apply wpr_callA | apply wpr_callA0 | apply wpr_e0 | apply wpr_e | apply wpr_end0); focus ((try simp (disch := first | omega | (simp only [AH.nn_push, AH.nn_set, AH.nn_kill]; omega) | (simp only [AH.nn_push, AH.nn_set, AH.nn_kill]; done) | fail) only [push_cast, Nat.reduceEqDiff, ↓reduceIte, reduceCtorEq, Nat.reduceAdd, Nat.reduceMul, Nat.reduceLeDiff, AH.get_push_eq, AH.get_push_ne, AH.get_set_eq, AH.get_set_ne, AH.push_n, AH.set_n, hw, s6, a0, o0, p1]); rfl))
       | refine wpr_pass0 rfl rfl ?_
       | refine wpr_pass0S rfl ?_
       | (apply wpr_callvA; focus ((try simp (disch := first | omega | (simp only [AH.nn_push, AH.nn_set, AH.nn_kill]; omega) | (simp only [AH.nn_push, AH.nn_set, AH.nn_kill]; done) | fail) only [push_cast, Nat.reduceEqDiff, ↓reduceIte, reduceCtorEq, Nat.reduceAdd, Nat.reduceMul, Nat.reduceLeDiff, AH.get_push_eq, AH.get_push_ne, AH.get_set_eq, AH.get_set_ne, AH.push_n, AH.set_n, hw, s6, a0, o0, p1]); rfl))
       | (apply wpr_end; (focus ((try simp (disch := first | omega | (simp only [AH.nn_push, AH.nn_set, AH.nn_kill]; omega) | (simp only [AH.nn_push, AH.nn_set, AH.nn_kill]; done) | fail) only [push_cast, Nat.reduceEqDiff, ↓reduceIte, reduceCtorEq, Nat.reduceAdd, Nat.reduceMul, Nat.reduceLeDiff, AH.get_push_eq, AH.get_push_ne, AH.get_set_eq, AH.get_set_ne, AH.push_n, AH.set_n, hw, s6, a0, o0, p1]); rfl)); (focus (simp (disch := first | omega | (simp only [AH.nn_push, AH.nn_set, AH.nn_kill]; omega) | (simp only [AH.nn_push, AH.nn_set, AH.nn_kill]; done) | fail) only [push_cast, Nat.reduceEqDiff, ↓reduceIte, reduceCtorEq, Nat.reduceAdd, Nat.reduceMul, Nat.reduceLeDiff, AH.get_push_eq, AH.get_push_ne, AH.get_set_eq, AH.get_set_ne, AH.push_n, AH.set_n, hw, s6, a0, o0, p1]; done)))
       | fail)
    | (show Wp _ _ _ _ _ _
       first
       | refine wp_seq ?_
       | refine wp_region0 ?_
       | refine wp_region ?_
       | refine wp_cond_t rfl ?_
       | refine wp_cond_f rfl ?_
       | refine wp_ret ?_
       | refine wp_skip ?_
       | refine wp_exit ?_
       | refine wp_block ?_
       | fail)
    | refine thenQ_norm ?_
    | refine thenQ_ret ?_
    | refine thenQ_exit ?_
    | refine blockQ_norm ?_
    | refine blockQ_ret ?_
    | refine blockQ_same ?_
    | refine blockQ_ne rfl ?_
    | refine loopQ_norm ?_
    | refine loopQ_ret ?_
    | refine loopQ_exit ?_
    | ((first | apply retQ_ret | apply retQ_norm | apply wpc_of); focus ((try simp (disch := first | omega | (simp only [AH.nn_push, AH.nn_set, AH.nn_kill]; omega) | (simp only [AH.nn_push, AH.nn_set, AH.nn_kill]; done) | fail) only [push_cast, Nat.reduceEqDiff, ↓reduceIte, reduceCtorEq, Nat.reduceAdd, Nat.reduceMul, Nat.reduceLeDiff, AH.get_push_eq, AH.get_push_ne, AH.get_set_eq, AH.get_set_ne, AH.push_n, AH.set_n, hw, s6, a0, o0, p1]); rfl))
    | fail)
      exact ⟨rfl, by
        simp only [List.map_cons, List.map_nil]
        rw [by_small (show 192 + q6 < 256 by omega), by_small (show 128 + r0 < 256 by omega)]
        first | done | rfl | (simp only [Int.natCast_add]; first | done | rfl)⟩
    · simp only [if_neg g2] at hw ⊢
      by_cases g3 : c < 65536
      · have p1 := or224 (m := q12) (by omega)
        simp only [if_pos g3] at hw ⊢
        (repeat' first
    | (show WpR _ _ _ _ _ _ _ _ _
       first
       | refine wpr_drop ?_
       | refine wpr_p (o := .mv _) (by simp only [ev_mv, opd_s, opd_c, fget, Nat.reduceEqDiff, Nat.one_ne_zero, Nat.zero_ne_one, reduceCtorEq, ↓reduceIte]; rfl) ?_
       | (refine wpr_fork (fun _ => ?_) (fun _ => ?_) <;> try (exfalso; omega))
       | (refine wpr_forkN (fun _ => ?_) (fun _ => ?_) <;> try (exfalso; omega))
       | refine wpr_run rfl ?_
       | refine wpr_pass rfl rfl ?_
       | refine wpr_passS rfl ?_
       | ((first | apply wpr_p | apply wpr_r | apply wpr_callA | apply wpr_callA0 | apply wpr_e0 | apply wpr_e | apply wpr_end0); focus ((try simp (disch := first | omega | (simp only [AH.nn_push, AH.nn_set, AH.nn_kill]; omega) | (simp only [AH.nn_push, AH.nn_set, AH.nn_kill]; done) | fail) only [push_cast, Nat.reduceEqDiff, ↓reduceIte, reduceCtorEq, Nat.reduceAdd, Nat.reduceMul, Nat.reduceLeDiff, AH.get_push_eq, AH.get_push_ne, AH.get_set_eq, AH.get_set_ne, AH.push_n, AH.set_n, hw, s6, s12, a0, a6, o0, o6, p1]); rfl))
       | refine wpr_pass0 rfl rfl ?_
       | refine wpr_pass0S rfl ?_
       | (apply wpr_callvA; focus ((try simp (disch := first | omega | (simp only [AH.nn_push, AH.nn_set, AH.nn_kill]; omega) | (simp only [AH.nn_push, AH.nn_set, AH.nn_kill]; done) | fail) only [push_cast, Nat.reduceEqDiff, ↓reduceIte, reduceCtorEq, Nat.reduceAdd, Nat.reduceMul, Nat.reduceLeDiff, AH.get_push_eq, AH.get_push_ne, AH.get_set_eq, AH.get_set_ne, AH.push_n, AH.set_n, hw, s6, s12, a0, a6, o0, o6, p1]); rfl))
       | (apply wpr_end; (focus ((try simp (disch := first | omega | (simp only [AH.nn_push, AH.nn_set, AH.nn_kill]; omega) | (simp only [AH.nn_push, AH.nn_set, AH.nn_kill]; done) | fail) only [push_cast, Nat.reduceEqDiff, ↓reduceIte, reduceCtorEq, Nat.reduceAdd, Nat.reduceMul, Nat.reduceLeDiff, AH.get_push_eq, AH.get_push_ne, AH.get_set_eq, AH.get_set_ne, AH.push_n, AH.set_n, hw, s6, s12, a0, a6, o0, o6, p1]); rfl)); (focus (simp (disch := first | omega | (simp only [AH.nn_push, AH.nn_set, AH.nn_kill]; omega) | (simp only [AH.nn_push, AH.nn_set, AH.nn_kill]; done) | fail) only [push_cast, Nat.reduceEqDiff, ↓reduceIte, reduceCtorEq, Nat.reduceAdd, Nat.reduceMul, Nat.reduceLeDiff, AH.get_push_eq, AH.get_push_ne, AH.get_set_eq, AH.get_set_ne, AH.push_n, AH.set_n, hw, s6, s12, a0, a6, o0, o6, p1]; done)))
       | fail)
    | (show Wp _ _ _ _ _ _
       first
       | refine wp_seq ?_
       | refine wp_region0 ?_
       | refine wp_region ?_
       | refine wp_cond_t rfl ?_
       | refine wp_cond_f rfl ?_
       | refine wp_ret ?_
       | refine wp_skip ?_
       | refine wp_exit ?_
       | refine wp_block ?_
       | fail)
    | refine thenQ_norm ?_
    | refine thenQ_ret ?_
    | refine thenQ_exit ?_
    | refine blockQ_norm ?_
    | refine blockQ_ret ?_
    | refine blockQ_same ?_
    | refine blockQ_ne rfl ?_
    | refine loopQ_norm ?_
    | refine loopQ_ret ?_
    | refine loopQ_exit ?_
    | ((first | apply retQ_ret | apply retQ_norm | apply wpc_of); focus ((try simp (disch := first | omega | (simp only [AH.nn_push, AH.nn_set, AH.nn_kill]; omega) | (simp only [AH.nn_push, AH.nn_set, AH.nn_kill]; done) | fail) only [push_cast, Nat.reduceEqDiff, ↓reduceIte, reduceCtorEq, Nat.reduceAdd, Nat.reduceMul, Nat.reduceLeDiff, AH.get_push_eq, AH.get_push_ne, AH.get_set_eq, AH.get_set_ne, AH.push_n, AH.set_n, hw, s6, s12, a0, a6, o0, o6, p1]); rfl))
    | fail)
        exact ⟨rfl, by
          simp only [List.map_cons, List.map_nil]
          rw [by_small (show 224 + q12 < 256 by omega), by_small (show 128 + r6 < 256 by omega), by_small (show 128 + r0 < 256 by omega)]
          first | done | rfl | (simp only [Int.natCast_add]; first | done | rfl)⟩
      · have p1 := or240 (m := q18) (by omega)
        simp only [if_neg g3] at hw ⊢
        (repeat' first
    | (show WpR _ _ _ _ _ _ _ _ _
       first
       | refine wpr_drop ?_
       | refine wpr_p (o := .mv _) (by simp only [ev_mv, opd_s, opd_c, fget, Nat.reduceEqDiff, Nat.one_ne_zero, Nat.zero_ne_one, reduceCtorEq, ↓reduceIte]; rfl) ?_
       | (refine wpr_fork (fun _ => ?_) (fun _ => ?_) <;> try (exfalso; omega))
       | (refine wpr_forkN (fun _ => ?_) (fun _ => ?_) <;> try (exfalso; omega))
       | refine wpr_run rfl ?_
       | refine wpr_pass rfl rfl ?_
       | refine wpr_passS rfl ?_
       | ((first | apply wpr_p | apply wpr_r | apply wpr_callA | apply wpr_callA0 | apply wpr_e0 | apply wpr_e | apply wpr_end0); focus ((try simp (disch := first | omega | (simp only [AH.nn_push, AH.nn_set, AH.nn_kill]; omega) | (simp only [AH.nn_push, AH.nn_set, AH.nn_kill]; done) | fail) only [push_cast, Nat.reduceEqDiff, ↓reduceIte, reduceCtorEq, Nat.reduceAdd, Nat.reduceMul, Nat.reduceLeDiff, AH.get_push_eq, AH.get_push_ne, AH.get_set_eq, AH.get_set_ne, AH.push_n, AH.set_n, hw, s6, s12, s18, a0, a6, a12, o0, o6, o12, p1]); rfl))
       | refine wpr_pass0 rfl rfl ?_
       | refine wpr_pass0S rfl ?_
       | (apply wpr_callvA; focus ((try simp (disch := first | omega | (simp only [AH.nn_push, AH.nn_set, AH.nn_kill]; omega) | (simp only [AH.nn_push, AH.nn_set, AH.nn_kill]; done) | fail) only [push_cast, Nat.reduceEqDiff, ↓reduceIte, reduceCtorEq, Nat.reduceAdd, Nat.reduceMul, Nat.reduceLeDiff, AH.get_push_eq, AH.get_push_ne, AH.get_set_eq, AH.get_set_ne, AH.push_n, AH.set_n, hw, s6, s12, s18, a0, a6, a12, o0, o6, o12, p1]); rfl))
       | (apply wpr_end; (focus ((try simp (disch := first | omega | (simp only [AH.nn_push, AH.nn_set, AH.nn_kill]; omega) | (simp only [AH.nn_push, AH.nn_set, AH.nn_kill]; done) | fail) only [push_cast, Nat.reduceEqDiff, ↓reduceIte, reduceCtorEq, Nat.reduceAdd, Nat.reduceMul, Nat.reduceLeDiff, AH.get_push_eq, AH.get_push_ne, AH.get_set_eq, AH.get_set_ne, AH.push_n, AH.set_n, hw, s6, s12, s18, a0, a6, a12, o0, o6, o12, p1]); rfl)); (focus (simp (disch := first | omega | (simp only [AH.nn_push, AH.nn_set, AH.nn_kill]; omega) | (simp only [AH.nn_push, AH.nn_set, AH.nn_kill]; done) | fail) only [push_cast, Nat.reduceEqDiff, ↓reduceIte, reduceCtorEq, Nat.reduceAdd, Nat.reduceMul, Nat.reduceLeDiff, AH.get_push_eq, AH.get_push_ne, AH.get_set_eq, AH.get_set_ne, AH.push_n, AH.set_n, hw, s6, s12, s18, a0, a6, a12, o0, o6, o12, p1]; done)))
       | fail)
    | (show Wp _ _ _ _ _ _
       first
       | refine wp_seq ?_
       | refine wp_region0 ?_
       | refine wp_region ?_
       | refine wp_cond_t rfl ?_
       | refine wp_cond_f rfl ?_
       | refine wp_ret ?_
       | refine wp_skip ?_
       | refine wp_exit ?_
       | refine wp_block ?_
       | fail)
    | refine thenQ_norm ?_
    | refine thenQ_ret ?_
    | refine thenQ_exit ?_
    | refine blockQ_norm ?_
    | refine blockQ_ret ?_
    | refine blockQ_same ?_
    | refine blockQ_ne rfl ?_
    | refine loopQ_norm ?_
    | refine loopQ_ret ?_
    | refine loopQ_exit ?_
    | ((first | apply retQ_ret | apply retQ_norm | apply wpc_of); focus ((try simp (disch := first | omega | (simp only [AH.nn_push, AH.nn_set, AH.nn_kill]; omega) | (simp only [AH.nn_push, AH.nn_set, AH.nn_kill]; done) | fail) only [push_cast, Nat.reduceEqDiff, ↓reduceIte, reduceCtorEq, Nat.reduceAdd, Nat.reduceMul, Nat.reduceLeDiff, AH.get_push_eq, AH.get_push_ne, AH.get_set_eq, AH.get_set_ne, AH.push_n, AH.set_n, hw, s6, s12, s18, a0, a6, a12, o0, o6, o12, p1]); rfl))
    | fail)
        exact ⟨rfl, by
          simp only [List.map_cons, List.map_nil]
          rw [by_small (show 240 + q18 < 256 by omega), by_small (show 128 + r12 < 256 by omega), by_small (show 128 + r6 < 256 by omega), by_small (show 128 + r0 < 256 by omega)]
          first | done | rfl | (simp only [Int.natCast_add]; first | done | rfl)⟩

end Go.Proofs.Ytmfpkgcphlilmaa.AM
