/- Bootstrings: Encode: the rounds over the spots. -/
import Derived.Test.YtmfpkgcphlilmaaBootD
set_option linter.unusedVariables false
set_option linter.unusedSimpArgs false
namespace Go.Proofs.Ytmfpkgcphlilmaa.AM
open Go

def encFr (c : Nat) : Fr := [(2, .pointer (some ⟨c, 0, none⟩)), (4, .pointer (some ⟨c + 1, 0, none⟩)), (5, .pointer (some ⟨c + 2, 0, none⟩)), (6, .pointer (some ⟨c + 3, 0, none⟩)), (7, .pointer (some ⟨c + 4, 0, none⟩)), (8, .pointer (some ⟨c + 5, 0, none⟩)), (9, .pointer (some ⟨c + 6, 0, none⟩))]

/-- What an early end leaves. -/
structure EncG (h : AH) (code : Nat) (h1 : AH) : Prop where
  kp : ∀ b, b < h.n → h1.get b = h.get b
  n : h.n ≤ h1.n
  g1 : h1.get (h.n + 1) = some (.cells false [.string ⟨#[]⟩])
  g2 : h1.get (h.n + 2) = some (.cells false [.int .i64 code])

theorem encG_of {h h1 : AH} {code : Nat} {c : Int} (hc : c = code) (kp : ∀ b, b < h.n → h1.get b = h.get b) (hn : h.n + 3 ≤ h1.n) : EncG h code ((h1.set (h.n + 1) (.cells false [.string ⟨#[]⟩])).set (h.n + 2) (.cells false [.int .i64 c])) where
  kp := fun b hb => by rw [AH.get_set_ne _ (by omega), AH.get_set_ne _ (by omega)]; exact kp b hb
  n := by rw [AH.set_n, AH.set_n]; omega
  g1 := by rw [AH.get_set_ne _ (by omega)]; exact AH.get_set_same _ (by omega)
  g2 := by rw [hc]; exact AH.get_set_same _ (by rw [AH.set_n]; omega)
theorem wrap_u8 {x : Int} (h1 : 0 ≤ x) (h2 : x < 256) : IntKind.u8.wrap x = x := by
  show (if (false && decide (x % 256 ≥ 128)) = true then x % 256 - 256 else x % 256) = x
  simp only [Bool.false_and, Bool.false_eq_true, if_false]
  omega
attribute [push_cast] wrap_u8

def encBody : LCode := match LF_boot_Encode.body with
  | .seq _ (.seq _ (.seq _ (.seq _ (.seq _ (.seq _ (.seq (.seq _ (.block _ (.rangeF _ _ _ b))) _)))))) => b
  | _ => .skip

set_option maxHeartbeats 4000000 in
theorem enc_round {p : BP} (ok : p.Ok) {h : AH} {x : ByteArray} {R : List Nat} {h1 : AH} {so sh st : Sl} (e : EncI h p x R h1 so sh st) (hR : R.length ≤ 65536) {o : AObj} (ho : h1.get (h.n + 8) = some o) (y : Nat × Nat) (hy : y.1 ≤ 0x10ffff) :
    Wp PX encBody (encFr h.n ++ [(11, .pointer (some ⟨22, 0, some 1⟩))]) [(22, .cells false [.int .i32 y.1, .int .i64 y.2, .bool (isBad2 y)])] h1 fun ex _ _ h3 => h3.get (h.n + 8) = some o ∧
      match ex with
      | .norm => R.length < 4096 ∧ isBad2 y = false ∧ (p.first ≤ y.1 ∨ basicN y.1 = true) ∧ ∃ so' sh' st', EncI h p x (R ++ [y.1]) h3 so' sh' st'
      | ex => ex = .ret ∧ scanE p R.length [y] ≠ 0 ∧ EncG h (scanE p R.length [y]) h3 := by
  obtain ⟨kp, hn, g0, g1, g2, g3, g4, g5, g6, g7, o1, o2, o3, b1, b2, b3, d12, d13, d23, e2⟩ := e
  have l8 := AH.get_lt ho
  have hf := ok.f2
  have hf2 : p.first ≤ 0x10ffff := by unfold RuneN at hf; omega
  have eb := fun h => basic_eq y.1 (by omega) h
  have hsc : scanE p R.length [y] = if 4096 ≤ R.length then 4 else if isBad2 y = true then 10 else if p.first ≤ y.1 then 0 else if basicN y.1 = true then 0 else 50 := by
    simp only [scanE, isBad]
  unfold encBody encFr
  unfold LF_boot_Encode
  simp only [List.cons_append, List.nil_append]
  have keep8 : ∀ a b, ((h1.set (h.n + 1) a).set (h.n + 2) b).get (h.n + 8) = some o := fun a b => by rw [AH.get_set_ne _ (by omega), AH.get_set_ne _ (by omega)]; exact ho
  by_cases h4096 : 4096 ≤ R.length
  · rw [if_pos h4096] at hsc
    (repeat' first
    | (show WpR _ _ _ _ _ _ _ _ _
       first
       | refine wpr_drop ?_
       | refine wpr_p (o := .mv _) (by simp only [ev_mv, opd_s, opd_c, fget, Nat.reduceEqDiff, Nat.one_ne_zero, Nat.zero_ne_one, reduceCtorEq, ↓reduceIte]; rfl) ?_
       | (refine wpr_fork (fun _ => ?_) (fun _ => ?_) <;> try (exfalso; omega))
       | (refine wpr_forkN (fun _ => ?_) (fun _ => ?_) <;> try (exfalso; omega))
       | refine wpr_run rfl ?_
       | refine wpr_pass rfl rfl ?_
       | refine wpr_passS rfl ?_
       | ((first | apply wpr_p | apply wpr_r | apply wpr_callA | apply wpr_callA0 | apply wpr_e0 | apply wpr_e | apply wpr_end0); focus ((try simp (disch := first | omega | (simp only [AH.nn_push, AH.nn_set, AH.nn_kill]; omega) | (simp only [AH.nn_push, AH.nn_set, AH.nn_kill]; done) | fail) only [push_cast, Nat.reduceEqDiff, ↓reduceIte, reduceCtorEq, Nat.reduceAdd, Nat.reduceMul, Nat.reduceLeDiff, AH.get_push_eq, AH.get_push_ne, AH.get_set_eq, AH.get_set_ne, AH.push_n, AH.set_n, g0, g1, g2, g5]); rfl))
       | refine wpr_pass0 rfl rfl ?_
       | refine wpr_pass0S rfl ?_
       | (apply wpr_callvA; focus ((try simp (disch := first | omega | (simp only [AH.nn_push, AH.nn_set, AH.nn_kill]; omega) | (simp only [AH.nn_push, AH.nn_set, AH.nn_kill]; done) | fail) only [push_cast, Nat.reduceEqDiff, ↓reduceIte, reduceCtorEq, Nat.reduceAdd, Nat.reduceMul, Nat.reduceLeDiff, AH.get_push_eq, AH.get_push_ne, AH.get_set_eq, AH.get_set_ne, AH.push_n, AH.set_n, g0, g1, g2, g5]); rfl))
       | (apply wpr_end; (focus ((try simp (disch := first | omega | (simp only [AH.nn_push, AH.nn_set, AH.nn_kill]; omega) | (simp only [AH.nn_push, AH.nn_set, AH.nn_kill]; done) | fail) only [push_cast, Nat.reduceEqDiff, ↓reduceIte, reduceCtorEq, Nat.reduceAdd, Nat.reduceMul, Nat.reduceLeDiff, AH.get_push_eq, AH.get_push_ne, AH.get_set_eq, AH.get_set_ne, AH.push_n, AH.set_n, g0, g1, g2, g5]); rfl)); (focus (simp (disch := first | omega | (simp only [AH.nn_push, AH.nn_set, AH.nn_kill]; omega) | (simp only [AH.nn_push, AH.nn_set, AH.nn_kill]; done) | fail) only [push_cast, Nat.reduceEqDiff, ↓reduceIte, reduceCtorEq, Nat.reduceAdd, Nat.reduceMul, Nat.reduceLeDiff, AH.get_push_eq, AH.get_push_ne, AH.get_set_eq, AH.get_set_ne, AH.push_n, AH.set_n, g0, g1, g2, g5]; done)))
       | fail)
    | (show Wp _ _ _ _ _ _
       first
       | refine wp_seq ?_
       | refine wp_region0 ?_
       | refine wp_region ?_
       | refine wp_cond_t rfl ?_
       | refine wp_cond_f rfl ?_
       | refine wp_ret ?_
       | refine wp_skip ?_
       | refine wp_exit ?_
       | refine wp_block ?_
       | fail)
    | refine thenQ_norm ?_
    | refine thenQ_ret ?_
    | refine thenQ_exit ?_
    | refine blockQ_norm ?_
    | refine blockQ_ret ?_
    | refine blockQ_same ?_
    | refine blockQ_ne rfl ?_
    | refine loopQ_norm ?_
    | refine loopQ_ret ?_
    | refine loopQ_exit ?_
    | ((first | apply retQ_ret | apply retQ_norm | apply wpc_of); focus ((try simp (disch := first | omega | (simp only [AH.nn_push, AH.nn_set, AH.nn_kill]; omega) | (simp only [AH.nn_push, AH.nn_set, AH.nn_kill]; done) | fail) only [push_cast, Nat.reduceEqDiff, ↓reduceIte, reduceCtorEq, Nat.reduceAdd, Nat.reduceMul, Nat.reduceLeDiff, AH.get_push_eq, AH.get_push_ne, AH.get_set_eq, AH.get_set_ne, AH.push_n, AH.set_n, g0, g1, g2, g5]); rfl))
    | fail)
    rw [hsc]
    exact ⟨keep8 _ _, rfl, by decide, encG_of rfl kp (by omega)⟩
  rw [if_neg h4096] at hsc
  cases hbad : isBad2 y with
  | true =>
    rw [hbad, if_pos rfl] at hsc
    (repeat' first
    | (show WpR _ _ _ _ _ _ _ _ _
       first
       | refine wpr_drop ?_
       | refine wpr_p (o := .mv _) (by simp only [ev_mv, opd_s, opd_c, fget, Nat.reduceEqDiff, Nat.one_ne_zero, Nat.zero_ne_one, reduceCtorEq, ↓reduceIte]; rfl) ?_
       | (refine wpr_fork (fun _ => ?_) (fun _ => ?_) <;> try (exfalso; omega))
       | (refine wpr_forkN (fun _ => ?_) (fun _ => ?_) <;> try (exfalso; omega))
       | refine wpr_run rfl ?_
       | refine wpr_pass rfl rfl ?_
       | refine wpr_passS rfl ?_
       | ((first | apply wpr_p | apply wpr_r | apply wpr_callA | apply wpr_callA0 | apply wpr_e0 | apply wpr_e | apply wpr_end0); focus ((try simp (disch := first | omega | (simp only [AH.nn_push, AH.nn_set, AH.nn_kill]; omega) | (simp only [AH.nn_push, AH.nn_set, AH.nn_kill]; done) | fail) only [push_cast, Nat.reduceEqDiff, ↓reduceIte, reduceCtorEq, Nat.reduceAdd, Nat.reduceMul, Nat.reduceLeDiff, AH.get_push_eq, AH.get_push_ne, AH.get_set_eq, AH.get_set_ne, AH.push_n, AH.set_n, g0, g1, g2, g5]); rfl))
       | refine wpr_pass0 rfl rfl ?_
       | refine wpr_pass0S rfl ?_
       | (apply wpr_callvA; focus ((try simp (disch := first | omega | (simp only [AH.nn_push, AH.nn_set, AH.nn_kill]; omega) | (simp only [AH.nn_push, AH.nn_set, AH.nn_kill]; done) | fail) only [push_cast, Nat.reduceEqDiff, ↓reduceIte, reduceCtorEq, Nat.reduceAdd, Nat.reduceMul, Nat.reduceLeDiff, AH.get_push_eq, AH.get_push_ne, AH.get_set_eq, AH.get_set_ne, AH.push_n, AH.set_n, g0, g1, g2, g5]); rfl))
       | (apply wpr_end; (focus ((try simp (disch := first | omega | (simp only [AH.nn_push, AH.nn_set, AH.nn_kill]; omega) | (simp only [AH.nn_push, AH.nn_set, AH.nn_kill]; done) | fail) only [push_cast, Nat.reduceEqDiff, ↓reduceIte, reduceCtorEq, Nat.reduceAdd, Nat.reduceMul, Nat.reduceLeDiff, AH.get_push_eq, AH.get_push_ne, AH.get_set_eq, AH.get_set_ne, AH.push_n, AH.set_n, g0, g1, g2, g5]); rfl)); (focus (simp (disch := first | omega | (simp only [AH.nn_push, AH.nn_set, AH.nn_kill]; omega) | (simp only [AH.nn_push, AH.nn_set, AH.nn_kill]; done) | fail) only [push_cast, Nat.reduceEqDiff, ↓reduceIte, reduceCtorEq, Nat.reduceAdd, Nat.reduceMul, Nat.reduceLeDiff, AH.get_push_eq, AH.get_push_ne, AH.get_set_eq, AH.get_set_ne, AH.push_n, AH.set_n, g0, g1, g2, g5]; done)))
       | fail)
    | (show Wp _ _ _ _ _ _
       first
       | refine wp_seq ?_
       | refine wp_region0 ?_
       | refine wp_region ?_
       | refine wp_cond_t rfl ?_
       | refine wp_cond_f rfl ?_
       | refine wp_ret ?_
       | refine wp_skip ?_
       | refine wp_exit ?_
       | refine wp_block ?_
       | fail)
    | refine thenQ_norm ?_
    | refine thenQ_ret ?_
    | refine thenQ_exit ?_
    | refine blockQ_norm ?_
    | refine blockQ_ret ?_
    | refine blockQ_same ?_
    | refine blockQ_ne rfl ?_
    | refine loopQ_norm ?_
    | refine loopQ_ret ?_
    | refine loopQ_exit ?_
    | ((first | apply retQ_ret | apply retQ_norm | apply wpc_of); focus ((try simp (disch := first | omega | (simp only [AH.nn_push, AH.nn_set, AH.nn_kill]; omega) | (simp only [AH.nn_push, AH.nn_set, AH.nn_kill]; done) | fail) only [push_cast, Nat.reduceEqDiff, ↓reduceIte, reduceCtorEq, Nat.reduceAdd, Nat.reduceMul, Nat.reduceLeDiff, AH.get_push_eq, AH.get_push_ne, AH.get_set_eq, AH.get_set_ne, AH.push_n, AH.set_n, g0, g1, g2, g5]); rfl))
    | fail)
    rw [hsc]
    exact ⟨keep8 _ _, rfl, by decide, encG_of rfl kp (by omega)⟩
  | false =>
    rw [hbad, if_neg (by decide)] at hsc
    have l0 := AH.get_lt g0; have l1 := AH.get_lt g1; have l2 := AH.get_lt g2; have l3 := AH.get_lt g3; have l4 := AH.get_lt g4; have l5 := AH.get_lt g5; have l6 := AH.get_lt g6; have l7 := AH.get_lt g7
    have n1 : ∀ k, k ≤ 8 → so.blk ≠ some (h.n + k) := fun k hk g => by have := b1 _ g; omega
    have n2 : ∀ k, k ≤ 8 → sh.blk ≠ some (h.n + k) := fun k hk g => by have := b2 _ g; omega
    have n3 : ∀ k, k ≤ 8 → st.blk ≠ some (h.n + k) := fun k hk g => by have := b3 _ g; omega
    have hlh : (highsOf p.first 0 R).length ≤ R.length := by have := parts_len p.first R 0; omega
    have hll : (lowsOf p.first 0 R).length ≤ R.length := by have := parts_len p.first R 0; omega
    have hlb := lows_bytes p.first R 0
    by_cases hfi : p.first ≤ y.1
    · (repeat' first
    | (show WpR _ _ _ _ _ _ _ _ _
       first
       | refine wpr_drop ?_
       | refine wpr_p (o := .mv _) (by simp only [ev_mv, opd_s, opd_c, fget, Nat.reduceEqDiff, Nat.one_ne_zero, Nat.zero_ne_one, reduceCtorEq, ↓reduceIte]; rfl) ?_
       | (refine wpr_fork (fun _ => ?_) (fun _ => ?_) <;> try (exfalso; omega))
       | (refine wpr_forkN (fun _ => ?_) (fun _ => ?_) <;> try (exfalso; omega))
       | refine wpr_run rfl ?_
       | refine wpr_pass rfl rfl ?_
       | refine wpr_passS rfl ?_
       | ((first | apply wpr_p | apply wpr_r | apply wpr_callA | apply wpr_callA0 | apply wpr_e0 | apply wpr_e | apply wpr_end0); focus ((try simp (disch := first | omega | (simp only [AH.nn_push, AH.nn_set, AH.nn_kill]; omega) | (simp only [AH.nn_push, AH.nn_set, AH.nn_kill]; done) | fail) only [push_cast, Nat.reduceEqDiff, ↓reduceIte, reduceCtorEq, Nat.reduceAdd, Nat.reduceMul, Nat.reduceLeDiff, AH.get_push_eq, AH.get_push_ne, AH.get_set_eq, AH.get_set_ne, AH.push_n, AH.set_n, g0, g1, g2, g4, g5]); rfl))
       | refine wpr_pass0 rfl rfl ?_
       | refine wpr_pass0S rfl ?_
       | (apply wpr_callvA; focus ((try simp (disch := first | omega | (simp only [AH.nn_push, AH.nn_set, AH.nn_kill]; omega) | (simp only [AH.nn_push, AH.nn_set, AH.nn_kill]; done) | fail) only [push_cast, Nat.reduceEqDiff, ↓reduceIte, reduceCtorEq, Nat.reduceAdd, Nat.reduceMul, Nat.reduceLeDiff, AH.get_push_eq, AH.get_push_ne, AH.get_set_eq, AH.get_set_ne, AH.push_n, AH.set_n, g0, g1, g2, g4, g5]); rfl))
       | (apply wpr_end; (focus ((try simp (disch := first | omega | (simp only [AH.nn_push, AH.nn_set, AH.nn_kill]; omega) | (simp only [AH.nn_push, AH.nn_set, AH.nn_kill]; done) | fail) only [push_cast, Nat.reduceEqDiff, ↓reduceIte, reduceCtorEq, Nat.reduceAdd, Nat.reduceMul, Nat.reduceLeDiff, AH.get_push_eq, AH.get_push_ne, AH.get_set_eq, AH.get_set_ne, AH.push_n, AH.set_n, g0, g1, g2, g4, g5]); rfl)); (focus (simp (disch := first | omega | (simp only [AH.nn_push, AH.nn_set, AH.nn_kill]; omega) | (simp only [AH.nn_push, AH.nn_set, AH.nn_kill]; done) | fail) only [push_cast, Nat.reduceEqDiff, ↓reduceIte, reduceCtorEq, Nat.reduceAdd, Nat.reduceMul, Nat.reduceLeDiff, AH.get_push_eq, AH.get_push_ne, AH.get_set_eq, AH.get_set_ne, AH.push_n, AH.set_n, g0, g1, g2, g4, g5]; done)))
       | fail)
    | (show Wp _ _ _ _ _ _
       first
       | refine wp_seq ?_
       | refine wp_region0 ?_
       | refine wp_region ?_
       | refine wp_cond_t rfl ?_
       | refine wp_cond_f rfl ?_
       | refine wp_ret ?_
       | refine wp_skip ?_
       | refine wp_exit ?_
       | refine wp_block ?_
       | fail)
    | refine thenQ_norm ?_
    | refine thenQ_ret ?_
    | refine thenQ_exit ?_
    | refine blockQ_norm ?_
    | refine blockQ_ret ?_
    | refine blockQ_same ?_
    | refine blockQ_ne rfl ?_
    | refine loopQ_norm ?_
    | refine loopQ_ret ?_
    | refine loopQ_exit ?_
    | ((first | apply retQ_ret | apply retQ_norm | apply wpc_of); focus ((try simp (disch := first | omega | (simp only [AH.nn_push, AH.nn_set, AH.nn_kill]; omega) | (simp only [AH.nn_push, AH.nn_set, AH.nn_kill]; done) | fail) only [push_cast, Nat.reduceEqDiff, ↓reduceIte, reduceCtorEq, Nat.reduceAdd, Nat.reduceMul, Nat.reduceLeDiff, AH.get_push_eq, AH.get_push_ne, AH.get_set_eq, AH.get_set_ne, AH.push_n, AH.set_n, g0, g1, g2, g4, g5]); rfl))
    | fail)
      refine wpr_appendR (yss := [spV (y.1, R.length)]) (k := 1) o2 rfl rfl rfl rfl (by simp [spV]) (by decide) (by decide) (by decide) (by simp; omega) fun sh2 h2 oh eb2 hn2 hk2 => ?_
      have k0 := (hk2 _ l0 (n2 0 (by omega))).trans g0
      have k1 := (hk2 _ l1 (n2 1 (by omega))).trans g1
      have k2 := (hk2 _ l2 (n2 2 (by omega))).trans g2
      have k3 := (hk2 _ l3 (n2 3 (by omega))).trans g3
      have k4 := (hk2 _ l4 (n2 4 (by omega))).trans g4
      have k5 := (hk2 _ l5 (n2 5 (by omega))).trans g5
      have k6 := (hk2 _ l6 (n2 6 (by omega))).trans g6
      have k7 := (hk2 _ l7 (n2 7 (by omega))).trans g7
      have k8 := (hk2 _ l8 (n2 8 (by omega))).trans ho
      (repeat' first
    | (show WpR _ _ _ _ _ _ _ _ _
       first
       | refine wpr_drop ?_
       | refine wpr_p (o := .mv _) (by simp only [ev_mv, opd_s, opd_c, fget, Nat.reduceEqDiff, Nat.one_ne_zero, Nat.zero_ne_one, reduceCtorEq, ↓reduceIte]; rfl) ?_
       | (refine wpr_fork (fun _ => ?_) (fun _ => ?_) <;> try (exfalso; omega))
       | (refine wpr_forkN (fun _ => ?_) (fun _ => ?_) <;> try (exfalso; omega))
       | refine wpr_run rfl ?_
       | refine wpr_pass rfl rfl ?_
       | refine wpr_passS rfl ?_
       | ((first | apply wpr_p | apply wpr_r | apply wpr_callA | apply wpr_callA0 | apply wpr_e0 | apply wpr_e | apply wpr_end0); focus ((try simp (disch := first | omega | (simp only [AH.nn_push, AH.nn_set, AH.nn_kill]; omega) | (simp only [AH.nn_push, AH.nn_set, AH.nn_kill]; done) | fail) only [push_cast, Nat.reduceEqDiff, ↓reduceIte, reduceCtorEq, Nat.reduceAdd, Nat.reduceMul, Nat.reduceLeDiff, AH.get_push_eq, AH.get_push_ne, AH.get_set_eq, AH.get_set_ne, AH.push_n, AH.set_n, k4, k5]); rfl))
       | refine wpr_pass0 rfl rfl ?_
       | refine wpr_pass0S rfl ?_
       | (apply wpr_callvA; focus ((try simp (disch := first | omega | (simp only [AH.nn_push, AH.nn_set, AH.nn_kill]; omega) | (simp only [AH.nn_push, AH.nn_set, AH.nn_kill]; done) | fail) only [push_cast, Nat.reduceEqDiff, ↓reduceIte, reduceCtorEq, Nat.reduceAdd, Nat.reduceMul, Nat.reduceLeDiff, AH.get_push_eq, AH.get_push_ne, AH.get_set_eq, AH.get_set_ne, AH.push_n, AH.set_n, k4, k5]); rfl))
       | (apply wpr_end; (focus ((try simp (disch := first | omega | (simp only [AH.nn_push, AH.nn_set, AH.nn_kill]; omega) | (simp only [AH.nn_push, AH.nn_set, AH.nn_kill]; done) | fail) only [push_cast, Nat.reduceEqDiff, ↓reduceIte, reduceCtorEq, Nat.reduceAdd, Nat.reduceMul, Nat.reduceLeDiff, AH.get_push_eq, AH.get_push_ne, AH.get_set_eq, AH.get_set_ne, AH.push_n, AH.set_n, k4, k5]); rfl)); (focus (simp (disch := first | omega | (simp only [AH.nn_push, AH.nn_set, AH.nn_kill]; omega) | (simp only [AH.nn_push, AH.nn_set, AH.nn_kill]; done) | fail) only [push_cast, Nat.reduceEqDiff, ↓reduceIte, reduceCtorEq, Nat.reduceAdd, Nat.reduceMul, Nat.reduceLeDiff, AH.get_push_eq, AH.get_push_ne, AH.get_set_eq, AH.get_set_ne, AH.push_n, AH.set_n, k4, k5]; done)))
       | fail)
    | (show Wp _ _ _ _ _ _
       first
       | refine wp_seq ?_
       | refine wp_region0 ?_
       | refine wp_region ?_
       | refine wp_cond_t rfl ?_
       | refine wp_cond_f rfl ?_
       | refine wp_ret ?_
       | refine wp_skip ?_
       | refine wp_exit ?_
       | refine wp_block ?_
       | fail)
    | refine thenQ_norm ?_
    | refine thenQ_ret ?_
    | refine thenQ_exit ?_
    | refine blockQ_norm ?_
    | refine blockQ_ret ?_
    | refine blockQ_same ?_
    | refine blockQ_ne rfl ?_
    | refine loopQ_norm ?_
    | refine loopQ_ret ?_
    | refine loopQ_exit ?_
    | ((first | apply retQ_ret | apply retQ_norm | apply wpc_of); focus ((try simp (disch := first | omega | (simp only [AH.nn_push, AH.nn_set, AH.nn_kill]; omega) | (simp only [AH.nn_push, AH.nn_set, AH.nn_kill]; done) | fail) only [push_cast, Nat.reduceEqDiff, ↓reduceIte, reduceCtorEq, Nat.reduceAdd, Nat.reduceMul, Nat.reduceLeDiff, AH.get_push_eq, AH.get_push_ne, AH.get_set_eq, AH.get_set_ne, AH.push_n, AH.set_n, k4, k5]); rfl))
    | fail)
      refine ⟨by rw [AH.get_set_ne _ (by omega), AH.get_set_ne _ (by omega)]; exact k8, by omega, rfl, .inl hfi, so, sh2, st, ?_⟩
      have hb2' : ∀ b, sh2.blk = some b → b = h1.n := fun b hb => by rw [eb2] at hb; injection hb with hb; exact hb.symm
      have lo := fun b (hb : so.blk = some b) => o1.lt hb
      have lt' := fun b (hb : st.blk = some b) => o3.lt hb
      refine ⟨fun b hb => ?_, ?_, ?_, ?_, ?_, ?_, ?_, ?_, ?_, ?_, ?_, ?_, ?_, b1, fun b hb => by rw [hb2' b hb]; omega, b3, fun b hb g => ?_, d13, fun b hb g => ?_, fun g => ?_⟩
      · rw [AH.get_set_ne _ (by omega), AH.get_set_ne _ (by omega), hk2 b (by omega) (fun g => by have := b2 _ g; omega)]; exact kp b hb
      · left; rw [AH.set_n, AH.set_n]; omega
      · rw [AH.get_set_ne _ (by omega), AH.get_set_ne _ (by omega)]; exact k0
      · rw [AH.get_set_ne _ (by omega), AH.get_set_ne _ (by omega)]; exact k1
      · rw [AH.get_set_ne _ (by omega), AH.get_set_ne _ (by omega)]; exact k2
      · rw [AH.get_set_ne _ (by omega), AH.get_set_ne _ (by omega)]; exact k3
      · rw [AH.get_set_ne _ (by omega)]; exact AH.get_set_same _ (by omega)
      · rw [AH.get_set_same _ (by rw [AH.set_n]; omega)]; simp
      · rw [AH.get_set_ne _ (by omega), AH.get_set_ne _ (by omega)]; exact k6
      · rw [AH.get_set_ne _ (by omega), AH.get_set_ne _ (by omega)]; exact k7
      · rw [lowB_snoc, if_pos hfi, List.append_nil]
        refine o1.keep fun b hb => ?_
        have := b1 b hb
        rw [AH.get_set_ne _ (by omega), AH.get_set_ne _ (by omega)]
        exact hk2 b (lo b hb) (d12 b hb)
      · rw [highs_snoc, if_pos hfi, Nat.zero_add, List.map_append]
        refine oh.keep fun b hb => ?_
        rw [hb2' b hb, AH.get_set_ne _ (by omega), AH.get_set_ne _ (by omega)]
      · rw [lows_snoc, if_pos hfi, List.append_nil]
        refine o3.keep fun b hb => ?_
        have := b3 b hb
        rw [AH.get_set_ne _ (by omega), AH.get_set_ne _ (by omega)]
        exact hk2 b (lt' b hb) (fun g => d23 b g hb)
      · have := lo b hb; rw [hb2' b g] at this; omega
      · have := lt' b g; rw [hb2' b hb] at this; omega
      · rw [highs_snoc, if_pos hfi] at g; simp at g
    · rw [if_neg hfi] at hsc
      cases hbs : basicN y.1 with
      | false =>
        rw [hbs] at eb hsc
        rw [if_neg (by decide)] at hsc
        (repeat' first
    | (show WpR _ _ _ _ _ _ _ _ _
       first
       | refine wpr_drop ?_
       | refine wpr_p (o := .mv _) (by simp only [ev_mv, opd_s, opd_c, fget, Nat.reduceEqDiff, Nat.one_ne_zero, Nat.zero_ne_one, reduceCtorEq, ↓reduceIte]; rfl) ?_
       | (refine wpr_fork (fun _ => ?_) (fun _ => ?_) <;> try (exfalso; omega))
       | (refine wpr_forkN (fun _ => ?_) (fun _ => ?_) <;> try (exfalso; omega))
       | refine wpr_run rfl ?_
       | refine wpr_pass rfl rfl ?_
       | refine wpr_passS rfl ?_
       | ((first | apply wpr_p | apply wpr_r | apply wpr_callA | apply wpr_callA0 | apply wpr_e0 | apply wpr_e | apply wpr_end0); focus ((try simp (disch := first | omega | (simp only [AH.nn_push, AH.nn_set, AH.nn_kill]; omega) | (simp only [AH.nn_push, AH.nn_set, AH.nn_kill]; done) | fail) only [push_cast, Nat.reduceEqDiff, ↓reduceIte, reduceCtorEq, Nat.reduceAdd, Nat.reduceMul, Nat.reduceLeDiff, AH.get_push_eq, AH.get_push_ne, AH.get_set_eq, AH.get_set_ne, AH.push_n, AH.set_n, g0, g1, g2, g4, g5, eb]); rfl))
       | refine wpr_pass0 rfl rfl ?_
       | refine wpr_pass0S rfl ?_
       | (apply wpr_callvA; focus ((try simp (disch := first | omega | (simp only [AH.nn_push, AH.nn_set, AH.nn_kill]; omega) | (simp only [AH.nn_push, AH.nn_set, AH.nn_kill]; done) | fail) only [push_cast, Nat.reduceEqDiff, ↓reduceIte, reduceCtorEq, Nat.reduceAdd, Nat.reduceMul, Nat.reduceLeDiff, AH.get_push_eq, AH.get_push_ne, AH.get_set_eq, AH.get_set_ne, AH.push_n, AH.set_n, g0, g1, g2, g4, g5, eb]); rfl))
       | (apply wpr_end; (focus ((try simp (disch := first | omega | (simp only [AH.nn_push, AH.nn_set, AH.nn_kill]; omega) | (simp only [AH.nn_push, AH.nn_set, AH.nn_kill]; done) | fail) only [push_cast, Nat.reduceEqDiff, ↓reduceIte, reduceCtorEq, Nat.reduceAdd, Nat.reduceMul, Nat.reduceLeDiff, AH.get_push_eq, AH.get_push_ne, AH.get_set_eq, AH.get_set_ne, AH.push_n, AH.set_n, g0, g1, g2, g4, g5, eb]); rfl)); (focus (simp (disch := first | omega | (simp only [AH.nn_push, AH.nn_set, AH.nn_kill]; omega) | (simp only [AH.nn_push, AH.nn_set, AH.nn_kill]; done) | fail) only [push_cast, Nat.reduceEqDiff, ↓reduceIte, reduceCtorEq, Nat.reduceAdd, Nat.reduceMul, Nat.reduceLeDiff, AH.get_push_eq, AH.get_push_ne, AH.get_set_eq, AH.get_set_ne, AH.push_n, AH.set_n, g0, g1, g2, g4, g5, eb]; done)))
       | fail)
    | (show Wp _ _ _ _ _ _
       first
       | refine wp_seq ?_
       | refine wp_region0 ?_
       | refine wp_region ?_
       | refine wp_cond_t rfl ?_
       | refine wp_cond_f rfl ?_
       | refine wp_ret ?_
       | refine wp_skip ?_
       | refine wp_exit ?_
       | refine wp_block ?_
       | fail)
    | refine thenQ_norm ?_
    | refine thenQ_ret ?_
    | refine thenQ_exit ?_
    | refine blockQ_norm ?_
    | refine blockQ_ret ?_
    | refine blockQ_same ?_
    | refine blockQ_ne rfl ?_
    | refine loopQ_norm ?_
    | refine loopQ_ret ?_
    | refine loopQ_exit ?_
    | ((first | apply retQ_ret | apply retQ_norm | apply wpc_of); focus ((try simp (disch := first | omega | (simp only [AH.nn_push, AH.nn_set, AH.nn_kill]; omega) | (simp only [AH.nn_push, AH.nn_set, AH.nn_kill]; done) | fail) only [push_cast, Nat.reduceEqDiff, ↓reduceIte, reduceCtorEq, Nat.reduceAdd, Nat.reduceMul, Nat.reduceLeDiff, AH.get_push_eq, AH.get_push_ne, AH.get_set_eq, AH.get_set_ne, AH.push_n, AH.set_n, g0, g1, g2, g4, g5, eb]); rfl))
    | fail)
        rw [hsc]
        exact ⟨keep8 _ _, rfl, by decide, encG_of rfl kp (by omega)⟩
      | true =>
        rw [hbs] at eb
        have hy128 := basic_lt hbs
        have hu8 : ((UInt8.ofNat y.1).toNat : Int) = (y.1 : Int) := by rw [of_small (by omega)]
        (repeat' first
    | (show WpR _ _ _ _ _ _ _ _ _
       first
       | refine wpr_drop ?_
       | refine wpr_p (o := .mv _) (by simp only [ev_mv, opd_s, opd_c, fget, Nat.reduceEqDiff, Nat.one_ne_zero, Nat.zero_ne_one, reduceCtorEq, ↓reduceIte]; rfl) ?_
       | (refine wpr_fork (fun _ => ?_) (fun _ => ?_) <;> try (exfalso; omega))
       | (refine wpr_forkN (fun _ => ?_) (fun _ => ?_) <;> try (exfalso; omega))
       | refine wpr_run rfl ?_
       | refine wpr_pass rfl rfl ?_
       | refine wpr_passS rfl ?_
       | ((first | apply wpr_p | apply wpr_r | apply wpr_callA | apply wpr_callA0 | apply wpr_e0 | apply wpr_e | apply wpr_end0); focus ((try simp (disch := first | omega | (simp only [AH.nn_push, AH.nn_set, AH.nn_kill]; omega) | (simp only [AH.nn_push, AH.nn_set, AH.nn_kill]; done) | fail) only [push_cast, Nat.reduceEqDiff, ↓reduceIte, reduceCtorEq, Nat.reduceAdd, Nat.reduceMul, Nat.reduceLeDiff, AH.get_push_eq, AH.get_push_ne, AH.get_set_eq, AH.get_set_ne, AH.push_n, AH.set_n, g0, g1, g2, g3, g4, g5, eb]); rfl))
       | refine wpr_pass0 rfl rfl ?_
       | refine wpr_pass0S rfl ?_
       | (apply wpr_callvA; focus ((try simp (disch := first | omega | (simp only [AH.nn_push, AH.nn_set, AH.nn_kill]; omega) | (simp only [AH.nn_push, AH.nn_set, AH.nn_kill]; done) | fail) only [push_cast, Nat.reduceEqDiff, ↓reduceIte, reduceCtorEq, Nat.reduceAdd, Nat.reduceMul, Nat.reduceLeDiff, AH.get_push_eq, AH.get_push_ne, AH.get_set_eq, AH.get_set_ne, AH.push_n, AH.set_n, g0, g1, g2, g3, g4, g5, eb]); rfl))
       | (apply wpr_end; (focus ((try simp (disch := first | omega | (simp only [AH.nn_push, AH.nn_set, AH.nn_kill]; omega) | (simp only [AH.nn_push, AH.nn_set, AH.nn_kill]; done) | fail) only [push_cast, Nat.reduceEqDiff, ↓reduceIte, reduceCtorEq, Nat.reduceAdd, Nat.reduceMul, Nat.reduceLeDiff, AH.get_push_eq, AH.get_push_ne, AH.get_set_eq, AH.get_set_ne, AH.push_n, AH.set_n, g0, g1, g2, g3, g4, g5, eb]); rfl)); (focus (simp (disch := first | omega | (simp only [AH.nn_push, AH.nn_set, AH.nn_kill]; omega) | (simp only [AH.nn_push, AH.nn_set, AH.nn_kill]; done) | fail) only [push_cast, Nat.reduceEqDiff, ↓reduceIte, reduceCtorEq, Nat.reduceAdd, Nat.reduceMul, Nat.reduceLeDiff, AH.get_push_eq, AH.get_push_ne, AH.get_set_eq, AH.get_set_ne, AH.push_n, AH.set_n, g0, g1, g2, g3, g4, g5, eb]; done)))
       | fail)
    | (show Wp _ _ _ _ _ _
       first
       | refine wp_seq ?_
       | refine wp_region0 ?_
       | refine wp_region ?_
       | refine wp_cond_t rfl ?_
       | refine wp_cond_f rfl ?_
       | refine wp_ret ?_
       | refine wp_skip ?_
       | refine wp_exit ?_
       | refine wp_block ?_
       | fail)
    | refine thenQ_norm ?_
    | refine thenQ_ret ?_
    | refine thenQ_exit ?_
    | refine blockQ_norm ?_
    | refine blockQ_ret ?_
    | refine blockQ_same ?_
    | refine blockQ_ne rfl ?_
    | refine loopQ_norm ?_
    | refine loopQ_ret ?_
    | refine loopQ_exit ?_
    | ((first | apply retQ_ret | apply retQ_norm | apply wpc_of); focus ((try simp (disch := first | omega | (simp only [AH.nn_push, AH.nn_set, AH.nn_kill]; omega) | (simp only [AH.nn_push, AH.nn_set, AH.nn_kill]; done) | fail) only [push_cast, Nat.reduceEqDiff, ↓reduceIte, reduceCtorEq, Nat.reduceAdd, Nat.reduceMul, Nat.reduceLeDiff, AH.get_push_eq, AH.get_push_ne, AH.get_set_eq, AH.get_set_ne, AH.push_n, AH.set_n, g0, g1, g2, g3, g4, g5, eb]); rfl))
    | fail)
        refine wpr_appendR (yss := [byteV (UInt8.ofNat y.1)]) (k := 1) o1 rfl rfl (by rw [byteV, hu8]; rfl) rfl (by simp [byteV]) (by decide) (by decide) (by decide) (by simp; omega) fun so2 h2 oo eb2 hn2 hk2 => ?_
        have k0 := (hk2 _ l0 (n1 0 (by omega))).trans g0
        have k1 := (hk2 _ l1 (n1 1 (by omega))).trans g1
        have k2 := (hk2 _ l2 (n1 2 (by omega))).trans g2
        have k3 := (hk2 _ l3 (n1 3 (by omega))).trans g3
        have k4 := (hk2 _ l4 (n1 4 (by omega))).trans g4
        have k5 := (hk2 _ l5 (n1 5 (by omega))).trans g5
        have k6 := (hk2 _ l6 (n1 6 (by omega))).trans g6
        have k7 := (hk2 _ l7 (n1 7 (by omega))).trans g7
        have k8 := (hk2 _ l8 (n1 8 (by omega))).trans ho
        have hb2' : ∀ b, so2.blk = some b → b = h1.n := fun b hb => by rw [eb2] at hb; injection hb with hb; exact hb.symm
        have lsh := fun b (hb : sh.blk = some b) => o2.lt hb
        have lst := fun b (hb : st.blk = some b) => o3.lt hb
        (repeat' first
    | (show WpR _ _ _ _ _ _ _ _ _
       first
       | refine wpr_drop ?_
       | refine wpr_p (o := .mv _) (by simp only [ev_mv, opd_s, opd_c, fget, Nat.reduceEqDiff, Nat.one_ne_zero, Nat.zero_ne_one, reduceCtorEq, ↓reduceIte]; rfl) ?_
       | (refine wpr_fork (fun _ => ?_) (fun _ => ?_) <;> try (exfalso; omega))
       | (refine wpr_forkN (fun _ => ?_) (fun _ => ?_) <;> try (exfalso; omega))
       | refine wpr_run rfl ?_
       | refine wpr_pass rfl rfl ?_
       | refine wpr_passS rfl ?_
       | ((first | apply wpr_p | apply wpr_r | apply wpr_callA | apply wpr_callA0 | apply wpr_e0 | apply wpr_e | apply wpr_end0); focus ((try simp (disch := first | omega | (simp only [AH.nn_push, AH.nn_set, AH.nn_kill]; omega) | (simp only [AH.nn_push, AH.nn_set, AH.nn_kill]; done) | fail) only [push_cast, Nat.reduceEqDiff, ↓reduceIte, reduceCtorEq, Nat.reduceAdd, Nat.reduceMul, Nat.reduceLeDiff, AH.get_push_eq, AH.get_push_ne, AH.get_set_eq, AH.get_set_ne, AH.push_n, AH.set_n, k3, k5, k6]); rfl))
       | refine wpr_pass0 rfl rfl ?_
       | refine wpr_pass0S rfl ?_
       | (apply wpr_callvA; focus ((try simp (disch := first | omega | (simp only [AH.nn_push, AH.nn_set, AH.nn_kill]; omega) | (simp only [AH.nn_push, AH.nn_set, AH.nn_kill]; done) | fail) only [push_cast, Nat.reduceEqDiff, ↓reduceIte, reduceCtorEq, Nat.reduceAdd, Nat.reduceMul, Nat.reduceLeDiff, AH.get_push_eq, AH.get_push_ne, AH.get_set_eq, AH.get_set_ne, AH.push_n, AH.set_n, k3, k5, k6]); rfl))
       | (apply wpr_end; (focus ((try simp (disch := first | omega | (simp only [AH.nn_push, AH.nn_set, AH.nn_kill]; omega) | (simp only [AH.nn_push, AH.nn_set, AH.nn_kill]; done) | fail) only [push_cast, Nat.reduceEqDiff, ↓reduceIte, reduceCtorEq, Nat.reduceAdd, Nat.reduceMul, Nat.reduceLeDiff, AH.get_push_eq, AH.get_push_ne, AH.get_set_eq, AH.get_set_ne, AH.push_n, AH.set_n, k3, k5, k6]); rfl)); (focus (simp (disch := first | omega | (simp only [AH.nn_push, AH.nn_set, AH.nn_kill]; omega) | (simp only [AH.nn_push, AH.nn_set, AH.nn_kill]; done) | fail) only [push_cast, Nat.reduceEqDiff, ↓reduceIte, reduceCtorEq, Nat.reduceAdd, Nat.reduceMul, Nat.reduceLeDiff, AH.get_push_eq, AH.get_push_ne, AH.get_set_eq, AH.get_set_ne, AH.push_n, AH.set_n, k3, k5, k6]; done)))
       | fail)
    | (show Wp _ _ _ _ _ _
       first
       | refine wp_seq ?_
       | refine wp_region0 ?_
       | refine wp_region ?_
       | refine wp_cond_t rfl ?_
       | refine wp_cond_f rfl ?_
       | refine wp_ret ?_
       | refine wp_skip ?_
       | refine wp_exit ?_
       | refine wp_block ?_
       | fail)
    | refine thenQ_norm ?_
    | refine thenQ_ret ?_
    | refine thenQ_exit ?_
    | refine blockQ_norm ?_
    | refine blockQ_ret ?_
    | refine blockQ_same ?_
    | refine blockQ_ne rfl ?_
    | refine loopQ_norm ?_
    | refine loopQ_ret ?_
    | refine loopQ_exit ?_
    | ((first | apply retQ_ret | apply retQ_norm | apply wpc_of); focus ((try simp (disch := first | omega | (simp only [AH.nn_push, AH.nn_set, AH.nn_kill]; omega) | (simp only [AH.nn_push, AH.nn_set, AH.nn_kill]; done) | fail) only [push_cast, Nat.reduceEqDiff, ↓reduceIte, reduceCtorEq, Nat.reduceAdd, Nat.reduceMul, Nat.reduceLeDiff, AH.get_push_eq, AH.get_push_ne, AH.get_set_eq, AH.get_set_ne, AH.push_n, AH.set_n, k3, k5, k6]); rfl))
    | fail)
        obtain ⟨h3, eh3⟩ : ∃ h3, h3 = h2.set (h.n + 3) (.cells false [so2.val 1]) := ⟨_, rfl⟩
        rw [← eh3]
        have hn3 : h3.n = h2.n := by rw [eh3]; rfl
        have m : ∀ b, b ≠ h.n + 3 → h3.get b = h2.get b := fun b hb => by rw [eh3]; exact AH.get_set_ne _ hb
        have m3 : h3.get (h.n + 3) = some (.cells false [so2.val 1]) := by rw [eh3]; exact AH.get_set_same _ (by omega)
        have o3' : Own h3 1 st ((lowsOf p.first 0 R).map intV) := o3.keep fun b hb => by
          have := b3 b hb
          rw [m b (by omega)]
          exact hk2 b (lst b hb) (fun g => d13 b g hb)
        refine wpr_appendR (yss := [intV R.length]) (k := 1) o3' rfl rfl rfl rfl (by simp [intV]) (by decide) (by decide) (by decide) (by simp; omega) fun st2 h4 ot eb4 hn4 hk4 => ?_
        have q0 := ((hk4 _ (by omega) (n3 0 (by omega))).trans (m _ (by omega))).trans k0
        have q1 := ((hk4 _ (by omega) (n3 1 (by omega))).trans (m _ (by omega))).trans k1
        have q2 := ((hk4 _ (by omega) (n3 2 (by omega))).trans (m _ (by omega))).trans k2
        have q3 := (hk4 _ (by omega) (n3 3 (by omega))).trans m3
        have q4 := ((hk4 _ (by omega) (n3 4 (by omega))).trans (m _ (by omega))).trans k4
        have q5 := ((hk4 _ (by omega) (n3 5 (by omega))).trans (m _ (by omega))).trans k5
        have q6 := ((hk4 _ (by omega) (n3 6 (by omega))).trans (m _ (by omega))).trans k6
        have q7 := ((hk4 _ (by omega) (n3 7 (by omega))).trans (m _ (by omega))).trans k7
        have q8 := ((hk4 _ (by omega) (n3 8 (by omega))).trans (m _ (by omega))).trans k8
        have hb4' : ∀ b, st2.blk = some b → b = h3.n := fun b hb => by rw [eb4] at hb; injection hb with hb; exact hb.symm
        (repeat' first
    | (show WpR _ _ _ _ _ _ _ _ _
       first
       | refine wpr_drop ?_
       | refine wpr_p (o := .mv _) (by simp only [ev_mv, opd_s, opd_c, fget, Nat.reduceEqDiff, Nat.one_ne_zero, Nat.zero_ne_one, reduceCtorEq, ↓reduceIte]; rfl) ?_
       | (refine wpr_fork (fun _ => ?_) (fun _ => ?_) <;> try (exfalso; omega))
       | (refine wpr_forkN (fun _ => ?_) (fun _ => ?_) <;> try (exfalso; omega))
       | refine wpr_run rfl ?_
       | refine wpr_pass rfl rfl ?_
       | refine wpr_passS rfl ?_
       | ((first | apply wpr_p | apply wpr_r | apply wpr_callA | apply wpr_callA0 | apply wpr_e0 | apply wpr_e | apply wpr_end0); focus ((try simp (disch := first | omega | (simp only [AH.nn_push, AH.nn_set, AH.nn_kill]; omega) | (simp only [AH.nn_push, AH.nn_set, AH.nn_kill]; done) | fail) only [push_cast, Nat.reduceEqDiff, ↓reduceIte, reduceCtorEq, Nat.reduceAdd, Nat.reduceMul, Nat.reduceLeDiff, AH.get_push_eq, AH.get_push_ne, AH.get_set_eq, AH.get_set_ne, AH.push_n, AH.set_n, q5, q6]); rfl))
       | refine wpr_pass0 rfl rfl ?_
       | refine wpr_pass0S rfl ?_
       | (apply wpr_callvA; focus ((try simp (disch := first | omega | (simp only [AH.nn_push, AH.nn_set, AH.nn_kill]; omega) | (simp only [AH.nn_push, AH.nn_set, AH.nn_kill]; done) | fail) only [push_cast, Nat.reduceEqDiff, ↓reduceIte, reduceCtorEq, Nat.reduceAdd, Nat.reduceMul, Nat.reduceLeDiff, AH.get_push_eq, AH.get_push_ne, AH.get_set_eq, AH.get_set_ne, AH.push_n, AH.set_n, q5, q6]); rfl))
       | (apply wpr_end; (focus ((try simp (disch := first | omega | (simp only [AH.nn_push, AH.nn_set, AH.nn_kill]; omega) | (simp only [AH.nn_push, AH.nn_set, AH.nn_kill]; done) | fail) only [push_cast, Nat.reduceEqDiff, ↓reduceIte, reduceCtorEq, Nat.reduceAdd, Nat.reduceMul, Nat.reduceLeDiff, AH.get_push_eq, AH.get_push_ne, AH.get_set_eq, AH.get_set_ne, AH.push_n, AH.set_n, q5, q6]); rfl)); (focus (simp (disch := first | omega | (simp only [AH.nn_push, AH.nn_set, AH.nn_kill]; omega) | (simp only [AH.nn_push, AH.nn_set, AH.nn_kill]; done) | fail) only [push_cast, Nat.reduceEqDiff, ↓reduceIte, reduceCtorEq, Nat.reduceAdd, Nat.reduceMul, Nat.reduceLeDiff, AH.get_push_eq, AH.get_push_ne, AH.get_set_eq, AH.get_set_ne, AH.push_n, AH.set_n, q5, q6]; done)))
       | fail)
    | (show Wp _ _ _ _ _ _
       first
       | refine wp_seq ?_
       | refine wp_region0 ?_
       | refine wp_region ?_
       | refine wp_cond_t rfl ?_
       | refine wp_cond_f rfl ?_
       | refine wp_ret ?_
       | refine wp_skip ?_
       | refine wp_exit ?_
       | refine wp_block ?_
       | fail)
    | refine thenQ_norm ?_
    | refine thenQ_ret ?_
    | refine thenQ_exit ?_
    | refine blockQ_norm ?_
    | refine blockQ_ret ?_
    | refine blockQ_same ?_
    | refine blockQ_ne rfl ?_
    | refine loopQ_norm ?_
    | refine loopQ_ret ?_
    | refine loopQ_exit ?_
    | ((first | apply retQ_ret | apply retQ_norm | apply wpc_of); focus ((try simp (disch := first | omega | (simp only [AH.nn_push, AH.nn_set, AH.nn_kill]; omega) | (simp only [AH.nn_push, AH.nn_set, AH.nn_kill]; done) | fail) only [push_cast, Nat.reduceEqDiff, ↓reduceIte, reduceCtorEq, Nat.reduceAdd, Nat.reduceMul, Nat.reduceLeDiff, AH.get_push_eq, AH.get_push_ne, AH.get_set_eq, AH.get_set_ne, AH.push_n, AH.set_n, q5, q6]); rfl))
    | fail)
        refine ⟨by rw [AH.get_set_ne _ (by omega), AH.get_set_ne _ (by omega)]; exact q8, by omega, rfl, .inr rfl, so2, sh, st2, ?_⟩
        refine ⟨fun b hb => ?_, ?_, ?_, ?_, ?_, ?_, ?_, ?_, ?_, ?_, ?_, ?_, ?_, fun b hb => by rw [hb2' b hb]; omega, b2, fun b hb => by rw [hb4' b hb]; omega, fun b hb g => ?_, fun b hb g => ?_, fun b hb g => ?_, fun g => ?_⟩
        · rw [AH.get_set_ne _ (by omega), AH.get_set_ne _ (by omega), hk4 b (by omega) (fun g => by have := b3 _ g; omega), m b (by omega), hk2 b (by omega) (fun g => by have := b1 _ g; omega)]; exact kp b hb
        · left; rw [AH.set_n, AH.set_n]; omega
        · rw [AH.get_set_ne _ (by omega), AH.get_set_ne _ (by omega)]; exact q0
        · rw [AH.get_set_ne _ (by omega), AH.get_set_ne _ (by omega)]; exact q1
        · rw [AH.get_set_ne _ (by omega), AH.get_set_ne _ (by omega)]; exact q2
        · rw [AH.get_set_ne _ (by omega), AH.get_set_ne _ (by omega)]; exact q3
        · rw [AH.get_set_ne _ (by omega), AH.get_set_ne _ (by omega)]; exact q4
        · rw [AH.get_set_same _ (by rw [AH.set_n]; omega)]; simp
        · rw [AH.get_set_ne _ (by omega)]; exact AH.get_set_same _ (by omega)
        · rw [AH.get_set_ne _ (by omega), AH.get_set_ne _ (by omega)]; exact q7
        · rw [lowB_snoc, if_neg hfi, List.map_append]
          refine oo.keep fun b hb => ?_
          rw [hb2' b hb, AH.get_set_ne _ (by omega), AH.get_set_ne _ (by omega), hk4 _ (by omega) (fun g => by have := lst _ g; omega), m _ (by omega)]
        · rw [highs_snoc, if_neg hfi, List.append_nil]
          refine o2.keep fun b hb => ?_
          have := b2 b hb
          have := lsh b hb
          rw [AH.get_set_ne _ (by omega), AH.get_set_ne _ (by omega), hk4 b (by omega) (d23 b hb), m b (by omega)]
          exact hk2 b (by omega) (fun g => d12 b g hb)
        · rw [lows_snoc, if_neg hfi, Nat.zero_add, List.map_append]
          refine ot.keep fun b hb => ?_
          rw [hb4' b hb, AH.get_set_ne _ (by omega), AH.get_set_ne _ (by omega)]
        · have := lsh b g; rw [hb2' b hb] at this; omega
        · rw [hb2' b hb] at g; have := hb4' _ g; omega
        · have := lsh b hb; rw [hb4' b g] at this; omega
        · rw [highs_snoc, if_neg hfi, List.append_nil] at g; exact e2 g

end Go.Proofs.Ytmfpkgcphlilmaa.AM
