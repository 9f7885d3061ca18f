/- Back; bringing a number into bounds. -/
import Derived.Test.YtanpdopjgepbkaaAllB
set_option linter.unusedVariables false
set_option linter.unusedSimpArgs false
namespace Go.Proofs.Ytanpdopjgepbkaa.AM
open Go

/-- Rows with their numbers, from the last one on. -/
def backL (C : List (Int × Int)) : List (Nat × (Int × Int)) := (List.range C.length).map fun (k : Nat) => (C.length - 1 - k, C.getD (C.length - 1 - k) (0, 0))
def backV (x : Nat × (Int × Int)) : List Value := [.int .i64 (x.1 : Int), .agg (List.toArray [.int .i64 x.2.1, .int .i64 x.2.2])]

theorem backL_len (C : List (Int × Int)) : (backL C).length = C.length := by simp [backL]

theorem backward_seq {C : List (Int × Int)} {bs : Nat} {t : Sl} (hn : C.length < 1000000000) :
    Seq PS (.func (.func 90) #[] #[.pointer (some ⟨bs, 0, none⟩)]) (backL C) backV (fun h => h.get bs = some (.cells false [t.val 2]) ∧ Reads h 2 t (C.map rowV)) := by
  intro yv I E h hyv hvs hc hD h0
  obtain ⟨d1, d2⟩ := hD _ _ _ h0
  have hlen := d2.len
  have hset := hyv.set
  have hlc1 := hyv.lc1
  refine wpV_fn ?_
  refine wpc_fn (ps_ext rfl) (ps_fn fn90) rfl ?_
  unfold LF90
  simp only [argFr, List.nil_append, List.cons_append]
  (repeat' first
    | (show WpR _ _ _ _ _ _ _ _ _
       first
       | refine wpr_p (o := .mv _) (by simp only [ev_mv, opd_s, opd_c, fget, Nat.reduceEqDiff, Nat.one_ne_zero, Nat.zero_ne_one, reduceCtorEq, ↓reduceIte]; rfl) ?_
       | (refine wpr_fork (fun _ => ?_) (fun _ => ?_) <;> try (exfalso; omega))
       | (refine wpr_forkN (fun _ => ?_) (fun _ => ?_) <;> try (exfalso; omega))
       | refine wpr_p (by simp (disch := omega) only [push_cast, Nat.reduceEqDiff, ↓reduceIte, reduceCtorEq, Nat.reduceAdd, Nat.reduceMul, Nat.reduceLeDiff, hlen, d1, hset, hlc1]; rfl) ?_
       | refine wpr_r (by simp (disch := omega) only [push_cast, Nat.reduceEqDiff, ↓reduceIte, reduceCtorEq, Nat.reduceAdd, Nat.reduceMul, Nat.reduceLeDiff, hlen, d1, hset, hlc1]; rfl) ?_
       | refine wpr_run rfl ?_
       | refine wpr_pass rfl rfl ?_
       | refine wpr_passS rfl ?_
       | refine wpr_call (by (try simp (disch := omega) only [push_cast, Nat.reduceEqDiff, ↓reduceIte, reduceCtorEq, Nat.reduceAdd, Nat.reduceMul, Nat.reduceLeDiff, hlen, d1, hset, hlc1]) <;> rfl) (by first | rfl | simp only [push_cast, Nat.reduceEqDiff, ↓reduceIte, reduceCtorEq, Nat.reduceAdd, Nat.reduceMul, Nat.reduceLeDiff, hlen, d1, hset, hlc1]) ?_
       | refine wpr_e0 (by simp (disch := omega) only [push_cast, Nat.reduceEqDiff, ↓reduceIte, reduceCtorEq, Nat.reduceAdd, Nat.reduceMul, Nat.reduceLeDiff, hlen, d1, hset, hlc1]; rfl) ?_
       | refine wpr_e (by simp (disch := omega) only [push_cast, Nat.reduceEqDiff, ↓reduceIte, reduceCtorEq, Nat.reduceAdd, Nat.reduceMul, Nat.reduceLeDiff, hlen, d1, hset, hlc1]; rfl) ?_
       | refine wpr_nil (by first | exact chkT_nil | (simp (disch := omega) only [push_cast, Nat.reduceEqDiff, ↓reduceIte, reduceCtorEq, Nat.reduceAdd, Nat.reduceMul, Nat.reduceLeDiff, hlen, d1, hset, hlc1]; done)) (by (try simp only [push_cast, Nat.reduceEqDiff, ↓reduceIte, reduceCtorEq, Nat.reduceAdd, Nat.reduceMul, Nat.reduceLeDiff, hlen, d1, hset, hlc1]); rfl) (by (try simp only [push_cast, Nat.reduceEqDiff, ↓reduceIte, reduceCtorEq, Nat.reduceAdd, Nat.reduceMul, Nat.reduceLeDiff, hlen, d1, hset, hlc1]); rfl) ?_
       | refine wpr_pass0 rfl rfl ?_
       | refine wpr_pass0S rfl ?_)
    | (show Wp _ _ _ _ _ _
       first
       | refine wp_seq ?_
       | refine wp_region ?_
       | refine wp_cond_t rfl ?_
       | refine wp_cond_f rfl ?_
       | refine wp_ret ?_
       | refine wp_skip ?_
       | refine wp_exit ?_
       | refine wp_block ?_)
    | refine thenQ_norm ?_
    | refine thenQ_ret ?_
    | refine thenQ_exit ?_
    | refine blockQ_norm ?_
    | refine blockQ_ret ?_
    | refine blockQ_same ?_
    | refine blockQ_ne rfl ?_
    | refine loopQ_norm ?_
    | refine loopQ_ret ?_
    | refine loopQ_exit ?_
    | refine retQ_ret (by (try simp (disch := omega) only [push_cast, Nat.reduceEqDiff, ↓reduceIte, reduceCtorEq, Nat.reduceAdd, Nat.reduceMul, Nat.reduceLeDiff, hlen, d1, hset, hlc1]); rfl) ?_
    | refine retQ_norm (by (try simp (disch := omega) only [push_cast, Nat.reduceEqDiff, ↓reduceIte, reduceCtorEq, Nat.reduceAdd, Nat.reduceMul, Nat.reduceLeDiff, hlen, d1, hset, hlc1]); rfl) ?_
    | refine wpc_of (by simp (disch := omega) only [push_cast, Nat.reduceEqDiff, ↓reduceIte, reduceCtorEq, Nat.reduceAdd, Nat.reduceMul, Nat.reduceLeDiff, hlen, d1, hset, hlc1]; rfl) ?_)
  refine wp_loop (fun n fr lc h1 => ∃ (k : Nat) (T : Nat → Prop), n = C.length - k ∧ k ≤ C.length ∧ fr = [(0, yv), (1, .pointer (some ⟨bs, 0, none⟩)), (3, .int .i64 (C.length - 1 - (k : Int)))] ∧ lc = [] ∧ I k T h1)
    C.length ⟨0, _, rfl, Nat.zero_le _, by simp, rfl, h0⟩ ?_
  clear h0 d1 d2
  rintro n fr lc h1 ⟨k, T, rfl, hk, rfl, rfl, hI⟩
  obtain ⟨d1, d2⟩ := hD _ _ _ hI
  rcases Nat.lt_or_ge k C.length with hkl | hkl
  · have hil : C.length - 1 - k < C.length := by omega
    have hxr : ∀ lc, Mem.rd ⟨lc, h1⟩ (t.adr 2 ((C.length : Int) - 1 - (k : Int)).toNat) 2 = some (rowV C[C.length - 1 - k]) := fun lc => by
      have := rd_map (lc := lc) d2 hil
      rw [show ((C.length : Int) - 1 - (k : Int)).toNat = C.length - 1 - k by omega]
      exact this
    have hst := hc.step k (by rw [backL_len]; exact hkl) T h1 hI
    have hx : backV ((backL C)[k]'(by rw [backL_len]; exact hkl)) = [.int .i64 ((C.length : Int) - 1 - (k : Int)), .agg (List.toArray [.int .i64 (C[C.length - 1 - k]).1, .int .i64 (C[C.length - 1 - k]).2])] := by
      simp only [backL, backV, List.getElem_map, List.getElem_range, List.getD_eq_getElem?_getD, List.getElem?_eq_getElem hil, Option.getD_some]
      congr 2
      omega
    rw [hx] at hst
    generalize C[C.length - 1 - k] = x at hxr hst
    (repeat' first
    | (show WpR _ _ _ _ _ _ _ _ _
       first
       | refine wpr_p (o := .mv _) (by simp only [ev_mv, opd_s, opd_c, fget, Nat.reduceEqDiff, Nat.one_ne_zero, Nat.zero_ne_one, reduceCtorEq, ↓reduceIte]; rfl) ?_
       | (refine wpr_fork (fun _ => ?_) (fun _ => ?_) <;> try (exfalso; omega))
       | (refine wpr_forkN (fun _ => ?_) (fun _ => ?_) <;> try (exfalso; omega))
       | refine wpr_p (by simp (disch := omega) only [push_cast, Nat.reduceEqDiff, ↓reduceIte, reduceCtorEq, Nat.reduceAdd, Nat.reduceMul, Nat.reduceLeDiff, hlen, d1, hxr, rowV, hset, hlc1]; rfl) ?_
       | refine wpr_r (by simp (disch := omega) only [push_cast, Nat.reduceEqDiff, ↓reduceIte, reduceCtorEq, Nat.reduceAdd, Nat.reduceMul, Nat.reduceLeDiff, hlen, d1, hxr, rowV, hset, hlc1]; rfl) ?_
       | refine wpr_run rfl ?_
       | refine wpr_pass rfl rfl ?_
       | refine wpr_passS rfl ?_
       | refine wpr_call (by (try simp (disch := omega) only [push_cast, Nat.reduceEqDiff, ↓reduceIte, reduceCtorEq, Nat.reduceAdd, Nat.reduceMul, Nat.reduceLeDiff, hlen, d1, hxr, rowV, hset, hlc1]) <;> rfl) (by first | rfl | simp only [push_cast, Nat.reduceEqDiff, ↓reduceIte, reduceCtorEq, Nat.reduceAdd, Nat.reduceMul, Nat.reduceLeDiff, hlen, d1, hxr, rowV, hset, hlc1]) ?_
       | refine wpr_e0 (by simp (disch := omega) only [push_cast, Nat.reduceEqDiff, ↓reduceIte, reduceCtorEq, Nat.reduceAdd, Nat.reduceMul, Nat.reduceLeDiff, hlen, d1, hxr, rowV, hset, hlc1]; rfl) ?_
       | refine wpr_e (by simp (disch := omega) only [push_cast, Nat.reduceEqDiff, ↓reduceIte, reduceCtorEq, Nat.reduceAdd, Nat.reduceMul, Nat.reduceLeDiff, hlen, d1, hxr, rowV, hset, hlc1]; rfl) ?_
       | refine wpr_nil (by first | exact chkT_nil | (simp (disch := omega) only [push_cast, Nat.reduceEqDiff, ↓reduceIte, reduceCtorEq, Nat.reduceAdd, Nat.reduceMul, Nat.reduceLeDiff, hlen, d1, hxr, rowV, hset, hlc1]; done)) (by (try simp only [push_cast, Nat.reduceEqDiff, ↓reduceIte, reduceCtorEq, Nat.reduceAdd, Nat.reduceMul, Nat.reduceLeDiff, hlen, d1, hxr, rowV, hset, hlc1]); rfl) (by (try simp only [push_cast, Nat.reduceEqDiff, ↓reduceIte, reduceCtorEq, Nat.reduceAdd, Nat.reduceMul, Nat.reduceLeDiff, hlen, d1, hxr, rowV, hset, hlc1]); rfl) ?_
       | refine wpr_pass0 rfl rfl ?_
       | refine wpr_pass0S rfl ?_)
    | (show Wp _ _ _ _ _ _
       first
       | refine wp_seq ?_
       | refine wp_region ?_
       | refine wp_cond_t rfl ?_
       | refine wp_cond_f rfl ?_
       | refine wp_ret ?_
       | refine wp_skip ?_
       | refine wp_exit ?_
       | refine wp_block ?_)
    | refine thenQ_norm ?_
    | refine thenQ_ret ?_
    | refine thenQ_exit ?_
    | refine blockQ_norm ?_
    | refine blockQ_ret ?_
    | refine blockQ_same ?_
    | refine blockQ_ne rfl ?_
    | refine loopQ_norm ?_
    | refine loopQ_ret ?_
    | refine loopQ_exit ?_
    | refine retQ_ret (by (try simp (disch := omega) only [push_cast, Nat.reduceEqDiff, ↓reduceIte, reduceCtorEq, Nat.reduceAdd, Nat.reduceMul, Nat.reduceLeDiff, hlen, d1, hxr, rowV, hset, hlc1]); rfl) ?_
    | refine retQ_norm (by (try simp (disch := omega) only [push_cast, Nat.reduceEqDiff, ↓reduceIte, reduceCtorEq, Nat.reduceAdd, Nat.reduceMul, Nat.reduceLeDiff, hlen, d1, hxr, rowV, hset, hlc1]); rfl) ?_
    | refine wpc_of (by simp (disch := omega) only [push_cast, Nat.reduceEqDiff, ↓reduceIte, reduceCtorEq, Nat.reduceAdd, Nat.reduceMul, Nat.reduceLeDiff, hlen, d1, hxr, rowV, hset, hlc1]; rfl) ?_)
    refine wpr_callV (fv := yv) rfl rfl rfl ?_
    refine hst.mono ?_
    rintro v h2 ⟨hor, _, _⟩
    rcases hor with ⟨rfl, hI2⟩ | ⟨rfl, hE⟩
    · (repeat' first
    | (show WpR _ _ _ _ _ _ _ _ _
       first
       | refine wpr_p (o := .mv _) (by simp only [ev_mv, opd_s, opd_c, fget, Nat.reduceEqDiff, Nat.one_ne_zero, Nat.zero_ne_one, reduceCtorEq, ↓reduceIte]; rfl) ?_
       | (refine wpr_fork (fun _ => ?_) (fun _ => ?_) <;> try (exfalso; omega))
       | (refine wpr_forkN (fun _ => ?_) (fun _ => ?_) <;> try (exfalso; omega))
       | refine wpr_p (by simp (disch := omega) only [push_cast, Nat.reduceEqDiff, ↓reduceIte, reduceCtorEq, Nat.reduceAdd, Nat.reduceMul, Nat.reduceLeDiff, hset, hlc1]; rfl) ?_
       | refine wpr_r (by simp (disch := omega) only [push_cast, Nat.reduceEqDiff, ↓reduceIte, reduceCtorEq, Nat.reduceAdd, Nat.reduceMul, Nat.reduceLeDiff, hset, hlc1]; rfl) ?_
       | refine wpr_run rfl ?_
       | refine wpr_pass rfl rfl ?_
       | refine wpr_passS rfl ?_
       | refine wpr_call (by (try simp (disch := omega) only [push_cast, Nat.reduceEqDiff, ↓reduceIte, reduceCtorEq, Nat.reduceAdd, Nat.reduceMul, Nat.reduceLeDiff, hset, hlc1]) <;> rfl) (by first | rfl | simp only [push_cast, Nat.reduceEqDiff, ↓reduceIte, reduceCtorEq, Nat.reduceAdd, Nat.reduceMul, Nat.reduceLeDiff, hset, hlc1]) ?_
       | refine wpr_e0 (by simp (disch := omega) only [push_cast, Nat.reduceEqDiff, ↓reduceIte, reduceCtorEq, Nat.reduceAdd, Nat.reduceMul, Nat.reduceLeDiff, hset, hlc1]; rfl) ?_
       | refine wpr_e (by simp (disch := omega) only [push_cast, Nat.reduceEqDiff, ↓reduceIte, reduceCtorEq, Nat.reduceAdd, Nat.reduceMul, Nat.reduceLeDiff, hset, hlc1]; rfl) ?_
       | refine wpr_nil (by first | exact chkT_nil | (simp (disch := omega) only [push_cast, Nat.reduceEqDiff, ↓reduceIte, reduceCtorEq, Nat.reduceAdd, Nat.reduceMul, Nat.reduceLeDiff, hset, hlc1]; done)) (by (try simp only [push_cast, Nat.reduceEqDiff, ↓reduceIte, reduceCtorEq, Nat.reduceAdd, Nat.reduceMul, Nat.reduceLeDiff, hset, hlc1]); rfl) (by (try simp only [push_cast, Nat.reduceEqDiff, ↓reduceIte, reduceCtorEq, Nat.reduceAdd, Nat.reduceMul, Nat.reduceLeDiff, hset, hlc1]); rfl) ?_
       | refine wpr_pass0 rfl rfl ?_
       | refine wpr_pass0S rfl ?_)
    | (show Wp _ _ _ _ _ _
       first
       | refine wp_seq ?_
       | refine wp_region ?_
       | refine wp_cond_t rfl ?_
       | refine wp_cond_f rfl ?_
       | refine wp_ret ?_
       | refine wp_skip ?_
       | refine wp_exit ?_
       | refine wp_block ?_)
    | refine thenQ_norm ?_
    | refine thenQ_ret ?_
    | refine thenQ_exit ?_
    | refine blockQ_norm ?_
    | refine blockQ_ret ?_
    | refine blockQ_same ?_
    | refine blockQ_ne rfl ?_
    | refine loopQ_norm ?_
    | refine loopQ_ret ?_
    | refine loopQ_exit ?_
    | refine retQ_ret (by (try simp (disch := omega) only [push_cast, Nat.reduceEqDiff, ↓reduceIte, reduceCtorEq, Nat.reduceAdd, Nat.reduceMul, Nat.reduceLeDiff, hset, hlc1]); rfl) ?_
    | refine retQ_norm (by (try simp (disch := omega) only [push_cast, Nat.reduceEqDiff, ↓reduceIte, reduceCtorEq, Nat.reduceAdd, Nat.reduceMul, Nat.reduceLeDiff, hset, hlc1]); rfl) ?_
    | refine wpc_of (by simp (disch := omega) only [push_cast, Nat.reduceEqDiff, ↓reduceIte, reduceCtorEq, Nat.reduceAdd, Nat.reduceMul, Nat.reduceLeDiff, hset, hlc1]; rfl) ?_)
      refine ⟨_, ?_, k + 1, T, rfl, by omega, ?_, rfl, hI2⟩
      · omega
      · congr 5; omega
    · (repeat' first
    | (show WpR _ _ _ _ _ _ _ _ _
       first
       | refine wpr_p (o := .mv _) (by simp only [ev_mv, opd_s, opd_c, fget, Nat.reduceEqDiff, Nat.one_ne_zero, Nat.zero_ne_one, reduceCtorEq, ↓reduceIte]; rfl) ?_
       | (refine wpr_fork (fun _ => ?_) (fun _ => ?_) <;> try (exfalso; omega))
       | (refine wpr_forkN (fun _ => ?_) (fun _ => ?_) <;> try (exfalso; omega))
       | refine wpr_p (by simp (disch := omega) only [push_cast, Nat.reduceEqDiff, ↓reduceIte, reduceCtorEq, Nat.reduceAdd, Nat.reduceMul, Nat.reduceLeDiff, hset, hlc1]; rfl) ?_
       | refine wpr_r (by simp (disch := omega) only [push_cast, Nat.reduceEqDiff, ↓reduceIte, reduceCtorEq, Nat.reduceAdd, Nat.reduceMul, Nat.reduceLeDiff, hset, hlc1]; rfl) ?_
       | refine wpr_run rfl ?_
       | refine wpr_pass rfl rfl ?_
       | refine wpr_passS rfl ?_
       | refine wpr_call (by (try simp (disch := omega) only [push_cast, Nat.reduceEqDiff, ↓reduceIte, reduceCtorEq, Nat.reduceAdd, Nat.reduceMul, Nat.reduceLeDiff, hset, hlc1]) <;> rfl) (by first | rfl | simp only [push_cast, Nat.reduceEqDiff, ↓reduceIte, reduceCtorEq, Nat.reduceAdd, Nat.reduceMul, Nat.reduceLeDiff, hset, hlc1]) ?_
       | refine wpr_e0 (by simp (disch := omega) only [push_cast, Nat.reduceEqDiff, ↓reduceIte, reduceCtorEq, Nat.reduceAdd, Nat.reduceMul, Nat.reduceLeDiff, hset, hlc1]; rfl) ?_
       | refine wpr_e (by simp (disch := omega) only [push_cast, Nat.reduceEqDiff, ↓reduceIte, reduceCtorEq, Nat.reduceAdd, Nat.reduceMul, Nat.reduceLeDiff, hset, hlc1]; rfl) ?_
       | refine wpr_nil (by first | exact chkT_nil | (simp (disch := omega) only [push_cast, Nat.reduceEqDiff, ↓reduceIte, reduceCtorEq, Nat.reduceAdd, Nat.reduceMul, Nat.reduceLeDiff, hset, hlc1]; done)) (by (try simp only [push_cast, Nat.reduceEqDiff, ↓reduceIte, reduceCtorEq, Nat.reduceAdd, Nat.reduceMul, Nat.reduceLeDiff, hset, hlc1]); rfl) (by (try simp only [push_cast, Nat.reduceEqDiff, ↓reduceIte, reduceCtorEq, Nat.reduceAdd, Nat.reduceMul, Nat.reduceLeDiff, hset, hlc1]); rfl) ?_
       | refine wpr_pass0 rfl rfl ?_
       | refine wpr_pass0S rfl ?_)
    | (show Wp _ _ _ _ _ _
       first
       | refine wp_seq ?_
       | refine wp_region ?_
       | refine wp_cond_t rfl ?_
       | refine wp_cond_f rfl ?_
       | refine wp_ret ?_
       | refine wp_skip ?_
       | refine wp_exit ?_
       | refine wp_block ?_)
    | refine thenQ_norm ?_
    | refine thenQ_ret ?_
    | refine thenQ_exit ?_
    | refine blockQ_norm ?_
    | refine blockQ_ret ?_
    | refine blockQ_same ?_
    | refine blockQ_ne rfl ?_
    | refine loopQ_norm ?_
    | refine loopQ_ret ?_
    | refine loopQ_exit ?_
    | refine retQ_ret (by (try simp (disch := omega) only [push_cast, Nat.reduceEqDiff, ↓reduceIte, reduceCtorEq, Nat.reduceAdd, Nat.reduceMul, Nat.reduceLeDiff, hset, hlc1]); rfl) ?_
    | refine retQ_norm (by (try simp (disch := omega) only [push_cast, Nat.reduceEqDiff, ↓reduceIte, reduceCtorEq, Nat.reduceAdd, Nat.reduceMul, Nat.reduceLeDiff, hset, hlc1]); rfl) ?_
    | refine wpc_of (by simp (disch := omega) only [push_cast, Nat.reduceEqDiff, ↓reduceIte, reduceCtorEq, Nat.reduceAdd, Nat.reduceMul, Nat.reduceLeDiff, hset, hlc1]; rfl) ?_)
      exact ⟨T, .inr hE⟩
  · (repeat' first
    | (show WpR _ _ _ _ _ _ _ _ _
       first
       | refine wpr_p (o := .mv _) (by simp only [ev_mv, opd_s, opd_c, fget, Nat.reduceEqDiff, Nat.one_ne_zero, Nat.zero_ne_one, reduceCtorEq, ↓reduceIte]; rfl) ?_
       | (refine wpr_fork (fun _ => ?_) (fun _ => ?_) <;> try (exfalso; omega))
       | (refine wpr_forkN (fun _ => ?_) (fun _ => ?_) <;> try (exfalso; omega))
       | refine wpr_p (by simp (disch := omega) only [push_cast, Nat.reduceEqDiff, ↓reduceIte, reduceCtorEq, Nat.reduceAdd, Nat.reduceMul, Nat.reduceLeDiff, hlen, hset, hlc1]; rfl) ?_
       | refine wpr_r (by simp (disch := omega) only [push_cast, Nat.reduceEqDiff, ↓reduceIte, reduceCtorEq, Nat.reduceAdd, Nat.reduceMul, Nat.reduceLeDiff, hlen, hset, hlc1]; rfl) ?_
       | refine wpr_run rfl ?_
       | refine wpr_pass rfl rfl ?_
       | refine wpr_passS rfl ?_
       | refine wpr_call (by (try simp (disch := omega) only [push_cast, Nat.reduceEqDiff, ↓reduceIte, reduceCtorEq, Nat.reduceAdd, Nat.reduceMul, Nat.reduceLeDiff, hlen, hset, hlc1]) <;> rfl) (by first | rfl | simp only [push_cast, Nat.reduceEqDiff, ↓reduceIte, reduceCtorEq, Nat.reduceAdd, Nat.reduceMul, Nat.reduceLeDiff, hlen, hset, hlc1]) ?_
       | refine wpr_e0 (by simp (disch := omega) only [push_cast, Nat.reduceEqDiff, ↓reduceIte, reduceCtorEq, Nat.reduceAdd, Nat.reduceMul, Nat.reduceLeDiff, hlen, hset, hlc1]; rfl) ?_
       | refine wpr_e (by simp (disch := omega) only [push_cast, Nat.reduceEqDiff, ↓reduceIte, reduceCtorEq, Nat.reduceAdd, Nat.reduceMul, Nat.reduceLeDiff, hlen, hset, hlc1]; rfl) ?_
       | refine wpr_nil (by first | exact chkT_nil | (simp (disch := omega) only [push_cast, Nat.reduceEqDiff, ↓reduceIte, reduceCtorEq, Nat.reduceAdd, Nat.reduceMul, Nat.reduceLeDiff, hlen, hset, hlc1]; done)) (by (try simp only [push_cast, Nat.reduceEqDiff, ↓reduceIte, reduceCtorEq, Nat.reduceAdd, Nat.reduceMul, Nat.reduceLeDiff, hlen, hset, hlc1]); rfl) (by (try simp only [push_cast, Nat.reduceEqDiff, ↓reduceIte, reduceCtorEq, Nat.reduceAdd, Nat.reduceMul, Nat.reduceLeDiff, hlen, hset, hlc1]); rfl) ?_
       | refine wpr_pass0 rfl rfl ?_
       | refine wpr_pass0S rfl ?_)
    | (show Wp _ _ _ _ _ _
       first
       | refine wp_seq ?_
       | refine wp_region ?_
       | refine wp_cond_t rfl ?_
       | refine wp_cond_f rfl ?_
       | refine wp_ret ?_
       | refine wp_skip ?_
       | refine wp_exit ?_
       | refine wp_block ?_)
    | refine thenQ_norm ?_
    | refine thenQ_ret ?_
    | refine thenQ_exit ?_
    | refine blockQ_norm ?_
    | refine blockQ_ret ?_
    | refine blockQ_same ?_
    | refine blockQ_ne rfl ?_
    | refine loopQ_norm ?_
    | refine loopQ_ret ?_
    | refine loopQ_exit ?_
    | refine retQ_ret (by (try simp (disch := omega) only [push_cast, Nat.reduceEqDiff, ↓reduceIte, reduceCtorEq, Nat.reduceAdd, Nat.reduceMul, Nat.reduceLeDiff, hlen, hset, hlc1]); rfl) ?_
    | refine retQ_norm (by (try simp (disch := omega) only [push_cast, Nat.reduceEqDiff, ↓reduceIte, reduceCtorEq, Nat.reduceAdd, Nat.reduceMul, Nat.reduceLeDiff, hlen, hset, hlc1]); rfl) ?_
    | refine wpc_of (by simp (disch := omega) only [push_cast, Nat.reduceEqDiff, ↓reduceIte, reduceCtorEq, Nat.reduceAdd, Nat.reduceMul, Nat.reduceLeDiff, hlen, hset, hlc1]; rfl) ?_)
    exact ⟨T, .inl (by rw [backL_len]; rw [show C.length = k by omega]; exact hI)⟩

theorem backw_eq (t : Sl) (h : AH) : callO PS 77 [t.val 2] h = some (.func (.func 90) #[] #[.pointer (some ⟨h.n, 0, none⟩)], h.push (.cells false [t.val 2])) := by
  apply WpC.eqn
  refine wpc_fn (ps_ext rfl) (ps_fn fn77) rfl ?_
  unfold LF77
  simp only [argFr]
  (repeat' first
    | (show WpR _ _ _ _ _ _ _ _ _
       first
       | refine wpr_p (o := .mv _) (by simp only [ev_mv, opd_s, opd_c, fget, Nat.reduceEqDiff, Nat.one_ne_zero, Nat.zero_ne_one, reduceCtorEq, ↓reduceIte]; rfl) ?_
       | (refine wpr_fork (fun _ => ?_) (fun _ => ?_) <;> try (exfalso; omega))
       | (refine wpr_forkN (fun _ => ?_) (fun _ => ?_) <;> try (exfalso; omega))
       | refine wpr_p (by simp (disch := omega) only [push_cast, Nat.reduceEqDiff, ↓reduceIte, reduceCtorEq, Nat.reduceAdd, Nat.reduceMul, Nat.reduceLeDiff]; rfl) ?_
       | refine wpr_r (by simp (disch := omega) only [push_cast, Nat.reduceEqDiff, ↓reduceIte, reduceCtorEq, Nat.reduceAdd, Nat.reduceMul, Nat.reduceLeDiff]; rfl) ?_
       | refine wpr_run rfl ?_
       | refine wpr_pass rfl rfl ?_
       | refine wpr_passS rfl ?_
       | refine wpr_call (by (try simp (disch := omega) only [push_cast, Nat.reduceEqDiff, ↓reduceIte, reduceCtorEq, Nat.reduceAdd, Nat.reduceMul, Nat.reduceLeDiff]) <;> rfl) (by first | rfl | simp only [push_cast, Nat.reduceEqDiff, ↓reduceIte, reduceCtorEq, Nat.reduceAdd, Nat.reduceMul, Nat.reduceLeDiff]) ?_
       | refine wpr_e0 (by simp (disch := omega) only [push_cast, Nat.reduceEqDiff, ↓reduceIte, reduceCtorEq, Nat.reduceAdd, Nat.reduceMul, Nat.reduceLeDiff]; rfl) ?_
       | refine wpr_e (by simp (disch := omega) only [push_cast, Nat.reduceEqDiff, ↓reduceIte, reduceCtorEq, Nat.reduceAdd, Nat.reduceMul, Nat.reduceLeDiff]; rfl) ?_
       | refine wpr_nil (by first | exact chkT_nil | (simp (disch := omega) only [push_cast, Nat.reduceEqDiff, ↓reduceIte, reduceCtorEq, Nat.reduceAdd, Nat.reduceMul, Nat.reduceLeDiff]; done)) (by (try simp only [push_cast, Nat.reduceEqDiff, ↓reduceIte, reduceCtorEq, Nat.reduceAdd, Nat.reduceMul, Nat.reduceLeDiff]); rfl) (by (try simp only [push_cast, Nat.reduceEqDiff, ↓reduceIte, reduceCtorEq, Nat.reduceAdd, Nat.reduceMul, Nat.reduceLeDiff]); rfl) ?_
       | refine wpr_pass0 rfl rfl ?_
       | refine wpr_pass0S rfl ?_)
    | (show Wp _ _ _ _ _ _
       first
       | refine wp_seq ?_
       | refine wp_region ?_
       | refine wp_cond_t rfl ?_
       | refine wp_cond_f rfl ?_
       | refine wp_ret ?_
       | refine wp_skip ?_
       | refine wp_exit ?_
       | refine wp_block ?_)
    | refine thenQ_norm ?_
    | refine thenQ_ret ?_
    | refine thenQ_exit ?_
    | refine blockQ_norm ?_
    | refine blockQ_ret ?_
    | refine blockQ_same ?_
    | refine blockQ_ne rfl ?_
    | refine loopQ_norm ?_
    | refine loopQ_ret ?_
    | refine loopQ_exit ?_
    | refine retQ_ret (by (try simp (disch := omega) only [push_cast, Nat.reduceEqDiff, ↓reduceIte, reduceCtorEq, Nat.reduceAdd, Nat.reduceMul, Nat.reduceLeDiff]); rfl) ?_
    | refine retQ_norm (by (try simp (disch := omega) only [push_cast, Nat.reduceEqDiff, ↓reduceIte, reduceCtorEq, Nat.reduceAdd, Nat.reduceMul, Nat.reduceLeDiff]); rfl) ?_
    | refine wpc_of (by simp (disch := omega) only [push_cast, Nat.reduceEqDiff, ↓reduceIte, reduceCtorEq, Nat.reduceAdd, Nat.reduceMul, Nat.reduceLeDiff]; rfl) ?_)
  exact ⟨rfl, rfl⟩

theorem reverse_get {α : Type} {l : List α} {k : Nat} (hk : k < l.length) : ∃ h : l.length - 1 - k < l.reverse.length, l.reverse[l.length - 1 - k] = l[k] := by
  refine ⟨by simp; omega, ?_⟩
  rw [List.getElem_reverse]
  congr 1
  omega

end Go.Proofs.Ytanpdopjgepbkaa.AM
