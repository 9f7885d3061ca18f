/- Of: a set of spans, or why there is none. -/
import Derived.Test.YtanpdopjgepbkaaMkB
set_option linter.unusedVariables false
set_option linter.unusedSimpArgs false
namespace Go.Proofs.Ytanpdopjgepbkaa.AM
open Go

def I32 (n : Int) : Prop := -2147483648 ≤ n ∧ n < 2147483648
def Span32 (l : List (Int × Int)) : Prop := ∀ x ∈ l, (-2147483648 ≤ x.1 ∧ x.1 < 2147483648) ∧ (-2147483648 ≤ x.2 ∧ x.2 < 2147483648)

def ofAt (l : List (Int × Int)) (i : Nat) (why : Int) : Int :=
  if hi : i < l.length then
    if wrongF l[i] = 12 then 12
    else if wrongF l[i] ≠ 0 ∧ why = 0 then ofAt l (i + 1) (wrongF l[i]) else ofAt l (i + 1) why
  else why
termination_by l.length - i

def rowOf (x : Int × Int) : Int × Int := (rankF x.1, rankF x.2 + 1)

theorem rankF_lo (n : Int) : 0 ≤ rankF n := by unfold rankF; split; · omega
                                               · split <;> omega
theorem rankF_hi (n : Int) : rankF n ≤ 1112064 := by unfold rankF; split; · omega
                                                     · split <;> omega

theorem of_spec (l : List (Int × Int)) (s : Sl) (h : AH) (hr : Reads h 2 s (l.map spanV)) (hn : l.length < 1000000000) (hb : Span32 l) :
    WpC PS 58 [s.val 2] h fun v h' => Kp h h' ∧ ((ofAt l 0 0 ≠ 0 ∧ v = .tuple (List.toArray [.pointer none, .int .i64 (ofAt l 0 0)])) ∨
      (ofAt l 0 0 = 0 ∧ ∃ b, v = .tuple (List.toArray [.pointer (some ⟨b, 0, none⟩), .int .i64 0]) ∧ SetF h h' b (madeF (l.map rowOf)))) := by
  have hlen := hr.len
  refine wpc_fn (ps_ext rfl) (ps_fn fn58) rfl ?_
  unfold LF58
  simp only [argFr]
  (repeat' first
    | (show WpR _ _ _ _ _ _ _ _ _
       first
       | refine wpr_p (o := .mv _) (by simp only [ev_mv, opd_s, opd_c, fget, Nat.reduceEqDiff, Nat.one_ne_zero, Nat.zero_ne_one, reduceCtorEq, ↓reduceIte]; rfl) ?_
       | (refine wpr_fork (fun _ => ?_) (fun _ => ?_) <;> try (exfalso; omega))
       | (refine wpr_forkN (fun _ => ?_) (fun _ => ?_) <;> try (exfalso; omega))
       | refine wpr_p (by simp (disch := omega) only [push_cast, Nat.reduceEqDiff, ↓reduceIte, reduceCtorEq, Nat.reduceAdd, Nat.reduceMul, Nat.reduceLeDiff, hlen]; rfl) ?_
       | refine wpr_r (by simp (disch := omega) only [push_cast, Nat.reduceEqDiff, ↓reduceIte, reduceCtorEq, Nat.reduceAdd, Nat.reduceMul, Nat.reduceLeDiff, hlen]; rfl) ?_
       | refine wpr_run rfl ?_
       | refine wpr_pass rfl rfl ?_
       | refine wpr_passS rfl ?_
       | refine wpr_call (by (try simp (disch := omega) only [push_cast, Nat.reduceEqDiff, ↓reduceIte, reduceCtorEq, Nat.reduceAdd, Nat.reduceMul, Nat.reduceLeDiff, hlen]) <;> rfl) (by first | rfl | simp only [push_cast, Nat.reduceEqDiff, ↓reduceIte, reduceCtorEq, Nat.reduceAdd, Nat.reduceMul, Nat.reduceLeDiff, hlen]) ?_
       | refine wpr_e0 (by simp (disch := omega) only [push_cast, Nat.reduceEqDiff, ↓reduceIte, reduceCtorEq, Nat.reduceAdd, Nat.reduceMul, Nat.reduceLeDiff, hlen]; rfl) ?_
       | refine wpr_e (by simp (disch := omega) only [push_cast, Nat.reduceEqDiff, ↓reduceIte, reduceCtorEq, Nat.reduceAdd, Nat.reduceMul, Nat.reduceLeDiff, hlen]; rfl) ?_
       | refine wpr_nil (by first | exact chkT_nil | (simp (disch := omega) only [push_cast, Nat.reduceEqDiff, ↓reduceIte, reduceCtorEq, Nat.reduceAdd, Nat.reduceMul, Nat.reduceLeDiff, hlen]; done)) (by (try simp only [push_cast, Nat.reduceEqDiff, ↓reduceIte, reduceCtorEq, Nat.reduceAdd, Nat.reduceMul, Nat.reduceLeDiff, hlen]); rfl) (by (try simp only [push_cast, Nat.reduceEqDiff, ↓reduceIte, reduceCtorEq, Nat.reduceAdd, Nat.reduceMul, Nat.reduceLeDiff, hlen]); rfl) ?_
       | refine wpr_pass0 rfl rfl ?_
       | refine wpr_pass0S rfl ?_)
    | (show Wp _ _ _ _ _ _
       first
       | refine wp_seq ?_
       | refine wp_region ?_
       | refine wp_cond_t rfl ?_
       | refine wp_cond_f rfl ?_
       | refine wp_ret ?_
       | refine wp_skip ?_
       | refine wp_exit ?_
       | refine wp_block ?_)
    | refine thenQ_norm ?_
    | refine thenQ_ret ?_
    | refine thenQ_exit ?_
    | refine blockQ_norm ?_
    | refine blockQ_ret ?_
    | refine blockQ_same ?_
    | refine blockQ_ne rfl ?_
    | refine loopQ_norm ?_
    | refine loopQ_ret ?_
    | refine loopQ_exit ?_
    | refine retQ_ret (by (try simp (disch := omega) only [push_cast, Nat.reduceEqDiff, ↓reduceIte, reduceCtorEq, Nat.reduceAdd, Nat.reduceMul, Nat.reduceLeDiff, hlen]); rfl) ?_
    | refine retQ_norm (by (try simp (disch := omega) only [push_cast, Nat.reduceEqDiff, ↓reduceIte, reduceCtorEq, Nat.reduceAdd, Nat.reduceMul, Nat.reduceLeDiff, hlen]); rfl) ?_
    | refine wpc_of (by simp (disch := omega) only [push_cast, Nat.reduceEqDiff, ↓reduceIte, reduceCtorEq, Nat.reduceAdd, Nat.reduceMul, Nat.reduceLeDiff, hlen]; rfl) ?_)
  refine wp_loop (fun n fr lc h1 => ∃ (i : Nat) (t : Sl) (why : Int), n = l.length - i ∧ i ≤ l.length ∧ fr = [(4, t.val 2), (5, .int .i64 why), (9, s.val 2), (10, .int .i64 l.length), (11, .int .i64 i)] ∧ lc = [] ∧
      FOwn h h1 2 t (((l.take i).map rowOf).map rowV) ∧ (t = .nil ∨ 0 < i) ∧ ofAt l i why = ofAt l 0 0)
    l.length ⟨0, .nil, 0, rfl, Nat.zero_le _, rfl, rfl, FOwn.nil (Kp.refl h), .inl rfl, rfl⟩ ?_
  rintro n fr lc h1 ⟨i, t, why, rfl, hi, rfl, rfl, f1, ht, hI⟩
  have htl := f1.reads.len
  have hr1 := hr.kp f1.kp
  rcases Nat.lt_or_ge i l.length with hil | hil
  · have hbi := hb l[i] (List.getElem_mem hil)
    generalize hx : l[i] = x at hbi
    have hxr : ∀ lc, Mem.rd ⟨lc, h1⟩ (s.adr 2 i) 2 = some (spanV x) := fun lc => by rw [← hx]; exact rd_map hr1 hil
    have hk1 := rankF_lo x.2
    have hk2 := rankF_hi x.2
    have hstep : ofAt l i why = if wrongF x = 12 then 12 else if wrongF x ≠ 0 ∧ why = 0 then ofAt l (i + 1) (wrongF x) else ofAt l (i + 1) why := by
      rw [ofAt, dif_pos hil, hx]
    have hw : wrongF (x.1, x.2) = wrongF x := rfl
    have hap : (((l.take i).map rowOf).map rowV) ++ [rowV (rowOf x)] = ((l.take (i + 1)).map rowOf).map rowV := by
      rw [List.take_succ_eq_append_getElem hil, hx]; simp
    (repeat' first
    | (show WpR _ _ _ _ _ _ _ _ _
       first
       | refine wpr_p (o := .mv _) (by simp only [ev_mv, opd_s, opd_c, fget, Nat.reduceEqDiff, Nat.one_ne_zero, Nat.zero_ne_one, reduceCtorEq, ↓reduceIte]; rfl) ?_
       | (refine wpr_fork (fun _ => ?_) (fun _ => ?_) <;> try (exfalso; omega))
       | (refine wpr_forkN (fun _ => ?_) (fun _ => ?_) <;> try (exfalso; omega))
       | refine wpr_p (by simp (disch := omega) only [push_cast, Nat.reduceEqDiff, ↓reduceIte, reduceCtorEq, Nat.reduceAdd, Nat.reduceMul, Nat.reduceLeDiff, hlen, hxr, spanV, hw]; rfl) ?_
       | refine wpr_r (by simp (disch := omega) only [push_cast, Nat.reduceEqDiff, ↓reduceIte, reduceCtorEq, Nat.reduceAdd, Nat.reduceMul, Nat.reduceLeDiff, hlen, hxr, spanV, hw]; rfl) ?_
       | refine wpr_run rfl ?_
       | refine wpr_pass rfl rfl ?_
       | refine wpr_passS rfl ?_
       | refine wpr_call (by (try simp (disch := omega) only [push_cast, Nat.reduceEqDiff, ↓reduceIte, reduceCtorEq, Nat.reduceAdd, Nat.reduceMul, Nat.reduceLeDiff, hlen, hxr, spanV, hw]) <;> rfl) (by first | rfl | simp only [push_cast, Nat.reduceEqDiff, ↓reduceIte, reduceCtorEq, Nat.reduceAdd, Nat.reduceMul, Nat.reduceLeDiff, hlen, hxr, spanV, hw]) ?_
       | refine wpr_e0 (by simp (disch := omega) only [push_cast, Nat.reduceEqDiff, ↓reduceIte, reduceCtorEq, Nat.reduceAdd, Nat.reduceMul, Nat.reduceLeDiff, hlen, hxr, spanV, hw]; rfl) ?_
       | refine wpr_e (by simp (disch := omega) only [push_cast, Nat.reduceEqDiff, ↓reduceIte, reduceCtorEq, Nat.reduceAdd, Nat.reduceMul, Nat.reduceLeDiff, hlen, hxr, spanV, hw]; rfl) ?_
       | refine wpr_nil (by first | exact chkT_nil | (simp (disch := omega) only [push_cast, Nat.reduceEqDiff, ↓reduceIte, reduceCtorEq, Nat.reduceAdd, Nat.reduceMul, Nat.reduceLeDiff, hlen, hxr, spanV, hw]; done)) (by (try simp only [push_cast, Nat.reduceEqDiff, ↓reduceIte, reduceCtorEq, Nat.reduceAdd, Nat.reduceMul, Nat.reduceLeDiff, hlen, hxr, spanV, hw]); rfl) (by (try simp only [push_cast, Nat.reduceEqDiff, ↓reduceIte, reduceCtorEq, Nat.reduceAdd, Nat.reduceMul, Nat.reduceLeDiff, hlen, hxr, spanV, hw]); rfl) ?_
       | refine wpr_pass0 rfl rfl ?_
       | refine wpr_pass0S rfl ?_)
    | (show Wp _ _ _ _ _ _
       first
       | refine wp_seq ?_
       | refine wp_region ?_
       | refine wp_cond_t rfl ?_
       | refine wp_cond_f rfl ?_
       | refine wp_ret ?_
       | refine wp_skip ?_
       | refine wp_exit ?_
       | refine wp_block ?_)
    | refine thenQ_norm ?_
    | refine thenQ_ret ?_
    | refine thenQ_exit ?_
    | refine blockQ_norm ?_
    | refine blockQ_ret ?_
    | refine blockQ_same ?_
    | refine blockQ_ne rfl ?_
    | refine loopQ_norm ?_
    | refine loopQ_ret ?_
    | refine loopQ_exit ?_
    | refine retQ_ret (by (try simp (disch := omega) only [push_cast, Nat.reduceEqDiff, ↓reduceIte, reduceCtorEq, Nat.reduceAdd, Nat.reduceMul, Nat.reduceLeDiff, hlen, hxr, spanV, hw]); rfl) ?_
    | refine retQ_norm (by (try simp (disch := omega) only [push_cast, Nat.reduceEqDiff, ↓reduceIte, reduceCtorEq, Nat.reduceAdd, Nat.reduceMul, Nat.reduceLeDiff, hlen, hxr, spanV, hw]); rfl) ?_
    | refine wpc_of (by simp (disch := omega) only [push_cast, Nat.reduceEqDiff, ↓reduceIte, reduceCtorEq, Nat.reduceAdd, Nat.reduceMul, Nat.reduceLeDiff, hlen, hxr, spanV, hw]; rfl) ?_)
    all_goals first
      | (refine wpr_appendS (yss := [rowV (rowOf x)]) (k := 1) f1 rfl rfl rfl rfl (by simp [rowV]) (by decide) (by decide) (by decide) (by simp; omega) fun t' h3 f3 => ?_
         rw [hap] at f3
         (repeat' first
    | (show WpR _ _ _ _ _ _ _ _ _
       first
       | refine wpr_p (o := .mv _) (by simp only [ev_mv, opd_s, opd_c, fget, Nat.reduceEqDiff, Nat.one_ne_zero, Nat.zero_ne_one, reduceCtorEq, ↓reduceIte]; rfl) ?_
       | (refine wpr_fork (fun _ => ?_) (fun _ => ?_) <;> try (exfalso; omega))
       | (refine wpr_forkN (fun _ => ?_) (fun _ => ?_) <;> try (exfalso; omega))
       | refine wpr_p (by simp (disch := omega) only [push_cast, Nat.reduceEqDiff, ↓reduceIte, reduceCtorEq, Nat.reduceAdd, Nat.reduceMul, Nat.reduceLeDiff]; rfl) ?_
       | refine wpr_r (by simp (disch := omega) only [push_cast, Nat.reduceEqDiff, ↓reduceIte, reduceCtorEq, Nat.reduceAdd, Nat.reduceMul, Nat.reduceLeDiff]; rfl) ?_
       | refine wpr_run rfl ?_
       | refine wpr_pass rfl rfl ?_
       | refine wpr_passS rfl ?_
       | refine wpr_call (by (try simp (disch := omega) only [push_cast, Nat.reduceEqDiff, ↓reduceIte, reduceCtorEq, Nat.reduceAdd, Nat.reduceMul, Nat.reduceLeDiff]) <;> rfl) (by first | rfl | simp only [push_cast, Nat.reduceEqDiff, ↓reduceIte, reduceCtorEq, Nat.reduceAdd, Nat.reduceMul, Nat.reduceLeDiff]) ?_
       | refine wpr_e0 (by simp (disch := omega) only [push_cast, Nat.reduceEqDiff, ↓reduceIte, reduceCtorEq, Nat.reduceAdd, Nat.reduceMul, Nat.reduceLeDiff]; rfl) ?_
       | refine wpr_e (by simp (disch := omega) only [push_cast, Nat.reduceEqDiff, ↓reduceIte, reduceCtorEq, Nat.reduceAdd, Nat.reduceMul, Nat.reduceLeDiff]; rfl) ?_
       | refine wpr_nil (by first | exact chkT_nil | (simp (disch := omega) only [push_cast, Nat.reduceEqDiff, ↓reduceIte, reduceCtorEq, Nat.reduceAdd, Nat.reduceMul, Nat.reduceLeDiff]; done)) (by (try simp only [push_cast, Nat.reduceEqDiff, ↓reduceIte, reduceCtorEq, Nat.reduceAdd, Nat.reduceMul, Nat.reduceLeDiff]); rfl) (by (try simp only [push_cast, Nat.reduceEqDiff, ↓reduceIte, reduceCtorEq, Nat.reduceAdd, Nat.reduceMul, Nat.reduceLeDiff]); rfl) ?_
       | refine wpr_pass0 rfl rfl ?_
       | refine wpr_pass0S rfl ?_)
    | (show Wp _ _ _ _ _ _
       first
       | refine wp_seq ?_
       | refine wp_region ?_
       | refine wp_cond_t rfl ?_
       | refine wp_cond_f rfl ?_
       | refine wp_ret ?_
       | refine wp_skip ?_
       | refine wp_exit ?_
       | refine wp_block ?_)
    | refine thenQ_norm ?_
    | refine thenQ_ret ?_
    | refine thenQ_exit ?_
    | refine blockQ_norm ?_
    | refine blockQ_ret ?_
    | refine blockQ_same ?_
    | refine blockQ_ne rfl ?_
    | refine loopQ_norm ?_
    | refine loopQ_ret ?_
    | refine loopQ_exit ?_
    | refine retQ_ret (by (try simp (disch := omega) only [push_cast, Nat.reduceEqDiff, ↓reduceIte, reduceCtorEq, Nat.reduceAdd, Nat.reduceMul, Nat.reduceLeDiff]); rfl) ?_
    | refine retQ_norm (by (try simp (disch := omega) only [push_cast, Nat.reduceEqDiff, ↓reduceIte, reduceCtorEq, Nat.reduceAdd, Nat.reduceMul, Nat.reduceLeDiff]); rfl) ?_
    | refine wpc_of (by simp (disch := omega) only [push_cast, Nat.reduceEqDiff, ↓reduceIte, reduceCtorEq, Nat.reduceAdd, Nat.reduceMul, Nat.reduceLeDiff]; rfl) ?_)
         refine ⟨_, ?_, i + 1, t', _, rfl, by omega, rfl, rfl, f3, .inr (by omega), ?_⟩
         · omega
         · rw [← hI, hstep, if_neg (by assumption)]
           first
             | rw [if_pos ⟨by assumption, by assumption⟩]
             | rw [if_neg (fun hc => by first | exact absurd hc.1 (by assumption) | exact absurd hc.2 (by assumption) | omega)])
      | skip
    · rename_i g1 g2 g3 g4
      have e : ofAt l 0 0 = 12 := by rw [← hI, hstep, if_pos g2]
      exact ⟨f1.kp, .inl ⟨by omega, by rw [e, g2]⟩⟩
  · have e1 : ofAt l 0 0 = why := by rw [← hI, ofAt, dif_neg (by omega)]
    have hall : l.take i = l := List.take_of_length_le (by omega)
    rw [hall] at f1
    (repeat' first
    | (show WpR _ _ _ _ _ _ _ _ _
       first
       | refine wpr_p (o := .mv _) (by simp only [ev_mv, opd_s, opd_c, fget, Nat.reduceEqDiff, Nat.one_ne_zero, Nat.zero_ne_one, reduceCtorEq, ↓reduceIte]; rfl) ?_
       | (refine wpr_fork (fun _ => ?_) (fun _ => ?_) <;> try (exfalso; omega))
       | (refine wpr_forkN (fun _ => ?_) (fun _ => ?_) <;> try (exfalso; omega))
       | refine wpr_p (by simp (disch := omega) only [push_cast, Nat.reduceEqDiff, ↓reduceIte, reduceCtorEq, Nat.reduceAdd, Nat.reduceMul, Nat.reduceLeDiff, hlen]; rfl) ?_
       | refine wpr_r (by simp (disch := omega) only [push_cast, Nat.reduceEqDiff, ↓reduceIte, reduceCtorEq, Nat.reduceAdd, Nat.reduceMul, Nat.reduceLeDiff, hlen]; rfl) ?_
       | refine wpr_run rfl ?_
       | refine wpr_pass rfl rfl ?_
       | refine wpr_passS rfl ?_
       | refine wpr_call (by (try simp (disch := omega) only [push_cast, Nat.reduceEqDiff, ↓reduceIte, reduceCtorEq, Nat.reduceAdd, Nat.reduceMul, Nat.reduceLeDiff, hlen]) <;> rfl) (by first | rfl | simp only [push_cast, Nat.reduceEqDiff, ↓reduceIte, reduceCtorEq, Nat.reduceAdd, Nat.reduceMul, Nat.reduceLeDiff, hlen]) ?_
       | refine wpr_e0 (by simp (disch := omega) only [push_cast, Nat.reduceEqDiff, ↓reduceIte, reduceCtorEq, Nat.reduceAdd, Nat.reduceMul, Nat.reduceLeDiff, hlen]; rfl) ?_
       | refine wpr_e (by simp (disch := omega) only [push_cast, Nat.reduceEqDiff, ↓reduceIte, reduceCtorEq, Nat.reduceAdd, Nat.reduceMul, Nat.reduceLeDiff, hlen]; rfl) ?_
       | refine wpr_nil (by first | exact chkT_nil | (simp (disch := omega) only [push_cast, Nat.reduceEqDiff, ↓reduceIte, reduceCtorEq, Nat.reduceAdd, Nat.reduceMul, Nat.reduceLeDiff, hlen]; done)) (by (try simp only [push_cast, Nat.reduceEqDiff, ↓reduceIte, reduceCtorEq, Nat.reduceAdd, Nat.reduceMul, Nat.reduceLeDiff, hlen]); rfl) (by (try simp only [push_cast, Nat.reduceEqDiff, ↓reduceIte, reduceCtorEq, Nat.reduceAdd, Nat.reduceMul, Nat.reduceLeDiff, hlen]); rfl) ?_
       | refine wpr_pass0 rfl rfl ?_
       | refine wpr_pass0S rfl ?_)
    | (show Wp _ _ _ _ _ _
       first
       | refine wp_seq ?_
       | refine wp_region ?_
       | refine wp_cond_t rfl ?_
       | refine wp_cond_f rfl ?_
       | refine wp_ret ?_
       | refine wp_skip ?_
       | refine wp_exit ?_
       | refine wp_block ?_)
    | refine thenQ_norm ?_
    | refine thenQ_ret ?_
    | refine thenQ_exit ?_
    | refine blockQ_norm ?_
    | refine blockQ_ret ?_
    | refine blockQ_same ?_
    | refine blockQ_ne rfl ?_
    | refine loopQ_norm ?_
    | refine loopQ_ret ?_
    | refine loopQ_exit ?_
    | refine retQ_ret (by (try simp (disch := omega) only [push_cast, Nat.reduceEqDiff, ↓reduceIte, reduceCtorEq, Nat.reduceAdd, Nat.reduceMul, Nat.reduceLeDiff, hlen]); rfl) ?_
    | refine retQ_norm (by (try simp (disch := omega) only [push_cast, Nat.reduceEqDiff, ↓reduceIte, reduceCtorEq, Nat.reduceAdd, Nat.reduceMul, Nat.reduceLeDiff, hlen]); rfl) ?_
    | refine wpc_of (by simp (disch := omega) only [push_cast, Nat.reduceEqDiff, ↓reduceIte, reduceCtorEq, Nat.reduceAdd, Nat.reduceMul, Nat.reduceLeDiff, hlen]; rfl) ?_)
    · refine (made_spec f1 (by simp; omega) (ht.imp id fun h => by simp; omega)).mono ?_
      rintro v h2 ⟨b, rfl, hs, hk⟩
      (repeat' first
    | (show WpR _ _ _ _ _ _ _ _ _
       first
       | refine wpr_p (o := .mv _) (by simp only [ev_mv, opd_s, opd_c, fget, Nat.reduceEqDiff, Nat.one_ne_zero, Nat.zero_ne_one, reduceCtorEq, ↓reduceIte]; rfl) ?_
       | (refine wpr_fork (fun _ => ?_) (fun _ => ?_) <;> try (exfalso; omega))
       | (refine wpr_forkN (fun _ => ?_) (fun _ => ?_) <;> try (exfalso; omega))
       | refine wpr_p (by simp (disch := omega) only [push_cast, Nat.reduceEqDiff, ↓reduceIte, reduceCtorEq, Nat.reduceAdd, Nat.reduceMul, Nat.reduceLeDiff]; rfl) ?_
       | refine wpr_r (by simp (disch := omega) only [push_cast, Nat.reduceEqDiff, ↓reduceIte, reduceCtorEq, Nat.reduceAdd, Nat.reduceMul, Nat.reduceLeDiff]; rfl) ?_
       | refine wpr_run rfl ?_
       | refine wpr_pass rfl rfl ?_
       | refine wpr_passS rfl ?_
       | refine wpr_call (by (try simp (disch := omega) only [push_cast, Nat.reduceEqDiff, ↓reduceIte, reduceCtorEq, Nat.reduceAdd, Nat.reduceMul, Nat.reduceLeDiff]) <;> rfl) (by first | rfl | simp only [push_cast, Nat.reduceEqDiff, ↓reduceIte, reduceCtorEq, Nat.reduceAdd, Nat.reduceMul, Nat.reduceLeDiff]) ?_
       | refine wpr_e0 (by simp (disch := omega) only [push_cast, Nat.reduceEqDiff, ↓reduceIte, reduceCtorEq, Nat.reduceAdd, Nat.reduceMul, Nat.reduceLeDiff]; rfl) ?_
       | refine wpr_e (by simp (disch := omega) only [push_cast, Nat.reduceEqDiff, ↓reduceIte, reduceCtorEq, Nat.reduceAdd, Nat.reduceMul, Nat.reduceLeDiff]; rfl) ?_
       | refine wpr_nil (by first | exact chkT_nil | (simp (disch := omega) only [push_cast, Nat.reduceEqDiff, ↓reduceIte, reduceCtorEq, Nat.reduceAdd, Nat.reduceMul, Nat.reduceLeDiff]; done)) (by (try simp only [push_cast, Nat.reduceEqDiff, ↓reduceIte, reduceCtorEq, Nat.reduceAdd, Nat.reduceMul, Nat.reduceLeDiff]); rfl) (by (try simp only [push_cast, Nat.reduceEqDiff, ↓reduceIte, reduceCtorEq, Nat.reduceAdd, Nat.reduceMul, Nat.reduceLeDiff]); rfl) ?_
       | refine wpr_pass0 rfl rfl ?_
       | refine wpr_pass0S rfl ?_)
    | (show Wp _ _ _ _ _ _
       first
       | refine wp_seq ?_
       | refine wp_region ?_
       | refine wp_cond_t rfl ?_
       | refine wp_cond_f rfl ?_
       | refine wp_ret ?_
       | refine wp_skip ?_
       | refine wp_exit ?_
       | refine wp_block ?_)
    | refine thenQ_norm ?_
    | refine thenQ_ret ?_
    | refine thenQ_exit ?_
    | refine blockQ_norm ?_
    | refine blockQ_ret ?_
    | refine blockQ_same ?_
    | refine blockQ_ne rfl ?_
    | refine loopQ_norm ?_
    | refine loopQ_ret ?_
    | refine loopQ_exit ?_
    | refine retQ_ret (by (try simp (disch := omega) only [push_cast, Nat.reduceEqDiff, ↓reduceIte, reduceCtorEq, Nat.reduceAdd, Nat.reduceMul, Nat.reduceLeDiff]); rfl) ?_
    | refine retQ_norm (by (try simp (disch := omega) only [push_cast, Nat.reduceEqDiff, ↓reduceIte, reduceCtorEq, Nat.reduceAdd, Nat.reduceMul, Nat.reduceLeDiff]); rfl) ?_
    | refine wpc_of (by simp (disch := omega) only [push_cast, Nat.reduceEqDiff, ↓reduceIte, reduceCtorEq, Nat.reduceAdd, Nat.reduceMul, Nat.reduceLeDiff]; rfl) ?_)
      exact ⟨hk, .inr ⟨by omega, b, rfl, hs⟩⟩
    · exact ⟨f1.kp, .inl ⟨by omega, by rw [e1]⟩⟩

end Go.Proofs.Ytanpdopjgepbkaa.AM
