/- The run of SetsAll. -/
import Derived.Test.YtanpdopjgepbkaaAllD
import Derived.Test.YtanpdopjgepbkaaAsksB
set_option linter.unusedVariables false
set_option linter.unusedSimpArgs false
namespace Go.Proofs.Ytanpdopjgepbkaa.AM
open Go

theorem mkAll_eq (b : Nat) (h : AH) : callO PS 44 [.pointer (some ⟨b, 0, none⟩)] h = some (.func (.func 75) #[] #[.pointer (some ⟨h.n, 0, none⟩)], h.push (.cells false [.pointer (some ⟨b, 0, none⟩)])) := by
  apply WpC.eqn
  refine wpc_fn (ps_ext rfl) (ps_fn fn44) rfl ?_
  unfold LF44
  simp only [argFr]
  (repeat' first
    | (show WpR _ _ _ _ _ _ _ _ _
       first
       | refine wpr_p (o := .mv _) (by simp only [ev_mv, opd_s, opd_c, fget, Nat.reduceEqDiff, Nat.one_ne_zero, Nat.zero_ne_one, reduceCtorEq, ↓reduceIte]; rfl) ?_
       | (refine wpr_fork (fun _ => ?_) (fun _ => ?_) <;> try (exfalso; omega))
       | (refine wpr_forkN (fun _ => ?_) (fun _ => ?_) <;> try (exfalso; omega))
       | refine wpr_p (by simp (disch := omega) only [push_cast, Nat.reduceEqDiff, ↓reduceIte, reduceCtorEq, Nat.reduceAdd, Nat.reduceMul, Nat.reduceLeDiff]; rfl) ?_
       | refine wpr_r (by simp (disch := omega) only [push_cast, Nat.reduceEqDiff, ↓reduceIte, reduceCtorEq, Nat.reduceAdd, Nat.reduceMul, Nat.reduceLeDiff]; rfl) ?_
       | refine wpr_run rfl ?_
       | refine wpr_pass rfl rfl ?_
       | refine wpr_passS rfl ?_
       | refine wpr_call (by (try simp (disch := omega) only [push_cast, Nat.reduceEqDiff, ↓reduceIte, reduceCtorEq, Nat.reduceAdd, Nat.reduceMul, Nat.reduceLeDiff]) <;> rfl) (by first | rfl | simp only [push_cast, Nat.reduceEqDiff, ↓reduceIte, reduceCtorEq, Nat.reduceAdd, Nat.reduceMul, Nat.reduceLeDiff]) ?_
       | refine wpr_e0 (by simp (disch := omega) only [push_cast, Nat.reduceEqDiff, ↓reduceIte, reduceCtorEq, Nat.reduceAdd, Nat.reduceMul, Nat.reduceLeDiff]; rfl) ?_
       | refine wpr_e (by simp (disch := omega) only [push_cast, Nat.reduceEqDiff, ↓reduceIte, reduceCtorEq, Nat.reduceAdd, Nat.reduceMul, Nat.reduceLeDiff]; rfl) ?_
       | refine wpr_nil (by first | exact chkT_nil | (simp (disch := omega) only [push_cast, Nat.reduceEqDiff, ↓reduceIte, reduceCtorEq, Nat.reduceAdd, Nat.reduceMul, Nat.reduceLeDiff]; done)) (by (try simp only [push_cast, Nat.reduceEqDiff, ↓reduceIte, reduceCtorEq, Nat.reduceAdd, Nat.reduceMul, Nat.reduceLeDiff]); rfl) (by (try simp only [push_cast, Nat.reduceEqDiff, ↓reduceIte, reduceCtorEq, Nat.reduceAdd, Nat.reduceMul, Nat.reduceLeDiff]); rfl) ?_
       | refine wpr_pass0 rfl rfl ?_
       | refine wpr_pass0S rfl ?_)
    | (show Wp _ _ _ _ _ _
       first
       | refine wp_seq ?_
       | refine wp_region ?_
       | refine wp_cond_t rfl ?_
       | refine wp_cond_f rfl ?_
       | refine wp_ret ?_
       | refine wp_skip ?_
       | refine wp_exit ?_
       | refine wp_block ?_)
    | refine thenQ_norm ?_
    | refine thenQ_ret ?_
    | refine thenQ_exit ?_
    | refine blockQ_norm ?_
    | refine blockQ_ret ?_
    | refine blockQ_same ?_
    | refine blockQ_ne rfl ?_
    | refine loopQ_norm ?_
    | refine loopQ_ret ?_
    | refine loopQ_exit ?_
    | refine retQ_ret (by (try simp (disch := omega) only [push_cast, Nat.reduceEqDiff, ↓reduceIte, reduceCtorEq, Nat.reduceAdd, Nat.reduceMul, Nat.reduceLeDiff]); rfl) ?_
    | refine retQ_norm (by (try simp (disch := omega) only [push_cast, Nat.reduceEqDiff, ↓reduceIte, reduceCtorEq, Nat.reduceAdd, Nat.reduceMul, Nat.reduceLeDiff]); rfl) ?_
    | refine wpc_of (by simp (disch := omega) only [push_cast, Nat.reduceEqDiff, ↓reduceIte, reduceCtorEq, Nat.reduceAdd, Nat.reduceMul, Nat.reduceLeDiff]; rfl) ?_)
  exact ⟨rfl, rfl⟩
theorem mkBack_eq (b : Nat) (h : AH) : callO PS 45 [.pointer (some ⟨b, 0, none⟩)] h = some (.func (.func 76) #[] #[.pointer (some ⟨h.n, 0, none⟩)], h.push (.cells false [.pointer (some ⟨b, 0, none⟩)])) := by
  apply WpC.eqn
  refine wpc_fn (ps_ext rfl) (ps_fn fn45) rfl ?_
  unfold LF45
  simp only [argFr]
  (repeat' first
    | (show WpR _ _ _ _ _ _ _ _ _
       first
       | refine wpr_p (o := .mv _) (by simp only [ev_mv, opd_s, opd_c, fget, Nat.reduceEqDiff, Nat.one_ne_zero, Nat.zero_ne_one, reduceCtorEq, ↓reduceIte]; rfl) ?_
       | (refine wpr_fork (fun _ => ?_) (fun _ => ?_) <;> try (exfalso; omega))
       | (refine wpr_forkN (fun _ => ?_) (fun _ => ?_) <;> try (exfalso; omega))
       | refine wpr_p (by simp (disch := omega) only [push_cast, Nat.reduceEqDiff, ↓reduceIte, reduceCtorEq, Nat.reduceAdd, Nat.reduceMul, Nat.reduceLeDiff]; rfl) ?_
       | refine wpr_r (by simp (disch := omega) only [push_cast, Nat.reduceEqDiff, ↓reduceIte, reduceCtorEq, Nat.reduceAdd, Nat.reduceMul, Nat.reduceLeDiff]; rfl) ?_
       | refine wpr_run rfl ?_
       | refine wpr_pass rfl rfl ?_
       | refine wpr_passS rfl ?_
       | refine wpr_call (by (try simp (disch := omega) only [push_cast, Nat.reduceEqDiff, ↓reduceIte, reduceCtorEq, Nat.reduceAdd, Nat.reduceMul, Nat.reduceLeDiff]) <;> rfl) (by first | rfl | simp only [push_cast, Nat.reduceEqDiff, ↓reduceIte, reduceCtorEq, Nat.reduceAdd, Nat.reduceMul, Nat.reduceLeDiff]) ?_
       | refine wpr_e0 (by simp (disch := omega) only [push_cast, Nat.reduceEqDiff, ↓reduceIte, reduceCtorEq, Nat.reduceAdd, Nat.reduceMul, Nat.reduceLeDiff]; rfl) ?_
       | refine wpr_e (by simp (disch := omega) only [push_cast, Nat.reduceEqDiff, ↓reduceIte, reduceCtorEq, Nat.reduceAdd, Nat.reduceMul, Nat.reduceLeDiff]; rfl) ?_
       | refine wpr_nil (by first | exact chkT_nil | (simp (disch := omega) only [push_cast, Nat.reduceEqDiff, ↓reduceIte, reduceCtorEq, Nat.reduceAdd, Nat.reduceMul, Nat.reduceLeDiff]; done)) (by (try simp only [push_cast, Nat.reduceEqDiff, ↓reduceIte, reduceCtorEq, Nat.reduceAdd, Nat.reduceMul, Nat.reduceLeDiff]); rfl) (by (try simp only [push_cast, Nat.reduceEqDiff, ↓reduceIte, reduceCtorEq, Nat.reduceAdd, Nat.reduceMul, Nat.reduceLeDiff]); rfl) ?_
       | refine wpr_pass0 rfl rfl ?_
       | refine wpr_pass0S rfl ?_)
    | (show Wp _ _ _ _ _ _
       first
       | refine wp_seq ?_
       | refine wp_region ?_
       | refine wp_cond_t rfl ?_
       | refine wp_cond_f rfl ?_
       | refine wp_ret ?_
       | refine wp_skip ?_
       | refine wp_exit ?_
       | refine wp_block ?_)
    | refine thenQ_norm ?_
    | refine thenQ_ret ?_
    | refine thenQ_exit ?_
    | refine blockQ_norm ?_
    | refine blockQ_ret ?_
    | refine blockQ_same ?_
    | refine blockQ_ne rfl ?_
    | refine loopQ_norm ?_
    | refine loopQ_ret ?_
    | refine loopQ_exit ?_
    | refine retQ_ret (by (try simp (disch := omega) only [push_cast, Nat.reduceEqDiff, ↓reduceIte, reduceCtorEq, Nat.reduceAdd, Nat.reduceMul, Nat.reduceLeDiff]); rfl) ?_
    | refine retQ_norm (by (try simp (disch := omega) only [push_cast, Nat.reduceEqDiff, ↓reduceIte, reduceCtorEq, Nat.reduceAdd, Nat.reduceMul, Nat.reduceLeDiff]); rfl) ?_
    | refine wpc_of (by simp (disch := omega) only [push_cast, Nat.reduceEqDiff, ↓reduceIte, reduceCtorEq, Nat.reduceAdd, Nat.reduceMul, Nat.reduceLeDiff]; rfl) ?_)
  exact ⟨rfl, rfl⟩
theorem within_eq (n lo hi : Int) (h : AH) (h1 : -9223372036854775808 ≤ n) (h2 : n < 9223372036854775808) (l0 : -1000000 ≤ lo) (l1 : lo ≤ hi) (l2 : hi ≤ 1000000) :
    ∃ m, callO PS 46 [.int .i64 n, .int .i64 lo, .int .i64 hi] h = some (.int .i64 m, h) ∧ lo ≤ m ∧ m ≤ hi := by
  have hd : 0 < hi - lo + 1 := by omega
  have ht := Int.tmod_lt_of_pos n hd
  have ht2 : -(hi - lo + 1) < n.tmod (hi - lo + 1) := by
    have := Int.lt_tmod_of_pos n hd
    omega
  have hr := binA_remB (k := .i64) (a := n) (b := hi - lo + 1) (by omega)
  generalize n.tmod (hi - lo + 1) = x at ht ht2 hr
  refine ⟨lo + (if x < 0 then x + hi - lo + 1 else x), ?_, by split <;> omega, by split <;> omega⟩
  apply WpC.eqn
  refine wpc_fn (ps_ext rfl) (ps_fn fn46) rfl ?_
  unfold LF46
  simp only [argFr]
  by_cases g : x < 0
  all_goals
    (repeat' first
    | (show WpR _ _ _ _ _ _ _ _ _
       first
       | refine wpr_p (o := .mv _) (by simp only [ev_mv, opd_s, opd_c, fget, Nat.reduceEqDiff, Nat.one_ne_zero, Nat.zero_ne_one, reduceCtorEq, ↓reduceIte]; rfl) ?_
       | (refine wpr_fork (fun _ => ?_) (fun _ => ?_) <;> try (exfalso; omega))
       | (refine wpr_forkN (fun _ => ?_) (fun _ => ?_) <;> try (exfalso; omega))
       | refine wpr_p (by simp (disch := omega) only [push_cast, Nat.reduceEqDiff, ↓reduceIte, reduceCtorEq, Nat.reduceAdd, Nat.reduceMul, Nat.reduceLeDiff, hr]; rfl) ?_
       | refine wpr_r (by simp (disch := omega) only [push_cast, Nat.reduceEqDiff, ↓reduceIte, reduceCtorEq, Nat.reduceAdd, Nat.reduceMul, Nat.reduceLeDiff, hr]; rfl) ?_
       | refine wpr_run rfl ?_
       | refine wpr_pass rfl rfl ?_
       | refine wpr_passS rfl ?_
       | refine wpr_call (by (try simp (disch := omega) only [push_cast, Nat.reduceEqDiff, ↓reduceIte, reduceCtorEq, Nat.reduceAdd, Nat.reduceMul, Nat.reduceLeDiff, hr]) <;> rfl) (by first | rfl | simp only [push_cast, Nat.reduceEqDiff, ↓reduceIte, reduceCtorEq, Nat.reduceAdd, Nat.reduceMul, Nat.reduceLeDiff, hr]) ?_
       | refine wpr_e0 (by simp (disch := omega) only [push_cast, Nat.reduceEqDiff, ↓reduceIte, reduceCtorEq, Nat.reduceAdd, Nat.reduceMul, Nat.reduceLeDiff, hr]; rfl) ?_
       | refine wpr_e (by simp (disch := omega) only [push_cast, Nat.reduceEqDiff, ↓reduceIte, reduceCtorEq, Nat.reduceAdd, Nat.reduceMul, Nat.reduceLeDiff, hr]; rfl) ?_
       | refine wpr_nil (by first | exact chkT_nil | (simp (disch := omega) only [push_cast, Nat.reduceEqDiff, ↓reduceIte, reduceCtorEq, Nat.reduceAdd, Nat.reduceMul, Nat.reduceLeDiff, hr]; done)) (by (try simp only [push_cast, Nat.reduceEqDiff, ↓reduceIte, reduceCtorEq, Nat.reduceAdd, Nat.reduceMul, Nat.reduceLeDiff, hr]); rfl) (by (try simp only [push_cast, Nat.reduceEqDiff, ↓reduceIte, reduceCtorEq, Nat.reduceAdd, Nat.reduceMul, Nat.reduceLeDiff, hr]); rfl) ?_
       | refine wpr_pass0 rfl rfl ?_
       | refine wpr_pass0S rfl ?_)
    | (show Wp _ _ _ _ _ _
       first
       | refine wp_seq ?_
       | refine wp_region ?_
       | refine wp_cond_t rfl ?_
       | refine wp_cond_f rfl ?_
       | refine wp_ret ?_
       | refine wp_skip ?_
       | refine wp_exit ?_
       | refine wp_block ?_)
    | refine thenQ_norm ?_
    | refine thenQ_ret ?_
    | refine thenQ_exit ?_
    | refine blockQ_norm ?_
    | refine blockQ_ret ?_
    | refine blockQ_same ?_
    | refine blockQ_ne rfl ?_
    | refine loopQ_norm ?_
    | refine loopQ_ret ?_
    | refine loopQ_exit ?_
    | refine retQ_ret (by (try simp (disch := omega) only [push_cast, Nat.reduceEqDiff, ↓reduceIte, reduceCtorEq, Nat.reduceAdd, Nat.reduceMul, Nat.reduceLeDiff, hr]); rfl) ?_
    | refine retQ_norm (by (try simp (disch := omega) only [push_cast, Nat.reduceEqDiff, ↓reduceIte, reduceCtorEq, Nat.reduceAdd, Nat.reduceMul, Nat.reduceLeDiff, hr]); rfl) ?_
    | refine wpc_of (by simp (disch := omega) only [push_cast, Nat.reduceEqDiff, ↓reduceIte, reduceCtorEq, Nat.reduceAdd, Nat.reduceMul, Nat.reduceLeDiff, hr]; rfl) ?_)
    simp only [g, if_true, if_false]
    trivial


/-- What a round of the loop leaves as it is, and its counter. -/
structure RoundI (base h : AH) (c n : Nat) : Prop where
  kp : ∀ b, b < base.n → h.get b = base.get b
  cnt : h.get c = some (.cells false [.int .i64 (n : Int)])
  le : base.n ≤ c

theorem RoundI.mv {base h h' : AH} {c n l : Nat} {T : Nat → Prop} (r : RoundI base h c n) (hl : c < l) (hT : ∀ b, T b → l < b) (f : Fm l T h h') : RoundI base h' c n where
  kp := fun b hb => by have := r.le; have := AH.get_lt r.cnt; rw [f.keep b (by omega) (fun h => by have := hT b h; omega) (by omega)]; exact r.kp b hb
  cnt := by rw [f.keep c (AH.get_lt r.cnt) (fun h => by have := hT c h; omega) (by omega)]; exact r.cnt
  le := r.le
theorem RoundI.step {base h : AH} {c n : Nat} (r : RoundI base h c n) {m : Nat} {x : Int} (hx : x = m) : RoundI base (h.set c (.cells false [.int .i64 x])) c m where
  kp := fun b hb => by have := r.le; rw [AH.get_set_ne _ (by omega)]; exact r.kp b hb
  cnt := by rw [hx]; exact AH.get_set_same _ (AH.get_lt r.cnt)
  le := r.le
theorem Reads.ag {h h' : AH} {e : Nat} {s : Sl} {xss : List (List Value)} (r : Reads h e s xss) (k : ∀ b, b < h.n → h'.get b = h.get b) : Reads h' e s xss := by
  refine ⟨r.1, r.2.1, ?_⟩
  have := r.2.2
  cases s with
  | nil => trivial
  | «at» b o n => exact this.imp id fun ⟨ro, pre, post, h1, h2⟩ => ⟨ro, pre, post, by rw [k _ (AH.get_lt h1)]; exact h1, h2⟩
theorem Reads.setNe {h : AH} {e : Nat} {s : Sl} {xss : List (List Value)} (r : Reads h e s xss) {c : Nat} (o : AObj) (k : ∀ b, s.blk = some b → b ≠ c) : Reads (h.set c o) e s xss :=
  r.same fun b hb => AH.get_set_ne o (k b hb)
theorem Kp.push {h0 h : AH} (k : Kp h0 h) (o : AObj) : Kp h0 (h.push o) := ⟨by have := k.1; rw [AH.push_n]; omega, fun b hb => by have := k.1; rw [AH.get_push_ne _ (by omega)]; exact k.2 b hb⟩
theorem Kp.setNew {h0 h : AH} (k : Kp h0 h) {c : Nat} (o : AObj) (hc : h0.n ≤ c) : Kp h0 (h.set c o) := ⟨k.1, fun b hb => by rw [AH.get_set_ne _ (by omega)]; exact k.2 b hb⟩

set_option maxHeartbeats 1600000 in
theorem setsAll_run (l : List (Int × Int)) (s : Sl) (n : Int) (h : AH) (hr : Reads h 2 s (l.map spanV)) (hn : l.length ≤ 17592186044416) (hb : Span32 l) (n1 : -9223372036854775808 ≤ n) (n2 : n < 9223372036854775808) :
    WpC PS 10 [s.val 2, .int .i64 n] h fun v _ => v = .bool true := by
  have hlen := hr.len
  refine wpc_fn (ps_ext rfl) (ps_fn fn10) rfl ?_
  unfold LF10
  simp only [argFr]
  (repeat' first
    | (show WpR _ _ _ _ _ _ _ _ _
       first
       | refine wpr_p (o := .mv _) (by simp only [ev_mv, opd_s, opd_c, fget, Nat.reduceEqDiff, Nat.one_ne_zero, Nat.zero_ne_one, reduceCtorEq, ↓reduceIte]; rfl) ?_
       | (refine wpr_fork (fun _ => ?_) (fun _ => ?_) <;> try (exfalso; omega))
       | (refine wpr_forkN (fun _ => ?_) (fun _ => ?_) <;> try (exfalso; omega))
       | refine wpr_p (by simp (disch := omega) only [push_cast, Nat.reduceEqDiff, ↓reduceIte, reduceCtorEq, Nat.reduceAdd, Nat.reduceMul, Nat.reduceLeDiff, hlen, alive_eq]; rfl) ?_
       | refine wpr_r (by simp (disch := omega) only [push_cast, Nat.reduceEqDiff, ↓reduceIte, reduceCtorEq, Nat.reduceAdd, Nat.reduceMul, Nat.reduceLeDiff, hlen, alive_eq]; rfl) ?_
       | refine wpr_run rfl ?_
       | refine wpr_pass rfl rfl ?_
       | refine wpr_passS rfl ?_
       | refine wpr_call (by (try simp (disch := omega) only [push_cast, Nat.reduceEqDiff, ↓reduceIte, reduceCtorEq, Nat.reduceAdd, Nat.reduceMul, Nat.reduceLeDiff, hlen, alive_eq]) <;> rfl) (by first | rfl | simp only [push_cast, Nat.reduceEqDiff, ↓reduceIte, reduceCtorEq, Nat.reduceAdd, Nat.reduceMul, Nat.reduceLeDiff, hlen, alive_eq]) ?_
       | refine wpr_e0 (by simp (disch := omega) only [push_cast, Nat.reduceEqDiff, ↓reduceIte, reduceCtorEq, Nat.reduceAdd, Nat.reduceMul, Nat.reduceLeDiff, hlen, alive_eq]; rfl) ?_
       | refine wpr_e (by simp (disch := omega) only [push_cast, Nat.reduceEqDiff, ↓reduceIte, reduceCtorEq, Nat.reduceAdd, Nat.reduceMul, Nat.reduceLeDiff, hlen, alive_eq]; rfl) ?_
       | refine wpr_nil (by first | exact chkT_nil | (simp (disch := omega) only [push_cast, Nat.reduceEqDiff, ↓reduceIte, reduceCtorEq, Nat.reduceAdd, Nat.reduceMul, Nat.reduceLeDiff, hlen, alive_eq]; done)) (by (try simp only [push_cast, Nat.reduceEqDiff, ↓reduceIte, reduceCtorEq, Nat.reduceAdd, Nat.reduceMul, Nat.reduceLeDiff, hlen, alive_eq]); rfl) (by (try simp only [push_cast, Nat.reduceEqDiff, ↓reduceIte, reduceCtorEq, Nat.reduceAdd, Nat.reduceMul, Nat.reduceLeDiff, hlen, alive_eq]); rfl) ?_
       | refine wpr_pass0 rfl rfl ?_
       | refine wpr_pass0S rfl ?_)
    | (show Wp _ _ _ _ _ _
       first
       | refine wp_seq ?_
       | refine wp_region ?_
       | refine wp_cond_t rfl ?_
       | refine wp_cond_f rfl ?_
       | refine wp_ret ?_
       | refine wp_skip ?_
       | refine wp_exit ?_
       | refine wp_block ?_)
    | refine thenQ_norm ?_
    | refine thenQ_ret ?_
    | refine thenQ_exit ?_
    | refine blockQ_norm ?_
    | refine blockQ_ret ?_
    | refine blockQ_same ?_
    | refine blockQ_ne rfl ?_
    | refine loopQ_norm ?_
    | refine loopQ_ret ?_
    | refine loopQ_exit ?_
    | refine retQ_ret (by (try simp (disch := omega) only [push_cast, Nat.reduceEqDiff, ↓reduceIte, reduceCtorEq, Nat.reduceAdd, Nat.reduceMul, Nat.reduceLeDiff, hlen, alive_eq]); rfl) ?_
    | refine retQ_norm (by (try simp (disch := omega) only [push_cast, Nat.reduceEqDiff, ↓reduceIte, reduceCtorEq, Nat.reduceAdd, Nat.reduceMul, Nat.reduceLeDiff, hlen, alive_eq]); rfl) ?_
    | refine wpc_of (by simp (disch := omega) only [push_cast, Nat.reduceEqDiff, ↓reduceIte, reduceCtorEq, Nat.reduceAdd, Nat.reduceMul, Nat.reduceLeDiff, hlen, alive_eq]; rfl) ?_)
  have g3 : ((h.push (.cells false [.int .i64 n])).push (.cells false [.bool false])).get h.n = some (.cells false [.int .i64 n]) := by
    rw [AH.get_push_ne _ (by rw [AH.push_n]; omega)]; exact AH.get_push_same _ _
  have g4 := AH.get_push_same (h.push (.cells false [.int .i64 n])) (.cells false [.bool false])
  have hkp : Kp h ((h.push (.cells false [.int .i64 n])).push (.cells false [.bool false])) :=
    ⟨by rw [AH.push_n, AH.push_n]; omega, fun b hb => by rw [AH.get_push_ne _ (by rw [AH.push_n]; omega), AH.get_push_ne _ (by omega)]⟩
  rw [AH.push_n] at g4 ⊢
  generalize (h.push (.cells false [.int .i64 n])).push (.cells false [.bool false]) = h0 at g3 g4 hkp
  refine (few_eq l s h0 (hr.kp hkp) (by omega)).mono ?_
  rintro v h0' ⟨rfl, s1, rfl, hr1⟩
  have hl60 : (l.take 60).length ≤ 60 := by rw [List.length_take]; omega
  have hb60 := hb.take 60
  generalize l.take 60 = m at hr1 hl60 hb60
  (repeat' first
    | (show WpR _ _ _ _ _ _ _ _ _
       first
       | refine wpr_p (o := .mv _) (by simp only [ev_mv, opd_s, opd_c, fget, Nat.reduceEqDiff, Nat.one_ne_zero, Nat.zero_ne_one, reduceCtorEq, ↓reduceIte]; rfl) ?_
       | (refine wpr_fork (fun _ => ?_) (fun _ => ?_) <;> try (exfalso; omega))
       | (refine wpr_forkN (fun _ => ?_) (fun _ => ?_) <;> try (exfalso; omega))
       | refine wpr_p (by simp (disch := omega) only [push_cast, Nat.reduceEqDiff, ↓reduceIte, reduceCtorEq, Nat.reduceAdd, Nat.reduceMul, Nat.reduceLeDiff]; rfl) ?_
       | refine wpr_r (by simp (disch := omega) only [push_cast, Nat.reduceEqDiff, ↓reduceIte, reduceCtorEq, Nat.reduceAdd, Nat.reduceMul, Nat.reduceLeDiff]; rfl) ?_
       | refine wpr_run rfl ?_
       | refine wpr_pass rfl rfl ?_
       | refine wpr_passS rfl ?_
       | refine wpr_call (by (try simp (disch := omega) only [push_cast, Nat.reduceEqDiff, ↓reduceIte, reduceCtorEq, Nat.reduceAdd, Nat.reduceMul, Nat.reduceLeDiff]) <;> rfl) (by first | rfl | simp only [push_cast, Nat.reduceEqDiff, ↓reduceIte, reduceCtorEq, Nat.reduceAdd, Nat.reduceMul, Nat.reduceLeDiff]) ?_
       | refine wpr_e0 (by simp (disch := omega) only [push_cast, Nat.reduceEqDiff, ↓reduceIte, reduceCtorEq, Nat.reduceAdd, Nat.reduceMul, Nat.reduceLeDiff]; rfl) ?_
       | refine wpr_e (by simp (disch := omega) only [push_cast, Nat.reduceEqDiff, ↓reduceIte, reduceCtorEq, Nat.reduceAdd, Nat.reduceMul, Nat.reduceLeDiff]; rfl) ?_
       | refine wpr_nil (by first | exact chkT_nil | (simp (disch := omega) only [push_cast, Nat.reduceEqDiff, ↓reduceIte, reduceCtorEq, Nat.reduceAdd, Nat.reduceMul, Nat.reduceLeDiff]; done)) (by (try simp only [push_cast, Nat.reduceEqDiff, ↓reduceIte, reduceCtorEq, Nat.reduceAdd, Nat.reduceMul, Nat.reduceLeDiff]); rfl) (by (try simp only [push_cast, Nat.reduceEqDiff, ↓reduceIte, reduceCtorEq, Nat.reduceAdd, Nat.reduceMul, Nat.reduceLeDiff]); rfl) ?_
       | refine wpr_pass0 rfl rfl ?_
       | refine wpr_pass0S rfl ?_)
    | (show Wp _ _ _ _ _ _
       first
       | refine wp_seq ?_
       | refine wp_region ?_
       | refine wp_cond_t rfl ?_
       | refine wp_cond_f rfl ?_
       | refine wp_ret ?_
       | refine wp_skip ?_
       | refine wp_exit ?_
       | refine wp_block ?_)
    | refine thenQ_norm ?_
    | refine thenQ_ret ?_
    | refine thenQ_exit ?_
    | refine blockQ_norm ?_
    | refine blockQ_ret ?_
    | refine blockQ_same ?_
    | refine blockQ_ne rfl ?_
    | refine loopQ_norm ?_
    | refine loopQ_ret ?_
    | refine loopQ_exit ?_
    | refine retQ_ret (by (try simp (disch := omega) only [push_cast, Nat.reduceEqDiff, ↓reduceIte, reduceCtorEq, Nat.reduceAdd, Nat.reduceMul, Nat.reduceLeDiff]); rfl) ?_
    | refine retQ_norm (by (try simp (disch := omega) only [push_cast, Nat.reduceEqDiff, ↓reduceIte, reduceCtorEq, Nat.reduceAdd, Nat.reduceMul, Nat.reduceLeDiff]); rfl) ?_
    | refine wpc_of (by simp (disch := omega) only [push_cast, Nat.reduceEqDiff, ↓reduceIte, reduceCtorEq, Nat.reduceAdd, Nat.reduceMul, Nat.reduceLeDiff]; rfl) ?_)
  refine (lawMade_spec m s1 h0' hr1 (by omega) hb60).mono ?_
  rintro v h2 ⟨k2, hor⟩
  have hlt0 := AH.get_lt g3
  have g3 := k2.get g3
  have g4 := k2.get g4
  have l3 := AH.get_lt g3
  have l4 := AH.get_lt g4
  rcases hor with ⟨e0, rfl⟩ | ⟨e0, b, t, rfl, hs, ht, htb⟩
  · (repeat' first
    | (show WpR _ _ _ _ _ _ _ _ _
       first
       | refine wpr_p (o := .mv _) (by simp only [ev_mv, opd_s, opd_c, fget, Nat.reduceEqDiff, Nat.one_ne_zero, Nat.zero_ne_one, reduceCtorEq, ↓reduceIte]; rfl) ?_
       | (refine wpr_fork (fun _ => ?_) (fun _ => ?_) <;> try (exfalso; omega))
       | (refine wpr_forkN (fun _ => ?_) (fun _ => ?_) <;> try (exfalso; omega))
       | refine wpr_p (by simp (disch := ((try simp only [AH.push_n, AH.set_n]); omega)) only [push_cast, Nat.reduceEqDiff, ↓reduceIte, reduceCtorEq, Nat.reduceAdd, Nat.reduceMul, Nat.reduceLeDiff, AH.get_push_same, AH.get_push_ne, AH.get_set_same, AH.get_set_ne, AH.push_n, AH.set_n, g3, g4]; rfl) ?_
       | refine wpr_r (by simp (disch := ((try simp only [AH.push_n, AH.set_n]); omega)) only [push_cast, Nat.reduceEqDiff, ↓reduceIte, reduceCtorEq, Nat.reduceAdd, Nat.reduceMul, Nat.reduceLeDiff, AH.get_push_same, AH.get_push_ne, AH.get_set_same, AH.get_set_ne, AH.push_n, AH.set_n, g3, g4]; rfl) ?_
       | refine wpr_run rfl ?_
       | refine wpr_pass rfl rfl ?_
       | refine wpr_passS rfl ?_
       | refine wpr_call (by (try simp (disch := ((try simp only [AH.push_n, AH.set_n]); omega)) only [push_cast, Nat.reduceEqDiff, ↓reduceIte, reduceCtorEq, Nat.reduceAdd, Nat.reduceMul, Nat.reduceLeDiff, AH.get_push_same, AH.get_push_ne, AH.get_set_same, AH.get_set_ne, AH.push_n, AH.set_n, g3, g4]) <;> rfl) (by first | rfl | simp only [push_cast, Nat.reduceEqDiff, ↓reduceIte, reduceCtorEq, Nat.reduceAdd, Nat.reduceMul, Nat.reduceLeDiff, AH.get_push_same, AH.get_push_ne, AH.get_set_same, AH.get_set_ne, AH.push_n, AH.set_n, g3, g4]) ?_
       | refine wpr_e0 (by simp (disch := ((try simp only [AH.push_n, AH.set_n]); omega)) only [push_cast, Nat.reduceEqDiff, ↓reduceIte, reduceCtorEq, Nat.reduceAdd, Nat.reduceMul, Nat.reduceLeDiff, AH.get_push_same, AH.get_push_ne, AH.get_set_same, AH.get_set_ne, AH.push_n, AH.set_n, g3, g4]; rfl) ?_
       | refine wpr_e (by simp (disch := ((try simp only [AH.push_n, AH.set_n]); omega)) only [push_cast, Nat.reduceEqDiff, ↓reduceIte, reduceCtorEq, Nat.reduceAdd, Nat.reduceMul, Nat.reduceLeDiff, AH.get_push_same, AH.get_push_ne, AH.get_set_same, AH.get_set_ne, AH.push_n, AH.set_n, g3, g4]; rfl) ?_
       | refine wpr_nil (by first | exact chkT_nil | (simp (disch := ((try simp only [AH.push_n, AH.set_n]); omega)) only [push_cast, Nat.reduceEqDiff, ↓reduceIte, reduceCtorEq, Nat.reduceAdd, Nat.reduceMul, Nat.reduceLeDiff, AH.get_push_same, AH.get_push_ne, AH.get_set_same, AH.get_set_ne, AH.push_n, AH.set_n, g3, g4]; done)) (by (try simp only [push_cast, Nat.reduceEqDiff, ↓reduceIte, reduceCtorEq, Nat.reduceAdd, Nat.reduceMul, Nat.reduceLeDiff, AH.get_push_same, AH.get_push_ne, AH.get_set_same, AH.get_set_ne, AH.push_n, AH.set_n, g3, g4]); rfl) (by (try simp only [push_cast, Nat.reduceEqDiff, ↓reduceIte, reduceCtorEq, Nat.reduceAdd, Nat.reduceMul, Nat.reduceLeDiff, AH.get_push_same, AH.get_push_ne, AH.get_set_same, AH.get_set_ne, AH.push_n, AH.set_n, g3, g4]); rfl) ?_
       | refine wpr_pass0 rfl rfl ?_
       | refine wpr_pass0S rfl ?_)
    | (show Wp _ _ _ _ _ _
       first
       | refine wp_seq ?_
       | refine wp_region ?_
       | refine wp_cond_t rfl ?_
       | refine wp_cond_f rfl ?_
       | refine wp_ret ?_
       | refine wp_skip ?_
       | refine wp_exit ?_
       | refine wp_block ?_)
    | refine thenQ_norm ?_
    | refine thenQ_ret ?_
    | refine thenQ_exit ?_
    | refine blockQ_norm ?_
    | refine blockQ_ret ?_
    | refine blockQ_same ?_
    | refine blockQ_ne rfl ?_
    | refine loopQ_norm ?_
    | refine loopQ_ret ?_
    | refine loopQ_exit ?_
    | refine retQ_ret (by (try simp (disch := ((try simp only [AH.push_n, AH.set_n]); omega)) only [push_cast, Nat.reduceEqDiff, ↓reduceIte, reduceCtorEq, Nat.reduceAdd, Nat.reduceMul, Nat.reduceLeDiff, AH.get_push_same, AH.get_push_ne, AH.get_set_same, AH.get_set_ne, AH.push_n, AH.set_n, g3, g4]); rfl) ?_
    | refine retQ_norm (by (try simp (disch := ((try simp only [AH.push_n, AH.set_n]); omega)) only [push_cast, Nat.reduceEqDiff, ↓reduceIte, reduceCtorEq, Nat.reduceAdd, Nat.reduceMul, Nat.reduceLeDiff, AH.get_push_same, AH.get_push_ne, AH.get_set_same, AH.get_set_ne, AH.push_n, AH.set_n, g3, g4]); rfl) ?_
    | refine wpc_of (by simp (disch := ((try simp only [AH.push_n, AH.set_n]); omega)) only [push_cast, Nat.reduceEqDiff, ↓reduceIte, reduceCtorEq, Nat.reduceAdd, Nat.reduceMul, Nat.reduceLeDiff, AH.get_push_same, AH.get_push_ne, AH.get_set_same, AH.get_set_ne, AH.push_n, AH.set_n, g3, g4]; rfl) ?_)
    rfl
  have hR := all_right e0
  have hCl := canonF_length m
  have hCb := canonF_bound hR
  generalize canonF m = C at hs ht hCl hCb
  obtain ⟨tt, hsg, hsbn, hsr, httb⟩ := hs
  have lb := AH.get_lt hsg
  have hh3 : ∃ h3, h3 = (h2.push (.cells false [.slice none 0 0])).set h2.n (.cells false [t.val 2]) := ⟨_, rfl⟩
  obtain ⟨h3, e3⟩ := hh3
  have k3 : Kp h2 h3 := by
    rw [e3]
    exact ⟨by rw [AH.set_n, AH.push_n]; omega, fun b hb => by rw [AH.get_set_ne _ (by omega), AH.get_push_ne _ (by omega)]⟩
  have n3 : h3.n = h2.n + 1 := by rw [e3]; rfl
  have g6 : h3.get h2.n = some (.cells false [t.val 2]) := by rw [e3]; exact AH.get_set_same _ (by rw [AH.push_n]; omega)
  have ez := refSize_eq (ht.kp k3) (by simp; omega) (fun y hy => by
    obtain ⟨x, hx, rfl⟩ := List.mem_map.1 hy
    exact spanOf_bound (hCb x hx))
  rw [sizeS_spanOf hCb] at ez
  have g3 := k3.get g3
  have g4 := k3.get g4
  have hsg := k3.get hsg
  have hsr := hsr.kp k3
  have ht := ht.kp k3
  have hz0 := sizeR_bound (l := C) (fun x hx => by have := hCb x hx; omega)
  (repeat' first
    | (show WpR _ _ _ _ _ _ _ _ _
       first
       | refine wpr_p (o := .mv _) (by simp only [ev_mv, opd_s, opd_c, fget, Nat.reduceEqDiff, Nat.one_ne_zero, Nat.zero_ne_one, reduceCtorEq, ↓reduceIte]; rfl) ?_
       | (refine wpr_fork (fun _ => ?_) (fun _ => ?_) <;> try (exfalso; omega))
       | (refine wpr_forkN (fun _ => ?_) (fun _ => ?_) <;> try (exfalso; omega))
       | refine wpr_p (by simp (disch := ((try simp only [AH.push_n, AH.set_n]); omega)) only [push_cast, Nat.reduceEqDiff, ↓reduceIte, reduceCtorEq, Nat.reduceAdd, Nat.reduceMul, Nat.reduceLeDiff, AH.get_push_same, AH.get_push_ne, AH.get_set_same, AH.get_set_ne, AH.push_n, AH.set_n, g3, g4]; rfl) ?_
       | refine wpr_r (by simp (disch := ((try simp only [AH.push_n, AH.set_n]); omega)) only [push_cast, Nat.reduceEqDiff, ↓reduceIte, reduceCtorEq, Nat.reduceAdd, Nat.reduceMul, Nat.reduceLeDiff, AH.get_push_same, AH.get_push_ne, AH.get_set_same, AH.get_set_ne, AH.push_n, AH.set_n, g3, g4]; rfl) ?_
       | refine wpr_run rfl ?_
       | refine wpr_pass rfl rfl ?_
       | refine wpr_passS rfl ?_
       | refine wpr_call (by (try simp (disch := ((try simp only [AH.push_n, AH.set_n]); omega)) only [push_cast, Nat.reduceEqDiff, ↓reduceIte, reduceCtorEq, Nat.reduceAdd, Nat.reduceMul, Nat.reduceLeDiff, AH.get_push_same, AH.get_push_ne, AH.get_set_same, AH.get_set_ne, AH.push_n, AH.set_n, g3, g4]) <;> rfl) (by first | rfl | simp only [push_cast, Nat.reduceEqDiff, ↓reduceIte, reduceCtorEq, Nat.reduceAdd, Nat.reduceMul, Nat.reduceLeDiff, AH.get_push_same, AH.get_push_ne, AH.get_set_same, AH.get_set_ne, AH.push_n, AH.set_n, g3, g4]) ?_
       | refine wpr_e0 (by simp (disch := ((try simp only [AH.push_n, AH.set_n]); omega)) only [push_cast, Nat.reduceEqDiff, ↓reduceIte, reduceCtorEq, Nat.reduceAdd, Nat.reduceMul, Nat.reduceLeDiff, AH.get_push_same, AH.get_push_ne, AH.get_set_same, AH.get_set_ne, AH.push_n, AH.set_n, g3, g4]; rfl) ?_
       | refine wpr_e (by simp (disch := ((try simp only [AH.push_n, AH.set_n]); omega)) only [push_cast, Nat.reduceEqDiff, ↓reduceIte, reduceCtorEq, Nat.reduceAdd, Nat.reduceMul, Nat.reduceLeDiff, AH.get_push_same, AH.get_push_ne, AH.get_set_same, AH.get_set_ne, AH.push_n, AH.set_n, g3, g4]; rfl) ?_
       | refine wpr_nil (by first | exact chkT_nil | (simp (disch := ((try simp only [AH.push_n, AH.set_n]); omega)) only [push_cast, Nat.reduceEqDiff, ↓reduceIte, reduceCtorEq, Nat.reduceAdd, Nat.reduceMul, Nat.reduceLeDiff, AH.get_push_same, AH.get_push_ne, AH.get_set_same, AH.get_set_ne, AH.push_n, AH.set_n, g3, g4]; done)) (by (try simp only [push_cast, Nat.reduceEqDiff, ↓reduceIte, reduceCtorEq, Nat.reduceAdd, Nat.reduceMul, Nat.reduceLeDiff, AH.get_push_same, AH.get_push_ne, AH.get_set_same, AH.get_set_ne, AH.push_n, AH.set_n, g3, g4]); rfl) (by (try simp only [push_cast, Nat.reduceEqDiff, ↓reduceIte, reduceCtorEq, Nat.reduceAdd, Nat.reduceMul, Nat.reduceLeDiff, AH.get_push_same, AH.get_push_ne, AH.get_set_same, AH.get_set_ne, AH.push_n, AH.set_n, g3, g4]); rfl) ?_
       | refine wpr_pass0 rfl rfl ?_
       | refine wpr_pass0S rfl ?_)
    | (show Wp _ _ _ _ _ _
       first
       | refine wp_seq ?_
       | refine wp_region ?_
       | refine wp_cond_t rfl ?_
       | refine wp_cond_f rfl ?_
       | refine wp_ret ?_
       | refine wp_skip ?_
       | refine wp_exit ?_
       | refine wp_block ?_)
    | refine thenQ_norm ?_
    | refine thenQ_ret ?_
    | refine thenQ_exit ?_
    | refine blockQ_norm ?_
    | refine blockQ_ret ?_
    | refine blockQ_same ?_
    | refine blockQ_ne rfl ?_
    | refine loopQ_norm ?_
    | refine loopQ_ret ?_
    | refine loopQ_exit ?_
    | refine retQ_ret (by (try simp (disch := ((try simp only [AH.push_n, AH.set_n]); omega)) only [push_cast, Nat.reduceEqDiff, ↓reduceIte, reduceCtorEq, Nat.reduceAdd, Nat.reduceMul, Nat.reduceLeDiff, AH.get_push_same, AH.get_push_ne, AH.get_set_same, AH.get_set_ne, AH.push_n, AH.set_n, g3, g4]); rfl) ?_
    | refine retQ_norm (by (try simp (disch := ((try simp only [AH.push_n, AH.set_n]); omega)) only [push_cast, Nat.reduceEqDiff, ↓reduceIte, reduceCtorEq, Nat.reduceAdd, Nat.reduceMul, Nat.reduceLeDiff, AH.get_push_same, AH.get_push_ne, AH.get_set_same, AH.get_set_ne, AH.push_n, AH.set_n, g3, g4]); rfl) ?_
    | refine wpc_of (by simp (disch := ((try simp only [AH.push_n, AH.set_n]); omega)) only [push_cast, Nat.reduceEqDiff, ↓reduceIte, reduceCtorEq, Nat.reduceAdd, Nat.reduceMul, Nat.reduceLeDiff, AH.get_push_same, AH.get_push_ne, AH.get_set_same, AH.get_set_ne, AH.push_n, AH.set_n, g3, g4]; rfl) ?_)
  rw [← e3]
  have l3 := AH.get_lt g3
  have l4 := AH.get_lt g4
  have l6 := AH.get_lt g6
  have ea := fun h => mkAll_eq b h
  have eb := fun h => mkBack_eq b h
  have ha3 := AH.get_lt hsg
  (repeat' first
    | (show WpR _ _ _ _ _ _ _ _ _
       first
       | refine wpr_p (o := .mv _) (by simp only [ev_mv, opd_s, opd_c, fget, Nat.reduceEqDiff, Nat.one_ne_zero, Nat.zero_ne_one, reduceCtorEq, ↓reduceIte]; rfl) ?_
       | (refine wpr_fork (fun _ => ?_) (fun _ => ?_) <;> try (exfalso; omega))
       | (refine wpr_forkN (fun _ => ?_) (fun _ => ?_) <;> try (exfalso; omega))
       | refine wpr_p (by simp (disch := ((try simp only [AH.push_n, AH.set_n]); omega)) only [push_cast, Nat.reduceEqDiff, ↓reduceIte, reduceCtorEq, Nat.reduceAdd, Nat.reduceMul, Nat.reduceLeDiff, AH.get_push_same, AH.get_push_ne, AH.get_set_same, AH.get_set_ne, AH.push_n, AH.set_n, g3, g4, g6, ez, ea, eb]; rfl) ?_
       | refine wpr_r (by simp (disch := ((try simp only [AH.push_n, AH.set_n]); omega)) only [push_cast, Nat.reduceEqDiff, ↓reduceIte, reduceCtorEq, Nat.reduceAdd, Nat.reduceMul, Nat.reduceLeDiff, AH.get_push_same, AH.get_push_ne, AH.get_set_same, AH.get_set_ne, AH.push_n, AH.set_n, g3, g4, g6, ez, ea, eb]; rfl) ?_
       | refine wpr_run rfl ?_
       | refine wpr_pass rfl rfl ?_
       | refine wpr_passS rfl ?_
       | refine wpr_call (by (try simp (disch := ((try simp only [AH.push_n, AH.set_n]); omega)) only [push_cast, Nat.reduceEqDiff, ↓reduceIte, reduceCtorEq, Nat.reduceAdd, Nat.reduceMul, Nat.reduceLeDiff, AH.get_push_same, AH.get_push_ne, AH.get_set_same, AH.get_set_ne, AH.push_n, AH.set_n, g3, g4, g6, ez, ea, eb]) <;> rfl) (by first | rfl | simp only [push_cast, Nat.reduceEqDiff, ↓reduceIte, reduceCtorEq, Nat.reduceAdd, Nat.reduceMul, Nat.reduceLeDiff, AH.get_push_same, AH.get_push_ne, AH.get_set_same, AH.get_set_ne, AH.push_n, AH.set_n, g3, g4, g6, ez, ea, eb]) ?_
       | refine wpr_e0 (by simp (disch := ((try simp only [AH.push_n, AH.set_n]); omega)) only [push_cast, Nat.reduceEqDiff, ↓reduceIte, reduceCtorEq, Nat.reduceAdd, Nat.reduceMul, Nat.reduceLeDiff, AH.get_push_same, AH.get_push_ne, AH.get_set_same, AH.get_set_ne, AH.push_n, AH.set_n, g3, g4, g6, ez, ea, eb]; rfl) ?_
       | refine wpr_e (by simp (disch := ((try simp only [AH.push_n, AH.set_n]); omega)) only [push_cast, Nat.reduceEqDiff, ↓reduceIte, reduceCtorEq, Nat.reduceAdd, Nat.reduceMul, Nat.reduceLeDiff, AH.get_push_same, AH.get_push_ne, AH.get_set_same, AH.get_set_ne, AH.push_n, AH.set_n, g3, g4, g6, ez, ea, eb]; rfl) ?_
       | refine wpr_nil (by first | exact chkT_nil | (simp (disch := ((try simp only [AH.push_n, AH.set_n]); omega)) only [push_cast, Nat.reduceEqDiff, ↓reduceIte, reduceCtorEq, Nat.reduceAdd, Nat.reduceMul, Nat.reduceLeDiff, AH.get_push_same, AH.get_push_ne, AH.get_set_same, AH.get_set_ne, AH.push_n, AH.set_n, g3, g4, g6, ez, ea, eb]; done)) (by (try simp only [push_cast, Nat.reduceEqDiff, ↓reduceIte, reduceCtorEq, Nat.reduceAdd, Nat.reduceMul, Nat.reduceLeDiff, AH.get_push_same, AH.get_push_ne, AH.get_set_same, AH.get_set_ne, AH.push_n, AH.set_n, g3, g4, g6, ez, ea, eb]); rfl) (by (try simp only [push_cast, Nat.reduceEqDiff, ↓reduceIte, reduceCtorEq, Nat.reduceAdd, Nat.reduceMul, Nat.reduceLeDiff, AH.get_push_same, AH.get_push_ne, AH.get_set_same, AH.get_set_ne, AH.push_n, AH.set_n, g3, g4, g6, ez, ea, eb]); rfl) ?_
       | refine wpr_pass0 rfl rfl ?_
       | refine wpr_pass0S rfl ?_)
    | (show Wp _ _ _ _ _ _
       first
       | refine wp_seq ?_
       | refine wp_region ?_
       | refine wp_cond_t rfl ?_
       | refine wp_cond_f rfl ?_
       | refine wp_ret ?_
       | refine wp_skip ?_
       | refine wp_exit ?_
       | refine wp_block ?_)
    | refine thenQ_norm ?_
    | refine thenQ_ret ?_
    | refine thenQ_exit ?_
    | refine blockQ_norm ?_
    | refine blockQ_ret ?_
    | refine blockQ_same ?_
    | refine blockQ_ne rfl ?_
    | refine loopQ_norm ?_
    | refine loopQ_ret ?_
    | refine loopQ_exit ?_
    | refine retQ_ret (by (try simp (disch := ((try simp only [AH.push_n, AH.set_n]); omega)) only [push_cast, Nat.reduceEqDiff, ↓reduceIte, reduceCtorEq, Nat.reduceAdd, Nat.reduceMul, Nat.reduceLeDiff, AH.get_push_same, AH.get_push_ne, AH.get_set_same, AH.get_set_ne, AH.push_n, AH.set_n, g3, g4, g6, ez, ea, eb]); rfl) ?_
    | refine retQ_norm (by (try simp (disch := ((try simp only [AH.push_n, AH.set_n]); omega)) only [push_cast, Nat.reduceEqDiff, ↓reduceIte, reduceCtorEq, Nat.reduceAdd, Nat.reduceMul, Nat.reduceLeDiff, AH.get_push_same, AH.get_push_ne, AH.get_set_same, AH.get_set_ne, AH.push_n, AH.set_n, g3, g4, g6, ez, ea, eb]); rfl) ?_
    | refine wpc_of (by simp (disch := ((try simp only [AH.push_n, AH.set_n]); omega)) only [push_cast, Nat.reduceEqDiff, ↓reduceIte, reduceCtorEq, Nat.reduceAdd, Nat.reduceMul, Nat.reduceLeDiff, AH.get_push_same, AH.get_push_ne, AH.get_set_same, AH.get_set_ne, AH.push_n, AH.set_n, g3, g4, g6, ez, ea, eb]; rfl) ?_)
  obtain ⟨stop, ew, w1, w2⟩ := within_eq n 1 3000 ((((h3.push (.cells false [.int .i64 0])).set h3.n (.cells false [.int .i64 (sizeR C)])).push (.cells false [.pointer (some ⟨b, 0, none⟩)])).push (.cells false [.pointer (some ⟨b, 0, none⟩)])) n1 n2 (by omega) (by omega) (by omega)
  have hX : ∃ X, X = (((h3.push (.cells false [.int .i64 0])).set h3.n (.cells false [.int .i64 (sizeR C)])).push (.cells false [.pointer (some ⟨b, 0, none⟩)])).push (.cells false [.pointer (some ⟨b, 0, none⟩)]) := ⟨_, rfl⟩
  obtain ⟨X, eX⟩ := hX
  have kX : Kp h3 X := by rw [eX]; exact ((((Kp.refl h3).push _).setNew _ (Nat.le_refl _)).push _).push _
  have nX : X.n = h3.n + 3 := by rw [eX]; rfl
  have x8 : X.get h3.n = some (.cells false [.int .i64 (sizeR C)]) := by
    rw [eX, AH.get_push_ne _ (by rw [AH.push_n, AH.set_n, AH.push_n]; omega), AH.get_push_ne _ (by rw [AH.set_n, AH.push_n]; omega), AH.get_set_same _ (by rw [AH.push_n]; omega)]
  have x9 : X.get (h3.n + 1) = some (.cells false [.pointer (some ⟨b, 0, none⟩)]) := by
    rw [eX, AH.get_push_ne _ (by rw [AH.push_n, AH.set_n, AH.push_n]; omega)]; exact AH.get_push_same _ _
  have x10 : X.get (h3.n + 2) = some (.cells false [.pointer (some ⟨b, 0, none⟩)]) := by rw [eX]; exact AH.get_push_same _ _
  rw [← eX] at ew ⊢
  have x3 := kX.get g3
  (repeat' first
    | (show WpR _ _ _ _ _ _ _ _ _
       first
       | refine wpr_p (o := .mv _) (by simp only [ev_mv, opd_s, opd_c, fget, Nat.reduceEqDiff, Nat.one_ne_zero, Nat.zero_ne_one, reduceCtorEq, ↓reduceIte]; rfl) ?_
       | (refine wpr_fork (fun _ => ?_) (fun _ => ?_) <;> try (exfalso; omega))
       | (refine wpr_forkN (fun _ => ?_) (fun _ => ?_) <;> try (exfalso; omega))
       | refine wpr_p (by simp (disch := ((try simp only [AH.push_n, AH.set_n]); omega)) only [push_cast, Nat.reduceEqDiff, ↓reduceIte, reduceCtorEq, Nat.reduceAdd, Nat.reduceMul, Nat.reduceLeDiff, AH.get_push_same, AH.get_push_ne, AH.get_set_same, AH.get_set_ne, AH.push_n, AH.set_n, x3, ew]; rfl) ?_
       | refine wpr_r (by simp (disch := ((try simp only [AH.push_n, AH.set_n]); omega)) only [push_cast, Nat.reduceEqDiff, ↓reduceIte, reduceCtorEq, Nat.reduceAdd, Nat.reduceMul, Nat.reduceLeDiff, AH.get_push_same, AH.get_push_ne, AH.get_set_same, AH.get_set_ne, AH.push_n, AH.set_n, x3, ew]; rfl) ?_
       | refine wpr_run rfl ?_
       | refine wpr_pass rfl rfl ?_
       | refine wpr_passS rfl ?_
       | refine wpr_call (by (try simp (disch := ((try simp only [AH.push_n, AH.set_n]); omega)) only [push_cast, Nat.reduceEqDiff, ↓reduceIte, reduceCtorEq, Nat.reduceAdd, Nat.reduceMul, Nat.reduceLeDiff, AH.get_push_same, AH.get_push_ne, AH.get_set_same, AH.get_set_ne, AH.push_n, AH.set_n, x3, ew]) <;> rfl) (by first | rfl | simp only [push_cast, Nat.reduceEqDiff, ↓reduceIte, reduceCtorEq, Nat.reduceAdd, Nat.reduceMul, Nat.reduceLeDiff, AH.get_push_same, AH.get_push_ne, AH.get_set_same, AH.get_set_ne, AH.push_n, AH.set_n, x3, ew]) ?_
       | refine wpr_e0 (by simp (disch := ((try simp only [AH.push_n, AH.set_n]); omega)) only [push_cast, Nat.reduceEqDiff, ↓reduceIte, reduceCtorEq, Nat.reduceAdd, Nat.reduceMul, Nat.reduceLeDiff, AH.get_push_same, AH.get_push_ne, AH.get_set_same, AH.get_set_ne, AH.push_n, AH.set_n, x3, ew]; rfl) ?_
       | refine wpr_e (by simp (disch := ((try simp only [AH.push_n, AH.set_n]); omega)) only [push_cast, Nat.reduceEqDiff, ↓reduceIte, reduceCtorEq, Nat.reduceAdd, Nat.reduceMul, Nat.reduceLeDiff, AH.get_push_same, AH.get_push_ne, AH.get_set_same, AH.get_set_ne, AH.push_n, AH.set_n, x3, ew]; rfl) ?_
       | refine wpr_nil (by first | exact chkT_nil | (simp (disch := ((try simp only [AH.push_n, AH.set_n]); omega)) only [push_cast, Nat.reduceEqDiff, ↓reduceIte, reduceCtorEq, Nat.reduceAdd, Nat.reduceMul, Nat.reduceLeDiff, AH.get_push_same, AH.get_push_ne, AH.get_set_same, AH.get_set_ne, AH.push_n, AH.set_n, x3, ew]; done)) (by (try simp only [push_cast, Nat.reduceEqDiff, ↓reduceIte, reduceCtorEq, Nat.reduceAdd, Nat.reduceMul, Nat.reduceLeDiff, AH.get_push_same, AH.get_push_ne, AH.get_set_same, AH.get_set_ne, AH.push_n, AH.set_n, x3, ew]); rfl) (by (try simp only [push_cast, Nat.reduceEqDiff, ↓reduceIte, reduceCtorEq, Nat.reduceAdd, Nat.reduceMul, Nat.reduceLeDiff, AH.get_push_same, AH.get_push_ne, AH.get_set_same, AH.get_set_ne, AH.push_n, AH.set_n, x3, ew]); rfl) ?_
       | refine wpr_pass0 rfl rfl ?_
       | refine wpr_pass0S rfl ?_)
    | (show Wp _ _ _ _ _ _
       first
       | refine wp_seq ?_
       | refine wp_region ?_
       | refine wp_cond_t rfl ?_
       | refine wp_cond_f rfl ?_
       | refine wp_ret ?_
       | refine wp_skip ?_
       | refine wp_exit ?_
       | refine wp_block ?_)
    | refine thenQ_norm ?_
    | refine thenQ_ret ?_
    | refine thenQ_exit ?_
    | refine blockQ_norm ?_
    | refine blockQ_ret ?_
    | refine blockQ_same ?_
    | refine blockQ_ne rfl ?_
    | refine loopQ_norm ?_
    | refine loopQ_ret ?_
    | refine loopQ_exit ?_
    | refine retQ_ret (by (try simp (disch := ((try simp only [AH.push_n, AH.set_n]); omega)) only [push_cast, Nat.reduceEqDiff, ↓reduceIte, reduceCtorEq, Nat.reduceAdd, Nat.reduceMul, Nat.reduceLeDiff, AH.get_push_same, AH.get_push_ne, AH.get_set_same, AH.get_set_ne, AH.push_n, AH.set_n, x3, ew]); rfl) ?_
    | refine retQ_norm (by (try simp (disch := ((try simp only [AH.push_n, AH.set_n]); omega)) only [push_cast, Nat.reduceEqDiff, ↓reduceIte, reduceCtorEq, Nat.reduceAdd, Nat.reduceMul, Nat.reduceLeDiff, AH.get_push_same, AH.get_push_ne, AH.get_set_same, AH.get_set_ne, AH.push_n, AH.set_n, x3, ew]); rfl) ?_
    | refine wpc_of (by simp (disch := ((try simp only [AH.push_n, AH.set_n]); omega)) only [push_cast, Nat.reduceEqDiff, ↓reduceIte, reduceCtorEq, Nat.reduceAdd, Nat.reduceMul, Nat.reduceLeDiff, AH.get_push_same, AH.get_push_ne, AH.get_set_same, AH.get_set_ne, AH.push_n, AH.set_n, x3, ew]; rfl) ?_)
  clear eX ew
  obtain ⟨base, eB⟩ : ∃ B, B = X.set h.n (.cells false [.int .i64 stop]) := ⟨_, rfl⟩
  rw [← eB]
  have nb : base.n = h3.n + 3 := by rw [eB]; exact nX
  have bne : b ≠ h.n := by omega
  have y3 : base.get h.n = some (.cells false [.int .i64 stop]) := by rw [eB]; exact AH.get_set_same _ (by omega)
  have y4 : base.get (h.n + 1) = some (.cells false [.bool false]) := by rw [eB, AH.get_set_ne _ (by omega)]; exact kX.get g4
  have y6 : base.get h2.n = some (.cells false [t.val 2]) := by rw [eB, AH.get_set_ne _ (by omega)]; exact kX.get g6
  have y8 : base.get h3.n = some (.cells false [.int .i64 (sizeR C)]) := by rw [eB, AH.get_set_ne _ (by omega)]; exact x8
  have y9 : base.get (h3.n + 1) = some (.cells false [.pointer (some ⟨b, 0, none⟩)]) := by rw [eB, AH.get_set_ne _ (by omega)]; exact x9
  have y10 : base.get (h3.n + 2) = some (.cells false [.pointer (some ⟨b, 0, none⟩)]) := by rw [eB, AH.get_set_ne _ (by omega)]; exact x10
  have yb : base.get b = some (.cells false [tt.val 2]) := by rw [eB, AH.get_set_ne _ bne]; exact kX.get hsg
  have hlt0 : h.n < h0'.n := by assumption
  have ytt : Reads base 2 tt (C.map rowV) := by rw [eB]; exact (hsr.kp kX).setNe _ fun x hx => by have := httb x hx; omega
  have yt : Reads base 2 t ((C.map spanOf).map spanV) := by rw [eB]; exact (ht.kp kX).setNe _ fun x hx => by have := htb x hx; omega
  clear eB x3 x8 x9 x10
  have hsz := runesL_size hCb
  refine wp_loop (fun n fr lc h1 => ∃ (i : Nat), n = 2 - i ∧ i ≤ 2 ∧ fr = [(3, .pointer (some ⟨h.n, 0, none⟩)), (4, .pointer (some ⟨h.n + 1, 0, none⟩)), (6, .pointer (some ⟨h2.n, 0, none⟩)), (8, .pointer (some ⟨h3.n, 0, none⟩)),
      (9, .func (.func 75) #[] #[.pointer (some ⟨h3.n + 1, 0, none⟩)]), (10, .func (.func 76) #[] #[.pointer (some ⟨h3.n + 2, 0, none⟩)]), (11, .int .i64 (i : Int))] ∧ lc = [] ∧ Kp base h1)
    2 ⟨0, rfl, by omega, rfl, rfl, Kp.refl _⟩ ?_
  rintro n' fr lc h1 ⟨i, rfl, hi, rfl, rfl, kp⟩
  have z4 := kp.get y4
  have z4l := AH.get_lt z4
  have hSD : ∀ bx h', (bx = h3.n + 1 ∨ bx = h3.n + 2) → (∀ b, b < base.n → h'.get b = base.get b) → SetD bx b tt C h' := fun bx h' hb k => by
    refine ⟨?_, (k _ (AH.get_lt yb)).trans yb, ytt.ag k⟩
    rcases hb with rfl | rfl
    · exact (k _ (AH.get_lt y9)).trans y9
    · exact (k _ (AH.get_lt y10)).trans y10
  rcases Nat.lt_or_ge i 2 with hi2 | hi2
  rotate_left
  · have : i = 2 := by omega
    subst this
    (repeat' first
    | (show WpR _ _ _ _ _ _ _ _ _
       first
       | refine wpr_p (o := .mv _) (by simp only [ev_mv, opd_s, opd_c, fget, Nat.reduceEqDiff, Nat.one_ne_zero, Nat.zero_ne_one, reduceCtorEq, ↓reduceIte]; rfl) ?_
       | (refine wpr_fork (fun _ => ?_) (fun _ => ?_) <;> try (exfalso; omega))
       | (refine wpr_forkN (fun _ => ?_) (fun _ => ?_) <;> try (exfalso; omega))
       | refine wpr_p (by simp (disch := ((try simp only [AH.push_n, AH.set_n]); omega)) only [push_cast, Nat.reduceEqDiff, ↓reduceIte, reduceCtorEq, Nat.reduceAdd, Nat.reduceMul, Nat.reduceLeDiff, AH.get_push_same, AH.get_push_ne, AH.get_set_same, AH.get_set_ne, AH.push_n, AH.set_n, z4]; rfl) ?_
       | refine wpr_r (by simp (disch := ((try simp only [AH.push_n, AH.set_n]); omega)) only [push_cast, Nat.reduceEqDiff, ↓reduceIte, reduceCtorEq, Nat.reduceAdd, Nat.reduceMul, Nat.reduceLeDiff, AH.get_push_same, AH.get_push_ne, AH.get_set_same, AH.get_set_ne, AH.push_n, AH.set_n, z4]; rfl) ?_
       | refine wpr_run rfl ?_
       | refine wpr_pass rfl rfl ?_
       | refine wpr_passS rfl ?_
       | refine wpr_call (by (try simp (disch := ((try simp only [AH.push_n, AH.set_n]); omega)) only [push_cast, Nat.reduceEqDiff, ↓reduceIte, reduceCtorEq, Nat.reduceAdd, Nat.reduceMul, Nat.reduceLeDiff, AH.get_push_same, AH.get_push_ne, AH.get_set_same, AH.get_set_ne, AH.push_n, AH.set_n, z4]) <;> rfl) (by first | rfl | simp only [push_cast, Nat.reduceEqDiff, ↓reduceIte, reduceCtorEq, Nat.reduceAdd, Nat.reduceMul, Nat.reduceLeDiff, AH.get_push_same, AH.get_push_ne, AH.get_set_same, AH.get_set_ne, AH.push_n, AH.set_n, z4]) ?_
       | refine wpr_e0 (by simp (disch := ((try simp only [AH.push_n, AH.set_n]); omega)) only [push_cast, Nat.reduceEqDiff, ↓reduceIte, reduceCtorEq, Nat.reduceAdd, Nat.reduceMul, Nat.reduceLeDiff, AH.get_push_same, AH.get_push_ne, AH.get_set_same, AH.get_set_ne, AH.push_n, AH.set_n, z4]; rfl) ?_
       | refine wpr_e (by simp (disch := ((try simp only [AH.push_n, AH.set_n]); omega)) only [push_cast, Nat.reduceEqDiff, ↓reduceIte, reduceCtorEq, Nat.reduceAdd, Nat.reduceMul, Nat.reduceLeDiff, AH.get_push_same, AH.get_push_ne, AH.get_set_same, AH.get_set_ne, AH.push_n, AH.set_n, z4]; rfl) ?_
       | refine wpr_nil (by first | exact chkT_nil | (simp (disch := ((try simp only [AH.push_n, AH.set_n]); omega)) only [push_cast, Nat.reduceEqDiff, ↓reduceIte, reduceCtorEq, Nat.reduceAdd, Nat.reduceMul, Nat.reduceLeDiff, AH.get_push_same, AH.get_push_ne, AH.get_set_same, AH.get_set_ne, AH.push_n, AH.set_n, z4]; done)) (by (try simp only [push_cast, Nat.reduceEqDiff, ↓reduceIte, reduceCtorEq, Nat.reduceAdd, Nat.reduceMul, Nat.reduceLeDiff, AH.get_push_same, AH.get_push_ne, AH.get_set_same, AH.get_set_ne, AH.push_n, AH.set_n, z4]); rfl) (by (try simp only [push_cast, Nat.reduceEqDiff, ↓reduceIte, reduceCtorEq, Nat.reduceAdd, Nat.reduceMul, Nat.reduceLeDiff, AH.get_push_same, AH.get_push_ne, AH.get_set_same, AH.get_set_ne, AH.push_n, AH.set_n, z4]); rfl) ?_
       | refine wpr_pass0 rfl rfl ?_
       | refine wpr_pass0S rfl ?_)
    | (show Wp _ _ _ _ _ _
       first
       | refine wp_seq ?_
       | refine wp_region ?_
       | refine wp_cond_t rfl ?_
       | refine wp_cond_f rfl ?_
       | refine wp_ret ?_
       | refine wp_skip ?_
       | refine wp_exit ?_
       | refine wp_block ?_)
    | refine thenQ_norm ?_
    | refine thenQ_ret ?_
    | refine thenQ_exit ?_
    | refine blockQ_norm ?_
    | refine blockQ_ret ?_
    | refine blockQ_same ?_
    | refine blockQ_ne rfl ?_
    | refine loopQ_norm ?_
    | refine loopQ_ret ?_
    | refine loopQ_exit ?_
    | refine retQ_ret (by (try simp (disch := ((try simp only [AH.push_n, AH.set_n]); omega)) only [push_cast, Nat.reduceEqDiff, ↓reduceIte, reduceCtorEq, Nat.reduceAdd, Nat.reduceMul, Nat.reduceLeDiff, AH.get_push_same, AH.get_push_ne, AH.get_set_same, AH.get_set_ne, AH.push_n, AH.set_n, z4]); rfl) ?_
    | refine retQ_norm (by (try simp (disch := ((try simp only [AH.push_n, AH.set_n]); omega)) only [push_cast, Nat.reduceEqDiff, ↓reduceIte, reduceCtorEq, Nat.reduceAdd, Nat.reduceMul, Nat.reduceLeDiff, AH.get_push_same, AH.get_push_ne, AH.get_set_same, AH.get_set_ne, AH.push_n, AH.set_n, z4]); rfl) ?_
    | refine wpc_of (by simp (disch := ((try simp only [AH.push_n, AH.set_n]); omega)) only [push_cast, Nat.reduceEqDiff, ↓reduceIte, reduceCtorEq, Nat.reduceAdd, Nat.reduceMul, Nat.reduceLeDiff, AH.get_push_same, AH.get_push_ne, AH.get_set_same, AH.get_set_ne, AH.push_n, AH.set_n, z4]; rfl) ?_)
    rfl
  have hkn := kp.1
  (repeat' first
    | (show WpR _ _ _ _ _ _ _ _ _
       first
       | refine wpr_p (o := .mv _) (by simp only [ev_mv, opd_s, opd_c, fget, Nat.reduceEqDiff, Nat.one_ne_zero, Nat.zero_ne_one, reduceCtorEq, ↓reduceIte]; rfl) ?_
       | (refine wpr_fork (fun _ => ?_) (fun _ => ?_) <;> try (exfalso; omega))
       | (refine wpr_forkN (fun _ => ?_) (fun _ => ?_) <;> try (exfalso; omega))
       | refine wpr_p (by simp (disch := ((try simp only [AH.push_n, AH.set_n]); omega)) only [push_cast, Nat.reduceEqDiff, ↓reduceIte, reduceCtorEq, Nat.reduceAdd, Nat.reduceMul, Nat.reduceLeDiff, AH.get_push_same, AH.get_push_ne, AH.get_set_same, AH.get_set_ne, AH.push_n, AH.set_n]; rfl) ?_
       | refine wpr_r (by simp (disch := ((try simp only [AH.push_n, AH.set_n]); omega)) only [push_cast, Nat.reduceEqDiff, ↓reduceIte, reduceCtorEq, Nat.reduceAdd, Nat.reduceMul, Nat.reduceLeDiff, AH.get_push_same, AH.get_push_ne, AH.get_set_same, AH.get_set_ne, AH.push_n, AH.set_n]; rfl) ?_
       | refine wpr_run rfl ?_
       | refine wpr_pass rfl rfl ?_
       | refine wpr_passS rfl ?_
       | refine wpr_call (by (try simp (disch := ((try simp only [AH.push_n, AH.set_n]); omega)) only [push_cast, Nat.reduceEqDiff, ↓reduceIte, reduceCtorEq, Nat.reduceAdd, Nat.reduceMul, Nat.reduceLeDiff, AH.get_push_same, AH.get_push_ne, AH.get_set_same, AH.get_set_ne, AH.push_n, AH.set_n]) <;> rfl) (by first | rfl | simp only [push_cast, Nat.reduceEqDiff, ↓reduceIte, reduceCtorEq, Nat.reduceAdd, Nat.reduceMul, Nat.reduceLeDiff, AH.get_push_same, AH.get_push_ne, AH.get_set_same, AH.get_set_ne, AH.push_n, AH.set_n]) ?_
       | refine wpr_e0 (by simp (disch := ((try simp only [AH.push_n, AH.set_n]); omega)) only [push_cast, Nat.reduceEqDiff, ↓reduceIte, reduceCtorEq, Nat.reduceAdd, Nat.reduceMul, Nat.reduceLeDiff, AH.get_push_same, AH.get_push_ne, AH.get_set_same, AH.get_set_ne, AH.push_n, AH.set_n]; rfl) ?_
       | refine wpr_e (by simp (disch := ((try simp only [AH.push_n, AH.set_n]); omega)) only [push_cast, Nat.reduceEqDiff, ↓reduceIte, reduceCtorEq, Nat.reduceAdd, Nat.reduceMul, Nat.reduceLeDiff, AH.get_push_same, AH.get_push_ne, AH.get_set_same, AH.get_set_ne, AH.push_n, AH.set_n]; rfl) ?_
       | refine wpr_nil (by first | exact chkT_nil | (simp (disch := ((try simp only [AH.push_n, AH.set_n]); omega)) only [push_cast, Nat.reduceEqDiff, ↓reduceIte, reduceCtorEq, Nat.reduceAdd, Nat.reduceMul, Nat.reduceLeDiff, AH.get_push_same, AH.get_push_ne, AH.get_set_same, AH.get_set_ne, AH.push_n, AH.set_n]; done)) (by (try simp only [push_cast, Nat.reduceEqDiff, ↓reduceIte, reduceCtorEq, Nat.reduceAdd, Nat.reduceMul, Nat.reduceLeDiff, AH.get_push_same, AH.get_push_ne, AH.get_set_same, AH.get_set_ne, AH.push_n, AH.set_n]); rfl) (by (try simp only [push_cast, Nat.reduceEqDiff, ↓reduceIte, reduceCtorEq, Nat.reduceAdd, Nat.reduceMul, Nat.reduceLeDiff, AH.get_push_same, AH.get_push_ne, AH.get_set_same, AH.get_set_ne, AH.push_n, AH.set_n]); rfl) ?_
       | refine wpr_pass0 rfl rfl ?_
       | refine wpr_pass0S rfl ?_)
    | (show Wp _ _ _ _ _ _
       first
       | refine wp_seq ?_
       | refine wp_region ?_
       | refine wp_cond_t rfl ?_
       | refine wp_cond_f rfl ?_
       | refine wp_ret ?_
       | refine wp_skip ?_
       | refine wp_exit ?_
       | refine wp_block ?_)
    | refine thenQ_norm ?_
    | refine thenQ_ret ?_
    | refine thenQ_exit ?_
    | refine blockQ_norm ?_
    | refine blockQ_ret ?_
    | refine blockQ_same ?_
    | refine blockQ_ne rfl ?_
    | refine loopQ_norm ?_
    | refine loopQ_ret ?_
    | refine loopQ_exit ?_
    | refine retQ_ret (by (try simp (disch := ((try simp only [AH.push_n, AH.set_n]); omega)) only [push_cast, Nat.reduceEqDiff, ↓reduceIte, reduceCtorEq, Nat.reduceAdd, Nat.reduceMul, Nat.reduceLeDiff, AH.get_push_same, AH.get_push_ne, AH.get_set_same, AH.get_set_ne, AH.push_n, AH.set_n]); rfl) ?_
    | refine retQ_norm (by (try simp (disch := ((try simp only [AH.push_n, AH.set_n]); omega)) only [push_cast, Nat.reduceEqDiff, ↓reduceIte, reduceCtorEq, Nat.reduceAdd, Nat.reduceMul, Nat.reduceLeDiff, AH.get_push_same, AH.get_push_ne, AH.get_set_same, AH.get_set_ne, AH.push_n, AH.set_n]); rfl) ?_
    | refine wpc_of (by simp (disch := ((try simp only [AH.push_n, AH.set_n]); omega)) only [push_cast, Nat.reduceEqDiff, ↓reduceIte, reduceCtorEq, Nat.reduceAdd, Nat.reduceMul, Nat.reduceLeDiff, AH.get_push_same, AH.get_push_ne, AH.get_set_same, AH.get_set_ne, AH.push_n, AH.set_n]; rfl) ?_)
  have r0 : RoundI base ((h1.push (.cells false [.int .i64 0])).set h1.n (.cells false [.int .i64 0])) h1.n 0 :=
    ⟨fun b hb => by rw [AH.get_set_ne _ (by omega), AH.get_push_ne _ (by omega)]; exact kp.2 b hb, AH.get_set_same _ (by rw [AH.push_n]; omega), kp.1⟩
  have nx : ((h1.push (.cells false [.int .i64 0])).set h1.n (.cells false [.int .i64 0])).n = h1.n + 1 := rfl
  generalize (h1.push (.cells false [.int .i64 0])).set h1.n (.cells false [.int .i64 0]) = hx at r0 nx
  have got : ∀ h' k, RoundI base h' h1.n k → h'.get h.n = some (.cells false [.int .i64 stop]) ∧ h'.get (h.n + 1) = some (.cells false [.bool false]) ∧ h'.get h2.n = some (.cells false [t.val 2]) ∧ h'.get h3.n = some (.cells false [.int .i64 (sizeR C)]) ∧
      Reads h' 2 t ((C.map spanOf).map spanV) := fun h' k r =>
    ⟨(r.kp _ (AH.get_lt y3)).trans y3, (r.kp _ (AH.get_lt y4)).trans y4, (r.kp _ (AH.get_lt y6)).trans y6, (r.kp _ (AH.get_lt y8)).trans y8, yt.ag r.kp⟩
  refine wp_range (xs := runesL C) (enc := runeV) rfl (all_seq (bx := h3.n + 1) (b := b) (t := tt) hCb (by omega)) (fun _ => rfl)
    (fun i T h' => RoundI base h' h1.n i ∧ (i : Int) < stop) (fun ex T h' => ex = .exit 2 ∧ ∃ i, RoundI base h' h1.n i ∧ (i : Int) = stop)
    (fun x => [(3, .pointer (some ⟨h.n, 0, none⟩)), (4, .pointer (some ⟨h.n + 1, 0, none⟩)), (6, .pointer (some ⟨h2.n, 0, none⟩)), (8, .pointer (some ⟨h3.n, 0, none⟩)), (12, .pointer (some ⟨h1.n, 0, none⟩)), (13, .int .i32 x)]) (fun _ => []) ?_ ?_ ?_ ?_ ?_ ?_ ?_ ?_
  · rintro i T T' h1 h2 ⟨a0, a1⟩ hT hm hT'
    exact ⟨a0.mv (by omega) (fun b hb => (hT b hb).1) hm, a1⟩
  · rintro ex T T' h1 h2 ⟨a0, i, a1, a2⟩ hT hm hT'
    exact ⟨a0, i, a1.mv (by omega) (fun b hb => (hT b hb).1) hm, a2⟩
  · rintro i T h' ⟨a0, a1⟩
    exact hSD _ _ (.inl rfl) a0.kp
  · intro x h'
    simp only [runeV, List.zip_cons_cons, List.zip_nil_right, List.reverse_cons, List.reverse_nil, List.nil_append, List.cons_append, okFr_cons, okFr_nil, okV_eq, isLoc_ptr, isLoc_func, isLoc_int, Bool.not_false, if_true]
    (repeat' first
    | (show WpR _ _ _ _ _ _ _ _ _
       first
       | refine wpr_p (o := .mv _) (by simp only [ev_mv, opd_s, opd_c, fget, Nat.reduceEqDiff, Nat.one_ne_zero, Nat.zero_ne_one, reduceCtorEq, ↓reduceIte]; rfl) ?_
       | (refine wpr_fork (fun _ => ?_) (fun _ => ?_) <;> try (exfalso; omega))
       | (refine wpr_forkN (fun _ => ?_) (fun _ => ?_) <;> try (exfalso; omega))
       | refine wpr_p (by simp (disch := omega) only [push_cast, Nat.reduceEqDiff, ↓reduceIte, reduceCtorEq, Nat.reduceAdd, Nat.reduceMul, Nat.reduceLeDiff]; rfl) ?_
       | refine wpr_r (by simp (disch := omega) only [push_cast, Nat.reduceEqDiff, ↓reduceIte, reduceCtorEq, Nat.reduceAdd, Nat.reduceMul, Nat.reduceLeDiff]; rfl) ?_
       | refine wpr_run rfl ?_
       | refine wpr_pass rfl rfl ?_
       | refine wpr_passS rfl ?_
       | refine wpr_call (by (try simp (disch := omega) only [push_cast, Nat.reduceEqDiff, ↓reduceIte, reduceCtorEq, Nat.reduceAdd, Nat.reduceMul, Nat.reduceLeDiff]) <;> rfl) (by first | rfl | simp only [push_cast, Nat.reduceEqDiff, ↓reduceIte, reduceCtorEq, Nat.reduceAdd, Nat.reduceMul, Nat.reduceLeDiff]) ?_
       | refine wpr_e0 (by simp (disch := omega) only [push_cast, Nat.reduceEqDiff, ↓reduceIte, reduceCtorEq, Nat.reduceAdd, Nat.reduceMul, Nat.reduceLeDiff]; rfl) ?_
       | refine wpr_e (by simp (disch := omega) only [push_cast, Nat.reduceEqDiff, ↓reduceIte, reduceCtorEq, Nat.reduceAdd, Nat.reduceMul, Nat.reduceLeDiff]; rfl) ?_
       | refine wpr_nil (by first | exact chkT_nil | (simp (disch := omega) only [push_cast, Nat.reduceEqDiff, ↓reduceIte, reduceCtorEq, Nat.reduceAdd, Nat.reduceMul, Nat.reduceLeDiff]; done)) (by (try simp only [push_cast, Nat.reduceEqDiff, ↓reduceIte, reduceCtorEq, Nat.reduceAdd, Nat.reduceMul, Nat.reduceLeDiff]); rfl) (by (try simp only [push_cast, Nat.reduceEqDiff, ↓reduceIte, reduceCtorEq, Nat.reduceAdd, Nat.reduceMul, Nat.reduceLeDiff]); rfl) ?_
       | refine wpr_pass0 rfl rfl ?_
       | refine wpr_pass0S rfl ?_)
    | (show Wp _ _ _ _ _ _
       first
       | refine wp_seq ?_
       | refine wp_region ?_
       | refine wp_cond_t rfl ?_
       | refine wp_cond_f rfl ?_
       | refine wp_ret ?_
       | refine wp_skip ?_
       | refine wp_exit ?_
       | refine wp_block ?_)
    | refine thenQ_norm ?_
    | refine thenQ_ret ?_
    | refine thenQ_exit ?_
    | refine blockQ_norm ?_
    | refine blockQ_ret ?_
    | refine blockQ_same ?_
    | refine blockQ_ne rfl ?_
    | refine loopQ_norm ?_
    | refine loopQ_ret ?_
    | refine loopQ_exit ?_
    | refine retQ_ret (by (try simp (disch := omega) only [push_cast, Nat.reduceEqDiff, ↓reduceIte, reduceCtorEq, Nat.reduceAdd, Nat.reduceMul, Nat.reduceLeDiff]); rfl) ?_
    | refine retQ_norm (by (try simp (disch := omega) only [push_cast, Nat.reduceEqDiff, ↓reduceIte, reduceCtorEq, Nat.reduceAdd, Nat.reduceMul, Nat.reduceLeDiff]); rfl) ?_
    | refine wpc_of (by simp (disch := omega) only [push_cast, Nat.reduceEqDiff, ↓reduceIte, reduceCtorEq, Nat.reduceAdd, Nat.reduceMul, Nat.reduceLeDiff]; rfl) ?_)
    exact ⟨rfl, rfl, rfl, rfl⟩
  · exact ⟨r0, by omega⟩
  · rintro i hi T h' o ⟨a0, a1⟩ hT hl ho
    obtain ⟨q3, q4, q6, q8, qr⟩ := got _ _ a0
    have e38 := refAt_eq qr (by omega) hCb (i : Int) (by omega) (by omega)
    rw [runesL_at hCb hi, Option.getD_some] at e38
    generalize (runesL C)[i] = x at e38
    have qc := a0.cnt
    have qcl := AH.get_lt qc
    have l3' := AH.get_lt q3
    (repeat' first
    | (show WpR _ _ _ _ _ _ _ _ _
       first
       | refine wpr_p (o := .mv _) (by simp only [ev_mv, opd_s, opd_c, fget, Nat.reduceEqDiff, Nat.one_ne_zero, Nat.zero_ne_one, reduceCtorEq, ↓reduceIte]; rfl) ?_
       | (refine wpr_fork (fun _ => ?_) (fun _ => ?_) <;> try (exfalso; omega))
       | (refine wpr_forkN (fun _ => ?_) (fun _ => ?_) <;> try (exfalso; omega))
       | refine wpr_p (by simp (disch := ((try simp only [AH.push_n, AH.set_n]); omega)) only [push_cast, Nat.reduceEqDiff, ↓reduceIte, reduceCtorEq, Nat.reduceAdd, Nat.reduceMul, Nat.reduceLeDiff, AH.get_push_same, AH.get_push_ne, AH.get_set_same, AH.get_set_ne, AH.push_n, AH.set_n, q3, q4, q6, q8, qc, e38]; rfl) ?_
       | refine wpr_r (by simp (disch := ((try simp only [AH.push_n, AH.set_n]); omega)) only [push_cast, Nat.reduceEqDiff, ↓reduceIte, reduceCtorEq, Nat.reduceAdd, Nat.reduceMul, Nat.reduceLeDiff, AH.get_push_same, AH.get_push_ne, AH.get_set_same, AH.get_set_ne, AH.push_n, AH.set_n, q3, q4, q6, q8, qc, e38]; rfl) ?_
       | refine wpr_run rfl ?_
       | refine wpr_pass rfl rfl ?_
       | refine wpr_passS rfl ?_
       | refine wpr_call (by (try simp (disch := ((try simp only [AH.push_n, AH.set_n]); omega)) only [push_cast, Nat.reduceEqDiff, ↓reduceIte, reduceCtorEq, Nat.reduceAdd, Nat.reduceMul, Nat.reduceLeDiff, AH.get_push_same, AH.get_push_ne, AH.get_set_same, AH.get_set_ne, AH.push_n, AH.set_n, q3, q4, q6, q8, qc, e38]) <;> rfl) (by first | rfl | simp only [push_cast, Nat.reduceEqDiff, ↓reduceIte, reduceCtorEq, Nat.reduceAdd, Nat.reduceMul, Nat.reduceLeDiff, AH.get_push_same, AH.get_push_ne, AH.get_set_same, AH.get_set_ne, AH.push_n, AH.set_n, q3, q4, q6, q8, qc, e38]) ?_
       | refine wpr_e0 (by simp (disch := ((try simp only [AH.push_n, AH.set_n]); omega)) only [push_cast, Nat.reduceEqDiff, ↓reduceIte, reduceCtorEq, Nat.reduceAdd, Nat.reduceMul, Nat.reduceLeDiff, AH.get_push_same, AH.get_push_ne, AH.get_set_same, AH.get_set_ne, AH.push_n, AH.set_n, q3, q4, q6, q8, qc, e38]; rfl) ?_
       | refine wpr_e (by simp (disch := ((try simp only [AH.push_n, AH.set_n]); omega)) only [push_cast, Nat.reduceEqDiff, ↓reduceIte, reduceCtorEq, Nat.reduceAdd, Nat.reduceMul, Nat.reduceLeDiff, AH.get_push_same, AH.get_push_ne, AH.get_set_same, AH.get_set_ne, AH.push_n, AH.set_n, q3, q4, q6, q8, qc, e38]; rfl) ?_
       | refine wpr_nil (by first | exact chkT_nil | (simp (disch := ((try simp only [AH.push_n, AH.set_n]); omega)) only [push_cast, Nat.reduceEqDiff, ↓reduceIte, reduceCtorEq, Nat.reduceAdd, Nat.reduceMul, Nat.reduceLeDiff, AH.get_push_same, AH.get_push_ne, AH.get_set_same, AH.get_set_ne, AH.push_n, AH.set_n, q3, q4, q6, q8, qc, e38]; done)) (by (try simp only [push_cast, Nat.reduceEqDiff, ↓reduceIte, reduceCtorEq, Nat.reduceAdd, Nat.reduceMul, Nat.reduceLeDiff, AH.get_push_same, AH.get_push_ne, AH.get_set_same, AH.get_set_ne, AH.push_n, AH.set_n, q3, q4, q6, q8, qc, e38]); rfl) (by (try simp only [push_cast, Nat.reduceEqDiff, ↓reduceIte, reduceCtorEq, Nat.reduceAdd, Nat.reduceMul, Nat.reduceLeDiff, AH.get_push_same, AH.get_push_ne, AH.get_set_same, AH.get_set_ne, AH.push_n, AH.set_n, q3, q4, q6, q8, qc, e38]); rfl) ?_
       | refine wpr_pass0 rfl rfl ?_
       | refine wpr_pass0S rfl ?_)
    | (show Wp _ _ _ _ _ _
       first
       | refine wp_seq ?_
       | refine wp_region ?_
       | refine wp_cond_t rfl ?_
       | refine wp_cond_f rfl ?_
       | refine wp_ret ?_
       | refine wp_skip ?_
       | refine wp_exit ?_
       | refine wp_block ?_)
    | refine thenQ_norm ?_
    | refine thenQ_ret ?_
    | refine thenQ_exit ?_
    | refine blockQ_norm ?_
    | refine blockQ_ret ?_
    | refine blockQ_same ?_
    | refine blockQ_ne rfl ?_
    | refine loopQ_norm ?_
    | refine loopQ_ret ?_
    | refine loopQ_exit ?_
    | refine retQ_ret (by (try simp (disch := ((try simp only [AH.push_n, AH.set_n]); omega)) only [push_cast, Nat.reduceEqDiff, ↓reduceIte, reduceCtorEq, Nat.reduceAdd, Nat.reduceMul, Nat.reduceLeDiff, AH.get_push_same, AH.get_push_ne, AH.get_set_same, AH.get_set_ne, AH.push_n, AH.set_n, q3, q4, q6, q8, qc, e38]); rfl) ?_
    | refine retQ_norm (by (try simp (disch := ((try simp only [AH.push_n, AH.set_n]); omega)) only [push_cast, Nat.reduceEqDiff, ↓reduceIte, reduceCtorEq, Nat.reduceAdd, Nat.reduceMul, Nat.reduceLeDiff, AH.get_push_same, AH.get_push_ne, AH.get_set_same, AH.get_set_ne, AH.push_n, AH.set_n, q3, q4, q6, q8, qc, e38]); rfl) ?_
    | refine wpc_of (by simp (disch := ((try simp only [AH.push_n, AH.set_n]); omega)) only [push_cast, Nat.reduceEqDiff, ↓reduceIte, reduceCtorEq, Nat.reduceAdd, Nat.reduceMul, Nat.reduceLeDiff, AH.get_push_same, AH.get_push_ne, AH.get_set_same, AH.get_set_ne, AH.push_n, AH.set_n, q3, q4, q6, q8, qc, e38]; rfl) ?_)
    · refine ⟨by rw [AH.get_set_ne _ (by omega)]; exact ho, Nat.le_refl _, fun b hb => AH.get_set_ne _ (by have := hT b hb; omega), rfl, i + 1, a0.step (by omega), by omega⟩
    · exact ⟨by rw [AH.get_set_ne _ (by omega)]; exact ho, Nat.le_refl _, fun b hb => AH.get_set_ne _ (by have := hT b hb; omega), a0.step (by omega), by omega⟩
  · intro T h' hFG hT hl
    obtain ⟨k, a0, hk⟩ : ∃ k : Nat, RoundI base h' h1.n k ∧ ((k : Int) = stop ∨ (k : Int) = sizeR C) := ⟨_, hFG.1, .inr hsz⟩
    clear hFG
    revert a0 hk
    revert k
    rintro k a0 hk
    obtain ⟨q3, q4, q6, q8, qr⟩ := got _ _ a0
    have qc := a0.cnt
    have qcl := AH.get_lt qc
    (repeat' first
    | (show WpR _ _ _ _ _ _ _ _ _
       first
       | refine wpr_p (o := .mv _) (by simp only [ev_mv, opd_s, opd_c, fget, Nat.reduceEqDiff, Nat.one_ne_zero, Nat.zero_ne_one, reduceCtorEq, ↓reduceIte]; rfl) ?_
       | (refine wpr_fork (fun _ => ?_) (fun _ => ?_) <;> try (exfalso; omega))
       | (refine wpr_forkN (fun _ => ?_) (fun _ => ?_) <;> try (exfalso; omega))
       | refine wpr_p (by simp (disch := ((try simp only [AH.push_n, AH.set_n]); omega)) only [push_cast, Nat.reduceEqDiff, ↓reduceIte, reduceCtorEq, Nat.reduceAdd, Nat.reduceMul, Nat.reduceLeDiff, AH.get_push_same, AH.get_push_ne, AH.get_set_same, AH.get_set_ne, AH.push_n, AH.set_n, q3, q4, q6, q8, qc]; rfl) ?_
       | refine wpr_r (by simp (disch := ((try simp only [AH.push_n, AH.set_n]); omega)) only [push_cast, Nat.reduceEqDiff, ↓reduceIte, reduceCtorEq, Nat.reduceAdd, Nat.reduceMul, Nat.reduceLeDiff, AH.get_push_same, AH.get_push_ne, AH.get_set_same, AH.get_set_ne, AH.push_n, AH.set_n, q3, q4, q6, q8, qc]; rfl) ?_
       | refine wpr_run rfl ?_
       | refine wpr_pass rfl rfl ?_
       | refine wpr_passS rfl ?_
       | refine wpr_call (by (try simp (disch := ((try simp only [AH.push_n, AH.set_n]); omega)) only [push_cast, Nat.reduceEqDiff, ↓reduceIte, reduceCtorEq, Nat.reduceAdd, Nat.reduceMul, Nat.reduceLeDiff, AH.get_push_same, AH.get_push_ne, AH.get_set_same, AH.get_set_ne, AH.push_n, AH.set_n, q3, q4, q6, q8, qc]) <;> rfl) (by first | rfl | simp only [push_cast, Nat.reduceEqDiff, ↓reduceIte, reduceCtorEq, Nat.reduceAdd, Nat.reduceMul, Nat.reduceLeDiff, AH.get_push_same, AH.get_push_ne, AH.get_set_same, AH.get_set_ne, AH.push_n, AH.set_n, q3, q4, q6, q8, qc]) ?_
       | refine wpr_e0 (by simp (disch := ((try simp only [AH.push_n, AH.set_n]); omega)) only [push_cast, Nat.reduceEqDiff, ↓reduceIte, reduceCtorEq, Nat.reduceAdd, Nat.reduceMul, Nat.reduceLeDiff, AH.get_push_same, AH.get_push_ne, AH.get_set_same, AH.get_set_ne, AH.push_n, AH.set_n, q3, q4, q6, q8, qc]; rfl) ?_
       | refine wpr_e (by simp (disch := ((try simp only [AH.push_n, AH.set_n]); omega)) only [push_cast, Nat.reduceEqDiff, ↓reduceIte, reduceCtorEq, Nat.reduceAdd, Nat.reduceMul, Nat.reduceLeDiff, AH.get_push_same, AH.get_push_ne, AH.get_set_same, AH.get_set_ne, AH.push_n, AH.set_n, q3, q4, q6, q8, qc]; rfl) ?_
       | refine wpr_nil (by first | exact chkT_nil | (simp (disch := ((try simp only [AH.push_n, AH.set_n]); omega)) only [push_cast, Nat.reduceEqDiff, ↓reduceIte, reduceCtorEq, Nat.reduceAdd, Nat.reduceMul, Nat.reduceLeDiff, AH.get_push_same, AH.get_push_ne, AH.get_set_same, AH.get_set_ne, AH.push_n, AH.set_n, q3, q4, q6, q8, qc]; done)) (by (try simp only [push_cast, Nat.reduceEqDiff, ↓reduceIte, reduceCtorEq, Nat.reduceAdd, Nat.reduceMul, Nat.reduceLeDiff, AH.get_push_same, AH.get_push_ne, AH.get_set_same, AH.get_set_ne, AH.push_n, AH.set_n, q3, q4, q6, q8, qc]); rfl) (by (try simp only [push_cast, Nat.reduceEqDiff, ↓reduceIte, reduceCtorEq, Nat.reduceAdd, Nat.reduceMul, Nat.reduceLeDiff, AH.get_push_same, AH.get_push_ne, AH.get_set_same, AH.get_set_ne, AH.push_n, AH.set_n, q3, q4, q6, q8, qc]); rfl) ?_
       | refine wpr_pass0 rfl rfl ?_
       | refine wpr_pass0S rfl ?_)
    | (show Wp _ _ _ _ _ _
       first
       | refine wp_seq ?_
       | refine wp_region ?_
       | refine wp_cond_t rfl ?_
       | refine wp_cond_f rfl ?_
       | refine wp_ret ?_
       | refine wp_skip ?_
       | refine wp_exit ?_
       | refine wp_block ?_)
    | refine thenQ_norm ?_
    | refine thenQ_ret ?_
    | refine thenQ_exit ?_
    | refine blockQ_norm ?_
    | refine blockQ_ret ?_
    | refine blockQ_same ?_
    | refine blockQ_ne rfl ?_
    | refine loopQ_norm ?_
    | refine loopQ_ret ?_
    | refine loopQ_exit ?_
    | refine retQ_ret (by (try simp (disch := ((try simp only [AH.push_n, AH.set_n]); omega)) only [push_cast, Nat.reduceEqDiff, ↓reduceIte, reduceCtorEq, Nat.reduceAdd, Nat.reduceMul, Nat.reduceLeDiff, AH.get_push_same, AH.get_push_ne, AH.get_set_same, AH.get_set_ne, AH.push_n, AH.set_n, q3, q4, q6, q8, qc]); rfl) ?_
    | refine retQ_norm (by (try simp (disch := ((try simp only [AH.push_n, AH.set_n]); omega)) only [push_cast, Nat.reduceEqDiff, ↓reduceIte, reduceCtorEq, Nat.reduceAdd, Nat.reduceMul, Nat.reduceLeDiff, AH.get_push_same, AH.get_push_ne, AH.get_set_same, AH.get_set_ne, AH.push_n, AH.set_n, q3, q4, q6, q8, qc]); rfl) ?_
    | refine wpc_of (by simp (disch := ((try simp only [AH.push_n, AH.set_n]); omega)) only [push_cast, Nat.reduceEqDiff, ↓reduceIte, reduceCtorEq, Nat.reduceAdd, Nat.reduceMul, Nat.reduceLeDiff, AH.get_push_same, AH.get_push_ne, AH.get_set_same, AH.get_set_ne, AH.push_n, AH.set_n, q3, q4, q6, q8, qc]; rfl) ?_)
    all_goals
      have a0' := a0.step (m := 0) (x := 0) rfl
      generalize h'.set h1.n (.cells false [.int .i64 0]) = h4 at a0'
      have ltc := AH.get_lt a0'.cnt
      refine wp_range (xs := (runesL C).reverse) (enc := runeV) rfl (back_seq (bx := h3.n + 2) (b := b) (t := tt) hCb (by omega)) (fun _ => rfl)
        (fun i T h' => RoundI base h' h1.n i ∧ (i : Int) < stop) (fun ex T h' => ex = .exit 4 ∧ ∃ i, RoundI base h' h1.n i ∧ (i : Int) = stop)
        (fun x => [(3, .pointer (some ⟨h.n, 0, none⟩)), (4, .pointer (some ⟨h.n + 1, 0, none⟩)), (6, .pointer (some ⟨h2.n, 0, none⟩)), (8, .pointer (some ⟨h3.n, 0, none⟩)), (12, .pointer (some ⟨h1.n, 0, none⟩)), (14, .int .i32 x)]) (fun _ => []) ?_ ?_ ?_ ?_ ?_ ?_ ?_ ?_
      · rintro i T T' h1 h2 ⟨b0, b1⟩ hT hm hT'
        have := AH.get_lt a0'.cnt
        exact ⟨b0.mv (by omega) (fun b hb => (hT b hb).1) hm, b1⟩
      · rintro ex T T' h1 h2 ⟨b0, i, b1, b2⟩ hT hm hT'
        have := AH.get_lt a0'.cnt
        exact ⟨b0, i, b1.mv (by omega) (fun b hb => (hT b hb).1) hm, b2⟩
      · rintro i T h' ⟨b0, b1⟩
        exact hSD _ _ (.inr rfl) b0.kp
      · intro x h'
        simp only [runeV, List.zip_cons_cons, List.zip_nil_right, List.reverse_cons, List.reverse_nil, List.nil_append, List.cons_append, okFr_cons, okFr_nil, okV_eq, isLoc_ptr, isLoc_func, isLoc_int, Bool.not_false, if_true]
        (repeat' first
    | (show WpR _ _ _ _ _ _ _ _ _
       first
       | refine wpr_p (o := .mv _) (by simp only [ev_mv, opd_s, opd_c, fget, Nat.reduceEqDiff, Nat.one_ne_zero, Nat.zero_ne_one, reduceCtorEq, ↓reduceIte]; rfl) ?_
       | (refine wpr_fork (fun _ => ?_) (fun _ => ?_) <;> try (exfalso; omega))
       | (refine wpr_forkN (fun _ => ?_) (fun _ => ?_) <;> try (exfalso; omega))
       | refine wpr_p (by simp (disch := omega) only [push_cast, Nat.reduceEqDiff, ↓reduceIte, reduceCtorEq, Nat.reduceAdd, Nat.reduceMul, Nat.reduceLeDiff]; rfl) ?_
       | refine wpr_r (by simp (disch := omega) only [push_cast, Nat.reduceEqDiff, ↓reduceIte, reduceCtorEq, Nat.reduceAdd, Nat.reduceMul, Nat.reduceLeDiff]; rfl) ?_
       | refine wpr_run rfl ?_
       | refine wpr_pass rfl rfl ?_
       | refine wpr_passS rfl ?_
       | refine wpr_call (by (try simp (disch := omega) only [push_cast, Nat.reduceEqDiff, ↓reduceIte, reduceCtorEq, Nat.reduceAdd, Nat.reduceMul, Nat.reduceLeDiff]) <;> rfl) (by first | rfl | simp only [push_cast, Nat.reduceEqDiff, ↓reduceIte, reduceCtorEq, Nat.reduceAdd, Nat.reduceMul, Nat.reduceLeDiff]) ?_
       | refine wpr_e0 (by simp (disch := omega) only [push_cast, Nat.reduceEqDiff, ↓reduceIte, reduceCtorEq, Nat.reduceAdd, Nat.reduceMul, Nat.reduceLeDiff]; rfl) ?_
       | refine wpr_e (by simp (disch := omega) only [push_cast, Nat.reduceEqDiff, ↓reduceIte, reduceCtorEq, Nat.reduceAdd, Nat.reduceMul, Nat.reduceLeDiff]; rfl) ?_
       | refine wpr_nil (by first | exact chkT_nil | (simp (disch := omega) only [push_cast, Nat.reduceEqDiff, ↓reduceIte, reduceCtorEq, Nat.reduceAdd, Nat.reduceMul, Nat.reduceLeDiff]; done)) (by (try simp only [push_cast, Nat.reduceEqDiff, ↓reduceIte, reduceCtorEq, Nat.reduceAdd, Nat.reduceMul, Nat.reduceLeDiff]); rfl) (by (try simp only [push_cast, Nat.reduceEqDiff, ↓reduceIte, reduceCtorEq, Nat.reduceAdd, Nat.reduceMul, Nat.reduceLeDiff]); rfl) ?_
       | refine wpr_pass0 rfl rfl ?_
       | refine wpr_pass0S rfl ?_)
    | (show Wp _ _ _ _ _ _
       first
       | refine wp_seq ?_
       | refine wp_region ?_
       | refine wp_cond_t rfl ?_
       | refine wp_cond_f rfl ?_
       | refine wp_ret ?_
       | refine wp_skip ?_
       | refine wp_exit ?_
       | refine wp_block ?_)
    | refine thenQ_norm ?_
    | refine thenQ_ret ?_
    | refine thenQ_exit ?_
    | refine blockQ_norm ?_
    | refine blockQ_ret ?_
    | refine blockQ_same ?_
    | refine blockQ_ne rfl ?_
    | refine loopQ_norm ?_
    | refine loopQ_ret ?_
    | refine loopQ_exit ?_
    | refine retQ_ret (by (try simp (disch := omega) only [push_cast, Nat.reduceEqDiff, ↓reduceIte, reduceCtorEq, Nat.reduceAdd, Nat.reduceMul, Nat.reduceLeDiff]); rfl) ?_
    | refine retQ_norm (by (try simp (disch := omega) only [push_cast, Nat.reduceEqDiff, ↓reduceIte, reduceCtorEq, Nat.reduceAdd, Nat.reduceMul, Nat.reduceLeDiff]); rfl) ?_
    | refine wpc_of (by simp (disch := omega) only [push_cast, Nat.reduceEqDiff, ↓reduceIte, reduceCtorEq, Nat.reduceAdd, Nat.reduceMul, Nat.reduceLeDiff]; rfl) ?_)
        exact ⟨rfl, rfl, rfl, rfl⟩
      · exact ⟨a0', by omega⟩
      · rintro i hi T h5 o ⟨b0, b1⟩ hT hl ho
        obtain ⟨q3, q4, q6, q8, qr⟩ := got _ _ b0
        have qc := b0.cnt
        have qcl := AH.get_lt qc
        have l3' := AH.get_lt q3
        have b0' := b0.step (m := i + 1) (x := (i : Int) + 1) (by omega)
        have qr' := (got _ _ b0').2.2.2.2
        have hrl : (runesL C).reverse.length = (runesL C).length := List.length_reverse
        have e38 := refAt_eq qr' (by omega) hCb (sizeR C - ((i : Int) + 1)) (by omega) (by omega)
        have hix : sizeR C - ((i : Int) + 1) = (((runesL C).length - 1 - i : Nat) : Int) := by omega
        rw [hix, runesL_at hCb (by omega), ← hix, Option.getD_some] at e38
        have hrv : (runesL C).reverse[i] = (runesL C)[(runesL C).length - 1 - i]'(by omega) := by rw [List.getElem_reverse]
        rw [hrv]
        generalize (runesL C)[(runesL C).length - 1 - i]'(by omega) = x at e38
        (repeat' first
    | (show WpR _ _ _ _ _ _ _ _ _
       first
       | refine wpr_p (o := .mv _) (by simp only [ev_mv, opd_s, opd_c, fget, Nat.reduceEqDiff, Nat.one_ne_zero, Nat.zero_ne_one, reduceCtorEq, ↓reduceIte]; rfl) ?_
       | (refine wpr_fork (fun _ => ?_) (fun _ => ?_) <;> try (exfalso; omega))
       | (refine wpr_forkN (fun _ => ?_) (fun _ => ?_) <;> try (exfalso; omega))
       | refine wpr_p (by simp (disch := ((try simp only [AH.push_n, AH.set_n]); omega)) only [push_cast, Nat.reduceEqDiff, ↓reduceIte, reduceCtorEq, Nat.reduceAdd, Nat.reduceMul, Nat.reduceLeDiff, AH.get_push_same, AH.get_push_ne, AH.get_set_same, AH.get_set_ne, AH.push_n, AH.set_n, q3, q4, q6, q8, qc, e38]; rfl) ?_
       | refine wpr_r (by simp (disch := ((try simp only [AH.push_n, AH.set_n]); omega)) only [push_cast, Nat.reduceEqDiff, ↓reduceIte, reduceCtorEq, Nat.reduceAdd, Nat.reduceMul, Nat.reduceLeDiff, AH.get_push_same, AH.get_push_ne, AH.get_set_same, AH.get_set_ne, AH.push_n, AH.set_n, q3, q4, q6, q8, qc, e38]; rfl) ?_
       | refine wpr_run rfl ?_
       | refine wpr_pass rfl rfl ?_
       | refine wpr_passS rfl ?_
       | refine wpr_call (by (try simp (disch := ((try simp only [AH.push_n, AH.set_n]); omega)) only [push_cast, Nat.reduceEqDiff, ↓reduceIte, reduceCtorEq, Nat.reduceAdd, Nat.reduceMul, Nat.reduceLeDiff, AH.get_push_same, AH.get_push_ne, AH.get_set_same, AH.get_set_ne, AH.push_n, AH.set_n, q3, q4, q6, q8, qc, e38]) <;> rfl) (by first | rfl | simp only [push_cast, Nat.reduceEqDiff, ↓reduceIte, reduceCtorEq, Nat.reduceAdd, Nat.reduceMul, Nat.reduceLeDiff, AH.get_push_same, AH.get_push_ne, AH.get_set_same, AH.get_set_ne, AH.push_n, AH.set_n, q3, q4, q6, q8, qc, e38]) ?_
       | refine wpr_e0 (by simp (disch := ((try simp only [AH.push_n, AH.set_n]); omega)) only [push_cast, Nat.reduceEqDiff, ↓reduceIte, reduceCtorEq, Nat.reduceAdd, Nat.reduceMul, Nat.reduceLeDiff, AH.get_push_same, AH.get_push_ne, AH.get_set_same, AH.get_set_ne, AH.push_n, AH.set_n, q3, q4, q6, q8, qc, e38]; rfl) ?_
       | refine wpr_e (by simp (disch := ((try simp only [AH.push_n, AH.set_n]); omega)) only [push_cast, Nat.reduceEqDiff, ↓reduceIte, reduceCtorEq, Nat.reduceAdd, Nat.reduceMul, Nat.reduceLeDiff, AH.get_push_same, AH.get_push_ne, AH.get_set_same, AH.get_set_ne, AH.push_n, AH.set_n, q3, q4, q6, q8, qc, e38]; rfl) ?_
       | refine wpr_nil (by first | exact chkT_nil | (simp (disch := ((try simp only [AH.push_n, AH.set_n]); omega)) only [push_cast, Nat.reduceEqDiff, ↓reduceIte, reduceCtorEq, Nat.reduceAdd, Nat.reduceMul, Nat.reduceLeDiff, AH.get_push_same, AH.get_push_ne, AH.get_set_same, AH.get_set_ne, AH.push_n, AH.set_n, q3, q4, q6, q8, qc, e38]; done)) (by (try simp only [push_cast, Nat.reduceEqDiff, ↓reduceIte, reduceCtorEq, Nat.reduceAdd, Nat.reduceMul, Nat.reduceLeDiff, AH.get_push_same, AH.get_push_ne, AH.get_set_same, AH.get_set_ne, AH.push_n, AH.set_n, q3, q4, q6, q8, qc, e38]); rfl) (by (try simp only [push_cast, Nat.reduceEqDiff, ↓reduceIte, reduceCtorEq, Nat.reduceAdd, Nat.reduceMul, Nat.reduceLeDiff, AH.get_push_same, AH.get_push_ne, AH.get_set_same, AH.get_set_ne, AH.push_n, AH.set_n, q3, q4, q6, q8, qc, e38]); rfl) ?_
       | refine wpr_pass0 rfl rfl ?_
       | refine wpr_pass0S rfl ?_)
    | (show Wp _ _ _ _ _ _
       first
       | refine wp_seq ?_
       | refine wp_region ?_
       | refine wp_cond_t rfl ?_
       | refine wp_cond_f rfl ?_
       | refine wp_ret ?_
       | refine wp_skip ?_
       | refine wp_exit ?_
       | refine wp_block ?_)
    | refine thenQ_norm ?_
    | refine thenQ_ret ?_
    | refine thenQ_exit ?_
    | refine blockQ_norm ?_
    | refine blockQ_ret ?_
    | refine blockQ_same ?_
    | refine blockQ_ne rfl ?_
    | refine loopQ_norm ?_
    | refine loopQ_ret ?_
    | refine loopQ_exit ?_
    | refine retQ_ret (by (try simp (disch := ((try simp only [AH.push_n, AH.set_n]); omega)) only [push_cast, Nat.reduceEqDiff, ↓reduceIte, reduceCtorEq, Nat.reduceAdd, Nat.reduceMul, Nat.reduceLeDiff, AH.get_push_same, AH.get_push_ne, AH.get_set_same, AH.get_set_ne, AH.push_n, AH.set_n, q3, q4, q6, q8, qc, e38]); rfl) ?_
    | refine retQ_norm (by (try simp (disch := ((try simp only [AH.push_n, AH.set_n]); omega)) only [push_cast, Nat.reduceEqDiff, ↓reduceIte, reduceCtorEq, Nat.reduceAdd, Nat.reduceMul, Nat.reduceLeDiff, AH.get_push_same, AH.get_push_ne, AH.get_set_same, AH.get_set_ne, AH.push_n, AH.set_n, q3, q4, q6, q8, qc, e38]); rfl) ?_
    | refine wpc_of (by simp (disch := ((try simp only [AH.push_n, AH.set_n]); omega)) only [push_cast, Nat.reduceEqDiff, ↓reduceIte, reduceCtorEq, Nat.reduceAdd, Nat.reduceMul, Nat.reduceLeDiff, AH.get_push_same, AH.get_push_ne, AH.get_set_same, AH.get_set_ne, AH.push_n, AH.set_n, q3, q4, q6, q8, qc, e38]; rfl) ?_)
        · refine ⟨by rw [AH.get_set_ne _ (by omega)]; exact ho, Nat.le_refl _, fun b hb => AH.get_set_ne _ (by have := hT b hb; have := AH.get_lt a0'.cnt; omega), rfl, i + 1, b0', by omega⟩
        · exact ⟨by rw [AH.get_set_ne _ (by omega)]; exact ho, Nat.le_refl _, fun b hb => AH.get_set_ne _ (by have := hT b hb; have := AH.get_lt a0'.cnt; omega), b0', by omega⟩
      · rintro T h5 ⟨b0, b1⟩ hT hl
        have hrl : (runesL C).reverse.length = (runesL C).length := List.length_reverse
        obtain ⟨q3, q4, q6, q8, qr⟩ := got _ _ b0
        have qc := b0.cnt
        have qcl := AH.get_lt qc
        (repeat' first
    | (show WpR _ _ _ _ _ _ _ _ _
       first
       | refine wpr_p (o := .mv _) (by simp only [ev_mv, opd_s, opd_c, fget, Nat.reduceEqDiff, Nat.one_ne_zero, Nat.zero_ne_one, reduceCtorEq, ↓reduceIte]; rfl) ?_
       | (refine wpr_fork (fun _ => ?_) (fun _ => ?_) <;> try (exfalso; omega))
       | (refine wpr_forkN (fun _ => ?_) (fun _ => ?_) <;> try (exfalso; omega))
       | refine wpr_p (by simp (disch := ((try simp only [AH.push_n, AH.set_n]); omega)) only [push_cast, Nat.reduceEqDiff, ↓reduceIte, reduceCtorEq, Nat.reduceAdd, Nat.reduceMul, Nat.reduceLeDiff, AH.get_push_same, AH.get_push_ne, AH.get_set_same, AH.get_set_ne, AH.push_n, AH.set_n, q3, q4, q6, q8, qc]; rfl) ?_
       | refine wpr_r (by simp (disch := ((try simp only [AH.push_n, AH.set_n]); omega)) only [push_cast, Nat.reduceEqDiff, ↓reduceIte, reduceCtorEq, Nat.reduceAdd, Nat.reduceMul, Nat.reduceLeDiff, AH.get_push_same, AH.get_push_ne, AH.get_set_same, AH.get_set_ne, AH.push_n, AH.set_n, q3, q4, q6, q8, qc]; rfl) ?_
       | refine wpr_run rfl ?_
       | refine wpr_pass rfl rfl ?_
       | refine wpr_passS rfl ?_
       | refine wpr_call (by (try simp (disch := ((try simp only [AH.push_n, AH.set_n]); omega)) only [push_cast, Nat.reduceEqDiff, ↓reduceIte, reduceCtorEq, Nat.reduceAdd, Nat.reduceMul, Nat.reduceLeDiff, AH.get_push_same, AH.get_push_ne, AH.get_set_same, AH.get_set_ne, AH.push_n, AH.set_n, q3, q4, q6, q8, qc]) <;> rfl) (by first | rfl | simp only [push_cast, Nat.reduceEqDiff, ↓reduceIte, reduceCtorEq, Nat.reduceAdd, Nat.reduceMul, Nat.reduceLeDiff, AH.get_push_same, AH.get_push_ne, AH.get_set_same, AH.get_set_ne, AH.push_n, AH.set_n, q3, q4, q6, q8, qc]) ?_
       | refine wpr_e0 (by simp (disch := ((try simp only [AH.push_n, AH.set_n]); omega)) only [push_cast, Nat.reduceEqDiff, ↓reduceIte, reduceCtorEq, Nat.reduceAdd, Nat.reduceMul, Nat.reduceLeDiff, AH.get_push_same, AH.get_push_ne, AH.get_set_same, AH.get_set_ne, AH.push_n, AH.set_n, q3, q4, q6, q8, qc]; rfl) ?_
       | refine wpr_e (by simp (disch := ((try simp only [AH.push_n, AH.set_n]); omega)) only [push_cast, Nat.reduceEqDiff, ↓reduceIte, reduceCtorEq, Nat.reduceAdd, Nat.reduceMul, Nat.reduceLeDiff, AH.get_push_same, AH.get_push_ne, AH.get_set_same, AH.get_set_ne, AH.push_n, AH.set_n, q3, q4, q6, q8, qc]; rfl) ?_
       | refine wpr_nil (by first | exact chkT_nil | (simp (disch := ((try simp only [AH.push_n, AH.set_n]); omega)) only [push_cast, Nat.reduceEqDiff, ↓reduceIte, reduceCtorEq, Nat.reduceAdd, Nat.reduceMul, Nat.reduceLeDiff, AH.get_push_same, AH.get_push_ne, AH.get_set_same, AH.get_set_ne, AH.push_n, AH.set_n, q3, q4, q6, q8, qc]; done)) (by (try simp only [push_cast, Nat.reduceEqDiff, ↓reduceIte, reduceCtorEq, Nat.reduceAdd, Nat.reduceMul, Nat.reduceLeDiff, AH.get_push_same, AH.get_push_ne, AH.get_set_same, AH.get_set_ne, AH.push_n, AH.set_n, q3, q4, q6, q8, qc]); rfl) (by (try simp only [push_cast, Nat.reduceEqDiff, ↓reduceIte, reduceCtorEq, Nat.reduceAdd, Nat.reduceMul, Nat.reduceLeDiff, AH.get_push_same, AH.get_push_ne, AH.get_set_same, AH.get_set_ne, AH.push_n, AH.set_n, q3, q4, q6, q8, qc]); rfl) ?_
       | refine wpr_pass0 rfl rfl ?_
       | refine wpr_pass0S rfl ?_)
    | (show Wp _ _ _ _ _ _
       first
       | refine wp_seq ?_
       | refine wp_region ?_
       | refine wp_cond_t rfl ?_
       | refine wp_cond_f rfl ?_
       | refine wp_ret ?_
       | refine wp_skip ?_
       | refine wp_exit ?_
       | refine wp_block ?_)
    | refine thenQ_norm ?_
    | refine thenQ_ret ?_
    | refine thenQ_exit ?_
    | refine blockQ_norm ?_
    | refine blockQ_ret ?_
    | refine blockQ_same ?_
    | refine blockQ_ne rfl ?_
    | refine loopQ_norm ?_
    | refine loopQ_ret ?_
    | refine loopQ_exit ?_
    | refine retQ_ret (by (try simp (disch := ((try simp only [AH.push_n, AH.set_n]); omega)) only [push_cast, Nat.reduceEqDiff, ↓reduceIte, reduceCtorEq, Nat.reduceAdd, Nat.reduceMul, Nat.reduceLeDiff, AH.get_push_same, AH.get_push_ne, AH.get_set_same, AH.get_set_ne, AH.push_n, AH.set_n, q3, q4, q6, q8, qc]); rfl) ?_
    | refine retQ_norm (by (try simp (disch := ((try simp only [AH.push_n, AH.set_n]); omega)) only [push_cast, Nat.reduceEqDiff, ↓reduceIte, reduceCtorEq, Nat.reduceAdd, Nat.reduceMul, Nat.reduceLeDiff, AH.get_push_same, AH.get_push_ne, AH.get_set_same, AH.get_set_ne, AH.push_n, AH.set_n, q3, q4, q6, q8, qc]); rfl) ?_
    | refine wpc_of (by simp (disch := ((try simp only [AH.push_n, AH.set_n]); omega)) only [push_cast, Nat.reduceEqDiff, ↓reduceIte, reduceCtorEq, Nat.reduceAdd, Nat.reduceMul, Nat.reduceLeDiff, AH.get_push_same, AH.get_push_ne, AH.get_set_same, AH.get_set_ne, AH.push_n, AH.set_n, q3, q4, q6, q8, qc]; rfl) ?_)
        all_goals exact ⟨_, by omega, i + 1, rfl, by omega, rfl, rfl, ⟨by have := b0.le; omega, b0.kp⟩⟩
      · rintro ex T h5 hex ⟨rfl, k2, b0, b1⟩ hT hl
        obtain ⟨q3, q4, q6, q8, qr⟩ := got _ _ b0
        have qc := b0.cnt
        have qcl := AH.get_lt qc
        (repeat' first
    | (show WpR _ _ _ _ _ _ _ _ _
       first
       | refine wpr_p (o := .mv _) (by simp only [ev_mv, opd_s, opd_c, fget, Nat.reduceEqDiff, Nat.one_ne_zero, Nat.zero_ne_one, reduceCtorEq, ↓reduceIte]; rfl) ?_
       | (refine wpr_fork (fun _ => ?_) (fun _ => ?_) <;> try (exfalso; omega))
       | (refine wpr_forkN (fun _ => ?_) (fun _ => ?_) <;> try (exfalso; omega))
       | refine wpr_p (by simp (disch := ((try simp only [AH.push_n, AH.set_n]); omega)) only [push_cast, Nat.reduceEqDiff, ↓reduceIte, reduceCtorEq, Nat.reduceAdd, Nat.reduceMul, Nat.reduceLeDiff, AH.get_push_same, AH.get_push_ne, AH.get_set_same, AH.get_set_ne, AH.push_n, AH.set_n, q3, q4, q6, q8, qc]; rfl) ?_
       | refine wpr_r (by simp (disch := ((try simp only [AH.push_n, AH.set_n]); omega)) only [push_cast, Nat.reduceEqDiff, ↓reduceIte, reduceCtorEq, Nat.reduceAdd, Nat.reduceMul, Nat.reduceLeDiff, AH.get_push_same, AH.get_push_ne, AH.get_set_same, AH.get_set_ne, AH.push_n, AH.set_n, q3, q4, q6, q8, qc]; rfl) ?_
       | refine wpr_run rfl ?_
       | refine wpr_pass rfl rfl ?_
       | refine wpr_passS rfl ?_
       | refine wpr_call (by (try simp (disch := ((try simp only [AH.push_n, AH.set_n]); omega)) only [push_cast, Nat.reduceEqDiff, ↓reduceIte, reduceCtorEq, Nat.reduceAdd, Nat.reduceMul, Nat.reduceLeDiff, AH.get_push_same, AH.get_push_ne, AH.get_set_same, AH.get_set_ne, AH.push_n, AH.set_n, q3, q4, q6, q8, qc]) <;> rfl) (by first | rfl | simp only [push_cast, Nat.reduceEqDiff, ↓reduceIte, reduceCtorEq, Nat.reduceAdd, Nat.reduceMul, Nat.reduceLeDiff, AH.get_push_same, AH.get_push_ne, AH.get_set_same, AH.get_set_ne, AH.push_n, AH.set_n, q3, q4, q6, q8, qc]) ?_
       | refine wpr_e0 (by simp (disch := ((try simp only [AH.push_n, AH.set_n]); omega)) only [push_cast, Nat.reduceEqDiff, ↓reduceIte, reduceCtorEq, Nat.reduceAdd, Nat.reduceMul, Nat.reduceLeDiff, AH.get_push_same, AH.get_push_ne, AH.get_set_same, AH.get_set_ne, AH.push_n, AH.set_n, q3, q4, q6, q8, qc]; rfl) ?_
       | refine wpr_e (by simp (disch := ((try simp only [AH.push_n, AH.set_n]); omega)) only [push_cast, Nat.reduceEqDiff, ↓reduceIte, reduceCtorEq, Nat.reduceAdd, Nat.reduceMul, Nat.reduceLeDiff, AH.get_push_same, AH.get_push_ne, AH.get_set_same, AH.get_set_ne, AH.push_n, AH.set_n, q3, q4, q6, q8, qc]; rfl) ?_
       | refine wpr_nil (by first | exact chkT_nil | (simp (disch := ((try simp only [AH.push_n, AH.set_n]); omega)) only [push_cast, Nat.reduceEqDiff, ↓reduceIte, reduceCtorEq, Nat.reduceAdd, Nat.reduceMul, Nat.reduceLeDiff, AH.get_push_same, AH.get_push_ne, AH.get_set_same, AH.get_set_ne, AH.push_n, AH.set_n, q3, q4, q6, q8, qc]; done)) (by (try simp only [push_cast, Nat.reduceEqDiff, ↓reduceIte, reduceCtorEq, Nat.reduceAdd, Nat.reduceMul, Nat.reduceLeDiff, AH.get_push_same, AH.get_push_ne, AH.get_set_same, AH.get_set_ne, AH.push_n, AH.set_n, q3, q4, q6, q8, qc]); rfl) (by (try simp only [push_cast, Nat.reduceEqDiff, ↓reduceIte, reduceCtorEq, Nat.reduceAdd, Nat.reduceMul, Nat.reduceLeDiff, AH.get_push_same, AH.get_push_ne, AH.get_set_same, AH.get_set_ne, AH.push_n, AH.set_n, q3, q4, q6, q8, qc]); rfl) ?_
       | refine wpr_pass0 rfl rfl ?_
       | refine wpr_pass0S rfl ?_)
    | (show Wp _ _ _ _ _ _
       first
       | refine wp_seq ?_
       | refine wp_region ?_
       | refine wp_cond_t rfl ?_
       | refine wp_cond_f rfl ?_
       | refine wp_ret ?_
       | refine wp_skip ?_
       | refine wp_exit ?_
       | refine wp_block ?_)
    | refine thenQ_norm ?_
    | refine thenQ_ret ?_
    | refine thenQ_exit ?_
    | refine blockQ_norm ?_
    | refine blockQ_ret ?_
    | refine blockQ_same ?_
    | refine blockQ_ne rfl ?_
    | refine loopQ_norm ?_
    | refine loopQ_ret ?_
    | refine loopQ_exit ?_
    | refine retQ_ret (by (try simp (disch := ((try simp only [AH.push_n, AH.set_n]); omega)) only [push_cast, Nat.reduceEqDiff, ↓reduceIte, reduceCtorEq, Nat.reduceAdd, Nat.reduceMul, Nat.reduceLeDiff, AH.get_push_same, AH.get_push_ne, AH.get_set_same, AH.get_set_ne, AH.push_n, AH.set_n, q3, q4, q6, q8, qc]); rfl) ?_
    | refine retQ_norm (by (try simp (disch := ((try simp only [AH.push_n, AH.set_n]); omega)) only [push_cast, Nat.reduceEqDiff, ↓reduceIte, reduceCtorEq, Nat.reduceAdd, Nat.reduceMul, Nat.reduceLeDiff, AH.get_push_same, AH.get_push_ne, AH.get_set_same, AH.get_set_ne, AH.push_n, AH.set_n, q3, q4, q6, q8, qc]); rfl) ?_
    | refine wpc_of (by simp (disch := ((try simp only [AH.push_n, AH.set_n]); omega)) only [push_cast, Nat.reduceEqDiff, ↓reduceIte, reduceCtorEq, Nat.reduceAdd, Nat.reduceMul, Nat.reduceLeDiff, AH.get_push_same, AH.get_push_ne, AH.get_set_same, AH.get_set_ne, AH.push_n, AH.set_n, q3, q4, q6, q8, qc]; rfl) ?_)
        all_goals exact ⟨_, by omega, i + 1, rfl, by omega, rfl, rfl, ⟨by have := b0.le; omega, b0.kp⟩⟩
  · intro ex T h' hex hFG hT hl
    obtain ⟨rfl, k, a0, hk'⟩ := hFG
    have hk : (k : Int) = stop ∨ (k : Int) = sizeR C := .inl hk'
    clear hk'
    revert a0 hk
    revert k
    rintro k a0 hk
    obtain ⟨q3, q4, q6, q8, qr⟩ := got _ _ a0
    have qc := a0.cnt
    have qcl := AH.get_lt qc
    (repeat' first
    | (show WpR _ _ _ _ _ _ _ _ _
       first
       | refine wpr_p (o := .mv _) (by simp only [ev_mv, opd_s, opd_c, fget, Nat.reduceEqDiff, Nat.one_ne_zero, Nat.zero_ne_one, reduceCtorEq, ↓reduceIte]; rfl) ?_
       | (refine wpr_fork (fun _ => ?_) (fun _ => ?_) <;> try (exfalso; omega))
       | (refine wpr_forkN (fun _ => ?_) (fun _ => ?_) <;> try (exfalso; omega))
       | refine wpr_p (by simp (disch := ((try simp only [AH.push_n, AH.set_n]); omega)) only [push_cast, Nat.reduceEqDiff, ↓reduceIte, reduceCtorEq, Nat.reduceAdd, Nat.reduceMul, Nat.reduceLeDiff, AH.get_push_same, AH.get_push_ne, AH.get_set_same, AH.get_set_ne, AH.push_n, AH.set_n, q3, q4, q6, q8, qc]; rfl) ?_
       | refine wpr_r (by simp (disch := ((try simp only [AH.push_n, AH.set_n]); omega)) only [push_cast, Nat.reduceEqDiff, ↓reduceIte, reduceCtorEq, Nat.reduceAdd, Nat.reduceMul, Nat.reduceLeDiff, AH.get_push_same, AH.get_push_ne, AH.get_set_same, AH.get_set_ne, AH.push_n, AH.set_n, q3, q4, q6, q8, qc]; rfl) ?_
       | refine wpr_run rfl ?_
       | refine wpr_pass rfl rfl ?_
       | refine wpr_passS rfl ?_
       | refine wpr_call (by (try simp (disch := ((try simp only [AH.push_n, AH.set_n]); omega)) only [push_cast, Nat.reduceEqDiff, ↓reduceIte, reduceCtorEq, Nat.reduceAdd, Nat.reduceMul, Nat.reduceLeDiff, AH.get_push_same, AH.get_push_ne, AH.get_set_same, AH.get_set_ne, AH.push_n, AH.set_n, q3, q4, q6, q8, qc]) <;> rfl) (by first | rfl | simp only [push_cast, Nat.reduceEqDiff, ↓reduceIte, reduceCtorEq, Nat.reduceAdd, Nat.reduceMul, Nat.reduceLeDiff, AH.get_push_same, AH.get_push_ne, AH.get_set_same, AH.get_set_ne, AH.push_n, AH.set_n, q3, q4, q6, q8, qc]) ?_
       | refine wpr_e0 (by simp (disch := ((try simp only [AH.push_n, AH.set_n]); omega)) only [push_cast, Nat.reduceEqDiff, ↓reduceIte, reduceCtorEq, Nat.reduceAdd, Nat.reduceMul, Nat.reduceLeDiff, AH.get_push_same, AH.get_push_ne, AH.get_set_same, AH.get_set_ne, AH.push_n, AH.set_n, q3, q4, q6, q8, qc]; rfl) ?_
       | refine wpr_e (by simp (disch := ((try simp only [AH.push_n, AH.set_n]); omega)) only [push_cast, Nat.reduceEqDiff, ↓reduceIte, reduceCtorEq, Nat.reduceAdd, Nat.reduceMul, Nat.reduceLeDiff, AH.get_push_same, AH.get_push_ne, AH.get_set_same, AH.get_set_ne, AH.push_n, AH.set_n, q3, q4, q6, q8, qc]; rfl) ?_
       | refine wpr_nil (by first | exact chkT_nil | (simp (disch := ((try simp only [AH.push_n, AH.set_n]); omega)) only [push_cast, Nat.reduceEqDiff, ↓reduceIte, reduceCtorEq, Nat.reduceAdd, Nat.reduceMul, Nat.reduceLeDiff, AH.get_push_same, AH.get_push_ne, AH.get_set_same, AH.get_set_ne, AH.push_n, AH.set_n, q3, q4, q6, q8, qc]; done)) (by (try simp only [push_cast, Nat.reduceEqDiff, ↓reduceIte, reduceCtorEq, Nat.reduceAdd, Nat.reduceMul, Nat.reduceLeDiff, AH.get_push_same, AH.get_push_ne, AH.get_set_same, AH.get_set_ne, AH.push_n, AH.set_n, q3, q4, q6, q8, qc]); rfl) (by (try simp only [push_cast, Nat.reduceEqDiff, ↓reduceIte, reduceCtorEq, Nat.reduceAdd, Nat.reduceMul, Nat.reduceLeDiff, AH.get_push_same, AH.get_push_ne, AH.get_set_same, AH.get_set_ne, AH.push_n, AH.set_n, q3, q4, q6, q8, qc]); rfl) ?_
       | refine wpr_pass0 rfl rfl ?_
       | refine wpr_pass0S rfl ?_)
    | (show Wp _ _ _ _ _ _
       first
       | refine wp_seq ?_
       | refine wp_region ?_
       | refine wp_cond_t rfl ?_
       | refine wp_cond_f rfl ?_
       | refine wp_ret ?_
       | refine wp_skip ?_
       | refine wp_exit ?_
       | refine wp_block ?_)
    | refine thenQ_norm ?_
    | refine thenQ_ret ?_
    | refine thenQ_exit ?_
    | refine blockQ_norm ?_
    | refine blockQ_ret ?_
    | refine blockQ_same ?_
    | refine blockQ_ne rfl ?_
    | refine loopQ_norm ?_
    | refine loopQ_ret ?_
    | refine loopQ_exit ?_
    | refine retQ_ret (by (try simp (disch := ((try simp only [AH.push_n, AH.set_n]); omega)) only [push_cast, Nat.reduceEqDiff, ↓reduceIte, reduceCtorEq, Nat.reduceAdd, Nat.reduceMul, Nat.reduceLeDiff, AH.get_push_same, AH.get_push_ne, AH.get_set_same, AH.get_set_ne, AH.push_n, AH.set_n, q3, q4, q6, q8, qc]); rfl) ?_
    | refine retQ_norm (by (try simp (disch := ((try simp only [AH.push_n, AH.set_n]); omega)) only [push_cast, Nat.reduceEqDiff, ↓reduceIte, reduceCtorEq, Nat.reduceAdd, Nat.reduceMul, Nat.reduceLeDiff, AH.get_push_same, AH.get_push_ne, AH.get_set_same, AH.get_set_ne, AH.push_n, AH.set_n, q3, q4, q6, q8, qc]); rfl) ?_
    | refine wpc_of (by simp (disch := ((try simp only [AH.push_n, AH.set_n]); omega)) only [push_cast, Nat.reduceEqDiff, ↓reduceIte, reduceCtorEq, Nat.reduceAdd, Nat.reduceMul, Nat.reduceLeDiff, AH.get_push_same, AH.get_push_ne, AH.get_set_same, AH.get_set_ne, AH.push_n, AH.set_n, q3, q4, q6, q8, qc]; rfl) ?_)
    all_goals
      have a0' := a0.step (m := 0) (x := 0) rfl
      generalize h'.set h1.n (.cells false [.int .i64 0]) = h4 at a0'
      have ltc := AH.get_lt a0'.cnt
      refine wp_range (xs := (runesL C).reverse) (enc := runeV) rfl (back_seq (bx := h3.n + 2) (b := b) (t := tt) hCb (by omega)) (fun _ => rfl)
        (fun i T h' => RoundI base h' h1.n i ∧ (i : Int) < stop) (fun ex T h' => ex = .exit 4 ∧ ∃ i, RoundI base h' h1.n i ∧ (i : Int) = stop)
        (fun x => [(3, .pointer (some ⟨h.n, 0, none⟩)), (4, .pointer (some ⟨h.n + 1, 0, none⟩)), (6, .pointer (some ⟨h2.n, 0, none⟩)), (8, .pointer (some ⟨h3.n, 0, none⟩)), (12, .pointer (some ⟨h1.n, 0, none⟩)), (14, .int .i32 x)]) (fun _ => []) ?_ ?_ ?_ ?_ ?_ ?_ ?_ ?_
      · rintro i T T' h1 h2 ⟨b0, b1⟩ hT hm hT'
        have := AH.get_lt a0'.cnt
        exact ⟨b0.mv (by omega) (fun b hb => (hT b hb).1) hm, b1⟩
      · rintro ex T T' h1 h2 ⟨b0, i, b1, b2⟩ hT hm hT'
        have := AH.get_lt a0'.cnt
        exact ⟨b0, i, b1.mv (by omega) (fun b hb => (hT b hb).1) hm, b2⟩
      · rintro i T h' ⟨b0, b1⟩
        exact hSD _ _ (.inr rfl) b0.kp
      · intro x h'
        simp only [runeV, List.zip_cons_cons, List.zip_nil_right, List.reverse_cons, List.reverse_nil, List.nil_append, List.cons_append, okFr_cons, okFr_nil, okV_eq, isLoc_ptr, isLoc_func, isLoc_int, Bool.not_false, if_true]
        (repeat' first
    | (show WpR _ _ _ _ _ _ _ _ _
       first
       | refine wpr_p (o := .mv _) (by simp only [ev_mv, opd_s, opd_c, fget, Nat.reduceEqDiff, Nat.one_ne_zero, Nat.zero_ne_one, reduceCtorEq, ↓reduceIte]; rfl) ?_
       | (refine wpr_fork (fun _ => ?_) (fun _ => ?_) <;> try (exfalso; omega))
       | (refine wpr_forkN (fun _ => ?_) (fun _ => ?_) <;> try (exfalso; omega))
       | refine wpr_p (by simp (disch := omega) only [push_cast, Nat.reduceEqDiff, ↓reduceIte, reduceCtorEq, Nat.reduceAdd, Nat.reduceMul, Nat.reduceLeDiff]; rfl) ?_
       | refine wpr_r (by simp (disch := omega) only [push_cast, Nat.reduceEqDiff, ↓reduceIte, reduceCtorEq, Nat.reduceAdd, Nat.reduceMul, Nat.reduceLeDiff]; rfl) ?_
       | refine wpr_run rfl ?_
       | refine wpr_pass rfl rfl ?_
       | refine wpr_passS rfl ?_
       | refine wpr_call (by (try simp (disch := omega) only [push_cast, Nat.reduceEqDiff, ↓reduceIte, reduceCtorEq, Nat.reduceAdd, Nat.reduceMul, Nat.reduceLeDiff]) <;> rfl) (by first | rfl | simp only [push_cast, Nat.reduceEqDiff, ↓reduceIte, reduceCtorEq, Nat.reduceAdd, Nat.reduceMul, Nat.reduceLeDiff]) ?_
       | refine wpr_e0 (by simp (disch := omega) only [push_cast, Nat.reduceEqDiff, ↓reduceIte, reduceCtorEq, Nat.reduceAdd, Nat.reduceMul, Nat.reduceLeDiff]; rfl) ?_
       | refine wpr_e (by simp (disch := omega) only [push_cast, Nat.reduceEqDiff, ↓reduceIte, reduceCtorEq, Nat.reduceAdd, Nat.reduceMul, Nat.reduceLeDiff]; rfl) ?_
       | refine wpr_nil (by first | exact chkT_nil | (simp (disch := omega) only [push_cast, Nat.reduceEqDiff, ↓reduceIte, reduceCtorEq, Nat.reduceAdd, Nat.reduceMul, Nat.reduceLeDiff]; done)) (by (try simp only [push_cast, Nat.reduceEqDiff, ↓reduceIte, reduceCtorEq, Nat.reduceAdd, Nat.reduceMul, Nat.reduceLeDiff]); rfl) (by (try simp only [push_cast, Nat.reduceEqDiff, ↓reduceIte, reduceCtorEq, Nat.reduceAdd, Nat.reduceMul, Nat.reduceLeDiff]); rfl) ?_
       | refine wpr_pass0 rfl rfl ?_
       | refine wpr_pass0S rfl ?_)
    | (show Wp _ _ _ _ _ _
       first
       | refine wp_seq ?_
       | refine wp_region ?_
       | refine wp_cond_t rfl ?_
       | refine wp_cond_f rfl ?_
       | refine wp_ret ?_
       | refine wp_skip ?_
       | refine wp_exit ?_
       | refine wp_block ?_)
    | refine thenQ_norm ?_
    | refine thenQ_ret ?_
    | refine thenQ_exit ?_
    | refine blockQ_norm ?_
    | refine blockQ_ret ?_
    | refine blockQ_same ?_
    | refine blockQ_ne rfl ?_
    | refine loopQ_norm ?_
    | refine loopQ_ret ?_
    | refine loopQ_exit ?_
    | refine retQ_ret (by (try simp (disch := omega) only [push_cast, Nat.reduceEqDiff, ↓reduceIte, reduceCtorEq, Nat.reduceAdd, Nat.reduceMul, Nat.reduceLeDiff]); rfl) ?_
    | refine retQ_norm (by (try simp (disch := omega) only [push_cast, Nat.reduceEqDiff, ↓reduceIte, reduceCtorEq, Nat.reduceAdd, Nat.reduceMul, Nat.reduceLeDiff]); rfl) ?_
    | refine wpc_of (by simp (disch := omega) only [push_cast, Nat.reduceEqDiff, ↓reduceIte, reduceCtorEq, Nat.reduceAdd, Nat.reduceMul, Nat.reduceLeDiff]; rfl) ?_)
        exact ⟨rfl, rfl, rfl, rfl⟩
      · exact ⟨a0', by omega⟩
      · rintro i hi T h5 o ⟨b0, b1⟩ hT hl ho
        obtain ⟨q3, q4, q6, q8, qr⟩ := got _ _ b0
        have qc := b0.cnt
        have qcl := AH.get_lt qc
        have l3' := AH.get_lt q3
        have b0' := b0.step (m := i + 1) (x := (i : Int) + 1) (by omega)
        have qr' := (got _ _ b0').2.2.2.2
        have hrl : (runesL C).reverse.length = (runesL C).length := List.length_reverse
        have e38 := refAt_eq qr' (by omega) hCb (sizeR C - ((i : Int) + 1)) (by omega) (by omega)
        have hix : sizeR C - ((i : Int) + 1) = (((runesL C).length - 1 - i : Nat) : Int) := by omega
        rw [hix, runesL_at hCb (by omega), ← hix, Option.getD_some] at e38
        have hrv : (runesL C).reverse[i] = (runesL C)[(runesL C).length - 1 - i]'(by omega) := by rw [List.getElem_reverse]
        rw [hrv]
        generalize (runesL C)[(runesL C).length - 1 - i]'(by omega) = x at e38
        (repeat' first
    | (show WpR _ _ _ _ _ _ _ _ _
       first
       | refine wpr_p (o := .mv _) (by simp only [ev_mv, opd_s, opd_c, fget, Nat.reduceEqDiff, Nat.one_ne_zero, Nat.zero_ne_one, reduceCtorEq, ↓reduceIte]; rfl) ?_
       | (refine wpr_fork (fun _ => ?_) (fun _ => ?_) <;> try (exfalso; omega))
       | (refine wpr_forkN (fun _ => ?_) (fun _ => ?_) <;> try (exfalso; omega))
       | refine wpr_p (by simp (disch := ((try simp only [AH.push_n, AH.set_n]); omega)) only [push_cast, Nat.reduceEqDiff, ↓reduceIte, reduceCtorEq, Nat.reduceAdd, Nat.reduceMul, Nat.reduceLeDiff, AH.get_push_same, AH.get_push_ne, AH.get_set_same, AH.get_set_ne, AH.push_n, AH.set_n, q3, q4, q6, q8, qc, e38]; rfl) ?_
       | refine wpr_r (by simp (disch := ((try simp only [AH.push_n, AH.set_n]); omega)) only [push_cast, Nat.reduceEqDiff, ↓reduceIte, reduceCtorEq, Nat.reduceAdd, Nat.reduceMul, Nat.reduceLeDiff, AH.get_push_same, AH.get_push_ne, AH.get_set_same, AH.get_set_ne, AH.push_n, AH.set_n, q3, q4, q6, q8, qc, e38]; rfl) ?_
       | refine wpr_run rfl ?_
       | refine wpr_pass rfl rfl ?_
       | refine wpr_passS rfl ?_
       | refine wpr_call (by (try simp (disch := ((try simp only [AH.push_n, AH.set_n]); omega)) only [push_cast, Nat.reduceEqDiff, ↓reduceIte, reduceCtorEq, Nat.reduceAdd, Nat.reduceMul, Nat.reduceLeDiff, AH.get_push_same, AH.get_push_ne, AH.get_set_same, AH.get_set_ne, AH.push_n, AH.set_n, q3, q4, q6, q8, qc, e38]) <;> rfl) (by first | rfl | simp only [push_cast, Nat.reduceEqDiff, ↓reduceIte, reduceCtorEq, Nat.reduceAdd, Nat.reduceMul, Nat.reduceLeDiff, AH.get_push_same, AH.get_push_ne, AH.get_set_same, AH.get_set_ne, AH.push_n, AH.set_n, q3, q4, q6, q8, qc, e38]) ?_
       | refine wpr_e0 (by simp (disch := ((try simp only [AH.push_n, AH.set_n]); omega)) only [push_cast, Nat.reduceEqDiff, ↓reduceIte, reduceCtorEq, Nat.reduceAdd, Nat.reduceMul, Nat.reduceLeDiff, AH.get_push_same, AH.get_push_ne, AH.get_set_same, AH.get_set_ne, AH.push_n, AH.set_n, q3, q4, q6, q8, qc, e38]; rfl) ?_
       | refine wpr_e (by simp (disch := ((try simp only [AH.push_n, AH.set_n]); omega)) only [push_cast, Nat.reduceEqDiff, ↓reduceIte, reduceCtorEq, Nat.reduceAdd, Nat.reduceMul, Nat.reduceLeDiff, AH.get_push_same, AH.get_push_ne, AH.get_set_same, AH.get_set_ne, AH.push_n, AH.set_n, q3, q4, q6, q8, qc, e38]; rfl) ?_
       | refine wpr_nil (by first | exact chkT_nil | (simp (disch := ((try simp only [AH.push_n, AH.set_n]); omega)) only [push_cast, Nat.reduceEqDiff, ↓reduceIte, reduceCtorEq, Nat.reduceAdd, Nat.reduceMul, Nat.reduceLeDiff, AH.get_push_same, AH.get_push_ne, AH.get_set_same, AH.get_set_ne, AH.push_n, AH.set_n, q3, q4, q6, q8, qc, e38]; done)) (by (try simp only [push_cast, Nat.reduceEqDiff, ↓reduceIte, reduceCtorEq, Nat.reduceAdd, Nat.reduceMul, Nat.reduceLeDiff, AH.get_push_same, AH.get_push_ne, AH.get_set_same, AH.get_set_ne, AH.push_n, AH.set_n, q3, q4, q6, q8, qc, e38]); rfl) (by (try simp only [push_cast, Nat.reduceEqDiff, ↓reduceIte, reduceCtorEq, Nat.reduceAdd, Nat.reduceMul, Nat.reduceLeDiff, AH.get_push_same, AH.get_push_ne, AH.get_set_same, AH.get_set_ne, AH.push_n, AH.set_n, q3, q4, q6, q8, qc, e38]); rfl) ?_
       | refine wpr_pass0 rfl rfl ?_
       | refine wpr_pass0S rfl ?_)
    | (show Wp _ _ _ _ _ _
       first
       | refine wp_seq ?_
       | refine wp_region ?_
       | refine wp_cond_t rfl ?_
       | refine wp_cond_f rfl ?_
       | refine wp_ret ?_
       | refine wp_skip ?_
       | refine wp_exit ?_
       | refine wp_block ?_)
    | refine thenQ_norm ?_
    | refine thenQ_ret ?_
    | refine thenQ_exit ?_
    | refine blockQ_norm ?_
    | refine blockQ_ret ?_
    | refine blockQ_same ?_
    | refine blockQ_ne rfl ?_
    | refine loopQ_norm ?_
    | refine loopQ_ret ?_
    | refine loopQ_exit ?_
    | refine retQ_ret (by (try simp (disch := ((try simp only [AH.push_n, AH.set_n]); omega)) only [push_cast, Nat.reduceEqDiff, ↓reduceIte, reduceCtorEq, Nat.reduceAdd, Nat.reduceMul, Nat.reduceLeDiff, AH.get_push_same, AH.get_push_ne, AH.get_set_same, AH.get_set_ne, AH.push_n, AH.set_n, q3, q4, q6, q8, qc, e38]); rfl) ?_
    | refine retQ_norm (by (try simp (disch := ((try simp only [AH.push_n, AH.set_n]); omega)) only [push_cast, Nat.reduceEqDiff, ↓reduceIte, reduceCtorEq, Nat.reduceAdd, Nat.reduceMul, Nat.reduceLeDiff, AH.get_push_same, AH.get_push_ne, AH.get_set_same, AH.get_set_ne, AH.push_n, AH.set_n, q3, q4, q6, q8, qc, e38]); rfl) ?_
    | refine wpc_of (by simp (disch := ((try simp only [AH.push_n, AH.set_n]); omega)) only [push_cast, Nat.reduceEqDiff, ↓reduceIte, reduceCtorEq, Nat.reduceAdd, Nat.reduceMul, Nat.reduceLeDiff, AH.get_push_same, AH.get_push_ne, AH.get_set_same, AH.get_set_ne, AH.push_n, AH.set_n, q3, q4, q6, q8, qc, e38]; rfl) ?_)
        · refine ⟨by rw [AH.get_set_ne _ (by omega)]; exact ho, Nat.le_refl _, fun b hb => AH.get_set_ne _ (by have := hT b hb; have := AH.get_lt a0'.cnt; omega), rfl, i + 1, b0', by omega⟩
        · exact ⟨by rw [AH.get_set_ne _ (by omega)]; exact ho, Nat.le_refl _, fun b hb => AH.get_set_ne _ (by have := hT b hb; have := AH.get_lt a0'.cnt; omega), b0', by omega⟩
      · rintro T h5 ⟨b0, b1⟩ hT hl
        have hrl : (runesL C).reverse.length = (runesL C).length := List.length_reverse
        obtain ⟨q3, q4, q6, q8, qr⟩ := got _ _ b0
        have qc := b0.cnt
        have qcl := AH.get_lt qc
        (repeat' first
    | (show WpR _ _ _ _ _ _ _ _ _
       first
       | refine wpr_p (o := .mv _) (by simp only [ev_mv, opd_s, opd_c, fget, Nat.reduceEqDiff, Nat.one_ne_zero, Nat.zero_ne_one, reduceCtorEq, ↓reduceIte]; rfl) ?_
       | (refine wpr_fork (fun _ => ?_) (fun _ => ?_) <;> try (exfalso; omega))
       | (refine wpr_forkN (fun _ => ?_) (fun _ => ?_) <;> try (exfalso; omega))
       | refine wpr_p (by simp (disch := ((try simp only [AH.push_n, AH.set_n]); omega)) only [push_cast, Nat.reduceEqDiff, ↓reduceIte, reduceCtorEq, Nat.reduceAdd, Nat.reduceMul, Nat.reduceLeDiff, AH.get_push_same, AH.get_push_ne, AH.get_set_same, AH.get_set_ne, AH.push_n, AH.set_n, q3, q4, q6, q8, qc]; rfl) ?_
       | refine wpr_r (by simp (disch := ((try simp only [AH.push_n, AH.set_n]); omega)) only [push_cast, Nat.reduceEqDiff, ↓reduceIte, reduceCtorEq, Nat.reduceAdd, Nat.reduceMul, Nat.reduceLeDiff, AH.get_push_same, AH.get_push_ne, AH.get_set_same, AH.get_set_ne, AH.push_n, AH.set_n, q3, q4, q6, q8, qc]; rfl) ?_
       | refine wpr_run rfl ?_
       | refine wpr_pass rfl rfl ?_
       | refine wpr_passS rfl ?_
       | refine wpr_call (by (try simp (disch := ((try simp only [AH.push_n, AH.set_n]); omega)) only [push_cast, Nat.reduceEqDiff, ↓reduceIte, reduceCtorEq, Nat.reduceAdd, Nat.reduceMul, Nat.reduceLeDiff, AH.get_push_same, AH.get_push_ne, AH.get_set_same, AH.get_set_ne, AH.push_n, AH.set_n, q3, q4, q6, q8, qc]) <;> rfl) (by first | rfl | simp only [push_cast, Nat.reduceEqDiff, ↓reduceIte, reduceCtorEq, Nat.reduceAdd, Nat.reduceMul, Nat.reduceLeDiff, AH.get_push_same, AH.get_push_ne, AH.get_set_same, AH.get_set_ne, AH.push_n, AH.set_n, q3, q4, q6, q8, qc]) ?_
       | refine wpr_e0 (by simp (disch := ((try simp only [AH.push_n, AH.set_n]); omega)) only [push_cast, Nat.reduceEqDiff, ↓reduceIte, reduceCtorEq, Nat.reduceAdd, Nat.reduceMul, Nat.reduceLeDiff, AH.get_push_same, AH.get_push_ne, AH.get_set_same, AH.get_set_ne, AH.push_n, AH.set_n, q3, q4, q6, q8, qc]; rfl) ?_
       | refine wpr_e (by simp (disch := ((try simp only [AH.push_n, AH.set_n]); omega)) only [push_cast, Nat.reduceEqDiff, ↓reduceIte, reduceCtorEq, Nat.reduceAdd, Nat.reduceMul, Nat.reduceLeDiff, AH.get_push_same, AH.get_push_ne, AH.get_set_same, AH.get_set_ne, AH.push_n, AH.set_n, q3, q4, q6, q8, qc]; rfl) ?_
       | refine wpr_nil (by first | exact chkT_nil | (simp (disch := ((try simp only [AH.push_n, AH.set_n]); omega)) only [push_cast, Nat.reduceEqDiff, ↓reduceIte, reduceCtorEq, Nat.reduceAdd, Nat.reduceMul, Nat.reduceLeDiff, AH.get_push_same, AH.get_push_ne, AH.get_set_same, AH.get_set_ne, AH.push_n, AH.set_n, q3, q4, q6, q8, qc]; done)) (by (try simp only [push_cast, Nat.reduceEqDiff, ↓reduceIte, reduceCtorEq, Nat.reduceAdd, Nat.reduceMul, Nat.reduceLeDiff, AH.get_push_same, AH.get_push_ne, AH.get_set_same, AH.get_set_ne, AH.push_n, AH.set_n, q3, q4, q6, q8, qc]); rfl) (by (try simp only [push_cast, Nat.reduceEqDiff, ↓reduceIte, reduceCtorEq, Nat.reduceAdd, Nat.reduceMul, Nat.reduceLeDiff, AH.get_push_same, AH.get_push_ne, AH.get_set_same, AH.get_set_ne, AH.push_n, AH.set_n, q3, q4, q6, q8, qc]); rfl) ?_
       | refine wpr_pass0 rfl rfl ?_
       | refine wpr_pass0S rfl ?_)
    | (show Wp _ _ _ _ _ _
       first
       | refine wp_seq ?_
       | refine wp_region ?_
       | refine wp_cond_t rfl ?_
       | refine wp_cond_f rfl ?_
       | refine wp_ret ?_
       | refine wp_skip ?_
       | refine wp_exit ?_
       | refine wp_block ?_)
    | refine thenQ_norm ?_
    | refine thenQ_ret ?_
    | refine thenQ_exit ?_
    | refine blockQ_norm ?_
    | refine blockQ_ret ?_
    | refine blockQ_same ?_
    | refine blockQ_ne rfl ?_
    | refine loopQ_norm ?_
    | refine loopQ_ret ?_
    | refine loopQ_exit ?_
    | refine retQ_ret (by (try simp (disch := ((try simp only [AH.push_n, AH.set_n]); omega)) only [push_cast, Nat.reduceEqDiff, ↓reduceIte, reduceCtorEq, Nat.reduceAdd, Nat.reduceMul, Nat.reduceLeDiff, AH.get_push_same, AH.get_push_ne, AH.get_set_same, AH.get_set_ne, AH.push_n, AH.set_n, q3, q4, q6, q8, qc]); rfl) ?_
    | refine retQ_norm (by (try simp (disch := ((try simp only [AH.push_n, AH.set_n]); omega)) only [push_cast, Nat.reduceEqDiff, ↓reduceIte, reduceCtorEq, Nat.reduceAdd, Nat.reduceMul, Nat.reduceLeDiff, AH.get_push_same, AH.get_push_ne, AH.get_set_same, AH.get_set_ne, AH.push_n, AH.set_n, q3, q4, q6, q8, qc]); rfl) ?_
    | refine wpc_of (by simp (disch := ((try simp only [AH.push_n, AH.set_n]); omega)) only [push_cast, Nat.reduceEqDiff, ↓reduceIte, reduceCtorEq, Nat.reduceAdd, Nat.reduceMul, Nat.reduceLeDiff, AH.get_push_same, AH.get_push_ne, AH.get_set_same, AH.get_set_ne, AH.push_n, AH.set_n, q3, q4, q6, q8, qc]; rfl) ?_)
        all_goals exact ⟨_, by omega, i + 1, rfl, by omega, rfl, rfl, ⟨by have := b0.le; omega, b0.kp⟩⟩
      · rintro ex T h5 hex ⟨rfl, k2, b0, b1⟩ hT hl
        obtain ⟨q3, q4, q6, q8, qr⟩ := got _ _ b0
        have qc := b0.cnt
        have qcl := AH.get_lt qc
        (repeat' first
    | (show WpR _ _ _ _ _ _ _ _ _
       first
       | refine wpr_p (o := .mv _) (by simp only [ev_mv, opd_s, opd_c, fget, Nat.reduceEqDiff, Nat.one_ne_zero, Nat.zero_ne_one, reduceCtorEq, ↓reduceIte]; rfl) ?_
       | (refine wpr_fork (fun _ => ?_) (fun _ => ?_) <;> try (exfalso; omega))
       | (refine wpr_forkN (fun _ => ?_) (fun _ => ?_) <;> try (exfalso; omega))
       | refine wpr_p (by simp (disch := ((try simp only [AH.push_n, AH.set_n]); omega)) only [push_cast, Nat.reduceEqDiff, ↓reduceIte, reduceCtorEq, Nat.reduceAdd, Nat.reduceMul, Nat.reduceLeDiff, AH.get_push_same, AH.get_push_ne, AH.get_set_same, AH.get_set_ne, AH.push_n, AH.set_n, q3, q4, q6, q8, qc]; rfl) ?_
       | refine wpr_r (by simp (disch := ((try simp only [AH.push_n, AH.set_n]); omega)) only [push_cast, Nat.reduceEqDiff, ↓reduceIte, reduceCtorEq, Nat.reduceAdd, Nat.reduceMul, Nat.reduceLeDiff, AH.get_push_same, AH.get_push_ne, AH.get_set_same, AH.get_set_ne, AH.push_n, AH.set_n, q3, q4, q6, q8, qc]; rfl) ?_
       | refine wpr_run rfl ?_
       | refine wpr_pass rfl rfl ?_
       | refine wpr_passS rfl ?_
       | refine wpr_call (by (try simp (disch := ((try simp only [AH.push_n, AH.set_n]); omega)) only [push_cast, Nat.reduceEqDiff, ↓reduceIte, reduceCtorEq, Nat.reduceAdd, Nat.reduceMul, Nat.reduceLeDiff, AH.get_push_same, AH.get_push_ne, AH.get_set_same, AH.get_set_ne, AH.push_n, AH.set_n, q3, q4, q6, q8, qc]) <;> rfl) (by first | rfl | simp only [push_cast, Nat.reduceEqDiff, ↓reduceIte, reduceCtorEq, Nat.reduceAdd, Nat.reduceMul, Nat.reduceLeDiff, AH.get_push_same, AH.get_push_ne, AH.get_set_same, AH.get_set_ne, AH.push_n, AH.set_n, q3, q4, q6, q8, qc]) ?_
       | refine wpr_e0 (by simp (disch := ((try simp only [AH.push_n, AH.set_n]); omega)) only [push_cast, Nat.reduceEqDiff, ↓reduceIte, reduceCtorEq, Nat.reduceAdd, Nat.reduceMul, Nat.reduceLeDiff, AH.get_push_same, AH.get_push_ne, AH.get_set_same, AH.get_set_ne, AH.push_n, AH.set_n, q3, q4, q6, q8, qc]; rfl) ?_
       | refine wpr_e (by simp (disch := ((try simp only [AH.push_n, AH.set_n]); omega)) only [push_cast, Nat.reduceEqDiff, ↓reduceIte, reduceCtorEq, Nat.reduceAdd, Nat.reduceMul, Nat.reduceLeDiff, AH.get_push_same, AH.get_push_ne, AH.get_set_same, AH.get_set_ne, AH.push_n, AH.set_n, q3, q4, q6, q8, qc]; rfl) ?_
       | refine wpr_nil (by first | exact chkT_nil | (simp (disch := ((try simp only [AH.push_n, AH.set_n]); omega)) only [push_cast, Nat.reduceEqDiff, ↓reduceIte, reduceCtorEq, Nat.reduceAdd, Nat.reduceMul, Nat.reduceLeDiff, AH.get_push_same, AH.get_push_ne, AH.get_set_same, AH.get_set_ne, AH.push_n, AH.set_n, q3, q4, q6, q8, qc]; done)) (by (try simp only [push_cast, Nat.reduceEqDiff, ↓reduceIte, reduceCtorEq, Nat.reduceAdd, Nat.reduceMul, Nat.reduceLeDiff, AH.get_push_same, AH.get_push_ne, AH.get_set_same, AH.get_set_ne, AH.push_n, AH.set_n, q3, q4, q6, q8, qc]); rfl) (by (try simp only [push_cast, Nat.reduceEqDiff, ↓reduceIte, reduceCtorEq, Nat.reduceAdd, Nat.reduceMul, Nat.reduceLeDiff, AH.get_push_same, AH.get_push_ne, AH.get_set_same, AH.get_set_ne, AH.push_n, AH.set_n, q3, q4, q6, q8, qc]); rfl) ?_
       | refine wpr_pass0 rfl rfl ?_
       | refine wpr_pass0S rfl ?_)
    | (show Wp _ _ _ _ _ _
       first
       | refine wp_seq ?_
       | refine wp_region ?_
       | refine wp_cond_t rfl ?_
       | refine wp_cond_f rfl ?_
       | refine wp_ret ?_
       | refine wp_skip ?_
       | refine wp_exit ?_
       | refine wp_block ?_)
    | refine thenQ_norm ?_
    | refine thenQ_ret ?_
    | refine thenQ_exit ?_
    | refine blockQ_norm ?_
    | refine blockQ_ret ?_
    | refine blockQ_same ?_
    | refine blockQ_ne rfl ?_
    | refine loopQ_norm ?_
    | refine loopQ_ret ?_
    | refine loopQ_exit ?_
    | refine retQ_ret (by (try simp (disch := ((try simp only [AH.push_n, AH.set_n]); omega)) only [push_cast, Nat.reduceEqDiff, ↓reduceIte, reduceCtorEq, Nat.reduceAdd, Nat.reduceMul, Nat.reduceLeDiff, AH.get_push_same, AH.get_push_ne, AH.get_set_same, AH.get_set_ne, AH.push_n, AH.set_n, q3, q4, q6, q8, qc]); rfl) ?_
    | refine retQ_norm (by (try simp (disch := ((try simp only [AH.push_n, AH.set_n]); omega)) only [push_cast, Nat.reduceEqDiff, ↓reduceIte, reduceCtorEq, Nat.reduceAdd, Nat.reduceMul, Nat.reduceLeDiff, AH.get_push_same, AH.get_push_ne, AH.get_set_same, AH.get_set_ne, AH.push_n, AH.set_n, q3, q4, q6, q8, qc]); rfl) ?_
    | refine wpc_of (by simp (disch := ((try simp only [AH.push_n, AH.set_n]); omega)) only [push_cast, Nat.reduceEqDiff, ↓reduceIte, reduceCtorEq, Nat.reduceAdd, Nat.reduceMul, Nat.reduceLeDiff, AH.get_push_same, AH.get_push_ne, AH.get_set_same, AH.get_set_ne, AH.push_n, AH.set_n, q3, q4, q6, q8, qc]; rfl) ?_)
        all_goals exact ⟨_, by omega, i + 1, rfl, by omega, rfl, rfl, ⟨by have := b0.le; omega, b0.kp⟩⟩

end Go.Proofs.Ytanpdopjgepbkaa.AM
