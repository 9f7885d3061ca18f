/- Bootstrings: the state; digits are written; the bias. -/
import Derived.Test.YtmfpkgcphlilmaaBootA
set_option linter.unusedVariables false
set_option linter.unusedSimpArgs false
namespace Go.Proofs.Ytmfpkgcphlilmaa.AM
open Go

/-! ### What grows -/

structure Grew (h h' : AH) (s s' : Sl) : Prop where
  n : h.n ≤ h'.n
  keep : ∀ b, b < h.n → s.blk ≠ some b → h'.get b = h.get b
  new : ∀ b, s'.blk = some b → h.n ≤ b ∨ s.blk = some b

theorem Grew.refl (h : AH) (s : Sl) : Grew h h s s := ⟨Nat.le_refl _, fun _ _ _ => rfl, fun _ hb => .inr hb⟩
theorem Grew.trans {h h1 h2 : AH} {s s1 s2 : Sl} (a : Grew h h1 s s1) (b : Grew h1 h2 s1 s2) : Grew h h2 s s2 where
  n := Nat.le_trans a.n b.n
  keep := fun c hc hs => (b.keep c (Nat.lt_of_lt_of_le hc a.n) fun e => by
    rcases a.new c e with g | g
    · omega
    · exact hs g).trans (a.keep c hc hs)
  new := fun c hc => by
    rcases b.new c hc with g | g
    · exact .inl (Nat.le_trans a.n g)
    · exact a.new c g
theorem Grew.app {h h' : AH} {s s' : Sl} (e : s'.blk = some h.n) (hn : h'.n = h.n + 1) (hk : ∀ b, b < h.n → s.blk ≠ some b → h'.get b = h.get b) : Grew h h' s s' :=
  ⟨by omega, hk, fun b hb => .inl (by rw [e] at hb; injection hb with hb; omega)⟩

/-! ### Division -/

theorem binA_quoI {a b : Int} (ha : 0 ≤ a) (hb : 0 < b) (hr : a < 9223372036854775808) : binA .quo (.int .i64 a) (.int .i64 b) = some (.int .i64 (a / b)) := by
  have h1 : a.tdiv b = a / b := Int.tdiv_eq_ediv_of_nonneg ha
  have h2 : 0 ≤ a / b := Int.ediv_nonneg ha (Int.le_of_lt hb)
  have h3 : a / b ≤ a := Int.ediv_le_self _ ha
  simp only [binA, intBin, if_true, if_neg (show ¬ b = 0 by omega), h1]
  rw [wrap_i64 (by omega) (by omega)]
theorem binA_remI {a b : Int} (ha : 0 ≤ a) (hb : 0 < b) : binA .rem (.int .i64 a) (.int .i64 b) = some (.int .i64 (a % b)) := by
  have h1 : a.tmod b = a % b := Int.tmod_eq_emod_of_nonneg ha
  simp only [binA, intBin, if_true, if_neg (show ¬ b = 0 by omega), h1]
attribute [push_cast] binA_quoI binA_remI

/-! ### The state -/

def stV (p : BP) (bias n j many : Int) : List Value :=
  [.int .i64 p.base, .int .i64 p.low, .int .i64 p.high, .int .i64 p.skew, .int .i64 p.damp, .int .i64 p.bias, .int .i32 p.first, .int .i64 bias, .int .i32 n, .int .i64 j, .int .i64 many]
def bpN (p : BP) : List Value := bpV p.base p.low p.high p.skew p.damp p.bias p.first

theorem begin_eq (p : BP) (h : AH) : callO PX 33 [.agg (bpN p).toArray] h = some (.agg (stV p p.bias p.first 0 0).toArray, h) := by
  apply WpC.eqn
  refine wpc_fn (px_ext rfl) (px_fn fn_boot_begin) rfl ?_
  unfold LF_boot_begin bpN bpV
  simp only [argFr]
  (repeat' first
    | (show WpR _ _ _ _ _ _ _ _ _
       first
       | refine wpr_drop ?_
       | refine wpr_p (o := .mv _) (by simp only [ev_mv, opd_s, opd_c, fget, Nat.reduceEqDiff, Nat.one_ne_zero, Nat.zero_ne_one, reduceCtorEq, ↓reduceIte]; rfl) ?_
       | (refine wpr_fork (fun _ => ?_) (fun _ => ?_) <;> try (exfalso; omega))
       | (refine wpr_forkN (fun _ => ?_) (fun _ => ?_) <;> try (exfalso; omega))
       | refine wpr_run rfl ?_
       | refine wpr_pass rfl rfl ?_
       | refine wpr_passS rfl ?_
       | ((first | apply wpr_p | apply wpr_r | apply wpr_callA | apply wpr_callA0 | apply wpr_e0 | apply wpr_e | apply wpr_end0); focus ((try simp (disch := omega) only [push_cast, Nat.reduceEqDiff, ↓reduceIte, reduceCtorEq, Nat.reduceAdd, Nat.reduceMul, Nat.reduceLeDiff]); rfl))
       | refine wpr_pass0 rfl rfl ?_
       | refine wpr_pass0S rfl ?_
       | (apply wpr_end; (focus ((try simp (disch := omega) only [push_cast, Nat.reduceEqDiff, ↓reduceIte, reduceCtorEq, Nat.reduceAdd, Nat.reduceMul, Nat.reduceLeDiff]); rfl)); (focus (simp (disch := omega) only [push_cast, Nat.reduceEqDiff, ↓reduceIte, reduceCtorEq, Nat.reduceAdd, Nat.reduceMul, Nat.reduceLeDiff]; done)))
       | fail)
    | (show Wp _ _ _ _ _ _
       first
       | refine wp_seq ?_
       | refine wp_region0 ?_
       | refine wp_region ?_
       | refine wp_cond_t rfl ?_
       | refine wp_cond_f rfl ?_
       | refine wp_ret ?_
       | refine wp_skip ?_
       | refine wp_exit ?_
       | refine wp_block ?_
       | fail)
    | refine thenQ_norm ?_
    | refine thenQ_ret ?_
    | refine thenQ_exit ?_
    | refine blockQ_norm ?_
    | refine blockQ_ret ?_
    | refine blockQ_same ?_
    | refine blockQ_ne rfl ?_
    | refine loopQ_norm ?_
    | refine loopQ_ret ?_
    | refine loopQ_exit ?_
    | ((first | apply retQ_ret | apply retQ_norm | apply wpc_of); focus ((try simp (disch := omega) only [push_cast, Nat.reduceEqDiff, ↓reduceIte, reduceCtorEq, Nat.reduceAdd, Nat.reduceMul, Nat.reduceLeDiff]); rfl))
    | fail)
  exact ⟨rfl, rfl⟩

theorem threshold_eq {p : BP} (ok : p.Ok) {h : AH} {bx : Nat} {bias k : Nat} {n j many : Int} (hg : h.get bx = some (.cells false (stV p bias n j many))) (hk : k < 100000000000) (hb : bias < 1000000000000000) :
    callO PX 58 [.pointer (some ⟨bx, 0, none⟩), .int .i64 k] h = some (.int .i64 (thr p bias k), h) := by
  unfold stV at hg
  have h1 := ok.b2; have h2 := ok.l1; have h3 := ok.l2; have h4 := ok.h1
  have hkb : k * p.base ≤ k * 36 := Nat.mul_le_mul_left _ h1
  have hkb' : (k : Int) * p.base ≤ (k : Int) * 36 := by exact_mod_cast hkb
  have hk0 : (0 : Int) ≤ (k : Int) * p.base := by exact_mod_cast Nat.zero_le _
  apply WpC.eqn
  refine wpc_fn (px_ext rfl) (px_fn fn_boot_state_threshold) rfl ?_
  unfold LF_boot_state_threshold
  simp only [argFr]
  (repeat' first
    | (show WpR _ _ _ _ _ _ _ _ _
       first
       | refine wpr_drop ?_
       | refine wpr_p (o := .mv _) (by simp only [ev_mv, opd_s, opd_c, fget, Nat.reduceEqDiff, Nat.one_ne_zero, Nat.zero_ne_one, reduceCtorEq, ↓reduceIte]; rfl) ?_
       | (refine wpr_fork (fun _ => ?_) (fun _ => ?_) <;> try (exfalso; omega))
       | (refine wpr_forkN (fun _ => ?_) (fun _ => ?_) <;> try (exfalso; omega))
       | refine wpr_run rfl ?_
       | refine wpr_pass rfl rfl ?_
       | refine wpr_passS rfl ?_
       | ((first | apply wpr_p | apply wpr_r | apply wpr_callA | apply wpr_callA0 | apply wpr_e0 | apply wpr_e | apply wpr_end0); focus ((try simp (disch := omega) only [push_cast, Nat.reduceEqDiff, ↓reduceIte, reduceCtorEq, Nat.reduceAdd, Nat.reduceMul, Nat.reduceLeDiff, hg]); rfl))
       | refine wpr_pass0 rfl rfl ?_
       | refine wpr_pass0S rfl ?_
       | (apply wpr_end; (focus ((try simp (disch := omega) only [push_cast, Nat.reduceEqDiff, ↓reduceIte, reduceCtorEq, Nat.reduceAdd, Nat.reduceMul, Nat.reduceLeDiff, hg]); rfl)); (focus (simp (disch := omega) only [push_cast, Nat.reduceEqDiff, ↓reduceIte, reduceCtorEq, Nat.reduceAdd, Nat.reduceMul, Nat.reduceLeDiff, hg]; done)))
       | fail)
    | (show Wp _ _ _ _ _ _
       first
       | refine wp_seq ?_
       | refine wp_region0 ?_
       | refine wp_region ?_
       | refine wp_cond_t rfl ?_
       | refine wp_cond_f rfl ?_
       | refine wp_ret ?_
       | refine wp_skip ?_
       | refine wp_exit ?_
       | refine wp_block ?_
       | fail)
    | refine thenQ_norm ?_
    | refine thenQ_ret ?_
    | refine thenQ_exit ?_
    | refine blockQ_norm ?_
    | refine blockQ_ret ?_
    | refine blockQ_same ?_
    | refine blockQ_ne rfl ?_
    | refine loopQ_norm ?_
    | refine loopQ_ret ?_
    | refine loopQ_exit ?_
    | ((first | apply retQ_ret | apply retQ_norm | apply wpc_of); focus ((try simp (disch := omega) only [push_cast, Nat.reduceEqDiff, ↓reduceIte, reduceCtorEq, Nat.reduceAdd, Nat.reduceMul, Nat.reduceLeDiff, hg]); rfl))
    | fail)
  refine ⟨?_, rfl⟩
  congr 1
  have e : ((k * p.base : Nat) : Int) = (k : Int) * p.base := by push_cast; first | done | rfl
  unfold thr
  generalize k * p.base = x at *
  rw [← e]
  omega

def byteV (c : UInt8) : List Value := [.int .u8 c.toNat]
theorem idx_digits {k : IntKind} {j : Int} (h0 : 0 ≤ j) (h1 : j < 36) : idxSP (.string ⟨#[97, 98, 99, 100, 101, 102, 103, 104, 105, 106, 107, 108, 109, 110, 111, 112, 113, 114, 115, 116, 117, 118, 119, 120, 121, 122, 48, 49, 50, 51, 52, 53, 54, 55, 56, 57]⟩) (.int k j) = some (.int .u8 ((digC j.toNat).toNat : Nat)) := by
  refine (idxSP_int h0 (Int.lt_of_lt_of_le h1 (Int.le_of_eq rfl))).trans ?_
  obtain ⟨n, rfl⟩ := Int.eq_ofNat_of_zero_le h0
  have hn : n < 36 := by omega
  rw [Int.toNat_natCast]
  congr 2
  revert hn
  revert n
  have : ∀ n : Fin 36, bat (ByteArray.mk #[97, 98, 99, 100, 101, 102, 103, 104, 105, 106, 107, 108, 109, 110, 111, 112, 113, 114, 115, 116, 117, 118, 119, 120, 121, 122, 48, 49, 50, 51, 52, 53, 54, 55, 56, 57]).data.toList n.val = (digC n.val).toNat := by decide
  intro n h0 h1 hn
  exact congrArg Int.ofNat (this ⟨n, hn⟩)

theorem write_spec {p : BP} (ok : p.Ok) {h : AH} {bx : Nat} {bias v : Nat} {n j many : Int} {s : Sl} {out : Bytes} (hg : h.get bx = some (.cells false (stV p bias n j many))) (hb : bias < 1000000000000000) (hv : v < 10000000000) (ho : Own h 1 s (out.map byteV)) (hs : s.blk ≠ some bx) (hl : out.length < 100000000000) :
    WpC PX 35 [.pointer (some ⟨bx, 0, none⟩), s.val 1, .int .i64 v] h fun r h' => ∃ s', r = s'.val 1 ∧ Own h' 1 s' ((out ++ (wrd p bias 1 v).map digC).map byteV) ∧ Grew h h' s s' ∧ ∃ b, s'.blk = some b ∧ h.n ≤ b := by
  have h1 := ok.b1; have h2 := ok.b2; have h3 := ok.l1; have h4 := ok.l2; have h5 := ok.h1
  have hbx := AH.get_lt hg
  refine wpc_fn (px_ext rfl) (px_fn fn_boot_state_write) rfl ?_
  unfold LF_boot_state_write
  simp only [argFr]
  (repeat' first
    | (show WpR _ _ _ _ _ _ _ _ _
       first
       | refine wpr_drop ?_
       | refine wpr_p (o := .mv _) (by simp only [ev_mv, opd_s, opd_c, fget, Nat.reduceEqDiff, Nat.one_ne_zero, Nat.zero_ne_one, reduceCtorEq, ↓reduceIte]; rfl) ?_
       | (refine wpr_fork (fun _ => ?_) (fun _ => ?_) <;> try (exfalso; omega))
       | (refine wpr_forkN (fun _ => ?_) (fun _ => ?_) <;> try (exfalso; omega))
       | refine wpr_run rfl ?_
       | refine wpr_pass rfl rfl ?_
       | refine wpr_passS rfl ?_
       | ((first | apply wpr_p | apply wpr_r | apply wpr_callA | apply wpr_callA0 | apply wpr_e0 | apply wpr_e | apply wpr_end0); focus ((try simp (disch := omega) only [push_cast, Nat.reduceEqDiff, ↓reduceIte, reduceCtorEq, Nat.reduceAdd, Nat.reduceMul, Nat.reduceLeDiff]); rfl))
       | refine wpr_pass0 rfl rfl ?_
       | refine wpr_pass0S rfl ?_
       | (apply wpr_end; (focus ((try simp (disch := omega) only [push_cast, Nat.reduceEqDiff, ↓reduceIte, reduceCtorEq, Nat.reduceAdd, Nat.reduceMul, Nat.reduceLeDiff]); rfl)); (focus (simp (disch := omega) only [push_cast, Nat.reduceEqDiff, ↓reduceIte, reduceCtorEq, Nat.reduceAdd, Nat.reduceMul, Nat.reduceLeDiff]; done)))
       | fail)
    | (show Wp _ _ _ _ _ _
       first
       | refine wp_seq ?_
       | refine wp_region0 ?_
       | refine wp_region ?_
       | refine wp_cond_t rfl ?_
       | refine wp_cond_f rfl ?_
       | refine wp_ret ?_
       | refine wp_skip ?_
       | refine wp_exit ?_
       | refine wp_block ?_
       | fail)
    | refine thenQ_norm ?_
    | refine thenQ_ret ?_
    | refine thenQ_exit ?_
    | refine blockQ_norm ?_
    | refine blockQ_ret ?_
    | refine blockQ_same ?_
    | refine blockQ_ne rfl ?_
    | refine loopQ_norm ?_
    | refine loopQ_ret ?_
    | refine loopQ_exit ?_
    | ((first | apply retQ_ret | apply retQ_norm | apply wpc_of); focus ((try simp (disch := omega) only [push_cast, Nat.reduceEqDiff, ↓reduceIte, reduceCtorEq, Nat.reduceAdd, Nat.reduceMul, Nat.reduceLeDiff]); rfl))
    | fail)
  refine wp_loop (fun w fr lc h1 => ∃ (k x : Nat) (done : List Nat) (s' : Sl), w = x ∧ 1 ≤ k ∧ k + x ≤ v + 1 ∧ done.length < k ∧ done ++ wrd p bias k x = wrd p bias 1 v ∧ Own h1 1 s' ((out ++ done.map digC).map byteV) ∧ Grew h h1 s s' ∧
      fr = [(0, .pointer (some ⟨bx, 0, none⟩)), (1, s'.val 1), (2, .int .i64 x), (7, .int .i64 k)] ∧ lc = []) v
    ⟨1, v, [], s, rfl, Nat.le_refl _, by omega, by simp, rfl, by simpa using ho, Grew.refl h s, rfl, rfl⟩ ?_
  rintro w fr lc h6 ⟨k, x, done, s', rfl, hk1, hkx, hdl, hd, ho', hgr, rfl, rfl⟩
  have hg6 : h6.get bx = some (.cells false (stV p bias n j many)) := by rw [hgr.keep bx hbx hs]; exact hg
  have ht := threshold_eq ok (k := k) hg6 (by omega) hb
  have htb := thr_bound ok bias k
  have htl : (out ++ done.map digC).length < 100000000000 + 100000000000 := by simp only [List.length_append, List.length_map]; omega
  by_cases hxt : w < thr p bias k
  · (repeat' first
    | (show WpR _ _ _ _ _ _ _ _ _
       first
       | refine wpr_drop ?_
       | refine wpr_p (o := .mv _) (by simp only [ev_mv, opd_s, opd_c, fget, Nat.reduceEqDiff, Nat.one_ne_zero, Nat.zero_ne_one, reduceCtorEq, ↓reduceIte]; rfl) ?_
       | (refine wpr_fork (fun _ => ?_) (fun _ => ?_) <;> try (exfalso; omega))
       | (refine wpr_forkN (fun _ => ?_) (fun _ => ?_) <;> try (exfalso; omega))
       | refine wpr_run rfl ?_
       | refine wpr_pass rfl rfl ?_
       | refine wpr_passS rfl ?_
       | ((first | apply wpr_p | apply wpr_r | apply wpr_callA | apply wpr_callA0 | apply wpr_e0 | apply wpr_e | apply wpr_end0); focus ((try simp (disch := omega) only [push_cast, Nat.reduceEqDiff, ↓reduceIte, reduceCtorEq, Nat.reduceAdd, Nat.reduceMul, Nat.reduceLeDiff, ht, idx_digits]); rfl))
       | refine wpr_pass0 rfl rfl ?_
       | refine wpr_pass0S rfl ?_
       | (apply wpr_end; (focus ((try simp (disch := omega) only [push_cast, Nat.reduceEqDiff, ↓reduceIte, reduceCtorEq, Nat.reduceAdd, Nat.reduceMul, Nat.reduceLeDiff, ht, idx_digits]); rfl)); (focus (simp (disch := omega) only [push_cast, Nat.reduceEqDiff, ↓reduceIte, reduceCtorEq, Nat.reduceAdd, Nat.reduceMul, Nat.reduceLeDiff, ht, idx_digits]; done)))
       | fail)
    | (show Wp _ _ _ _ _ _
       first
       | refine wp_seq ?_
       | refine wp_region0 ?_
       | refine wp_region ?_
       | refine wp_cond_t rfl ?_
       | refine wp_cond_f rfl ?_
       | refine wp_ret ?_
       | refine wp_skip ?_
       | refine wp_exit ?_
       | refine wp_block ?_
       | fail)
    | refine thenQ_norm ?_
    | refine thenQ_ret ?_
    | refine thenQ_exit ?_
    | refine blockQ_norm ?_
    | refine blockQ_ret ?_
    | refine blockQ_same ?_
    | refine blockQ_ne rfl ?_
    | refine loopQ_norm ?_
    | refine loopQ_ret ?_
    | refine loopQ_exit ?_
    | ((first | apply retQ_ret | apply retQ_norm | apply wpc_of); focus ((try simp (disch := omega) only [push_cast, Nat.reduceEqDiff, ↓reduceIte, reduceCtorEq, Nat.reduceAdd, Nat.reduceMul, Nat.reduceLeDiff, ht, idx_digits]); rfl))
    | fail)
    rw [wrd_lt ok hxt] at hd
    refine wpr_appendR (yss := [byteV (digC w)]) (k := 1) ho' rfl rfl rfl rfl (by simp [byteV]) (by decide) (by decide) (by decide) (by simp only [List.length_map]; omega) fun s2 h7 o2 e2 n2 k2 => ?_
    (repeat' first
    | (show WpR _ _ _ _ _ _ _ _ _
       first
       | refine wpr_drop ?_
       | refine wpr_p (o := .mv _) (by simp only [ev_mv, opd_s, opd_c, fget, Nat.reduceEqDiff, Nat.one_ne_zero, Nat.zero_ne_one, reduceCtorEq, ↓reduceIte]; rfl) ?_
       | (refine wpr_fork (fun _ => ?_) (fun _ => ?_) <;> try (exfalso; omega))
       | (refine wpr_forkN (fun _ => ?_) (fun _ => ?_) <;> try (exfalso; omega))
       | refine wpr_run rfl ?_
       | refine wpr_pass rfl rfl ?_
       | refine wpr_passS rfl ?_
       | ((first | apply wpr_p | apply wpr_r | apply wpr_callA | apply wpr_callA0 | apply wpr_e0 | apply wpr_e | apply wpr_end0); focus ((try simp (disch := omega) only [push_cast, Nat.reduceEqDiff, ↓reduceIte, reduceCtorEq, Nat.reduceAdd, Nat.reduceMul, Nat.reduceLeDiff]); rfl))
       | refine wpr_pass0 rfl rfl ?_
       | refine wpr_pass0S rfl ?_
       | (apply wpr_end; (focus ((try simp (disch := omega) only [push_cast, Nat.reduceEqDiff, ↓reduceIte, reduceCtorEq, Nat.reduceAdd, Nat.reduceMul, Nat.reduceLeDiff]); rfl)); (focus (simp (disch := omega) only [push_cast, Nat.reduceEqDiff, ↓reduceIte, reduceCtorEq, Nat.reduceAdd, Nat.reduceMul, Nat.reduceLeDiff]; done)))
       | fail)
    | (show Wp _ _ _ _ _ _
       first
       | refine wp_seq ?_
       | refine wp_region0 ?_
       | refine wp_region ?_
       | refine wp_cond_t rfl ?_
       | refine wp_cond_f rfl ?_
       | refine wp_ret ?_
       | refine wp_skip ?_
       | refine wp_exit ?_
       | refine wp_block ?_
       | fail)
    | refine thenQ_norm ?_
    | refine thenQ_ret ?_
    | refine thenQ_exit ?_
    | refine blockQ_norm ?_
    | refine blockQ_ret ?_
    | refine blockQ_same ?_
    | refine blockQ_ne rfl ?_
    | refine loopQ_norm ?_
    | refine loopQ_ret ?_
    | refine loopQ_exit ?_
    | ((first | apply retQ_ret | apply retQ_norm | apply wpc_of); focus ((try simp (disch := omega) only [push_cast, Nat.reduceEqDiff, ↓reduceIte, reduceCtorEq, Nat.reduceAdd, Nat.reduceMul, Nat.reduceLeDiff]); rfl))
    | fail)
    refine ⟨s2, rfl, ?_, hgr.trans (Grew.app e2 n2 k2), _, e2, hgr.n⟩
    rw [← hd]
    simpa using o2
  · rw [wrd_ge ok hxt] at hd
    have hnl := next_lt ok hxt
    have hml : (w - thr p bias k) % (p.base - thr p bias k) < p.base - thr p bias k := Nat.mod_lt _ (by omega)
    obtain ⟨d, hdd⟩ : ∃ d, d = thr p bias k + (w - thr p bias k) % (p.base - thr p bias k) := ⟨_, rfl⟩
    have hdi : ((thr p bias k : Nat) : Int) + ((w : Int) - thr p bias k) % ((p.base : Int) - thr p bias k) = (d : Int) := by
      rw [hdd]
      have e1 : ((w - thr p bias k : Nat) : Int) = (w : Int) - thr p bias k := by omega
      have e2 : ((p.base - thr p bias k : Nat) : Int) = (p.base : Int) - thr p bias k := by omega
      rw [← e1, ← e2]
      push_cast
      first | done | rfl
    have hqi : ((w : Int) - thr p bias k) / ((p.base : Int) - thr p bias k) = (((w - thr p bias k) / (p.base - thr p bias k) : Nat) : Int) := by
      have e1 : ((w - thr p bias k : Nat) : Int) = (w : Int) - thr p bias k := by omega
      have e2 : ((p.base - thr p bias k : Nat) : Int) = (p.base : Int) - thr p bias k := by omega
      rw [← e1, ← e2]
      push_cast
      first | done | rfl
    have hd36 : d < 36 := by omega
    have hmr : 0 ≤ ((w : Int) - thr p bias k) % ((p.base : Int) - thr p bias k) := Int.emod_nonneg _ (by omega)
    rw [← hdd] at hd
    generalize (w - thr p bias k) / (p.base - thr p bias k) = q at hqi hd hnl
    have hgx : h6.get bx = some (.cells false [.int .i64 p.base, .int .i64 p.low, .int .i64 p.high, .int .i64 p.skew, .int .i64 p.damp, .int .i64 p.bias, .int .i32 p.first, .int .i64 bias, .int .i32 n, .int .i64 j, .int .i64 many]) := hg6
    (repeat' first
    | (show WpR _ _ _ _ _ _ _ _ _
       first
       | refine wpr_drop ?_
       | refine wpr_p (o := .mv _) (by simp only [ev_mv, opd_s, opd_c, fget, Nat.reduceEqDiff, Nat.one_ne_zero, Nat.zero_ne_one, reduceCtorEq, ↓reduceIte]; rfl) ?_
       | (refine wpr_fork (fun _ => ?_) (fun _ => ?_) <;> try (exfalso; omega))
       | (refine wpr_forkN (fun _ => ?_) (fun _ => ?_) <;> try (exfalso; omega))
       | refine wpr_run rfl ?_
       | refine wpr_pass rfl rfl ?_
       | refine wpr_passS rfl ?_
       | ((first | apply wpr_p | apply wpr_r | apply wpr_callA | apply wpr_callA0 | apply wpr_e0 | apply wpr_e | apply wpr_end0); focus ((try simp (disch := omega) only [push_cast, Nat.reduceEqDiff, ↓reduceIte, reduceCtorEq, Nat.reduceAdd, Nat.reduceMul, Nat.reduceLeDiff, ht, hgx, idx_digits, hdi]); rfl))
       | refine wpr_pass0 rfl rfl ?_
       | refine wpr_pass0S rfl ?_
       | (apply wpr_end; (focus ((try simp (disch := omega) only [push_cast, Nat.reduceEqDiff, ↓reduceIte, reduceCtorEq, Nat.reduceAdd, Nat.reduceMul, Nat.reduceLeDiff, ht, hgx, idx_digits, hdi]); rfl)); (focus (simp (disch := omega) only [push_cast, Nat.reduceEqDiff, ↓reduceIte, reduceCtorEq, Nat.reduceAdd, Nat.reduceMul, Nat.reduceLeDiff, ht, hgx, idx_digits, hdi]; done)))
       | fail)
    | (show Wp _ _ _ _ _ _
       first
       | refine wp_seq ?_
       | refine wp_region0 ?_
       | refine wp_region ?_
       | refine wp_cond_t rfl ?_
       | refine wp_cond_f rfl ?_
       | refine wp_ret ?_
       | refine wp_skip ?_
       | refine wp_exit ?_
       | refine wp_block ?_
       | fail)
    | refine thenQ_norm ?_
    | refine thenQ_ret ?_
    | refine thenQ_exit ?_
    | refine blockQ_norm ?_
    | refine blockQ_ret ?_
    | refine blockQ_same ?_
    | refine blockQ_ne rfl ?_
    | refine loopQ_norm ?_
    | refine loopQ_ret ?_
    | refine loopQ_exit ?_
    | ((first | apply retQ_ret | apply retQ_norm | apply wpc_of); focus ((try simp (disch := omega) only [push_cast, Nat.reduceEqDiff, ↓reduceIte, reduceCtorEq, Nat.reduceAdd, Nat.reduceMul, Nat.reduceLeDiff, ht, hgx, idx_digits, hdi]); rfl))
    | fail)
    refine wpr_appendR (yss := [byteV (digC d)]) (k := 1) ho' rfl rfl rfl rfl (by simp [byteV]) (by decide) (by decide) (by decide) (by simp only [List.length_map]; omega) fun s2 h7 o2 e2 n2 k2 => ?_
    have hg7 : h7.get bx = some (.cells false [.int .i64 p.base, .int .i64 p.low, .int .i64 p.high, .int .i64 p.skew, .int .i64 p.damp, .int .i64 p.bias, .int .i32 p.first, .int .i64 bias, .int .i32 n, .int .i64 j, .int .i64 many]) := by
      have hg := hgr.trans (Grew.app e2 n2 k2)
      rw [hg.keep bx hbx hs]; assumption
    (repeat' first
    | (show WpR _ _ _ _ _ _ _ _ _
       first
       | refine wpr_drop ?_
       | refine wpr_p (o := .mv _) (by simp only [ev_mv, opd_s, opd_c, fget, Nat.reduceEqDiff, Nat.one_ne_zero, Nat.zero_ne_one, reduceCtorEq, ↓reduceIte]; rfl) ?_
       | (refine wpr_fork (fun _ => ?_) (fun _ => ?_) <;> try (exfalso; omega))
       | (refine wpr_forkN (fun _ => ?_) (fun _ => ?_) <;> try (exfalso; omega))
       | refine wpr_run rfl ?_
       | refine wpr_pass rfl rfl ?_
       | refine wpr_passS rfl ?_
       | ((first | apply wpr_p | apply wpr_r | apply wpr_callA | apply wpr_callA0 | apply wpr_e0 | apply wpr_e | apply wpr_end0); focus ((try simp (disch := omega) only [push_cast, Nat.reduceEqDiff, ↓reduceIte, reduceCtorEq, Nat.reduceAdd, Nat.reduceMul, Nat.reduceLeDiff, hg7, hqi]); rfl))
       | refine wpr_pass0 rfl rfl ?_
       | refine wpr_pass0S rfl ?_
       | (apply wpr_end; (focus ((try simp (disch := omega) only [push_cast, Nat.reduceEqDiff, ↓reduceIte, reduceCtorEq, Nat.reduceAdd, Nat.reduceMul, Nat.reduceLeDiff, hg7, hqi]); rfl)); (focus (simp (disch := omega) only [push_cast, Nat.reduceEqDiff, ↓reduceIte, reduceCtorEq, Nat.reduceAdd, Nat.reduceMul, Nat.reduceLeDiff, hg7, hqi]; done)))
       | fail)
    | (show Wp _ _ _ _ _ _
       first
       | refine wp_seq ?_
       | refine wp_region0 ?_
       | refine wp_region ?_
       | refine wp_cond_t rfl ?_
       | refine wp_cond_f rfl ?_
       | refine wp_ret ?_
       | refine wp_skip ?_
       | refine wp_exit ?_
       | refine wp_block ?_
       | fail)
    | refine thenQ_norm ?_
    | refine thenQ_ret ?_
    | refine thenQ_exit ?_
    | refine blockQ_norm ?_
    | refine blockQ_ret ?_
    | refine blockQ_same ?_
    | refine blockQ_ne rfl ?_
    | refine loopQ_norm ?_
    | refine loopQ_ret ?_
    | refine loopQ_exit ?_
    | ((first | apply retQ_ret | apply retQ_norm | apply wpc_of); focus ((try simp (disch := omega) only [push_cast, Nat.reduceEqDiff, ↓reduceIte, reduceCtorEq, Nat.reduceAdd, Nat.reduceMul, Nat.reduceLeDiff, hg7, hqi]); rfl))
    | fail)
    refine ⟨q, hnl, k + 1, q, done ++ [d], s2, rfl, by omega, by omega, by simp; omega, by rw [← hd]; simp, ?_, hgr.trans (Grew.app e2 n2 k2), by simp only [Int.natCast_add]; rfl, rfl⟩
    simpa using o2

/-! ### The bias -/

theorem adapt_spec {p : BP} (ok : p.Ok) {h : AH} {bx : Nat} {bias v cnt m : Nat} {n j : Int} (hg : h.get bx = some (.cells false (stV p bias n j m))) (hv : v < 10000000000) (hc : 0 < cnt) (hc2 : cnt < 10000000000) (hm : m < 10000000000) :
    WpC PX 37 [.pointer (some ⟨bx, 0, none⟩), .int .i64 v, .int .i64 cnt] h fun r h' => r = .tuple #[] ∧ h' = h.set bx (.cells false (stV p (adapt p (m == 0) v cnt) n j (m + 1))) := by
  have h1 := ok.b1; have h2 := ok.b2; have h3 := ok.l1; have h4 := ok.l2; have h5 := ok.h1; have h6 := ok.s1; have h7 := ok.s2; have h8 := ok.d1; have h9 := ok.d2
  have hbx := AH.get_lt hg
  obtain ⟨span, hspan⟩ : ∃ span, span = p.base - p.low := ⟨_, rfl⟩
  have hspi : (p.base : Int) - p.low = (span : Int) := by omega
  have hsh : span * p.high ≤ 36 * 36 := Nat.mul_le_mul (by omega) (by omega)
  have hshi : (span : Int) * p.high = ((span * p.high : Nat) : Int) := by push_cast; first | done | rfl
  obtain ⟨by', hby⟩ : ∃ by', by' = if m = 0 then p.damp else 2 := ⟨_, rfl⟩
  have hby1 : 2 ≤ by' ∧ by' ≤ 10000 := by rw [hby]; split <;> omega
  obtain ⟨v1, hv1⟩ : ∃ v1, v1 = v / by' := ⟨_, rfl⟩
  have hv1i : (v : Int) / (by' : Int) = (v1 : Int) := by rw [hv1]; push_cast; first | done | rfl
  have hv1l : v1 ≤ v := by rw [hv1]; exact Nat.div_le_self _ _
  obtain ⟨v2, hv2⟩ : ∃ v2, v2 = v1 + v1 / cnt := ⟨_, rfl⟩
  have hv2i : (v1 : Int) + (v1 : Int) / (cnt : Int) = (v2 : Int) := by rw [hv2]; push_cast; first | done | rfl
  have hv2l : v2 ≤ 2 * v1 := by rw [hv2]; have := Nat.div_le_self v1 cnt; omega
  have had : adapt p (m == 0) v cnt = (adL span (span * p.high / 2) v2 0 v2).1 * p.base + (span + 1) * (adL span (span * p.high / 2) v2 0 v2).2 / ((adL span (span * p.high / 2) v2 0 v2).2 + p.skew) := by
    unfold adapt
    simp only [← hspan]
    have e1 : (if (m == 0) = true then v / p.damp else v / 2) = v1 := by
      rw [hv1, hby]
      by_cases g : m = 0
      · subst g; simp
      · have : (m == 0) = false := by simpa using g
        rw [this, if_neg g]; simp
    rw [e1, ← hv2]
  rw [had]
  clear had
  generalize span * p.high = sh at hsh hshi ⊢
  unfold stV at hg ⊢
  refine wpc_fn (px_ext rfl) (px_fn fn_boot_state_adapt) rfl ?_
  unfold LF_boot_state_adapt
  simp only [argFr]
  have hbyi : ∀ (g : (m : Int) = 0), (p.damp : Int) = (by' : Int) := fun g => by rw [hby, if_pos (by omega)]
  have hbyj : ∀ (g : ¬ (m : Int) = 0), (2 : Int) = (by' : Int) := fun g => by rw [hby, if_neg (by omega)]; rfl
  have hv1j : ∀ (g : ¬ (m : Int) = 0), (v : Int) / 2 = (v1 : Int) := fun g => by rw [hbyj g]; exact hv1i
  have hv1k : ∀ (g : (m : Int) = 0), (v : Int) / (p.damp : Int) = (v1 : Int) := fun g => by rw [hbyi g]; exact hv1i
  by_cases hm0 : (m : Int) = 0
  all_goals
    first
    | (have e0 := hv1k hm0
       (repeat' first
    | (show WpR _ _ _ _ _ _ _ _ _
       first
       | refine wpr_drop ?_
       | refine wpr_p (o := .mv _) (by simp only [ev_mv, opd_s, opd_c, fget, Nat.reduceEqDiff, Nat.one_ne_zero, Nat.zero_ne_one, reduceCtorEq, ↓reduceIte]; rfl) ?_
       | (refine wpr_fork (fun _ => ?_) (fun _ => ?_) <;> try (exfalso; omega))
       | (refine wpr_forkN (fun _ => ?_) (fun _ => ?_) <;> try (exfalso; omega))
       | refine wpr_run rfl ?_
       | refine wpr_pass rfl rfl ?_
       | refine wpr_passS rfl ?_
       | ((first | apply wpr_p | apply wpr_r | apply wpr_callA | apply wpr_callA0 | apply wpr_e0 | apply wpr_e | apply wpr_end0); focus ((try simp (disch := ((try simp only [AH.push_n, AH.set_n]); omega)) only [push_cast, Nat.reduceEqDiff, ↓reduceIte, reduceCtorEq, Nat.reduceAdd, Nat.reduceMul, Nat.reduceLeDiff, AH.get_push_same, AH.get_push_ne, AH.get_set_same, AH.get_set_ne, AH.push_n, AH.set_n, hg, e0, hv2i, hspi]); rfl))
       | refine wpr_pass0 rfl rfl ?_
       | refine wpr_pass0S rfl ?_
       | (apply wpr_end; (focus ((try simp (disch := ((try simp only [AH.push_n, AH.set_n]); omega)) only [push_cast, Nat.reduceEqDiff, ↓reduceIte, reduceCtorEq, Nat.reduceAdd, Nat.reduceMul, Nat.reduceLeDiff, AH.get_push_same, AH.get_push_ne, AH.get_set_same, AH.get_set_ne, AH.push_n, AH.set_n, hg, e0, hv2i, hspi]); rfl)); (focus (simp (disch := ((try simp only [AH.push_n, AH.set_n]); omega)) only [push_cast, Nat.reduceEqDiff, ↓reduceIte, reduceCtorEq, Nat.reduceAdd, Nat.reduceMul, Nat.reduceLeDiff, AH.get_push_same, AH.get_push_ne, AH.get_set_same, AH.get_set_ne, AH.push_n, AH.set_n, hg, e0, hv2i, hspi]; done)))
       | fail)
    | (show Wp _ _ _ _ _ _
       first
       | refine wp_seq ?_
       | refine wp_region0 ?_
       | refine wp_region ?_
       | refine wp_cond_t rfl ?_
       | refine wp_cond_f rfl ?_
       | refine wp_ret ?_
       | refine wp_skip ?_
       | refine wp_exit ?_
       | refine wp_block ?_
       | fail)
    | refine thenQ_norm ?_
    | refine thenQ_ret ?_
    | refine thenQ_exit ?_
    | refine blockQ_norm ?_
    | refine blockQ_ret ?_
    | refine blockQ_same ?_
    | refine blockQ_ne rfl ?_
    | refine loopQ_norm ?_
    | refine loopQ_ret ?_
    | refine loopQ_exit ?_
    | ((first | apply retQ_ret | apply retQ_norm | apply wpc_of); focus ((try simp (disch := ((try simp only [AH.push_n, AH.set_n]); omega)) only [push_cast, Nat.reduceEqDiff, ↓reduceIte, reduceCtorEq, Nat.reduceAdd, Nat.reduceMul, Nat.reduceLeDiff, AH.get_push_same, AH.get_push_ne, AH.get_set_same, AH.get_set_ne, AH.push_n, AH.set_n, hg, e0, hv2i, hspi]); rfl))
    | fail))
    | skip
    first
    | (have e0 := hv1j hm0
       (repeat' first
    | (show WpR _ _ _ _ _ _ _ _ _
       first
       | refine wpr_drop ?_
       | refine wpr_p (o := .mv _) (by simp only [ev_mv, opd_s, opd_c, fget, Nat.reduceEqDiff, Nat.one_ne_zero, Nat.zero_ne_one, reduceCtorEq, ↓reduceIte]; rfl) ?_
       | (refine wpr_fork (fun _ => ?_) (fun _ => ?_) <;> try (exfalso; omega))
       | (refine wpr_forkN (fun _ => ?_) (fun _ => ?_) <;> try (exfalso; omega))
       | refine wpr_run rfl ?_
       | refine wpr_pass rfl rfl ?_
       | refine wpr_passS rfl ?_
       | ((first | apply wpr_p | apply wpr_r | apply wpr_callA | apply wpr_callA0 | apply wpr_e0 | apply wpr_e | apply wpr_end0); focus ((try simp (disch := ((try simp only [AH.push_n, AH.set_n]); omega)) only [push_cast, Nat.reduceEqDiff, ↓reduceIte, reduceCtorEq, Nat.reduceAdd, Nat.reduceMul, Nat.reduceLeDiff, AH.get_push_same, AH.get_push_ne, AH.get_set_same, AH.get_set_ne, AH.push_n, AH.set_n, hg, e0, hv2i, hspi]); rfl))
       | refine wpr_pass0 rfl rfl ?_
       | refine wpr_pass0S rfl ?_
       | (apply wpr_end; (focus ((try simp (disch := ((try simp only [AH.push_n, AH.set_n]); omega)) only [push_cast, Nat.reduceEqDiff, ↓reduceIte, reduceCtorEq, Nat.reduceAdd, Nat.reduceMul, Nat.reduceLeDiff, AH.get_push_same, AH.get_push_ne, AH.get_set_same, AH.get_set_ne, AH.push_n, AH.set_n, hg, e0, hv2i, hspi]); rfl)); (focus (simp (disch := ((try simp only [AH.push_n, AH.set_n]); omega)) only [push_cast, Nat.reduceEqDiff, ↓reduceIte, reduceCtorEq, Nat.reduceAdd, Nat.reduceMul, Nat.reduceLeDiff, AH.get_push_same, AH.get_push_ne, AH.get_set_same, AH.get_set_ne, AH.push_n, AH.set_n, hg, e0, hv2i, hspi]; done)))
       | fail)
    | (show Wp _ _ _ _ _ _
       first
       | refine wp_seq ?_
       | refine wp_region0 ?_
       | refine wp_region ?_
       | refine wp_cond_t rfl ?_
       | refine wp_cond_f rfl ?_
       | refine wp_ret ?_
       | refine wp_skip ?_
       | refine wp_exit ?_
       | refine wp_block ?_
       | fail)
    | refine thenQ_norm ?_
    | refine thenQ_ret ?_
    | refine thenQ_exit ?_
    | refine blockQ_norm ?_
    | refine blockQ_ret ?_
    | refine blockQ_same ?_
    | refine blockQ_ne rfl ?_
    | refine loopQ_norm ?_
    | refine loopQ_ret ?_
    | refine loopQ_exit ?_
    | ((first | apply retQ_ret | apply retQ_norm | apply wpc_of); focus ((try simp (disch := ((try simp only [AH.push_n, AH.set_n]); omega)) only [push_cast, Nat.reduceEqDiff, ↓reduceIte, reduceCtorEq, Nat.reduceAdd, Nat.reduceMul, Nat.reduceLeDiff, AH.get_push_same, AH.get_push_ne, AH.get_set_same, AH.get_set_ne, AH.push_n, AH.set_n, hg, e0, hv2i, hspi]); rfl))
    | fail))
    | skip
    refine wp_loop (fun w fr lc h1 => ∃ (x mm : Nat), w = x ∧ mm + x ≤ v2 ∧ adL span (sh / 2) x mm x = adL span (sh / 2) v2 0 v2 ∧ fr = [(0, .pointer (some ⟨bx, 0, none⟩)), (1, .int .i64 x), (7, .int .i64 span), (8, .int .i64 mm)] ∧ lc = [] ∧
      h1 = h.set bx (.cells false [.int .i64 p.base, .int .i64 p.low, .int .i64 p.high, .int .i64 p.skew, .int .i64 p.damp, .int .i64 p.bias, .int .i32 p.first, .int .i64 bias, .int .i32 n, .int .i64 j, .int .i64 ((m : Int) + 1)])) v2
      ⟨v2, 0, rfl, by omega, rfl, rfl, rfl, rfl⟩ ?_
    rintro w fr lc h7 ⟨x, mm, rfl, hx, had2, rfl, rfl, rfl⟩
    have hgs := AH.get_set_same (h := h) (b := bx) (.cells false [.int .i64 p.base, .int .i64 p.low, .int .i64 p.high, .int .i64 p.skew, .int .i64 p.damp, .int .i64 p.bias, .int .i32 p.first, .int .i64 bias, .int .i32 n, .int .i64 j, .int .i64 ((m : Int) + 1)]) hbx
    by_cases hlim : sh / 2 < w
    · have hq : w / span < w := Nat.div_lt_self (by omega) (by omega)
      have hqi : (w : Int) / (span : Int) = ((w / span : Nat) : Int) := by push_cast; first | done | rfl
      rw [adL_step (by omega) hlim] at had2
      generalize w / span = y at hqi hq had2
      (repeat' first
    | (show WpR _ _ _ _ _ _ _ _ _
       first
       | refine wpr_drop ?_
       | refine wpr_p (o := .mv _) (by simp only [ev_mv, opd_s, opd_c, fget, Nat.reduceEqDiff, Nat.one_ne_zero, Nat.zero_ne_one, reduceCtorEq, ↓reduceIte]; rfl) ?_
       | (refine wpr_fork (fun _ => ?_) (fun _ => ?_) <;> try (exfalso; omega))
       | (refine wpr_forkN (fun _ => ?_) (fun _ => ?_) <;> try (exfalso; omega))
       | refine wpr_run rfl ?_
       | refine wpr_pass rfl rfl ?_
       | refine wpr_passS rfl ?_
       | ((first | apply wpr_p | apply wpr_r | apply wpr_callA | apply wpr_callA0 | apply wpr_e0 | apply wpr_e | apply wpr_end0); focus ((try simp (disch := omega) only [push_cast, Nat.reduceEqDiff, ↓reduceIte, reduceCtorEq, Nat.reduceAdd, Nat.reduceMul, Nat.reduceLeDiff, hgs, hshi, hqi]); rfl))
       | refine wpr_pass0 rfl rfl ?_
       | refine wpr_pass0S rfl ?_
       | (apply wpr_end; (focus ((try simp (disch := omega) only [push_cast, Nat.reduceEqDiff, ↓reduceIte, reduceCtorEq, Nat.reduceAdd, Nat.reduceMul, Nat.reduceLeDiff, hgs, hshi, hqi]); rfl)); (focus (simp (disch := omega) only [push_cast, Nat.reduceEqDiff, ↓reduceIte, reduceCtorEq, Nat.reduceAdd, Nat.reduceMul, Nat.reduceLeDiff, hgs, hshi, hqi]; done)))
       | fail)
    | (show Wp _ _ _ _ _ _
       first
       | refine wp_seq ?_
       | refine wp_region0 ?_
       | refine wp_region ?_
       | refine wp_cond_t rfl ?_
       | refine wp_cond_f rfl ?_
       | refine wp_ret ?_
       | refine wp_skip ?_
       | refine wp_exit ?_
       | refine wp_block ?_
       | fail)
    | refine thenQ_norm ?_
    | refine thenQ_ret ?_
    | refine thenQ_exit ?_
    | refine blockQ_norm ?_
    | refine blockQ_ret ?_
    | refine blockQ_same ?_
    | refine blockQ_ne rfl ?_
    | refine loopQ_norm ?_
    | refine loopQ_ret ?_
    | refine loopQ_exit ?_
    | ((first | apply retQ_ret | apply retQ_norm | apply wpc_of); focus ((try simp (disch := omega) only [push_cast, Nat.reduceEqDiff, ↓reduceIte, reduceCtorEq, Nat.reduceAdd, Nat.reduceMul, Nat.reduceLeDiff, hgs, hshi, hqi]); rfl))
    | fail)
      exact ⟨y, hq, y, mm + 1, rfl, by omega, had2, by simp only [Int.natCast_add]; rfl, rfl, rfl⟩
    · rw [adL_end hlim] at had2
      rw [← had2]
      have hw1 : w ≤ 648 := by omega
      have hmb : mm * p.base ≤ mm * 36 := Nat.mul_le_mul_left _ h2
      have hmbi : (mm : Int) * p.base = ((mm * p.base : Nat) : Int) := by push_cast; first | done | rfl
      have hsw : (span + 1) * w ≤ 37 * 648 := Nat.mul_le_mul (by omega) hw1
      have hswi : ((span : Int) + 1) * (w : Int) = (((span + 1) * w : Nat) : Int) := by push_cast; first | done | rfl
      have hdq : (span + 1) * w / (w + p.skew) ≤ (span + 1) * w := Nat.div_le_self _ _
      have hdqi : ((((span + 1) * w : Nat) : Int)) / ((w : Int) + p.skew) = (((span + 1) * w / (w + p.skew) : Nat) : Int) := by push_cast; first | done | rfl
      simp only
      generalize mm * p.base = a at hmb hmbi
      generalize (span + 1) * w = c at hsw hswi hdq hdqi
      generalize c / (w + p.skew) = e at hdq hdqi
      (repeat' first
    | (show WpR _ _ _ _ _ _ _ _ _
       first
       | refine wpr_drop ?_
       | refine wpr_p (o := .mv _) (by simp only [ev_mv, opd_s, opd_c, fget, Nat.reduceEqDiff, Nat.one_ne_zero, Nat.zero_ne_one, reduceCtorEq, ↓reduceIte]; rfl) ?_
       | (refine wpr_fork (fun _ => ?_) (fun _ => ?_) <;> try (exfalso; omega))
       | (refine wpr_forkN (fun _ => ?_) (fun _ => ?_) <;> try (exfalso; omega))
       | refine wpr_run rfl ?_
       | refine wpr_pass rfl rfl ?_
       | refine wpr_passS rfl ?_
       | ((first | apply wpr_p | apply wpr_r | apply wpr_callA | apply wpr_callA0 | apply wpr_e0 | apply wpr_e | apply wpr_end0); focus ((try simp (disch := omega) only [push_cast, Nat.reduceEqDiff, ↓reduceIte, reduceCtorEq, Nat.reduceAdd, Nat.reduceMul, Nat.reduceLeDiff, hgs, hshi, hmbi, hswi, hdqi]); rfl))
       | refine wpr_pass0 rfl rfl ?_
       | refine wpr_pass0S rfl ?_
       | (apply wpr_end; (focus ((try simp (disch := omega) only [push_cast, Nat.reduceEqDiff, ↓reduceIte, reduceCtorEq, Nat.reduceAdd, Nat.reduceMul, Nat.reduceLeDiff, hgs, hshi, hmbi, hswi, hdqi]); rfl)); (focus (simp (disch := omega) only [push_cast, Nat.reduceEqDiff, ↓reduceIte, reduceCtorEq, Nat.reduceAdd, Nat.reduceMul, Nat.reduceLeDiff, hgs, hshi, hmbi, hswi, hdqi]; done)))
       | fail)
    | (show Wp _ _ _ _ _ _
       first
       | refine wp_seq ?_
       | refine wp_region0 ?_
       | refine wp_region ?_
       | refine wp_cond_t rfl ?_
       | refine wp_cond_f rfl ?_
       | refine wp_ret ?_
       | refine wp_skip ?_
       | refine wp_exit ?_
       | refine wp_block ?_
       | fail)
    | refine thenQ_norm ?_
    | refine thenQ_ret ?_
    | refine thenQ_exit ?_
    | refine blockQ_norm ?_
    | refine blockQ_ret ?_
    | refine blockQ_same ?_
    | refine blockQ_ne rfl ?_
    | refine loopQ_norm ?_
    | refine loopQ_ret ?_
    | refine loopQ_exit ?_
    | ((first | apply retQ_ret | apply retQ_norm | apply wpc_of); focus ((try simp (disch := omega) only [push_cast, Nat.reduceEqDiff, ↓reduceIte, reduceCtorEq, Nat.reduceAdd, Nat.reduceMul, Nat.reduceLeDiff, hgs, hshi, hmbi, hswi, hdqi]); rfl))
    | fail)
      refine ⟨rfl, ?_⟩
      rw [AH.set_set]
      simp only [Int.natCast_add]

end Go.Proofs.Ytmfpkgcphlilmaa.AM
