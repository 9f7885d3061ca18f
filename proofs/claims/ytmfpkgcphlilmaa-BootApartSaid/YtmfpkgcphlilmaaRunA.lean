/- BootApart's run. -/
import Derived.Test.YtmfpkgcphlilmaaBootK
import Derived.Test.YtmfpkgcphlilmaaBLA
set_option linter.unusedVariables false
set_option linter.unusedSimpArgs false
namespace Go.Proofs.Ytmfpkgcphlilmaa.AM
open Go

theorem enc_inj {p : BP} (ok : p.Ok) {s t : Bytes} {a b : Bytes} (h1 : encF p s = (a, 0)) (h2 : encF p t = (b, 0)) : a = b ↔ s = t := by
  constructor
  · rintro rfl
    obtain ⟨q1, q2, _⟩ := dec_of_enc ok h1
    obtain ⟨r1, r2, _⟩ := dec_of_enc ok h2
    rw [q1] at r1
    injection r1 with r1
    rw [← (valid_clean _).1 q2, ← (valid_clean _).1 r2, r1]
  · rintro rfl
    rw [h1] at h2
    injection h2

theorem bootApart_run (b l hi s d i f : Int) (x y : ByteArray) (h : AH) (hb : -9223372036854775808 ≤ b ∧ b < 9223372036854775808) (hf : -2147483648 ≤ f ∧ f < 2147483648) (hx : x.size ≤ reachBytes) (hy : y.size ≤ reachBytes) :
    WpC PX 8 [.agg (bpV b l hi s d i f).toArray, .string x, .string y] h fun v _ => v = .bool true := by
  have hre : reachBytes = 140737488351232 := rfl
  have f1 : ∀ h, callO PX 19 [.string x, .int .i64 1000] h = some (.string ⟨(x.data.toList.take 1000).toArray⟩, h) := fun h => few_eq x 1000 h (by omega) (by omega)
  have f2 : ∀ h, callO PX 19 [.string y, .int .i64 1000] h = some (.string ⟨(y.data.toList.take 1000).toArray⟩, h) := fun h => few_eq y 1000 h (by omega) (by omega)
  obtain ⟨s1, hs1⟩ : ∃ s1, s1 = x.data.toList.take 1000 := ⟨_, rfl⟩
  obtain ⟨s2, hs2⟩ : ∃ s2, s2 = y.data.toList.take 1000 := ⟨_, rfl⟩
  have l1 : s1.length ≤ 1000 := by rw [hs1, List.length_take]; omega
  have l2 : s2.length ≤ 1000 := by rw [hs2, List.length_take]; omega
  rw [← hs1] at f1
  rw [← hs2] at f2
  have b1 : (⟨s1.toArray⟩ : ByteArray).size ≤ 140737488351232 := by show s1.toArray.size ≤ _; rw [List.size_toArray]; omega
  have b2 : (⟨s2.toArray⟩ : ByteArray).size ≤ 140737488351232 := by show s2.toArray.size ≤ _; rw [List.size_toArray]; omega
  obtain ⟨a, e, h2, E1, n1, k1, w1, r1⟩ := encode_all b l hi s d i f hb hf ⟨s1.toArray⟩ b1 h
  obtain ⟨a', e', h3, E2, n2, k2, w2, r2⟩ := encode_all b l hi s d i f hb hf ⟨s2.toArray⟩ b2 h2
  have a1 := fun h => alive_eq h
  have hq : e = 0 → e' = 0 → (a = a' ↔ s1 = s2) := fun z1 z2 => by
    by_cases hr : RightI b l hi s d i f
    · obtain ⟨p, ok, rfl, rfl, rfl, rfl, rfl, rfl, rfl⟩ := ok_rightI hr
      have q1 := r1 p ok ⟨rfl, rfl, rfl, rfl, rfl, rfl, rfl⟩
      have q2 := r2 p ok ⟨rfl, rfl, rfl, rfl, rfl, rfl, rfl⟩
      rw [z1] at q1
      rw [z2] at q2
      exact enc_inj ok q1 q2
    · have := (w1 hr).2
      omega
  refine wpc_fn (px_ext rfl) (px_fn fn_guiselaw17_BootApart) rfl ?_
  unfold LF_guiselaw17_BootApart
  simp only [argFr]
  unfold bpV at E1 E2 ⊢
  (repeat' first
    | (show WpR _ _ _ _ _ _ _ _ _
       first
       | refine wpr_drop ?_
       | refine wpr_p (o := .mv _) (by simp only [ev_mv, opd_s, opd_c, fget, Nat.reduceEqDiff, Nat.one_ne_zero, Nat.zero_ne_one, reduceCtorEq, ↓reduceIte]; rfl) ?_
       | (refine wpr_fork (fun _ => ?_) (fun _ => ?_) <;> try (exfalso; omega))
       | (refine wpr_forkN (fun _ => ?_) (fun _ => ?_) <;> try (exfalso; omega))
       | refine wpr_run rfl ?_
       | refine wpr_pass rfl rfl ?_
       | refine wpr_passS rfl ?_
       | ((first | apply wpr_p | apply wpr_r | apply wpr_callA | apply wpr_callA0 | apply wpr_e0 | apply wpr_e | apply wpr_end0); focus ((try simp (disch := first | omega | (simp only [AH.nn_push, AH.nn_set, AH.nn_kill]; omega) | (simp only [AH.nn_push, AH.nn_set, AH.nn_kill]; done) | fail) only [push_cast, Nat.reduceEqDiff, ↓reduceIte, reduceCtorEq, Nat.reduceAdd, Nat.reduceMul, Nat.reduceLeDiff, AH.get_push_eq, AH.get_push_ne, AH.get_set_eq, AH.get_set_ne, AH.push_n, AH.set_n, f1, f2, E1, E2, a1]); rfl))
       | refine wpr_pass0 rfl rfl ?_
       | refine wpr_pass0S rfl ?_
       | (apply wpr_callvA; focus ((try simp (disch := first | omega | (simp only [AH.nn_push, AH.nn_set, AH.nn_kill]; omega) | (simp only [AH.nn_push, AH.nn_set, AH.nn_kill]; done) | fail) only [push_cast, Nat.reduceEqDiff, ↓reduceIte, reduceCtorEq, Nat.reduceAdd, Nat.reduceMul, Nat.reduceLeDiff, AH.get_push_eq, AH.get_push_ne, AH.get_set_eq, AH.get_set_ne, AH.push_n, AH.set_n, f1, f2, E1, E2, a1]); rfl))
       | (apply wpr_end; (focus ((try simp (disch := first | omega | (simp only [AH.nn_push, AH.nn_set, AH.nn_kill]; omega) | (simp only [AH.nn_push, AH.nn_set, AH.nn_kill]; done) | fail) only [push_cast, Nat.reduceEqDiff, ↓reduceIte, reduceCtorEq, Nat.reduceAdd, Nat.reduceMul, Nat.reduceLeDiff, AH.get_push_eq, AH.get_push_ne, AH.get_set_eq, AH.get_set_ne, AH.push_n, AH.set_n, f1, f2, E1, E2, a1]); rfl)); (focus (simp (disch := first | omega | (simp only [AH.nn_push, AH.nn_set, AH.nn_kill]; omega) | (simp only [AH.nn_push, AH.nn_set, AH.nn_kill]; done) | fail) only [push_cast, Nat.reduceEqDiff, ↓reduceIte, reduceCtorEq, Nat.reduceAdd, Nat.reduceMul, Nat.reduceLeDiff, AH.get_push_eq, AH.get_push_ne, AH.get_set_eq, AH.get_set_ne, AH.push_n, AH.set_n, f1, f2, E1, E2, a1]; done)))
       | fail)
    | (show Wp _ _ _ _ _ _
       first
       | refine wp_seq ?_
       | refine wp_region0 ?_
       | refine wp_region ?_
       | refine wp_cond_t rfl ?_
       | refine wp_cond_f rfl ?_
       | refine wp_ret ?_
       | refine wp_skip ?_
       | refine wp_exit ?_
       | refine wp_block ?_
       | fail)
    | refine thenQ_norm ?_
    | refine thenQ_ret ?_
    | refine thenQ_exit ?_
    | refine blockQ_norm ?_
    | refine blockQ_ret ?_
    | refine blockQ_same ?_
    | refine blockQ_ne rfl ?_
    | refine loopQ_norm ?_
    | refine loopQ_ret ?_
    | refine loopQ_exit ?_
    | ((first | apply retQ_ret | apply retQ_norm | apply wpc_of); focus ((try simp (disch := first | omega | (simp only [AH.nn_push, AH.nn_set, AH.nn_kill]; omega) | (simp only [AH.nn_push, AH.nn_set, AH.nn_kill]; done) | fail) only [push_cast, Nat.reduceEqDiff, ↓reduceIte, reduceCtorEq, Nat.reduceAdd, Nat.reduceMul, Nat.reduceLeDiff, AH.get_push_eq, AH.get_push_ne, AH.get_set_eq, AH.get_set_ne, AH.push_n, AH.set_n, f1, f2, E1, E2, a1]); rfl))
    | fail)
  all_goals first
    | rfl
    | (exfalso
       have hq1 : (⟨a.toArray⟩ : ByteArray) = ⟨a'.toArray⟩ ↔ (⟨s1.toArray⟩ : ByteArray) = ⟨s2.toArray⟩ := by
         rw [mk_inj, mk_inj]
         exact hq (by omega) (by omega)
       first
         | exact ‹¬ (⟨s1.toArray⟩ : ByteArray) = ⟨s2.toArray⟩› (hq1.1 ‹_›)
         | exact ‹¬ (⟨a.toArray⟩ : ByteArray) = ⟨a'.toArray⟩› (hq1.2 ‹_›))

end Go.Proofs.Ytmfpkgcphlilmaa.AM
