/- BootForth's run. -/
import Derived.Test.YtmfpkgcphlilmaaRunV
import Derived.Test.YtmfpkgcphlilmaaBLF
set_option linter.unusedVariables false
set_option linter.unusedSimpArgs false
namespace Go.Proofs.Ytmfpkgcphlilmaa.AM
open Go

/-- A number's reading stays within the bytes. -/
theorem rdB_place {p : BP} {bias n j cnt : Nat} : ∀ (l : Bytes) (k w acc pos : Nat), (∀ q why, rdB p bias n j cnt k w acc pos l = .bad q why → why ≠ 0 ∧ pos ≤ q ∧ q ≤ pos + l.length) ∧ (∀ v fin, rdB p bias n j cnt k w acc pos l = .ok v fin → pos < fin ∧ fin ≤ pos + l.length)
  | [], k, w, acc, pos => ⟨fun q why h => by simp only [rdB, RdR.bad.injEq] at h; simp; omega, fun v fin h => by simp [rdB] at h⟩
  | c :: r, k, w, acc, pos => by
    unfold rdB
    split
    · refine ⟨fun q why h => ?_, fun v fin h => by cases h⟩
      simp only [RdR.bad.injEq] at h
      simp only [List.length_cons]
      omega
    · split
      · refine ⟨fun q why h => ?_, fun v fin h => by cases h⟩
        simp only [RdR.bad.injEq] at h
        simp only [List.length_cons]
        omega
      · split
        · refine ⟨fun q why h => by (cases h), fun v fin h => ?_⟩
          injection h with h1 h2
          simp only [List.length_cons]
          omega
        · rename_i d _ _ _
          obtain ⟨g1, g2⟩ := rdB_place r (k + 1) (w * (p.base - thr p bias k)) (acc + d * w) (pos + 1)
          refine ⟨fun q why h => ?_, fun v fin h => ?_⟩
          · have := g1 q why h
            simp only [List.length_cons]
            omega
          · have := g2 v fin h
            simp only [List.length_cons]
            omega

theorem decL_place {p : BP} : ∀ (f : Nat) (out : List Nat) (n j bias : Nat) (fst : Bool) (pos : Nat) (rest : Bytes) {q why : Nat}, decL p f out n j bias fst pos rest = .bad q why → why ≠ 0 ∧ q ≤ pos + rest.length
  | 0, out, n, j, bias, fst, pos, rest, q, why, h => by simp [decL] at h
  | f + 1, out, n, j, bias, fst, pos, rest, q, why, h => by
    unfold decL at h
    split at h
    · cases h
    · split at h
      · injection h with h1 h2; omega
      · obtain ⟨g1, g2⟩ := rdB_place (p := p) (bias := bias) (n := n) (j := j) (cnt := out.length) rest 1 1 0 pos
        split at h
        · rename_i q' e' hr
          injection h with h1 h2
          have := g1 _ _ hr
          omega
        · rename_i v fin hr
          have := g2 _ _ hr
          split at h
          · injection h with h1 h2; omega
          · have := decL_place f _ _ _ _ _ _ _ h
            rw [List.length_drop] at this
            omega

theorem scanD_place : ∀ (a : Bytes) (i : Nat) {x : Nat × Nat}, scanD i a = some x → x.2 ≠ 0 ∧ x.1 ≤ i + a.length
  | [], i, x, h => by simp [scanD] at h
  | c :: r, i, x, h => by
    unfold scanD at h
    simp only [List.length_cons]
    split at h
    · injection h with h; subst h; simp
    · split at h
      · have := scanD_place r (i + 1) h
        omega
      · injection h with h; subst h; simp

theorem decF_place {p : BP} {a : Bytes} {q why : Nat} (h : decF p a = .bad q why) : why ≠ 0 ∧ q ≤ a.length := by
  unfold decF at h
  split at h
  · injection h with h1 h2; omega
  · split at h
    · injection h with h1 h2; omega
    · split at h
      · rename_i x hx
        injection h with h1 h2
        have := scanD_place _ _ hx
        rw [List.length_take] at this
        omega
      · have := decL_place _ _ _ _ _ _ _ _ h
        rw [List.length_drop] at this
        have hf : fromN (lastH a) ≤ a.length := by
          cases hl : lastH a with
          | none => exact Nat.zero_le _
          | some k => have := (lastH_some hl).1; simp only [fromN]; omega
        omega

theorem bootForth_run (b l hi s d i f : Int) (x : ByteArray) (h : AH) (hb : -9223372036854775808 ≤ b ∧ b < 9223372036854775808) (hf : -2147483648 ≤ f ∧ f < 2147483648) (hx : x.size ≤ reachBytes) :
    WpC PX 10 [.agg (bpV b l hi s d i f).toArray, .string x] h fun v _ => v = .bool true := by
  have hre : reachBytes = 140737488351232 := rfl
  have f1 : ∀ h, callO PX 19 [.string x, .int .i64 3000] h = some (.string ⟨(x.data.toList.take 3000).toArray⟩, h) := fun h => few_eq x 3000 h (by omega) (by omega)
  obtain ⟨s1, hs1⟩ : ∃ s1, s1 = x.data.toList.take 3000 := ⟨_, rfl⟩
  have l1 : s1.length ≤ 3000 := by rw [hs1, List.length_take]; omega
  rw [← hs1] at f1
  have b1 : (⟨s1.toArray⟩ : ByteArray).size < 100000000000000 := by show s1.toArray.size < _; rw [List.size_toArray]; omega
  obtain ⟨r, h2, E1, n1, k1, w1, r1⟩ := decode_all b l hi s d i f hb hf ⟨s1.toArray⟩ b1 h
  have a1 := fun h => alive_eq h
  cases r with
  | bad q why =>
    have hq : why ≠ 0 ∧ q ≤ s1.length := by
      by_cases hr : RightI b l hi s d i f
      · obtain ⟨p, ok, rfl, rfl, rfl, rfl, rfl, rfl, rfl⟩ := ok_rightI hr
        exact decF_place (r1 p ok ⟨rfl, rfl, rfl, rfl, rfl, rfl, rfl⟩)
      · have := w1 hr
        injection this with e1 e2
        omega
    have hsz : (⟨s1.toArray⟩ : ByteArray).size = s1.length := by show s1.toArray.size = _; rw [List.size_toArray]
    refine wpc_fn (px_ext rfl) (px_fn fn_guiselaw17_BootForth) rfl ?_
    unfold LF_guiselaw17_BootForth
    simp only [argFr]
    unfold bpV at E1 ⊢
    unfold decV at E1
    (repeat' first
    | (show WpR _ _ _ _ _ _ _ _ _
       first
       | refine wpr_drop ?_
       | refine wpr_p (o := .mv _) (by simp only [ev_mv, opd_s, opd_c, fget, Nat.reduceEqDiff, Nat.one_ne_zero, Nat.zero_ne_one, reduceCtorEq, ↓reduceIte]; rfl) ?_
       | (refine wpr_fork (fun _ => ?_) (fun _ => ?_) <;> try (exfalso; omega))
       | (refine wpr_forkN (fun _ => ?_) (fun _ => ?_) <;> try (exfalso; omega))
       | refine wpr_run rfl ?_
       | refine wpr_pass rfl rfl ?_
       | refine wpr_passS rfl ?_
       | ((first | apply wpr_p | apply wpr_r | apply wpr_callA | apply wpr_callA0 | apply wpr_e0 | apply wpr_e | apply wpr_end0); focus ((try simp (disch := first | omega | (simp only [AH.nn_push, AH.nn_set, AH.nn_kill]; omega) | (simp only [AH.nn_push, AH.nn_set, AH.nn_kill]; done) | fail) only [push_cast, Nat.reduceEqDiff, ↓reduceIte, reduceCtorEq, Nat.reduceAdd, Nat.reduceMul, Nat.reduceLeDiff, AH.get_push_eq, AH.get_push_ne, AH.get_set_eq, AH.get_set_ne, AH.push_n, AH.set_n, f1, E1, a1, hsz]); rfl))
       | refine wpr_pass0 rfl rfl ?_
       | refine wpr_pass0S rfl ?_
       | (apply wpr_callvA; focus ((try simp (disch := first | omega | (simp only [AH.nn_push, AH.nn_set, AH.nn_kill]; omega) | (simp only [AH.nn_push, AH.nn_set, AH.nn_kill]; done) | fail) only [push_cast, Nat.reduceEqDiff, ↓reduceIte, reduceCtorEq, Nat.reduceAdd, Nat.reduceMul, Nat.reduceLeDiff, AH.get_push_eq, AH.get_push_ne, AH.get_set_eq, AH.get_set_ne, AH.push_n, AH.set_n, f1, E1, a1, hsz]); rfl))
       | (apply wpr_end; (focus ((try simp (disch := first | omega | (simp only [AH.nn_push, AH.nn_set, AH.nn_kill]; omega) | (simp only [AH.nn_push, AH.nn_set, AH.nn_kill]; done) | fail) only [push_cast, Nat.reduceEqDiff, ↓reduceIte, reduceCtorEq, Nat.reduceAdd, Nat.reduceMul, Nat.reduceLeDiff, AH.get_push_eq, AH.get_push_ne, AH.get_set_eq, AH.get_set_ne, AH.push_n, AH.set_n, f1, E1, a1, hsz]); rfl)); (focus (simp (disch := first | omega | (simp only [AH.nn_push, AH.nn_set, AH.nn_kill]; omega) | (simp only [AH.nn_push, AH.nn_set, AH.nn_kill]; done) | fail) only [push_cast, Nat.reduceEqDiff, ↓reduceIte, reduceCtorEq, Nat.reduceAdd, Nat.reduceMul, Nat.reduceLeDiff, AH.get_push_eq, AH.get_push_ne, AH.get_set_eq, AH.get_set_ne, AH.push_n, AH.set_n, f1, E1, a1, hsz]; done)))
       | fail)
    | (show Wp _ _ _ _ _ _
       first
       | refine wp_seq ?_
       | refine wp_region0 ?_
       | refine wp_region ?_
       | refine wp_cond_t rfl ?_
       | refine wp_cond_f rfl ?_
       | refine wp_ret ?_
       | refine wp_skip ?_
       | refine wp_exit ?_
       | refine wp_block ?_
       | fail)
    | refine thenQ_norm ?_
    | refine thenQ_ret ?_
    | refine thenQ_exit ?_
    | refine blockQ_norm ?_
    | refine blockQ_ret ?_
    | refine blockQ_same ?_
    | refine blockQ_ne rfl ?_
    | refine loopQ_norm ?_
    | refine loopQ_ret ?_
    | refine loopQ_exit ?_
    | ((first | apply retQ_ret | apply retQ_norm | apply wpc_of); focus ((try simp (disch := first | omega | (simp only [AH.nn_push, AH.nn_set, AH.nn_kill]; omega) | (simp only [AH.nn_push, AH.nn_set, AH.nn_kill]; done) | fail) only [push_cast, Nat.reduceEqDiff, ↓reduceIte, reduceCtorEq, Nat.reduceAdd, Nat.reduceMul, Nat.reduceLeDiff, AH.get_push_eq, AH.get_push_ne, AH.get_set_eq, AH.get_set_ne, AH.push_n, AH.set_n, f1, E1, a1, hsz]); rfl))
    | fail)
    all_goals rfl
  | ok L =>
    have hr : RightI b l hi s d i f := Decidable.byContradiction fun hr => by have := w1 hr; cases this
    obtain ⟨p, ok, rfl, rfl, rfl, rfl, rfl, rfl, rfl⟩ := ok_rightI hr
    have hd := r1 p ok ⟨rfl, rfl, rfl, rfl, rfl, rfl, rfl⟩
    obtain ⟨hL, hE⟩ := enc_of_dec ok hd
    have hlong : (encs L).length ≤ 65536 := by
      unfold encF at hE
      split at hE
      · injection hE with e1 e2; omega
      · omega
    have b2 : (⟨(encs L).toArray⟩ : ByteArray).size ≤ 140737488351232 := by show (encs L).toArray.size ≤ _; rw [List.size_toArray]; omega
    obtain ⟨a, e, h3, E2, n2, k2, w2, r2⟩ := encode_all p.base p.low p.high p.skew p.damp p.bias p.first hb hf ⟨(encs L).toArray⟩ b2 h2
    have q2 := r2 p ok ⟨rfl, rfl, rfl, rfl, rfl, rfl, rfl⟩
    rw [show (⟨(encs L).toArray⟩ : ByteArray).data.toList = encs L from rfl, hE] at q2
    injection q2 with q3 q4
    subst q4
    obtain ⟨v, h4, E3, rfl, n3, k3⟩ := valid_spec ⟨(encs L).toArray⟩ b2 (valid_encs hL) h3
    have q3' : (⟨a.toArray⟩ : ByteArray) = ⟨s1.toArray⟩ := by rw [← q3]
    refine wpc_fn (px_ext rfl) (px_fn fn_guiselaw17_BootForth) rfl ?_
    unfold LF_guiselaw17_BootForth
    simp only [argFr]
    unfold bpV at E1 E2 ⊢
    unfold decV at E1
    rw [q3'] at E2
    (repeat' first
    | (show WpR _ _ _ _ _ _ _ _ _
       first
       | refine wpr_drop ?_
       | refine wpr_p (o := .mv _) (by simp only [ev_mv, opd_s, opd_c, fget, Nat.reduceEqDiff, Nat.one_ne_zero, Nat.zero_ne_one, reduceCtorEq, ↓reduceIte]; rfl) ?_
       | (refine wpr_fork (fun _ => ?_) (fun _ => ?_) <;> try (exfalso; omega))
       | (refine wpr_forkN (fun _ => ?_) (fun _ => ?_) <;> try (exfalso; omega))
       | refine wpr_run rfl ?_
       | refine wpr_pass rfl rfl ?_
       | refine wpr_passS rfl ?_
       | ((first | apply wpr_p | apply wpr_r | apply wpr_callA | apply wpr_callA0 | apply wpr_e0 | apply wpr_e | apply wpr_end0); focus ((try simp (disch := first | omega | (simp only [AH.nn_push, AH.nn_set, AH.nn_kill]; omega) | (simp only [AH.nn_push, AH.nn_set, AH.nn_kill]; done) | fail) only [push_cast, Nat.reduceEqDiff, ↓reduceIte, reduceCtorEq, Nat.reduceAdd, Nat.reduceMul, Nat.reduceLeDiff, AH.get_push_eq, AH.get_push_ne, AH.get_set_eq, AH.get_set_ne, AH.push_n, AH.set_n, f1, E1, E2, E3, a1]); rfl))
       | refine wpr_pass0 rfl rfl ?_
       | refine wpr_pass0S rfl ?_
       | (apply wpr_callvA; focus ((try simp (disch := first | omega | (simp only [AH.nn_push, AH.nn_set, AH.nn_kill]; omega) | (simp only [AH.nn_push, AH.nn_set, AH.nn_kill]; done) | fail) only [push_cast, Nat.reduceEqDiff, ↓reduceIte, reduceCtorEq, Nat.reduceAdd, Nat.reduceMul, Nat.reduceLeDiff, AH.get_push_eq, AH.get_push_ne, AH.get_set_eq, AH.get_set_ne, AH.push_n, AH.set_n, f1, E1, E2, E3, a1]); rfl))
       | (apply wpr_end; (focus ((try simp (disch := first | omega | (simp only [AH.nn_push, AH.nn_set, AH.nn_kill]; omega) | (simp only [AH.nn_push, AH.nn_set, AH.nn_kill]; done) | fail) only [push_cast, Nat.reduceEqDiff, ↓reduceIte, reduceCtorEq, Nat.reduceAdd, Nat.reduceMul, Nat.reduceLeDiff, AH.get_push_eq, AH.get_push_ne, AH.get_set_eq, AH.get_set_ne, AH.push_n, AH.set_n, f1, E1, E2, E3, a1]); rfl)); (focus (simp (disch := first | omega | (simp only [AH.nn_push, AH.nn_set, AH.nn_kill]; omega) | (simp only [AH.nn_push, AH.nn_set, AH.nn_kill]; done) | fail) only [push_cast, Nat.reduceEqDiff, ↓reduceIte, reduceCtorEq, Nat.reduceAdd, Nat.reduceMul, Nat.reduceLeDiff, AH.get_push_eq, AH.get_push_ne, AH.get_set_eq, AH.get_set_ne, AH.push_n, AH.set_n, f1, E1, E2, E3, a1]; done)))
       | fail)
    | (show Wp _ _ _ _ _ _
       first
       | refine wp_seq ?_
       | refine wp_region0 ?_
       | refine wp_region ?_
       | refine wp_cond_t rfl ?_
       | refine wp_cond_f rfl ?_
       | refine wp_ret ?_
       | refine wp_skip ?_
       | refine wp_exit ?_
       | refine wp_block ?_
       | fail)
    | refine thenQ_norm ?_
    | refine thenQ_ret ?_
    | refine thenQ_exit ?_
    | refine blockQ_norm ?_
    | refine blockQ_ret ?_
    | refine blockQ_same ?_
    | refine blockQ_ne rfl ?_
    | refine loopQ_norm ?_
    | refine loopQ_ret ?_
    | refine loopQ_exit ?_
    | ((first | apply retQ_ret | apply retQ_norm | apply wpc_of); focus ((try simp (disch := first | omega | (simp only [AH.nn_push, AH.nn_set, AH.nn_kill]; omega) | (simp only [AH.nn_push, AH.nn_set, AH.nn_kill]; done) | fail) only [push_cast, Nat.reduceEqDiff, ↓reduceIte, reduceCtorEq, Nat.reduceAdd, Nat.reduceMul, Nat.reduceLeDiff, AH.get_push_eq, AH.get_push_ne, AH.get_set_eq, AH.get_set_ne, AH.push_n, AH.set_n, f1, E1, E2, E3, a1]); rfl))
    | fail)
    all_goals first | rfl | (exfalso; rename_i hh; exact hh rfl)

end Go.Proofs.Ytmfpkgcphlilmaa.AM
