/- BootBack's run. -/
import Derived.Test.YtmfpkgcphlilmaaBootK
import Derived.Test.YtmfpkgcphlilmaaRunL
import Derived.Test.YtmfpkgcphlilmaaBLB
set_option linter.unusedVariables false
set_option linter.unusedSimpArgs false
namespace Go.Proofs.Ytmfpkgcphlilmaa.AM
open Go

theorem mk_inj2 {a b : Bytes} : (⟨a.toArray⟩ : ByteArray) = ⟨b.toArray⟩ ↔ a = b :=
  ⟨fun h => congrArg (fun x : ByteArray => x.data.toList) h, fun h => by rw [h]⟩

theorem encF_bad {p : BP} {s a : Bytes} {e : Nat} (h : encF p s = (a, e)) (he : e ≠ 0) : a = [] := by
  unfold encF at h
  split at h
  · injection h with h1 h2; exact h1.symm
  · split at h
    · split at h
      · injection h with h1 h2; exact h1.symm
      · injection h with h1 h2; exact absurd h2.symm he
    · injection h with h1 h2; exact h1.symm

theorem encF_len {p : BP} {s a : Bytes} {e : Nat} (h : encF p s = (a, e)) : a.length ≤ 65536 := by
  unfold encF at h
  by_cases g1 : 65536 < s.length
  · rw [if_pos g1] at h
    injection h with h1 h2
    rw [← h1]
    simp
  · rw [if_neg g1] at h
    by_cases g2 : scanE p 0 (spots s) = 0
    · rw [if_pos g2] at h
      by_cases g3 : 65536 < (bodyE p (runesB s)).length
      · rw [if_pos g3] at h
        injection h with h1 h2
        rw [← h1]
        simp
      · rw [if_neg g3] at h
        injection h with h1 h2
        rw [← h1]
        omega
    · rw [if_neg g2] at h
      injection h with h1 h2
      rw [← h1]
      simp

/-- How many of the first i runes are low. -/
def lowC (l : Bytes) (i : Nat) : Nat := ((runesB l).take i).countP (· < 128)
theorem lowC_succ {l : Bytes} {i : Nat} (hi : i < (spots l).length) : lowC l (i + 1) = lowC l i + if ((spots l)[i]).1 < 128 then 1 else 0 := by
  unfold lowC runesB
  rw [List.take_succ_eq_append_getElem (by rw [List.length_map]; exact hi), List.countP_append, List.getElem_map]
  simp [List.countP_cons]
theorem lowC_le (l : Bytes) (i : Nat) : lowC l i ≤ i := by
  unfold lowC
  exact Nat.le_trans List.countP_le_length (by rw [List.length_take]; omega)

theorem bootBack_run (b l hi s d i f : Int) (x : ByteArray) (h : AH) (hb : -9223372036854775808 ≤ b ∧ b < 9223372036854775808) (hf : -2147483648 ≤ f ∧ f < 2147483648) (hx : x.size ≤ reachBytes) :
    WpC PX 7 [.agg (bpV b l hi s d i f).toArray, .string x] h fun v _ => v = .bool true := by
  have hre : reachBytes = 140737488351232 := rfl
  have f1 : ∀ h, callO PX 19 [.string x, .int .i64 3000] h = some (.string ⟨(x.data.toList.take 3000).toArray⟩, h) := fun h => few_eq x 3000 h (by omega) (by omega)
  obtain ⟨s1, hs1⟩ : ∃ s1, s1 = x.data.toList.take 3000 := ⟨_, rfl⟩
  have l1 : s1.length ≤ 3000 := by rw [hs1, List.length_take]; omega
  rw [← hs1] at f1
  have hsz : (⟨s1.toArray⟩ : ByteArray).size = s1.length := by show s1.toArray.size = _; rw [List.size_toArray]
  obtain ⟨a, e, h2, E1, n1, k1, w1, r1⟩ := encode_all b l hi s d i f hb hf ⟨s1.toArray⟩ (by omega) h
  have a1 := fun h => alive_eq h
  by_cases he : e ≠ 0
  · have ha : a = [] := by
      by_cases hr : RightI b l hi s d i f
      · obtain ⟨p, ok, rfl, rfl, rfl, rfl, rfl, rfl, rfl⟩ := ok_rightI hr
        exact encF_bad (r1 p ok ⟨rfl, rfl, rfl, rfl, rfl, rfl, rfl⟩) he
      · exact (w1 hr).1
    subst ha
    refine wpc_fn (px_ext rfl) (px_fn fn_guiselaw17_BootBack) rfl ?_
    unfold LF_guiselaw17_BootBack
    simp only [argFr]
    unfold bpV at E1 ⊢
    (repeat' first
    | (show WpR _ _ _ _ _ _ _ _ _
       first
       | refine wpr_drop ?_
       | refine wpr_p (o := .mv _) (by simp only [ev_mv, opd_s, opd_c, fget, Nat.reduceEqDiff, Nat.one_ne_zero, Nat.zero_ne_one, reduceCtorEq, ↓reduceIte]; rfl) ?_
       | (refine wpr_fork (fun _ => ?_) (fun _ => ?_) <;> try (exfalso; omega))
       | (refine wpr_forkN (fun _ => ?_) (fun _ => ?_) <;> try (exfalso; omega))
       | refine wpr_run rfl ?_
       | refine wpr_pass rfl rfl ?_
       | refine wpr_passS rfl ?_
       | ((first | apply wpr_p | apply wpr_r | apply wpr_callA | apply wpr_callA0 | apply wpr_e0 | apply wpr_e | apply wpr_end0); focus ((try simp (disch := first | omega | (simp only [AH.nn_push, AH.nn_set, AH.nn_kill]; omega) | (simp only [AH.nn_push, AH.nn_set, AH.nn_kill]; done) | fail) only [push_cast, Nat.reduceEqDiff, ↓reduceIte, reduceCtorEq, Nat.reduceAdd, Nat.reduceMul, Nat.reduceLeDiff, AH.get_push_eq, AH.get_push_ne, AH.get_set_eq, AH.get_set_ne, AH.push_n, AH.set_n, f1, E1, a1]); rfl))
       | refine wpr_pass0 rfl rfl ?_
       | refine wpr_pass0S rfl ?_
       | (apply wpr_callvA; focus ((try simp (disch := first | omega | (simp only [AH.nn_push, AH.nn_set, AH.nn_kill]; omega) | (simp only [AH.nn_push, AH.nn_set, AH.nn_kill]; done) | fail) only [push_cast, Nat.reduceEqDiff, ↓reduceIte, reduceCtorEq, Nat.reduceAdd, Nat.reduceMul, Nat.reduceLeDiff, AH.get_push_eq, AH.get_push_ne, AH.get_set_eq, AH.get_set_ne, AH.push_n, AH.set_n, f1, E1, a1]); rfl))
       | (apply wpr_end; (focus ((try simp (disch := first | omega | (simp only [AH.nn_push, AH.nn_set, AH.nn_kill]; omega) | (simp only [AH.nn_push, AH.nn_set, AH.nn_kill]; done) | fail) only [push_cast, Nat.reduceEqDiff, ↓reduceIte, reduceCtorEq, Nat.reduceAdd, Nat.reduceMul, Nat.reduceLeDiff, AH.get_push_eq, AH.get_push_ne, AH.get_set_eq, AH.get_set_ne, AH.push_n, AH.set_n, f1, E1, a1]); rfl)); (focus (simp (disch := first | omega | (simp only [AH.nn_push, AH.nn_set, AH.nn_kill]; omega) | (simp only [AH.nn_push, AH.nn_set, AH.nn_kill]; done) | fail) only [push_cast, Nat.reduceEqDiff, ↓reduceIte, reduceCtorEq, Nat.reduceAdd, Nat.reduceMul, Nat.reduceLeDiff, AH.get_push_eq, AH.get_push_ne, AH.get_set_eq, AH.get_set_ne, AH.push_n, AH.set_n, f1, E1, a1]; done)))
       | fail)
    | (show Wp _ _ _ _ _ _
       first
       | refine wp_seq ?_
       | refine wp_region0 ?_
       | refine wp_region ?_
       | refine wp_cond_t rfl ?_
       | refine wp_cond_f rfl ?_
       | refine wp_ret ?_
       | refine wp_skip ?_
       | refine wp_exit ?_
       | refine wp_block ?_
       | fail)
    | refine thenQ_norm ?_
    | refine thenQ_ret ?_
    | refine thenQ_exit ?_
    | refine blockQ_norm ?_
    | refine blockQ_ret ?_
    | refine blockQ_same ?_
    | refine blockQ_ne rfl ?_
    | refine loopQ_norm ?_
    | refine loopQ_ret ?_
    | refine loopQ_exit ?_
    | ((first | apply retQ_ret | apply retQ_norm | apply wpc_of); focus ((try simp (disch := first | omega | (simp only [AH.nn_push, AH.nn_set, AH.nn_kill]; omega) | (simp only [AH.nn_push, AH.nn_set, AH.nn_kill]; done) | fail) only [push_cast, Nat.reduceEqDiff, ↓reduceIte, reduceCtorEq, Nat.reduceAdd, Nat.reduceMul, Nat.reduceLeDiff, AH.get_push_eq, AH.get_push_ne, AH.get_set_eq, AH.get_set_ne, AH.push_n, AH.set_n, f1, E1, a1]); rfl))
    | fail)
    all_goals rfl
  · obtain rfl : e = 0 := by omega
    have hr : RightI b l hi s d i f := Decidable.byContradiction fun hr => by have := (w1 hr).2; omega
    obtain ⟨p, ok, rfl, rfl, rfl, rfl, rfl, rfl, rfl⟩ := ok_rightI hr
    have hE := r1 p ok ⟨rfl, rfl, rfl, rfl, rfl, rfl, rfl⟩
    rw [show (⟨s1.toArray⟩ : ByteArray).data.toList = s1 from rfl] at hE
    obtain ⟨q1, q2, q3, q4⟩ := dec_of_enc ok hE
    have hlong : a.length ≤ 65536 := encF_len hE
    have hza : (⟨a.toArray⟩ : ByteArray).size = a.length := by show a.toArray.size = _; rw [List.size_toArray]
    obtain ⟨r, h3, E2, n2, k2, w2, r2⟩ := decode_all p.base p.low p.high p.skew p.damp p.bias p.first hb hf ⟨a.toArray⟩ (by omega) h2
    have q5 := r2 p ok ⟨rfl, rfl, rfl, rfl, rfl, rfl, rfl⟩
    rw [show (⟨a.toArray⟩ : ByteArray).data.toList = a from rfl, q1] at q5
    subst q5
    simp only [decV, (valid_clean s1).1 q2] at E2
    have hz := (scanE_zero ok _ _).1 q3
    have hR : ∀ c ∈ runesB s1, p.first ≤ c ∨ basicN c = true := fun c hc => by
      obtain ⟨y, hy, rfl⟩ := List.mem_map.1 hc
      exact (hz.2 y hy).2
    have F := form_of ok hR
    rw [← q4] at F
    have e3 := fun h => letters_eq ⟨a.toArray⟩ (by omega) F.ok h
    have hnil : (⟨a.toArray⟩ : ByteArray) = ⟨#[]⟩ ↔ (⟨s1.toArray⟩ : ByteArray) = ⟨#[]⟩ := by
      rw [show (⟨#[]⟩ : ByteArray) = ⟨([] : Bytes).toArray⟩ from rfl, mk_inj2, mk_inj2, F.nil]
      constructor
      · intro h
        have := (valid_clean s1).1 q2
        rw [h] at this
        exact this.symm
      · rintro rfl
        rfl
    have hlast : ∀ (ha : a ≠ []), (bat a (a.length - 1) = 45 ↔ a.getLast? = some 45) := fun ha => by
      have hp : 0 < a.length := List.length_pos_iff.2 ha
      unfold bat
      rw [List.getD_eq_getElem?_getD, List.getElem?_eq_getElem (by omega), Option.getD_some, List.getLast?_eq_some_getLast ha, List.getLast_eq_getElem]
      constructor
      · intro h
        congr 1
        exact UInt8.toNat_inj.1 h
      · intro h
        injection h with h
        rw [h]
        rfl
    refine wpc_fn (px_ext rfl) (px_fn fn_guiselaw17_BootBack) rfl ?_
    unfold LF_guiselaw17_BootBack
    simp only [argFr]
    unfold bpV at E1 E2 ⊢
    (repeat' first
    | (show WpR _ _ _ _ _ _ _ _ _
       first
       | refine wpr_drop ?_
       | refine wpr_p (o := .mv _) (by simp only [ev_mv, opd_s, opd_c, fget, Nat.reduceEqDiff, Nat.one_ne_zero, Nat.zero_ne_one, reduceCtorEq, ↓reduceIte]; rfl) ?_
       | (refine wpr_fork (fun _ => ?_) (fun _ => ?_) <;> try (exfalso; omega))
       | (refine wpr_forkN (fun _ => ?_) (fun _ => ?_) <;> try (exfalso; omega))
       | refine wpr_run rfl ?_
       | refine wpr_pass rfl rfl ?_
       | refine wpr_passS rfl ?_
       | ((first | apply wpr_p | apply wpr_r | apply wpr_callA | apply wpr_callA0 | apply wpr_e0 | apply wpr_e | apply wpr_end0); focus ((try simp (disch := first | omega | (simp only [AH.nn_push, AH.nn_set, AH.nn_kill]; omega) | (simp only [AH.nn_push, AH.nn_set, AH.nn_kill]; done) | fail) only [push_cast, Nat.reduceEqDiff, ↓reduceIte, reduceCtorEq, Nat.reduceAdd, Nat.reduceMul, Nat.reduceLeDiff, AH.get_push_eq, AH.get_push_ne, AH.get_set_eq, AH.get_set_ne, AH.push_n, AH.set_n, f1, E1, E2, e3, a1, ev_rngS]); rfl))
       | refine wpr_pass0 rfl rfl ?_
       | refine wpr_pass0S rfl ?_
       | (apply wpr_callvA; focus ((try simp (disch := first | omega | (simp only [AH.nn_push, AH.nn_set, AH.nn_kill]; omega) | (simp only [AH.nn_push, AH.nn_set, AH.nn_kill]; done) | fail) only [push_cast, Nat.reduceEqDiff, ↓reduceIte, reduceCtorEq, Nat.reduceAdd, Nat.reduceMul, Nat.reduceLeDiff, AH.get_push_eq, AH.get_push_ne, AH.get_set_eq, AH.get_set_ne, AH.push_n, AH.set_n, f1, E1, E2, e3, a1, ev_rngS]); rfl))
       | (apply wpr_end; (focus ((try simp (disch := first | omega | (simp only [AH.nn_push, AH.nn_set, AH.nn_kill]; omega) | (simp only [AH.nn_push, AH.nn_set, AH.nn_kill]; done) | fail) only [push_cast, Nat.reduceEqDiff, ↓reduceIte, reduceCtorEq, Nat.reduceAdd, Nat.reduceMul, Nat.reduceLeDiff, AH.get_push_eq, AH.get_push_ne, AH.get_set_eq, AH.get_set_ne, AH.push_n, AH.set_n, f1, E1, E2, e3, a1, ev_rngS]); rfl)); (focus (simp (disch := first | omega | (simp only [AH.nn_push, AH.nn_set, AH.nn_kill]; omega) | (simp only [AH.nn_push, AH.nn_set, AH.nn_kill]; done) | fail) only [push_cast, Nat.reduceEqDiff, ↓reduceIte, reduceCtorEq, Nat.reduceAdd, Nat.reduceMul, Nat.reduceLeDiff, AH.get_push_eq, AH.get_push_ne, AH.get_set_eq, AH.get_set_ne, AH.push_n, AH.set_n, f1, E1, E2, e3, a1, ev_rngS]; done)))
       | fail)
    | (show Wp _ _ _ _ _ _
       first
       | refine wp_seq ?_
       | refine wp_region0 ?_
       | refine wp_region ?_
       | refine wp_cond_t rfl ?_
       | refine wp_cond_f rfl ?_
       | refine wp_ret ?_
       | refine wp_skip ?_
       | refine wp_exit ?_
       | refine wp_block ?_
       | fail)
    | refine thenQ_norm ?_
    | refine thenQ_ret ?_
    | refine thenQ_exit ?_
    | refine blockQ_norm ?_
    | refine blockQ_ret ?_
    | refine blockQ_same ?_
    | refine blockQ_ne rfl ?_
    | refine loopQ_norm ?_
    | refine loopQ_ret ?_
    | refine loopQ_exit ?_
    | ((first | apply retQ_ret | apply retQ_norm | apply wpc_of); focus ((try simp (disch := first | omega | (simp only [AH.nn_push, AH.nn_set, AH.nn_kill]; omega) | (simp only [AH.nn_push, AH.nn_set, AH.nn_kill]; done) | fail) only [push_cast, Nat.reduceEqDiff, ↓reduceIte, reduceCtorEq, Nat.reduceAdd, Nat.reduceMul, Nat.reduceLeDiff, AH.get_push_eq, AH.get_push_ne, AH.get_set_eq, AH.get_set_ne, AH.push_n, AH.set_n, f1, E1, E2, e3, a1, ev_rngS]); rfl))
    | fail)
    all_goals try
      (exfalso
       first
         | exact ‹¬ (⟨s1.toArray⟩ : ByteArray) = ⟨#[]⟩› (hnil.1 ‹_›)
         | exact ‹¬ (⟨a.toArray⟩ : ByteArray) = ⟨#[]⟩› (hnil.2 ‹_›))
    all_goals
      refine wp_loop (fun n fr lc h1 => ∃ (i : Nat) (ex : Fr), n = (spots s1).length - i ∧ i ≤ (spots s1).length ∧ fr = [(5, .string ⟨a.toArray⟩), (10, .int .i64 (lowC s1 i : Nat)), (11, .int .i64 ((i - lowC s1 i : Nat) : Int)), (61, .pointer (some ⟨122, 0, some 1⟩))] ++ ex ∧ lc = [(122, .siter ⟨s1.toArray⟩ (posn s1 i))] ∧ h1 = h3)
        (spots s1).length ⟨0, [], rfl, Nat.zero_le _, rfl, by rw [posn_zero], rfl⟩ ?_
      rintro n fr lc h1 ⟨i, ex, rfl, hi, rfl, rfl, rfl⟩
      have hle := lowC_le s1 i
      have hspl := spots_len s1
      rcases Nat.lt_or_ge i (spots s1).length with hil | hil
      · obtain ⟨p1, p2, p3⟩ := posn_lt hil
        have psu := posn_succ hil
        have hdec : Utf8.decode ⟨s1.toArray⟩ (posn s1 i) = (spots s1)[i] := by rw [decode_list _ _ (by omega)]; exact p2
        have hru : RuneN (spots s1)[i].1 := runesB_rune s1 _ (List.mem_map.2 ⟨_, List.getElem_mem hil, rfl⟩)
        have hlc := lowC_succ hil
        generalize (spots s1)[i] = y at hdec psu hru hlc
        unfold RuneN at hru
        (repeat' first
    | (show WpR _ _ _ _ _ _ _ _ _
       first
       | refine wpr_drop ?_
       | refine wpr_p (o := .mv _) (by simp only [ev_mv, opd_s, opd_c, fget, Nat.reduceEqDiff, Nat.one_ne_zero, Nat.zero_ne_one, reduceCtorEq, ↓reduceIte]; rfl) ?_
       | (refine wpr_fork (fun _ => ?_) (fun _ => ?_) <;> try (exfalso; omega))
       | (refine wpr_forkN (fun _ => ?_) (fun _ => ?_) <;> try (exfalso; omega))
       | refine wpr_run rfl ?_
       | refine wpr_pass rfl rfl ?_
       | refine wpr_passS rfl ?_
       | ((first | apply wpr_p | apply wpr_r | apply wpr_callA | apply wpr_callA0 | apply wpr_e0 | apply wpr_e | apply wpr_end0); focus ((try simp (disch := omega) only [push_cast, Nat.reduceEqDiff, ↓reduceIte, reduceCtorEq, Nat.reduceAdd, Nat.reduceMul, Nat.reduceLeDiff]); rfl))
       | refine wpr_pass0 rfl rfl ?_
       | refine wpr_pass0S rfl ?_
       | (apply wpr_end; (focus ((try simp (disch := omega) only [push_cast, Nat.reduceEqDiff, ↓reduceIte, reduceCtorEq, Nat.reduceAdd, Nat.reduceMul, Nat.reduceLeDiff]); rfl)); (focus (simp (disch := omega) only [push_cast, Nat.reduceEqDiff, ↓reduceIte, reduceCtorEq, Nat.reduceAdd, Nat.reduceMul, Nat.reduceLeDiff]; done)))
       | fail)
    | (show Wp _ _ _ _ _ _
       first
       | refine wp_seq ?_
       | refine wp_region0 ?_
       | refine wp_region ?_
       | refine wp_cond_t rfl ?_
       | refine wp_cond_f rfl ?_
       | refine wp_ret ?_
       | refine wp_skip ?_
       | refine wp_exit ?_
       | refine wp_block ?_
       | fail)
    | refine thenQ_norm ?_
    | refine thenQ_ret ?_
    | refine thenQ_exit ?_
    | refine blockQ_norm ?_
    | refine blockQ_ret ?_
    | refine blockQ_same ?_
    | refine blockQ_ne rfl ?_
    | refine loopQ_norm ?_
    | refine loopQ_ret ?_
    | refine loopQ_exit ?_
    | ((first | apply retQ_ret | apply retQ_norm | apply wpc_of); focus ((try simp (disch := omega) only [push_cast, Nat.reduceEqDiff, ↓reduceIte, reduceCtorEq, Nat.reduceAdd, Nat.reduceMul, Nat.reduceLeDiff]); rfl))
    | fail)
        refine wpr_next_more rfl rfl (by omega) ?_
        rw [hdec]
        (repeat' first
    | (show WpR _ _ _ _ _ _ _ _ _
       first
       | refine wpr_drop ?_
       | refine wpr_p (o := .mv _) (by simp only [ev_mv, opd_s, opd_c, fget, Nat.reduceEqDiff, Nat.one_ne_zero, Nat.zero_ne_one, reduceCtorEq, ↓reduceIte]; rfl) ?_
       | (refine wpr_fork (fun _ => ?_) (fun _ => ?_) <;> try (exfalso; omega))
       | (refine wpr_forkN (fun _ => ?_) (fun _ => ?_) <;> try (exfalso; omega))
       | refine wpr_run rfl ?_
       | refine wpr_pass rfl rfl ?_
       | refine wpr_passS rfl ?_
       | ((first | apply wpr_p | apply wpr_r | apply wpr_callA | apply wpr_callA0 | apply wpr_e0 | apply wpr_e | apply wpr_end0); focus ((try simp (disch := omega) only [push_cast, Nat.reduceEqDiff, ↓reduceIte, reduceCtorEq, Nat.reduceAdd, Nat.reduceMul, Nat.reduceLeDiff]); rfl))
       | refine wpr_pass0 rfl rfl ?_
       | refine wpr_pass0S rfl ?_
       | (apply wpr_end; (focus ((try simp (disch := omega) only [push_cast, Nat.reduceEqDiff, ↓reduceIte, reduceCtorEq, Nat.reduceAdd, Nat.reduceMul, Nat.reduceLeDiff]); rfl)); (focus (simp (disch := omega) only [push_cast, Nat.reduceEqDiff, ↓reduceIte, reduceCtorEq, Nat.reduceAdd, Nat.reduceMul, Nat.reduceLeDiff]; done)))
       | fail)
    | (show Wp _ _ _ _ _ _
       first
       | refine wp_seq ?_
       | refine wp_region0 ?_
       | refine wp_region ?_
       | refine wp_cond_t rfl ?_
       | refine wp_cond_f rfl ?_
       | refine wp_ret ?_
       | refine wp_skip ?_
       | refine wp_exit ?_
       | refine wp_block ?_
       | fail)
    | refine thenQ_norm ?_
    | refine thenQ_ret ?_
    | refine thenQ_exit ?_
    | refine blockQ_norm ?_
    | refine blockQ_ret ?_
    | refine blockQ_same ?_
    | refine blockQ_ne rfl ?_
    | refine loopQ_norm ?_
    | refine loopQ_ret ?_
    | refine loopQ_exit ?_
    | ((first | apply retQ_ret | apply retQ_norm | apply wpc_of); focus ((try simp (disch := omega) only [push_cast, Nat.reduceEqDiff, ↓reduceIte, reduceCtorEq, Nat.reduceAdd, Nat.reduceMul, Nat.reduceLeDiff]); rfl))
    | fail)
        all_goals
          first
          | (have hc : y.1 < 128 := by omega
             rw [if_pos hc] at hlc)
          | (have hc : ¬ y.1 < 128 := by omega
             rw [if_neg hc] at hlc)
          refine ⟨_, ?_, i + 1, [], rfl, by omega, ?_, by rw [psu], rfl⟩
          · omega
          · simp only [List.append_nil, List.cons.injEq, Prod.mk.injEq, Value.int.injEq, and_true, true_and]
            omega
      · obtain rfl : i = (spots s1).length := by omega
        have hpa := posn_all s1
        have hlen : (runesB s1).length = (spots s1).length := by simp [runesB]
        have hlow : lowC s1 (spots s1).length = (runesB s1).countP (· < 128) := by
          unfold lowC
          rw [← hlen, List.take_length]
        have t1 : 0 < lowC s1 (spots s1).length ↔ ∃ c ∈ runesB s1, c < 128 := by
          rw [hlow, List.countP_pos_iff]
          simp
        have t2 : (spots s1).length - lowC s1 (spots s1).length = 0 ↔ ∀ c ∈ runesB s1, c < 128 := by
          have h1 := List.countP_eq_length (p := fun c : Nat => decide (c < 128)) (l := runesB s1)
          have h2 := List.countP_le_length (p := fun c : Nat => decide (c < 128)) (l := runesB s1)
          rw [← hlow, hlen] at h1 h2
          simp only [decide_eq_true_eq] at h1
          rw [← h1]
          omega
        have hfin : (0 < a.length ∧ bat a (a.length - 1) = 45) ↔ (0 < lowC s1 (spots s1).length ∧ (spots s1).length - lowC s1 (spots s1).length = 0) := by
          rw [t1, t2]
          by_cases ha : a = []
          · have hRn := F.nil.1 ha
            rw [ha, hRn]
            simp
          · rw [hlast ha, F.ends ha]
            have : 0 < a.length := List.length_pos_iff.2 ha
            simp only [this, true_and]
        have hpos : ((a.length : Int) - 1).toNat = a.length - 1 := by omega
        generalize lowC s1 (spots s1).length = lo at hfin hle ⊢
        generalize hbt : bat a (a.length - 1) = bt at hfin
        (repeat' first
    | (show WpR _ _ _ _ _ _ _ _ _
       first
       | refine wpr_drop ?_
       | refine wpr_p (o := .mv _) (by simp only [ev_mv, opd_s, opd_c, fget, Nat.reduceEqDiff, Nat.one_ne_zero, Nat.zero_ne_one, reduceCtorEq, ↓reduceIte]; rfl) ?_
       | (refine wpr_fork (fun _ => ?_) (fun _ => ?_) <;> try (exfalso; omega))
       | (refine wpr_forkN (fun _ => ?_) (fun _ => ?_) <;> try (exfalso; omega))
       | refine wpr_run rfl ?_
       | refine wpr_pass rfl rfl ?_
       | refine wpr_passS rfl ?_
       | ((first | apply wpr_p | apply wpr_r | apply wpr_callA | apply wpr_callA0 | apply wpr_e0 | apply wpr_e | apply wpr_end0); focus ((try simp (disch := omega) only [push_cast, Nat.reduceEqDiff, ↓reduceIte, reduceCtorEq, Nat.reduceAdd, Nat.reduceMul, Nat.reduceLeDiff]); rfl))
       | refine wpr_pass0 rfl rfl ?_
       | refine wpr_pass0S rfl ?_
       | (apply wpr_end; (focus ((try simp (disch := omega) only [push_cast, Nat.reduceEqDiff, ↓reduceIte, reduceCtorEq, Nat.reduceAdd, Nat.reduceMul, Nat.reduceLeDiff]); rfl)); (focus (simp (disch := omega) only [push_cast, Nat.reduceEqDiff, ↓reduceIte, reduceCtorEq, Nat.reduceAdd, Nat.reduceMul, Nat.reduceLeDiff]; done)))
       | fail)
    | (show Wp _ _ _ _ _ _
       first
       | refine wp_seq ?_
       | refine wp_region0 ?_
       | refine wp_region ?_
       | refine wp_cond_t rfl ?_
       | refine wp_cond_f rfl ?_
       | refine wp_ret ?_
       | refine wp_skip ?_
       | refine wp_exit ?_
       | refine wp_block ?_
       | fail)
    | refine thenQ_norm ?_
    | refine thenQ_ret ?_
    | refine thenQ_exit ?_
    | refine blockQ_norm ?_
    | refine blockQ_ret ?_
    | refine blockQ_same ?_
    | refine blockQ_ne rfl ?_
    | refine loopQ_norm ?_
    | refine loopQ_ret ?_
    | refine loopQ_exit ?_
    | ((first | apply retQ_ret | apply retQ_norm | apply wpc_of); focus ((try simp (disch := omega) only [push_cast, Nat.reduceEqDiff, ↓reduceIte, reduceCtorEq, Nat.reduceAdd, Nat.reduceMul, Nat.reduceLeDiff]); rfl))
    | fail)
        refine wpr_next_end rfl rfl (by omega) ?_
        by_cases hap : 0 < a.length
        · (repeat' first
    | (show WpR _ _ _ _ _ _ _ _ _
       first
       | refine wpr_drop ?_
       | refine wpr_p (o := .mv _) (by simp only [ev_mv, opd_s, opd_c, fget, Nat.reduceEqDiff, Nat.one_ne_zero, Nat.zero_ne_one, reduceCtorEq, ↓reduceIte]; rfl) ?_
       | (refine wpr_fork (fun _ => ?_) (fun _ => ?_) <;> try (exfalso; omega))
       | (refine wpr_forkN (fun _ => ?_) (fun _ => ?_) <;> try (exfalso; omega))
       | refine wpr_run rfl ?_
       | refine wpr_pass rfl rfl ?_
       | refine wpr_passS rfl ?_
       | ((first | apply wpr_p | apply wpr_r | apply wpr_callA | apply wpr_callA0 | apply wpr_e0 | apply wpr_e | apply wpr_end0); focus ((try simp (disch := first | omega | (simp only [AH.nn_push, AH.nn_set, AH.nn_kill]; omega) | (simp only [AH.nn_push, AH.nn_set, AH.nn_kill]; done) | fail) only [push_cast, Nat.reduceEqDiff, ↓reduceIte, reduceCtorEq, Nat.reduceAdd, Nat.reduceMul, Nat.reduceLeDiff, AH.get_push_eq, AH.get_push_ne, AH.get_set_eq, AH.get_set_ne, AH.push_n, AH.set_n, a1, hza, hpos, hbt]); rfl))
       | refine wpr_pass0 rfl rfl ?_
       | refine wpr_pass0S rfl ?_
       | (apply wpr_callvA; focus ((try simp (disch := first | omega | (simp only [AH.nn_push, AH.nn_set, AH.nn_kill]; omega) | (simp only [AH.nn_push, AH.nn_set, AH.nn_kill]; done) | fail) only [push_cast, Nat.reduceEqDiff, ↓reduceIte, reduceCtorEq, Nat.reduceAdd, Nat.reduceMul, Nat.reduceLeDiff, AH.get_push_eq, AH.get_push_ne, AH.get_set_eq, AH.get_set_ne, AH.push_n, AH.set_n, a1, hza, hpos, hbt]); rfl))
       | (apply wpr_end; (focus ((try simp (disch := first | omega | (simp only [AH.nn_push, AH.nn_set, AH.nn_kill]; omega) | (simp only [AH.nn_push, AH.nn_set, AH.nn_kill]; done) | fail) only [push_cast, Nat.reduceEqDiff, ↓reduceIte, reduceCtorEq, Nat.reduceAdd, Nat.reduceMul, Nat.reduceLeDiff, AH.get_push_eq, AH.get_push_ne, AH.get_set_eq, AH.get_set_ne, AH.push_n, AH.set_n, a1, hza, hpos, hbt]); rfl)); (focus (simp (disch := first | omega | (simp only [AH.nn_push, AH.nn_set, AH.nn_kill]; omega) | (simp only [AH.nn_push, AH.nn_set, AH.nn_kill]; done) | fail) only [push_cast, Nat.reduceEqDiff, ↓reduceIte, reduceCtorEq, Nat.reduceAdd, Nat.reduceMul, Nat.reduceLeDiff, AH.get_push_eq, AH.get_push_ne, AH.get_set_eq, AH.get_set_ne, AH.push_n, AH.set_n, a1, hza, hpos, hbt]; done)))
       | fail)
    | (show Wp _ _ _ _ _ _
       first
       | refine wp_seq ?_
       | refine wp_region0 ?_
       | refine wp_region ?_
       | refine wp_cond_t rfl ?_
       | refine wp_cond_f rfl ?_
       | refine wp_ret ?_
       | refine wp_skip ?_
       | refine wp_exit ?_
       | refine wp_block ?_
       | fail)
    | refine thenQ_norm ?_
    | refine thenQ_ret ?_
    | refine thenQ_exit ?_
    | refine blockQ_norm ?_
    | refine blockQ_ret ?_
    | refine blockQ_same ?_
    | refine blockQ_ne rfl ?_
    | refine loopQ_norm ?_
    | refine loopQ_ret ?_
    | refine loopQ_exit ?_
    | ((first | apply retQ_ret | apply retQ_norm | apply wpc_of); focus ((try simp (disch := first | omega | (simp only [AH.nn_push, AH.nn_set, AH.nn_kill]; omega) | (simp only [AH.nn_push, AH.nn_set, AH.nn_kill]; done) | fail) only [push_cast, Nat.reduceEqDiff, ↓reduceIte, reduceCtorEq, Nat.reduceAdd, Nat.reduceMul, Nat.reduceLeDiff, AH.get_push_eq, AH.get_push_ne, AH.get_set_eq, AH.get_set_ne, AH.push_n, AH.set_n, a1, hza, hpos, hbt]); rfl))
    | fail)
          all_goals first | rfl | (exfalso; omega)
        · (repeat' first
    | (show WpR _ _ _ _ _ _ _ _ _
       first
       | refine wpr_drop ?_
       | refine wpr_p (o := .mv _) (by simp only [ev_mv, opd_s, opd_c, fget, Nat.reduceEqDiff, Nat.one_ne_zero, Nat.zero_ne_one, reduceCtorEq, ↓reduceIte]; rfl) ?_
       | (refine wpr_fork (fun _ => ?_) (fun _ => ?_) <;> try (exfalso; omega))
       | (refine wpr_forkN (fun _ => ?_) (fun _ => ?_) <;> try (exfalso; omega))
       | refine wpr_run rfl ?_
       | refine wpr_pass rfl rfl ?_
       | refine wpr_passS rfl ?_
       | ((first | apply wpr_p | apply wpr_r | apply wpr_callA | apply wpr_callA0 | apply wpr_e0 | apply wpr_e | apply wpr_end0); focus ((try simp (disch := first | omega | (simp only [AH.nn_push, AH.nn_set, AH.nn_kill]; omega) | (simp only [AH.nn_push, AH.nn_set, AH.nn_kill]; done) | fail) only [push_cast, Nat.reduceEqDiff, ↓reduceIte, reduceCtorEq, Nat.reduceAdd, Nat.reduceMul, Nat.reduceLeDiff, AH.get_push_eq, AH.get_push_ne, AH.get_set_eq, AH.get_set_ne, AH.push_n, AH.set_n, a1, hza]); rfl))
       | refine wpr_pass0 rfl rfl ?_
       | refine wpr_pass0S rfl ?_
       | (apply wpr_callvA; focus ((try simp (disch := first | omega | (simp only [AH.nn_push, AH.nn_set, AH.nn_kill]; omega) | (simp only [AH.nn_push, AH.nn_set, AH.nn_kill]; done) | fail) only [push_cast, Nat.reduceEqDiff, ↓reduceIte, reduceCtorEq, Nat.reduceAdd, Nat.reduceMul, Nat.reduceLeDiff, AH.get_push_eq, AH.get_push_ne, AH.get_set_eq, AH.get_set_ne, AH.push_n, AH.set_n, a1, hza]); rfl))
       | (apply wpr_end; (focus ((try simp (disch := first | omega | (simp only [AH.nn_push, AH.nn_set, AH.nn_kill]; omega) | (simp only [AH.nn_push, AH.nn_set, AH.nn_kill]; done) | fail) only [push_cast, Nat.reduceEqDiff, ↓reduceIte, reduceCtorEq, Nat.reduceAdd, Nat.reduceMul, Nat.reduceLeDiff, AH.get_push_eq, AH.get_push_ne, AH.get_set_eq, AH.get_set_ne, AH.push_n, AH.set_n, a1, hza]); rfl)); (focus (simp (disch := first | omega | (simp only [AH.nn_push, AH.nn_set, AH.nn_kill]; omega) | (simp only [AH.nn_push, AH.nn_set, AH.nn_kill]; done) | fail) only [push_cast, Nat.reduceEqDiff, ↓reduceIte, reduceCtorEq, Nat.reduceAdd, Nat.reduceMul, Nat.reduceLeDiff, AH.get_push_eq, AH.get_push_ne, AH.get_set_eq, AH.get_set_ne, AH.push_n, AH.set_n, a1, hza]; done)))
       | fail)
    | (show Wp _ _ _ _ _ _
       first
       | refine wp_seq ?_
       | refine wp_region0 ?_
       | refine wp_region ?_
       | refine wp_cond_t rfl ?_
       | refine wp_cond_f rfl ?_
       | refine wp_ret ?_
       | refine wp_skip ?_
       | refine wp_exit ?_
       | refine wp_block ?_
       | fail)
    | refine thenQ_norm ?_
    | refine thenQ_ret ?_
    | refine thenQ_exit ?_
    | refine blockQ_norm ?_
    | refine blockQ_ret ?_
    | refine blockQ_same ?_
    | refine blockQ_ne rfl ?_
    | refine loopQ_norm ?_
    | refine loopQ_ret ?_
    | refine loopQ_exit ?_
    | ((first | apply retQ_ret | apply retQ_norm | apply wpc_of); focus ((try simp (disch := first | omega | (simp only [AH.nn_push, AH.nn_set, AH.nn_kill]; omega) | (simp only [AH.nn_push, AH.nn_set, AH.nn_kill]; done) | fail) only [push_cast, Nat.reduceEqDiff, ↓reduceIte, reduceCtorEq, Nat.reduceAdd, Nat.reduceMul, Nat.reduceLeDiff, AH.get_push_eq, AH.get_push_ne, AH.get_set_eq, AH.get_set_ne, AH.push_n, AH.set_n, a1, hza]); rfl))
    | fail)
          all_goals first | rfl | (exfalso; omega)

end Go.Proofs.Ytmfpkgcphlilmaa.AM
