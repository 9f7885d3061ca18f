/- The document's Not and Meet. -/
import Derived.Test.YtanpdopjgepbkaaTwoA
import Derived.Test.YtanpdopjgepbkaaPairB
set_option linter.unusedVariables false
set_option linter.unusedSimpArgs false
namespace Go.Proofs.Ytanpdopjgepbkaa.AM
open Go

theorem rankF_rune2 {p : Int} (h0 : 0 ≤ p) (h1 : p ≤ 1112064) : rankF (runeF p) = p := by
  have := runeF_or p
  unfold rankF
  split
  · omega
  · split <;> omega
theorem rowOf_mk {p q : Int} (h0 : 0 ≤ p) (h1 : p < q) (h2 : q ≤ 1112064) : rowOf (runeF p, runeF (q - 1)) = (p, q) := by
  unfold rowOf
  rw [rankF_rune2 h0 (by omega), rankF_rune2 (by omega) (by omega)]
  simp
theorem rowOf_spanOf {x : Int × Int} (h : 0 ≤ x.1 ∧ x.1 < x.2 ∧ x.2 ≤ 1112064) : rowOf (spanOf x) = x := rowOf_mk h.1 h.2.1 h.2.2
theorem rows_spans {C : List (Int × Int)} (h : ∀ x ∈ C, 0 ≤ x.1 ∧ x.1 < x.2 ∧ x.2 ≤ 1112064) : (C.map spanOf).map rowOf = C := by
  rw [List.map_map]
  conv => rhs; rw [← List.map_id C]
  exact List.map_congr_left fun x hx => rowOf_spanOf (h x hx)
theorem right_spanOf {x : Int × Int} (h : 0 ≤ x.1 ∧ x.1 < x.2 ∧ x.2 ≤ 1112064) : RightS (spanOf x) := by
  have h1 := runeF_or x.1
  have h2 := runeF_or (x.2 - 1)
  unfold RightS spanOf IsRune
  simp only
  omega

/-! ### Not -/

def negF : Int → List (Int × Int) → List (Int × Int)
  | a, [] => if a < 1112064 then [(a, 1112064)] else []
  | a, x :: l => if a < x.1 then (a, x.1) :: negF x.2 l else negF x.2 l

theorem negF_len : ∀ (l : List (Int × Int)) (a : Int), (negF a l).length ≤ l.length + 1
  | [], a => by unfold negF; split <;> simp
  | x :: l, a => by
    have := negF_len l x.2
    unfold negF
    split <;> simp only [List.length_cons] <;> omega
theorem negF_in : ∀ (l : List (Int × Int)) (a z : Int), InR z (negF a l) ↔ InR z (gapsF a l)
  | [], a, z => by
    unfold negF gapsF
    split
    · rfl
    · rw [InR.one]; exact ⟨fun h => (InR.nil h).elim, fun h => by simp only at h; omega⟩
  | x :: l, a, z => by
    have ih := negF_in l x.2 z
    unfold negF gapsF
    split
    · rw [InR.cons, InR.cons, ih]
    · rw [ih, InR.cons]
      exact ⟨.inr, fun h => h.elim (fun h => by simp only at h; omega) id⟩
theorem negF_ge : ∀ (l : List (Int × Int)) (a : Int), Canon l → (∀ x ∈ l, a ≤ x.1) → ∀ y ∈ negF a l, a ≤ y.1
  | [], a, _, _, y, hy => by
    unfold negF at hy
    split at hy
    · rw [List.mem_singleton.1 hy]; exact Int.le_refl _
    · cases hy
  | x :: l, a, hc, ha, y, hy => by
    have h1 := ha x (by simp)
    have h2 := hc.ne x (by simp)
    have ih := negF_ge l x.2 hc.tail (fun z hz => by have := (List.pairwise_cons.1 hc.sep).1 z hz; omega) y
    unfold negF at hy
    split at hy
    · rcases List.mem_cons.1 hy with rfl | hy
      · exact Int.le_refl _
      · have := ih hy; omega
    · have := ih hy; omega
theorem negF_canon : ∀ (l : List (Int × Int)) (a : Int), Canon l → (∀ x ∈ l, a ≤ x.1) → Canon (negF a l)
  | [], a, _, _ => by
    unfold negF
    split
    · exact ⟨fun x hx => by rw [List.mem_singleton.1 hx]; assumption, by simp⟩
    · exact ⟨by simp, by simp⟩
  | x :: l, a, hc, ha => by
    have h1 := ha x (by simp)
    have h2 := hc.ne x (by simp)
    have h3 : ∀ z ∈ l, x.2 ≤ z.1 := fun z hz => by have := (List.pairwise_cons.1 hc.sep).1 z hz; omega
    have ih := negF_canon l x.2 hc.tail h3
    unfold negF
    split
    · rename_i g
      refine ⟨fun y hy => ?_, List.pairwise_cons.2 ⟨fun y hy => ?_, ih.sep⟩⟩
      · rcases List.mem_cons.1 hy with rfl | hy
        · exact g
        · exact ih.ne y hy
      · have := negF_ge l x.2 hc.tail h3 y hy
        simp only; omega
    · exact ih
theorem negF_not {C : List (Int × Int)} (hC : SetC C) : negF 0 C = notF C :=
  Canon.ext (negF_canon C 0 hC.can fun x hx => (hC.bnd x hx).1) hC.not.can fun z => by
    rw [negF_in, not_in hC, hC.gaps]

theorem refNot_spec {C : List (Int × Int)} {s : Sl} {h : AH} (hr : Reads h 2 s ((C.map spanOf).map spanV)) (hC : SetC C) (hn : C.length < 1000000000) :
    WpC PS 57 [s.val 2] h fun v h' => ∃ t, v = Sl.val 2 t ∧ FOwn h h' 2 t (((notF C).map spanOf).map spanV) := by
  have hlen : s.len = C.length := by rw [hr.len]; simp
  rw [← negF_not hC]
  have hCb := hC.bnd
  refine wpc_fn (ps_ext rfl) (ps_fn fn57) rfl ?_
  unfold LF57
  simp only [argFr]
  (repeat' first
    | (show WpR _ _ _ _ _ _ _ _ _
       first
       | refine wpr_drop ?_
       | refine wpr_p (o := .mv _) (by simp only [ev_mv, opd_s, opd_c, fget, Nat.reduceEqDiff, Nat.one_ne_zero, Nat.zero_ne_one, reduceCtorEq, ↓reduceIte]; rfl) ?_
       | (refine wpr_fork (fun _ => ?_) (fun _ => ?_) <;> try (exfalso; omega))
       | (refine wpr_forkN (fun _ => ?_) (fun _ => ?_) <;> try (exfalso; omega))
       | refine wpr_run rfl ?_
       | refine wpr_pass rfl rfl ?_
       | refine wpr_passS rfl ?_
       | ((first | apply wpr_p | apply wpr_r | apply wpr_callA | apply wpr_callA0 | apply wpr_e0 | apply wpr_e | apply wpr_end0); focus ((try simp (disch := omega) only [push_cast, Nat.reduceEqDiff, ↓reduceIte, reduceCtorEq, Nat.reduceAdd, Nat.reduceMul, Nat.reduceLeDiff, hlen]); rfl))
       | refine wpr_pass0 rfl rfl ?_
       | refine wpr_pass0S rfl ?_
       | (apply wpr_end; (focus ((try simp (disch := omega) only [push_cast, Nat.reduceEqDiff, ↓reduceIte, reduceCtorEq, Nat.reduceAdd, Nat.reduceMul, Nat.reduceLeDiff, hlen]); rfl)); (focus (simp (disch := omega) only [push_cast, Nat.reduceEqDiff, ↓reduceIte, reduceCtorEq, Nat.reduceAdd, Nat.reduceMul, Nat.reduceLeDiff, hlen]; done)))
       | fail)
    | (show Wp _ _ _ _ _ _
       first
       | refine wp_seq ?_
       | refine wp_region0 ?_
       | refine wp_region ?_
       | refine wp_cond_t rfl ?_
       | refine wp_cond_f rfl ?_
       | refine wp_ret ?_
       | refine wp_skip ?_
       | refine wp_exit ?_
       | refine wp_block ?_
       | fail)
    | refine thenQ_norm ?_
    | refine thenQ_ret ?_
    | refine thenQ_exit ?_
    | refine blockQ_norm ?_
    | refine blockQ_ret ?_
    | refine blockQ_same ?_
    | refine blockQ_ne rfl ?_
    | refine loopQ_norm ?_
    | refine loopQ_ret ?_
    | refine loopQ_exit ?_
    | ((first | apply retQ_ret | apply retQ_norm | apply wpc_of); focus ((try simp (disch := omega) only [push_cast, Nat.reduceEqDiff, ↓reduceIte, reduceCtorEq, Nat.reduceAdd, Nat.reduceMul, Nat.reduceLeDiff, hlen]); rfl))
    | fail)
  refine wp_loop (fun n fr lc h1 => ∃ (i : Nat) (t : Sl) (acc : List (Int × Int)) (a : Int), n = C.length - i ∧ i ≤ C.length ∧ fr = [(0, s.val 2), (3, t.val 2), (4, .int .i32 (runeF a)), (5, .int .i64 i)] ∧ lc = [] ∧
      FOwn h h1 2 t ((acc.map spanOf).map spanV) ∧ acc.length ≤ i ∧ acc ++ negF a (C.drop i) = negF 0 C ∧ 0 ≤ a ∧ a ≤ 1112064)
    C.length ⟨0, .nil, [], 0, rfl, Nat.zero_le _, rfl, rfl, FOwn.nil (Kp.refl h), by simp, rfl, by omega, by omega⟩ ?_
  rintro n fr lc h1 ⟨i, t, acc, a, rfl, hi, rfl, rfl, f1, hal, hI, ha0, ha1⟩
  have hr1 := hr.kp f1.kp
  have hra := runeF_or a
  rcases Nat.lt_or_ge i C.length with hil | hil
  · rw [List.drop_eq_getElem_cons hil] at hI
    have hxb := hCb C[i] (List.getElem_mem hil)
    have hxr1 : ∀ lc, Mem.rd ⟨lc, h1⟩ (ptrOff (s.adr 2 i) 0) 1 = some [.int .i32 (runeF (C[i]).1)] := fun lc => by
      have := rd_mapc (lc := lc) (k := 0) hr1 (i := i) (by simpa using hil) (by decide)
      simpa [spanV, spanOf] using this
    have hxr2 : ∀ lc h2, Reads h2 2 s ((C.map spanOf).map spanV) → Mem.rd ⟨lc, h2⟩ (ptrOff (s.adr 2 i) 1) 1 = some [.int .i32 (runeF ((C[i]).2 - 1))] := fun lc h2 hr2 => by
      have := rd_mapc (lc := lc) (k := 1) hr2 (i := i) (by simpa using hil) (by decide)
      simpa [spanV, spanOf] using this
    generalize C[i] = x at hI hxb hxr1 hxr2
    have hr2 := runeF_or x.1
    have hr3 := runeF_or (x.2 - 1)
    have hup : upF (runeF (x.2 - 1)) = runeF x.2 := by rw [upF_runeF]; congr 1; omega
    have hx2 := fun lc => hxr2 lc h1 hr1
    have e74 := fun h => up_eq (runeF (x.2 - 1)) h (by omega) (by omega)
    rw [hup] at e74
    by_cases g : a < x.1
    · have hrune : runeF (x.1 - 1) = runeF x.1 - 1 ∧ runeF x.1 - 1 ≠ 57343 ∨ runeF (x.1 - 1) = 55295 ∧ runeF x.1 - 1 = 57343 := by
        have := runeF_or (x.1 - 1)
        omega
      have hap : (acc.map spanOf).map spanV ++ [spanV (runeF a, runeF (x.1 - 1))] = ((acc ++ [(a, x.1)]).map spanOf).map spanV := by simp [spanOf]
      have hI' : (acc ++ [(a, x.1)]) ++ negF x.2 (C.drop (i + 1)) = negF 0 C := by rw [← hI]; simp only [negF, if_pos g, List.append_assoc, List.cons_append, List.nil_append]
      rcases hrune with ⟨q1, q2⟩ | ⟨q1, q2⟩
      all_goals
        (repeat' first
    | (show WpR _ _ _ _ _ _ _ _ _
       first
       | refine wpr_drop ?_
       | refine wpr_p (o := .mv _) (by simp only [ev_mv, opd_s, opd_c, fget, Nat.reduceEqDiff, Nat.one_ne_zero, Nat.zero_ne_one, reduceCtorEq, ↓reduceIte]; rfl) ?_
       | (refine wpr_fork (fun _ => ?_) (fun _ => ?_) <;> try (exfalso; omega))
       | (refine wpr_forkN (fun _ => ?_) (fun _ => ?_) <;> try (exfalso; omega))
       | refine wpr_run rfl ?_
       | refine wpr_pass rfl rfl ?_
       | refine wpr_passS rfl ?_
       | ((first | apply wpr_p | apply wpr_r | apply wpr_callA | apply wpr_callA0 | apply wpr_e0 | apply wpr_e | apply wpr_end0); focus ((try simp (disch := omega) only [push_cast, Nat.reduceEqDiff, ↓reduceIte, reduceCtorEq, Nat.reduceAdd, Nat.reduceMul, Nat.reduceLeDiff, hlen, hxr1, hx2, e74]); rfl))
       | refine wpr_pass0 rfl rfl ?_
       | refine wpr_pass0S rfl ?_
       | (apply wpr_end; (focus ((try simp (disch := omega) only [push_cast, Nat.reduceEqDiff, ↓reduceIte, reduceCtorEq, Nat.reduceAdd, Nat.reduceMul, Nat.reduceLeDiff, hlen, hxr1, hx2, e74]); rfl)); (focus (simp (disch := omega) only [push_cast, Nat.reduceEqDiff, ↓reduceIte, reduceCtorEq, Nat.reduceAdd, Nat.reduceMul, Nat.reduceLeDiff, hlen, hxr1, hx2, e74]; done)))
       | fail)
    | (show Wp _ _ _ _ _ _
       first
       | refine wp_seq ?_
       | refine wp_region0 ?_
       | refine wp_region ?_
       | refine wp_cond_t rfl ?_
       | refine wp_cond_f rfl ?_
       | refine wp_ret ?_
       | refine wp_skip ?_
       | refine wp_exit ?_
       | refine wp_block ?_
       | fail)
    | refine thenQ_norm ?_
    | refine thenQ_ret ?_
    | refine thenQ_exit ?_
    | refine blockQ_norm ?_
    | refine blockQ_ret ?_
    | refine blockQ_same ?_
    | refine blockQ_ne rfl ?_
    | refine loopQ_norm ?_
    | refine loopQ_ret ?_
    | refine loopQ_exit ?_
    | ((first | apply retQ_ret | apply retQ_norm | apply wpc_of); focus ((try simp (disch := omega) only [push_cast, Nat.reduceEqDiff, ↓reduceIte, reduceCtorEq, Nat.reduceAdd, Nat.reduceMul, Nat.reduceLeDiff, hlen, hxr1, hx2, e74]); rfl))
    | fail)
        refine wpr_appendS (yss := [spanV (runeF a, runeF (x.1 - 1))]) (k := 1) f1 rfl rfl (by rw [q1]; rfl) rfl (by simp [spanV]) (by decide) (by decide) (by decide) (by simp; omega) fun t' h3 f3 => ?_
        rw [hap] at f3
        have hx3 := fun lc => hxr2 lc h3 (hr.kp f3.kp)
        (repeat' first
    | (show WpR _ _ _ _ _ _ _ _ _
       first
       | refine wpr_drop ?_
       | refine wpr_p (o := .mv _) (by simp only [ev_mv, opd_s, opd_c, fget, Nat.reduceEqDiff, Nat.one_ne_zero, Nat.zero_ne_one, reduceCtorEq, ↓reduceIte]; rfl) ?_
       | (refine wpr_fork (fun _ => ?_) (fun _ => ?_) <;> try (exfalso; omega))
       | (refine wpr_forkN (fun _ => ?_) (fun _ => ?_) <;> try (exfalso; omega))
       | refine wpr_run rfl ?_
       | refine wpr_pass rfl rfl ?_
       | refine wpr_passS rfl ?_
       | ((first | apply wpr_p | apply wpr_r | apply wpr_callA | apply wpr_callA0 | apply wpr_e0 | apply wpr_e | apply wpr_end0); focus ((try simp (disch := omega) only [push_cast, Nat.reduceEqDiff, ↓reduceIte, reduceCtorEq, Nat.reduceAdd, Nat.reduceMul, Nat.reduceLeDiff, hlen, hx3, e74]); rfl))
       | refine wpr_pass0 rfl rfl ?_
       | refine wpr_pass0S rfl ?_
       | (apply wpr_end; (focus ((try simp (disch := omega) only [push_cast, Nat.reduceEqDiff, ↓reduceIte, reduceCtorEq, Nat.reduceAdd, Nat.reduceMul, Nat.reduceLeDiff, hlen, hx3, e74]); rfl)); (focus (simp (disch := omega) only [push_cast, Nat.reduceEqDiff, ↓reduceIte, reduceCtorEq, Nat.reduceAdd, Nat.reduceMul, Nat.reduceLeDiff, hlen, hx3, e74]; done)))
       | fail)
    | (show Wp _ _ _ _ _ _
       first
       | refine wp_seq ?_
       | refine wp_region0 ?_
       | refine wp_region ?_
       | refine wp_cond_t rfl ?_
       | refine wp_cond_f rfl ?_
       | refine wp_ret ?_
       | refine wp_skip ?_
       | refine wp_exit ?_
       | refine wp_block ?_
       | fail)
    | refine thenQ_norm ?_
    | refine thenQ_ret ?_
    | refine thenQ_exit ?_
    | refine blockQ_norm ?_
    | refine blockQ_ret ?_
    | refine blockQ_same ?_
    | refine blockQ_ne rfl ?_
    | refine loopQ_norm ?_
    | refine loopQ_ret ?_
    | refine loopQ_exit ?_
    | ((first | apply retQ_ret | apply retQ_norm | apply wpc_of); focus ((try simp (disch := omega) only [push_cast, Nat.reduceEqDiff, ↓reduceIte, reduceCtorEq, Nat.reduceAdd, Nat.reduceMul, Nat.reduceLeDiff, hlen, hx3, e74]); rfl))
    | fail)
        refine ⟨_, ?_, i + 1, t', acc ++ [(a, x.1)], x.2, rfl, by omega, rfl, rfl, f3, by simp; omega, hI', by omega, by omega⟩
        omega
    · have hI' : acc ++ negF x.2 (C.drop (i + 1)) = negF 0 C := by rw [← hI]; simp only [negF, if_neg g]
      (repeat' first
    | (show WpR _ _ _ _ _ _ _ _ _
       first
       | refine wpr_drop ?_
       | refine wpr_p (o := .mv _) (by simp only [ev_mv, opd_s, opd_c, fget, Nat.reduceEqDiff, Nat.one_ne_zero, Nat.zero_ne_one, reduceCtorEq, ↓reduceIte]; rfl) ?_
       | (refine wpr_fork (fun _ => ?_) (fun _ => ?_) <;> try (exfalso; omega))
       | (refine wpr_forkN (fun _ => ?_) (fun _ => ?_) <;> try (exfalso; omega))
       | refine wpr_run rfl ?_
       | refine wpr_pass rfl rfl ?_
       | refine wpr_passS rfl ?_
       | ((first | apply wpr_p | apply wpr_r | apply wpr_callA | apply wpr_callA0 | apply wpr_e0 | apply wpr_e | apply wpr_end0); focus ((try simp (disch := omega) only [push_cast, Nat.reduceEqDiff, ↓reduceIte, reduceCtorEq, Nat.reduceAdd, Nat.reduceMul, Nat.reduceLeDiff, hlen, hxr1, hx2, e74]); rfl))
       | refine wpr_pass0 rfl rfl ?_
       | refine wpr_pass0S rfl ?_
       | (apply wpr_end; (focus ((try simp (disch := omega) only [push_cast, Nat.reduceEqDiff, ↓reduceIte, reduceCtorEq, Nat.reduceAdd, Nat.reduceMul, Nat.reduceLeDiff, hlen, hxr1, hx2, e74]); rfl)); (focus (simp (disch := omega) only [push_cast, Nat.reduceEqDiff, ↓reduceIte, reduceCtorEq, Nat.reduceAdd, Nat.reduceMul, Nat.reduceLeDiff, hlen, hxr1, hx2, e74]; done)))
       | fail)
    | (show Wp _ _ _ _ _ _
       first
       | refine wp_seq ?_
       | refine wp_region0 ?_
       | refine wp_region ?_
       | refine wp_cond_t rfl ?_
       | refine wp_cond_f rfl ?_
       | refine wp_ret ?_
       | refine wp_skip ?_
       | refine wp_exit ?_
       | refine wp_block ?_
       | fail)
    | refine thenQ_norm ?_
    | refine thenQ_ret ?_
    | refine thenQ_exit ?_
    | refine blockQ_norm ?_
    | refine blockQ_ret ?_
    | refine blockQ_same ?_
    | refine blockQ_ne rfl ?_
    | refine loopQ_norm ?_
    | refine loopQ_ret ?_
    | refine loopQ_exit ?_
    | ((first | apply retQ_ret | apply retQ_norm | apply wpc_of); focus ((try simp (disch := omega) only [push_cast, Nat.reduceEqDiff, ↓reduceIte, reduceCtorEq, Nat.reduceAdd, Nat.reduceMul, Nat.reduceLeDiff, hlen, hxr1, hx2, e74]); rfl))
    | fail)
      refine ⟨_, ?_, i + 1, t, acc, x.2, rfl, by omega, rfl, rfl, f1, by omega, hI', by omega, by omega⟩
      omega
  · rw [List.drop_eq_nil_of_le (by omega)] at hI
    by_cases g : a < 1112064
    · have hap : (acc.map spanOf).map spanV ++ [spanV (runeF a, 1114111)] = ((acc ++ [(a, 1112064)]).map spanOf).map spanV := by simp [spanOf]; rfl
      have hI' : (acc ++ [(a, 1112064)]) = negF 0 C := by rw [← hI]; simp only [negF, if_pos g]
      (repeat' first
    | (show WpR _ _ _ _ _ _ _ _ _
       first
       | refine wpr_drop ?_
       | refine wpr_p (o := .mv _) (by simp only [ev_mv, opd_s, opd_c, fget, Nat.reduceEqDiff, Nat.one_ne_zero, Nat.zero_ne_one, reduceCtorEq, ↓reduceIte]; rfl) ?_
       | (refine wpr_fork (fun _ => ?_) (fun _ => ?_) <;> try (exfalso; omega))
       | (refine wpr_forkN (fun _ => ?_) (fun _ => ?_) <;> try (exfalso; omega))
       | refine wpr_run rfl ?_
       | refine wpr_pass rfl rfl ?_
       | refine wpr_passS rfl ?_
       | ((first | apply wpr_p | apply wpr_r | apply wpr_callA | apply wpr_callA0 | apply wpr_e0 | apply wpr_e | apply wpr_end0); focus ((try simp (disch := omega) only [push_cast, Nat.reduceEqDiff, ↓reduceIte, reduceCtorEq, Nat.reduceAdd, Nat.reduceMul, Nat.reduceLeDiff, hlen]); rfl))
       | refine wpr_pass0 rfl rfl ?_
       | refine wpr_pass0S rfl ?_
       | (apply wpr_end; (focus ((try simp (disch := omega) only [push_cast, Nat.reduceEqDiff, ↓reduceIte, reduceCtorEq, Nat.reduceAdd, Nat.reduceMul, Nat.reduceLeDiff, hlen]); rfl)); (focus (simp (disch := omega) only [push_cast, Nat.reduceEqDiff, ↓reduceIte, reduceCtorEq, Nat.reduceAdd, Nat.reduceMul, Nat.reduceLeDiff, hlen]; done)))
       | fail)
    | (show Wp _ _ _ _ _ _
       first
       | refine wp_seq ?_
       | refine wp_region0 ?_
       | refine wp_region ?_
       | refine wp_cond_t rfl ?_
       | refine wp_cond_f rfl ?_
       | refine wp_ret ?_
       | refine wp_skip ?_
       | refine wp_exit ?_
       | refine wp_block ?_
       | fail)
    | refine thenQ_norm ?_
    | refine thenQ_ret ?_
    | refine thenQ_exit ?_
    | refine blockQ_norm ?_
    | refine blockQ_ret ?_
    | refine blockQ_same ?_
    | refine blockQ_ne rfl ?_
    | refine loopQ_norm ?_
    | refine loopQ_ret ?_
    | refine loopQ_exit ?_
    | ((first | apply retQ_ret | apply retQ_norm | apply wpc_of); focus ((try simp (disch := omega) only [push_cast, Nat.reduceEqDiff, ↓reduceIte, reduceCtorEq, Nat.reduceAdd, Nat.reduceMul, Nat.reduceLeDiff, hlen]); rfl))
    | fail)
      refine wpr_appendS (yss := [spanV (runeF a, 1114111)]) (k := 1) f1 rfl rfl rfl rfl (by simp [spanV]) (by decide) (by decide) (by decide) (by simp; omega) fun t' h3 f3 => ?_
      rw [hap, hI'] at f3
      (repeat' first
    | (show WpR _ _ _ _ _ _ _ _ _
       first
       | refine wpr_drop ?_
       | refine wpr_p (o := .mv _) (by simp only [ev_mv, opd_s, opd_c, fget, Nat.reduceEqDiff, Nat.one_ne_zero, Nat.zero_ne_one, reduceCtorEq, ↓reduceIte]; rfl) ?_
       | (refine wpr_fork (fun _ => ?_) (fun _ => ?_) <;> try (exfalso; omega))
       | (refine wpr_forkN (fun _ => ?_) (fun _ => ?_) <;> try (exfalso; omega))
       | refine wpr_run rfl ?_
       | refine wpr_pass rfl rfl ?_
       | refine wpr_passS rfl ?_
       | ((first | apply wpr_p | apply wpr_r | apply wpr_callA | apply wpr_callA0 | apply wpr_e0 | apply wpr_e | apply wpr_end0); focus ((try simp (disch := omega) only [push_cast, Nat.reduceEqDiff, ↓reduceIte, reduceCtorEq, Nat.reduceAdd, Nat.reduceMul, Nat.reduceLeDiff]); rfl))
       | refine wpr_pass0 rfl rfl ?_
       | refine wpr_pass0S rfl ?_
       | (apply wpr_end; (focus ((try simp (disch := omega) only [push_cast, Nat.reduceEqDiff, ↓reduceIte, reduceCtorEq, Nat.reduceAdd, Nat.reduceMul, Nat.reduceLeDiff]); rfl)); (focus (simp (disch := omega) only [push_cast, Nat.reduceEqDiff, ↓reduceIte, reduceCtorEq, Nat.reduceAdd, Nat.reduceMul, Nat.reduceLeDiff]; done)))
       | fail)
    | (show Wp _ _ _ _ _ _
       first
       | refine wp_seq ?_
       | refine wp_region0 ?_
       | refine wp_region ?_
       | refine wp_cond_t rfl ?_
       | refine wp_cond_f rfl ?_
       | refine wp_ret ?_
       | refine wp_skip ?_
       | refine wp_exit ?_
       | refine wp_block ?_
       | fail)
    | refine thenQ_norm ?_
    | refine thenQ_ret ?_
    | refine thenQ_exit ?_
    | refine blockQ_norm ?_
    | refine blockQ_ret ?_
    | refine blockQ_same ?_
    | refine blockQ_ne rfl ?_
    | refine loopQ_norm ?_
    | refine loopQ_ret ?_
    | refine loopQ_exit ?_
    | ((first | apply retQ_ret | apply retQ_norm | apply wpc_of); focus ((try simp (disch := omega) only [push_cast, Nat.reduceEqDiff, ↓reduceIte, reduceCtorEq, Nat.reduceAdd, Nat.reduceMul, Nat.reduceLeDiff]); rfl))
    | fail)
      exact ⟨t', rfl, f3⟩
    · have hI' : acc = negF 0 C := by rw [← hI]; simp only [negF, if_neg g, List.append_nil]
      (repeat' first
    | (show WpR _ _ _ _ _ _ _ _ _
       first
       | refine wpr_drop ?_
       | refine wpr_p (o := .mv _) (by simp only [ev_mv, opd_s, opd_c, fget, Nat.reduceEqDiff, Nat.one_ne_zero, Nat.zero_ne_one, reduceCtorEq, ↓reduceIte]; rfl) ?_
       | (refine wpr_fork (fun _ => ?_) (fun _ => ?_) <;> try (exfalso; omega))
       | (refine wpr_forkN (fun _ => ?_) (fun _ => ?_) <;> try (exfalso; omega))
       | refine wpr_run rfl ?_
       | refine wpr_pass rfl rfl ?_
       | refine wpr_passS rfl ?_
       | ((first | apply wpr_p | apply wpr_r | apply wpr_callA | apply wpr_callA0 | apply wpr_e0 | apply wpr_e | apply wpr_end0); focus ((try simp (disch := omega) only [push_cast, Nat.reduceEqDiff, ↓reduceIte, reduceCtorEq, Nat.reduceAdd, Nat.reduceMul, Nat.reduceLeDiff, hlen]); rfl))
       | refine wpr_pass0 rfl rfl ?_
       | refine wpr_pass0S rfl ?_
       | (apply wpr_end; (focus ((try simp (disch := omega) only [push_cast, Nat.reduceEqDiff, ↓reduceIte, reduceCtorEq, Nat.reduceAdd, Nat.reduceMul, Nat.reduceLeDiff, hlen]); rfl)); (focus (simp (disch := omega) only [push_cast, Nat.reduceEqDiff, ↓reduceIte, reduceCtorEq, Nat.reduceAdd, Nat.reduceMul, Nat.reduceLeDiff, hlen]; done)))
       | fail)
    | (show Wp _ _ _ _ _ _
       first
       | refine wp_seq ?_
       | refine wp_region0 ?_
       | refine wp_region ?_
       | refine wp_cond_t rfl ?_
       | refine wp_cond_f rfl ?_
       | refine wp_ret ?_
       | refine wp_skip ?_
       | refine wp_exit ?_
       | refine wp_block ?_
       | fail)
    | refine thenQ_norm ?_
    | refine thenQ_ret ?_
    | refine thenQ_exit ?_
    | refine blockQ_norm ?_
    | refine blockQ_ret ?_
    | refine blockQ_same ?_
    | refine blockQ_ne rfl ?_
    | refine loopQ_norm ?_
    | refine loopQ_ret ?_
    | refine loopQ_exit ?_
    | ((first | apply retQ_ret | apply retQ_norm | apply wpc_of); focus ((try simp (disch := omega) only [push_cast, Nat.reduceEqDiff, ↓reduceIte, reduceCtorEq, Nat.reduceAdd, Nat.reduceMul, Nat.reduceLeDiff, hlen]); rfl))
    | fail)
      exact ⟨t, rfl, by rw [← hI']; exact f1⟩

/-! ### Meet -/

def interS (x : Int × Int) (m : List (Int × Int)) : List (Int × Int) := m.filterMap fun y => if max x.1 y.1 ≤ min x.2 y.2 then some (max x.1 y.1, min x.2 y.2) else none
def allS (l m : List (Int × Int)) : List (Int × Int) := l.flatMap fun x => interS x m

theorem interS_len (x : Int × Int) (m : List (Int × Int)) : (interS x m).length ≤ m.length := List.length_filterMap_le _ _
theorem allS_mem {l m : List (Int × Int)} {z : Int × Int} : z ∈ allS l m ↔ ∃ x ∈ l, ∃ y ∈ m, max x.1 y.1 ≤ min x.2 y.2 ∧ z = (max x.1 y.1, min x.2 y.2) := by
  unfold allS interS
  simp only [List.mem_flatMap, List.mem_filterMap]
  constructor
  · rintro ⟨x, hx, y, hy, h⟩
    split at h
    · rename_i g; injection h with h; exact ⟨x, hx, y, hy, g, h.symm⟩
    · cases h
  · rintro ⟨x, hx, y, hy, g, rfl⟩
    exact ⟨x, hx, y, hy, by rw [if_pos g]⟩
theorem runeF_max (p q : Int) : max (runeF p) (runeF q) = runeF (max p q) := by
  have := runeF_or p; have := runeF_or q; have := runeF_or (max p q); omega
theorem runeF_min (p q : Int) : min (runeF (p - 1)) (runeF (q - 1)) = runeF (min p q - 1) := by
  have := runeF_or (p - 1); have := runeF_or (q - 1); have := runeF_or (min p q - 1); omega
theorem runeF_le (p q : Int) : runeF p ≤ runeF (q - 1) ↔ p < q := by
  have := runeF_or p; have := runeF_or (q - 1); omega
theorem allS_spans {A B : List (Int × Int)} (hA : SetC A) (hB : SetC B) : (∀ x ∈ allS (A.map spanOf) (B.map spanOf), RightS x) ∧ ∀ z, InR z ((allS (A.map spanOf) (B.map spanOf)).map rowOf) ↔ InR z A ∧ InR z B := by
  have key : ∀ x, x ∈ allS (A.map spanOf) (B.map spanOf) ↔ ∃ a ∈ A, ∃ b ∈ B, max a.1 b.1 < min a.2 b.2 ∧ x = spanOf (max a.1 b.1, min a.2 b.2) := fun x => by
    rw [allS_mem]
    constructor
    · rintro ⟨x, hx, y, hy, h, rfl⟩
      obtain ⟨a, ha, rfl⟩ := List.mem_map.1 hx
      obtain ⟨b, hb, rfl⟩ := List.mem_map.1 hy
      simp only [spanOf, runeF_max, runeF_min, runeF_le] at h ⊢
      exact ⟨a, ha, b, hb, h, rfl⟩
    · rintro ⟨a, ha, b, hb, h, rfl⟩
      refine ⟨_, List.mem_map_of_mem ha, _, List.mem_map_of_mem hb, ?_⟩
      simp only [spanOf, runeF_max, runeF_min, runeF_le]
      exact ⟨h, trivial⟩
  refine ⟨fun x hx => ?_, fun z => ⟨fun ⟨x, hx, hz⟩ => ?_, fun ⟨⟨a, ha, h1⟩, ⟨b, hb, h2⟩⟩ => ?_⟩⟩
  · obtain ⟨a, ha, b, hb, h, rfl⟩ := (key x).1 hx
    have := hA.bnd a ha
    have := hB.bnd b hb
    exact right_spanOf (by simp only; omega)
  · obtain ⟨y, hy, rfl⟩ := List.mem_map.1 hx
    obtain ⟨a, ha, b, hb, h, rfl⟩ := (key y).1 hy
    have := hA.bnd a ha
    have := hB.bnd b hb
    rw [rowOf_spanOf (by simp only; omega)] at hz
    exact ⟨⟨a, ha, by simp only at hz; omega⟩, ⟨b, hb, by simp only at hz; omega⟩⟩
  · have := hA.bnd a ha
    have := hB.bnd b hb
    refine ⟨_, List.mem_map_of_mem ((key _).2 ⟨a, ha, b, hb, by omega, rfl⟩), ?_⟩
    rw [rowOf_spanOf (by simp only; omega)]
    simp only; omega

set_option maxHeartbeats 1000000 in
theorem refMeet_spec {A B : List (Int × Int)} {s t : Sl} {h : AH} (hr : Reads h 2 s ((A.map spanOf).map spanV)) (ht : Reads h 2 t ((B.map spanOf).map spanV)) (hA : SetC A) (hB : SetC B) (hn : A.length < 1000) (hm : B.length < 1000) :
    WpC PS 56 [s.val 2, t.val 2] h fun v h' => ∃ u, v = Sl.val 2 u ∧ FOwn h h' 2 u (((meetF A B).map spanOf).map spanV) := by
  obtain ⟨hR, hcov⟩ := allS_spans hA hB
  have hcov' : ∀ z, InR z (meetF A B) ↔ InR z ((allS (A.map spanOf) (B.map spanOf)).map rowOf) := fun z => by rw [meet_in hA hB, hcov]
  have hML := meetF_length (l := A) (m := B)
  have hMc := (hA.meet hB).can
  generalize meetF A B = M at hcov' hML hMc ⊢
  have hn' : (A.map spanOf).length < 1000 := by simpa using hn
  have hm' : (B.map spanOf).length < 1000 := by simpa using hm
  generalize A.map spanOf = l at hr hR hcov' hn'
  generalize B.map spanOf = m at ht hR hcov' hm'
  clear hcov
  have hlen := hr.len
  have hlen' := ht.len
  refine wpc_fn (ps_ext rfl) (ps_fn fn56) rfl ?_
  unfold LF56
  simp only [argFr]
  (repeat' first
    | (show WpR _ _ _ _ _ _ _ _ _
       first
       | refine wpr_drop ?_
       | refine wpr_p (o := .mv _) (by simp only [ev_mv, opd_s, opd_c, fget, Nat.reduceEqDiff, Nat.one_ne_zero, Nat.zero_ne_one, reduceCtorEq, ↓reduceIte]; rfl) ?_
       | (refine wpr_fork (fun _ => ?_) (fun _ => ?_) <;> try (exfalso; omega))
       | (refine wpr_forkN (fun _ => ?_) (fun _ => ?_) <;> try (exfalso; omega))
       | refine wpr_run rfl ?_
       | refine wpr_pass rfl rfl ?_
       | refine wpr_passS rfl ?_
       | ((first | apply wpr_p | apply wpr_r | apply wpr_callA | apply wpr_callA0 | apply wpr_e0 | apply wpr_e | apply wpr_end0); focus ((try simp (disch := omega) only [push_cast, Nat.reduceEqDiff, ↓reduceIte, reduceCtorEq, Nat.reduceAdd, Nat.reduceMul, Nat.reduceLeDiff, hlen, hlen']); rfl))
       | refine wpr_pass0 rfl rfl ?_
       | refine wpr_pass0S rfl ?_
       | (apply wpr_end; (focus ((try simp (disch := omega) only [push_cast, Nat.reduceEqDiff, ↓reduceIte, reduceCtorEq, Nat.reduceAdd, Nat.reduceMul, Nat.reduceLeDiff, hlen, hlen']); rfl)); (focus (simp (disch := omega) only [push_cast, Nat.reduceEqDiff, ↓reduceIte, reduceCtorEq, Nat.reduceAdd, Nat.reduceMul, Nat.reduceLeDiff, hlen, hlen']; done)))
       | fail)
    | (show Wp _ _ _ _ _ _
       first
       | refine wp_seq ?_
       | refine wp_region0 ?_
       | refine wp_region ?_
       | refine wp_cond_t rfl ?_
       | refine wp_cond_f rfl ?_
       | refine wp_ret ?_
       | refine wp_skip ?_
       | refine wp_exit ?_
       | refine wp_block ?_
       | fail)
    | refine thenQ_norm ?_
    | refine thenQ_ret ?_
    | refine thenQ_exit ?_
    | refine blockQ_norm ?_
    | refine blockQ_ret ?_
    | refine blockQ_same ?_
    | refine blockQ_ne rfl ?_
    | refine loopQ_norm ?_
    | refine loopQ_ret ?_
    | refine loopQ_exit ?_
    | ((first | apply retQ_ret | apply retQ_norm | apply wpc_of); focus ((try simp (disch := omega) only [push_cast, Nat.reduceEqDiff, ↓reduceIte, reduceCtorEq, Nat.reduceAdd, Nat.reduceMul, Nat.reduceLeDiff, hlen, hlen']); rfl))
    | fail)
  refine wp_loop (fun n fr lc h1 => ∃ (i : Nat) (u : Sl) (acc : List (Int × Int)), n = l.length - i ∧ i ≤ l.length ∧ fr = [(0, s.val 2), (1, t.val 2), (5, u.val 2), (6, .int .i64 i)] ∧ lc = [] ∧
      FOwn h h1 2 u (acc.map spanV) ∧ acc.length ≤ i * m.length ∧ acc ++ allS (l.drop i) m = allS l m)
    l.length ⟨0, .nil, [], rfl, Nat.zero_le _, rfl, rfl, FOwn.nil (Kp.refl h), by simp, rfl⟩ ?_
  rintro n fr lc h1 ⟨i, u, acc, rfl, hi, rfl, rfl, f1, hal, hI⟩
  rcases Nat.lt_or_ge i l.length with hil | hil
  · rw [List.drop_eq_getElem_cons hil] at hI
    have hxr : ∀ lc h2, Kp h h2 → Mem.rd ⟨lc, h2⟩ (s.adr 2 i) 2 = some (spanV l[i]) := fun lc h2 k => rd_map (hr.kp k) hil
    generalize l[i] = x at hI hxr
    have hcons : allS (x :: l.drop (i + 1)) m = interS x m ++ allS (l.drop (i + 1)) m := by simp [allS]
    rw [hcons] at hI
    have him : i * m.length ≤ 1000 * 1000 := Nat.mul_le_mul (by omega) (by omega)
    (repeat' first
    | (show WpR _ _ _ _ _ _ _ _ _
       first
       | refine wpr_drop ?_
       | refine wpr_p (o := .mv _) (by simp only [ev_mv, opd_s, opd_c, fget, Nat.reduceEqDiff, Nat.one_ne_zero, Nat.zero_ne_one, reduceCtorEq, ↓reduceIte]; rfl) ?_
       | (refine wpr_fork (fun _ => ?_) (fun _ => ?_) <;> try (exfalso; omega))
       | (refine wpr_forkN (fun _ => ?_) (fun _ => ?_) <;> try (exfalso; omega))
       | refine wpr_run rfl ?_
       | refine wpr_pass rfl rfl ?_
       | refine wpr_passS rfl ?_
       | ((first | apply wpr_p | apply wpr_r | apply wpr_callA | apply wpr_callA0 | apply wpr_e0 | apply wpr_e | apply wpr_end0); focus ((try simp (disch := omega) only [push_cast, Nat.reduceEqDiff, ↓reduceIte, reduceCtorEq, Nat.reduceAdd, Nat.reduceMul, Nat.reduceLeDiff, hlen, hlen']); rfl))
       | refine wpr_pass0 rfl rfl ?_
       | refine wpr_pass0S rfl ?_
       | (apply wpr_end; (focus ((try simp (disch := omega) only [push_cast, Nat.reduceEqDiff, ↓reduceIte, reduceCtorEq, Nat.reduceAdd, Nat.reduceMul, Nat.reduceLeDiff, hlen, hlen']); rfl)); (focus (simp (disch := omega) only [push_cast, Nat.reduceEqDiff, ↓reduceIte, reduceCtorEq, Nat.reduceAdd, Nat.reduceMul, Nat.reduceLeDiff, hlen, hlen']; done)))
       | fail)
    | (show Wp _ _ _ _ _ _
       first
       | refine wp_seq ?_
       | refine wp_region0 ?_
       | refine wp_region ?_
       | refine wp_cond_t rfl ?_
       | refine wp_cond_f rfl ?_
       | refine wp_ret ?_
       | refine wp_skip ?_
       | refine wp_exit ?_
       | refine wp_block ?_
       | fail)
    | refine thenQ_norm ?_
    | refine thenQ_ret ?_
    | refine thenQ_exit ?_
    | refine blockQ_norm ?_
    | refine blockQ_ret ?_
    | refine blockQ_same ?_
    | refine blockQ_ne rfl ?_
    | refine loopQ_norm ?_
    | refine loopQ_ret ?_
    | refine loopQ_exit ?_
    | ((first | apply retQ_ret | apply retQ_norm | apply wpc_of); focus ((try simp (disch := omega) only [push_cast, Nat.reduceEqDiff, ↓reduceIte, reduceCtorEq, Nat.reduceAdd, Nat.reduceMul, Nat.reduceLeDiff, hlen, hlen']); rfl))
    | fail)
    refine wp_loop (fun n fr lc h1 => ∃ (j : Nat) (u : Sl) (acc : List (Int × Int)), n = m.length - j ∧ j ≤ m.length ∧ fr = [(0, s.val 2), (1, t.val 2), (5, u.val 2), (6, .int .i64 i), (7, .int .i64 j)] ∧ lc = [] ∧
        FOwn h h1 2 u (acc.map spanV) ∧ acc.length ≤ i * m.length + j ∧ acc ++ (interS x (m.drop j) ++ allS (l.drop (i + 1)) m) = allS l m)
      m.length ⟨0, u, acc, rfl, Nat.zero_le _, rfl, rfl, f1, by omega, by simpa using hI⟩ ?_
    clear hI f1 hal u acc h1
    rintro n fr lc h1 ⟨j, u, acc, rfl, hj, rfl, rfl, f1, hal, hI⟩
    rcases Nat.lt_or_ge j m.length with hjl | hjl
    · rw [List.drop_eq_getElem_cons hjl] at hI
      have hx := fun lc => hxr lc h1 f1.kp
      have hy1 : ∀ lc, Mem.rd ⟨lc, h1⟩ (ptrOff (t.adr 2 j) 0) 1 = some [.int .i32 (m[j]).1] := fun lc => by
        have := rd_mapc (lc := lc) (k := 0) (ht.kp f1.kp) hjl (by decide)
        simpa [spanV] using this
      have hy2 : ∀ lc, Mem.rd ⟨lc, h1⟩ (ptrOff (t.adr 2 j) 1) 1 = some [.int .i32 (m[j]).2] := fun lc => by
        have := rd_mapc (lc := lc) (k := 1) (ht.kp f1.kp) hjl (by decide)
        simpa [spanV] using this
      generalize m[j] = y at hI hy1 hy2
      have hap : ∀ z : Int × Int, acc.map spanV ++ [spanV z] = (acc ++ [z]).map spanV := fun z => by simp
      have hI1 : max x.1 y.1 ≤ min x.2 y.2 → (acc ++ [(max x.1 y.1, min x.2 y.2)]) ++ (interS x (m.drop (j + 1)) ++ allS (l.drop (i + 1)) m) = allS l m := fun g => by
        rw [← hI]; unfold interS; simp only [List.filterMap_cons, if_pos g, List.append_assoc, List.cons_append, List.nil_append]
      have hI2 : ¬ max x.1 y.1 ≤ min x.2 y.2 → acc ++ (interS x (m.drop (j + 1)) ++ allS (l.drop (i + 1)) m) = allS l m := fun g => by
        rw [← hI]; unfold interS; simp only [List.filterMap_cons, if_neg g]
      have hmx : ∀ a b : Int, a < b → max a b = b := fun a b _ => by omega
      rcases Int.lt_or_le x.1 y.1 with g1 | g1 <;> rcases Int.lt_or_le y.2 x.2 with g2 | g2
      all_goals
        first
          | (have q1 : max x.1 y.1 = y.1 := by omega)
          | (have q1 : max x.1 y.1 = x.1 := by omega)
        first
          | (have q2 : min x.2 y.2 = y.2 := by omega)
          | (have q2 : min x.2 y.2 = x.2 := by omega)
        rw [q1, q2] at hI1 hI2
        (repeat' first
    | (show WpR _ _ _ _ _ _ _ _ _
       first
       | refine wpr_drop ?_
       | refine wpr_p (o := .mv _) (by simp only [ev_mv, opd_s, opd_c, fget, Nat.reduceEqDiff, Nat.one_ne_zero, Nat.zero_ne_one, reduceCtorEq, ↓reduceIte]; rfl) ?_
       | (refine wpr_fork (fun _ => ?_) (fun _ => ?_) <;> try (exfalso; omega))
       | (refine wpr_forkN (fun _ => ?_) (fun _ => ?_) <;> try (exfalso; omega))
       | refine wpr_run rfl ?_
       | refine wpr_pass rfl rfl ?_
       | refine wpr_passS rfl ?_
       | ((first | apply wpr_p | apply wpr_r | apply wpr_callA | apply wpr_callA0 | apply wpr_e0 | apply wpr_e | apply wpr_end0); focus ((try simp (disch := omega) only [push_cast, Nat.reduceEqDiff, ↓reduceIte, reduceCtorEq, Nat.reduceAdd, Nat.reduceMul, Nat.reduceLeDiff, hlen, hlen', hx, hy1, hy2, spanV]); rfl))
       | refine wpr_pass0 rfl rfl ?_
       | refine wpr_pass0S rfl ?_
       | (apply wpr_end; (focus ((try simp (disch := omega) only [push_cast, Nat.reduceEqDiff, ↓reduceIte, reduceCtorEq, Nat.reduceAdd, Nat.reduceMul, Nat.reduceLeDiff, hlen, hlen', hx, hy1, hy2, spanV]); rfl)); (focus (simp (disch := omega) only [push_cast, Nat.reduceEqDiff, ↓reduceIte, reduceCtorEq, Nat.reduceAdd, Nat.reduceMul, Nat.reduceLeDiff, hlen, hlen', hx, hy1, hy2, spanV]; done)))
       | fail)
    | (show Wp _ _ _ _ _ _
       first
       | refine wp_seq ?_
       | refine wp_region0 ?_
       | refine wp_region ?_
       | refine wp_cond_t rfl ?_
       | refine wp_cond_f rfl ?_
       | refine wp_ret ?_
       | refine wp_skip ?_
       | refine wp_exit ?_
       | refine wp_block ?_
       | fail)
    | refine thenQ_norm ?_
    | refine thenQ_ret ?_
    | refine thenQ_exit ?_
    | refine blockQ_norm ?_
    | refine blockQ_ret ?_
    | refine blockQ_same ?_
    | refine blockQ_ne rfl ?_
    | refine loopQ_norm ?_
    | refine loopQ_ret ?_
    | refine loopQ_exit ?_
    | ((first | apply retQ_ret | apply retQ_norm | apply wpc_of); focus ((try simp (disch := omega) only [push_cast, Nat.reduceEqDiff, ↓reduceIte, reduceCtorEq, Nat.reduceAdd, Nat.reduceMul, Nat.reduceLeDiff, hlen, hlen', hx, hy1, hy2, spanV]); rfl))
    | fail)
      all_goals
        first
          | (refine wpr_appendS (yss := [spanV (x.1, x.2)]) (k := 1) f1 rfl rfl rfl rfl (by simp [spanV]) (by decide) (by decide) (by decide) (by simp; omega) fun t' h3 f3 => ?_
             rw [hap] at f3
             (repeat' first
    | (show WpR _ _ _ _ _ _ _ _ _
       first
       | refine wpr_drop ?_
       | refine wpr_p (o := .mv _) (by simp only [ev_mv, opd_s, opd_c, fget, Nat.reduceEqDiff, Nat.one_ne_zero, Nat.zero_ne_one, reduceCtorEq, ↓reduceIte]; rfl) ?_
       | (refine wpr_fork (fun _ => ?_) (fun _ => ?_) <;> try (exfalso; omega))
       | (refine wpr_forkN (fun _ => ?_) (fun _ => ?_) <;> try (exfalso; omega))
       | refine wpr_run rfl ?_
       | refine wpr_pass rfl rfl ?_
       | refine wpr_passS rfl ?_
       | ((first | apply wpr_p | apply wpr_r | apply wpr_callA | apply wpr_callA0 | apply wpr_e0 | apply wpr_e | apply wpr_end0); focus ((try simp (disch := omega) only [push_cast, Nat.reduceEqDiff, ↓reduceIte, reduceCtorEq, Nat.reduceAdd, Nat.reduceMul, Nat.reduceLeDiff]); rfl))
       | refine wpr_pass0 rfl rfl ?_
       | refine wpr_pass0S rfl ?_
       | (apply wpr_end; (focus ((try simp (disch := omega) only [push_cast, Nat.reduceEqDiff, ↓reduceIte, reduceCtorEq, Nat.reduceAdd, Nat.reduceMul, Nat.reduceLeDiff]); rfl)); (focus (simp (disch := omega) only [push_cast, Nat.reduceEqDiff, ↓reduceIte, reduceCtorEq, Nat.reduceAdd, Nat.reduceMul, Nat.reduceLeDiff]; done)))
       | fail)
    | (show Wp _ _ _ _ _ _
       first
       | refine wp_seq ?_
       | refine wp_region0 ?_
       | refine wp_region ?_
       | refine wp_cond_t rfl ?_
       | refine wp_cond_f rfl ?_
       | refine wp_ret ?_
       | refine wp_skip ?_
       | refine wp_exit ?_
       | refine wp_block ?_
       | fail)
    | refine thenQ_norm ?_
    | refine thenQ_ret ?_
    | refine thenQ_exit ?_
    | refine blockQ_norm ?_
    | refine blockQ_ret ?_
    | refine blockQ_same ?_
    | refine blockQ_ne rfl ?_
    | refine loopQ_norm ?_
    | refine loopQ_ret ?_
    | refine loopQ_exit ?_
    | ((first | apply retQ_ret | apply retQ_norm | apply wpc_of); focus ((try simp (disch := omega) only [push_cast, Nat.reduceEqDiff, ↓reduceIte, reduceCtorEq, Nat.reduceAdd, Nat.reduceMul, Nat.reduceLeDiff]); rfl))
    | fail)
             exact ⟨_, by omega, j + 1, t', _, rfl, by omega, rfl, rfl, f3, by simp; omega, hI1 (by omega)⟩)
          | (refine wpr_appendS (yss := [spanV (x.1, y.2)]) (k := 1) f1 rfl rfl rfl rfl (by simp [spanV]) (by decide) (by decide) (by decide) (by simp; omega) fun t' h3 f3 => ?_
             rw [hap] at f3
             (repeat' first
    | (show WpR _ _ _ _ _ _ _ _ _
       first
       | refine wpr_drop ?_
       | refine wpr_p (o := .mv _) (by simp only [ev_mv, opd_s, opd_c, fget, Nat.reduceEqDiff, Nat.one_ne_zero, Nat.zero_ne_one, reduceCtorEq, ↓reduceIte]; rfl) ?_
       | (refine wpr_fork (fun _ => ?_) (fun _ => ?_) <;> try (exfalso; omega))
       | (refine wpr_forkN (fun _ => ?_) (fun _ => ?_) <;> try (exfalso; omega))
       | refine wpr_run rfl ?_
       | refine wpr_pass rfl rfl ?_
       | refine wpr_passS rfl ?_
       | ((first | apply wpr_p | apply wpr_r | apply wpr_callA | apply wpr_callA0 | apply wpr_e0 | apply wpr_e | apply wpr_end0); focus ((try simp (disch := omega) only [push_cast, Nat.reduceEqDiff, ↓reduceIte, reduceCtorEq, Nat.reduceAdd, Nat.reduceMul, Nat.reduceLeDiff]); rfl))
       | refine wpr_pass0 rfl rfl ?_
       | refine wpr_pass0S rfl ?_
       | (apply wpr_end; (focus ((try simp (disch := omega) only [push_cast, Nat.reduceEqDiff, ↓reduceIte, reduceCtorEq, Nat.reduceAdd, Nat.reduceMul, Nat.reduceLeDiff]); rfl)); (focus (simp (disch := omega) only [push_cast, Nat.reduceEqDiff, ↓reduceIte, reduceCtorEq, Nat.reduceAdd, Nat.reduceMul, Nat.reduceLeDiff]; done)))
       | fail)
    | (show Wp _ _ _ _ _ _
       first
       | refine wp_seq ?_
       | refine wp_region0 ?_
       | refine wp_region ?_
       | refine wp_cond_t rfl ?_
       | refine wp_cond_f rfl ?_
       | refine wp_ret ?_
       | refine wp_skip ?_
       | refine wp_exit ?_
       | refine wp_block ?_
       | fail)
    | refine thenQ_norm ?_
    | refine thenQ_ret ?_
    | refine thenQ_exit ?_
    | refine blockQ_norm ?_
    | refine blockQ_ret ?_
    | refine blockQ_same ?_
    | refine blockQ_ne rfl ?_
    | refine loopQ_norm ?_
    | refine loopQ_ret ?_
    | refine loopQ_exit ?_
    | ((first | apply retQ_ret | apply retQ_norm | apply wpc_of); focus ((try simp (disch := omega) only [push_cast, Nat.reduceEqDiff, ↓reduceIte, reduceCtorEq, Nat.reduceAdd, Nat.reduceMul, Nat.reduceLeDiff]); rfl))
    | fail)
             exact ⟨_, by omega, j + 1, t', _, rfl, by omega, rfl, rfl, f3, by simp; omega, hI1 (by omega)⟩)
          | (refine wpr_appendS (yss := [spanV (y.1, x.2)]) (k := 1) f1 rfl rfl rfl rfl (by simp [spanV]) (by decide) (by decide) (by decide) (by simp; omega) fun t' h3 f3 => ?_
             rw [hap] at f3
             (repeat' first
    | (show WpR _ _ _ _ _ _ _ _ _
       first
       | refine wpr_drop ?_
       | refine wpr_p (o := .mv _) (by simp only [ev_mv, opd_s, opd_c, fget, Nat.reduceEqDiff, Nat.one_ne_zero, Nat.zero_ne_one, reduceCtorEq, ↓reduceIte]; rfl) ?_
       | (refine wpr_fork (fun _ => ?_) (fun _ => ?_) <;> try (exfalso; omega))
       | (refine wpr_forkN (fun _ => ?_) (fun _ => ?_) <;> try (exfalso; omega))
       | refine wpr_run rfl ?_
       | refine wpr_pass rfl rfl ?_
       | refine wpr_passS rfl ?_
       | ((first | apply wpr_p | apply wpr_r | apply wpr_callA | apply wpr_callA0 | apply wpr_e0 | apply wpr_e | apply wpr_end0); focus ((try simp (disch := omega) only [push_cast, Nat.reduceEqDiff, ↓reduceIte, reduceCtorEq, Nat.reduceAdd, Nat.reduceMul, Nat.reduceLeDiff]); rfl))
       | refine wpr_pass0 rfl rfl ?_
       | refine wpr_pass0S rfl ?_
       | (apply wpr_end; (focus ((try simp (disch := omega) only [push_cast, Nat.reduceEqDiff, ↓reduceIte, reduceCtorEq, Nat.reduceAdd, Nat.reduceMul, Nat.reduceLeDiff]); rfl)); (focus (simp (disch := omega) only [push_cast, Nat.reduceEqDiff, ↓reduceIte, reduceCtorEq, Nat.reduceAdd, Nat.reduceMul, Nat.reduceLeDiff]; done)))
       | fail)
    | (show Wp _ _ _ _ _ _
       first
       | refine wp_seq ?_
       | refine wp_region0 ?_
       | refine wp_region ?_
       | refine wp_cond_t rfl ?_
       | refine wp_cond_f rfl ?_
       | refine wp_ret ?_
       | refine wp_skip ?_
       | refine wp_exit ?_
       | refine wp_block ?_
       | fail)
    | refine thenQ_norm ?_
    | refine thenQ_ret ?_
    | refine thenQ_exit ?_
    | refine blockQ_norm ?_
    | refine blockQ_ret ?_
    | refine blockQ_same ?_
    | refine blockQ_ne rfl ?_
    | refine loopQ_norm ?_
    | refine loopQ_ret ?_
    | refine loopQ_exit ?_
    | ((first | apply retQ_ret | apply retQ_norm | apply wpc_of); focus ((try simp (disch := omega) only [push_cast, Nat.reduceEqDiff, ↓reduceIte, reduceCtorEq, Nat.reduceAdd, Nat.reduceMul, Nat.reduceLeDiff]); rfl))
    | fail)
             exact ⟨_, by omega, j + 1, t', _, rfl, by omega, rfl, rfl, f3, by simp; omega, hI1 (by omega)⟩)
          | (refine wpr_appendS (yss := [spanV (y.1, y.2)]) (k := 1) f1 rfl rfl rfl rfl (by simp [spanV]) (by decide) (by decide) (by decide) (by simp; omega) fun t' h3 f3 => ?_
             rw [hap] at f3
             (repeat' first
    | (show WpR _ _ _ _ _ _ _ _ _
       first
       | refine wpr_drop ?_
       | refine wpr_p (o := .mv _) (by simp only [ev_mv, opd_s, opd_c, fget, Nat.reduceEqDiff, Nat.one_ne_zero, Nat.zero_ne_one, reduceCtorEq, ↓reduceIte]; rfl) ?_
       | (refine wpr_fork (fun _ => ?_) (fun _ => ?_) <;> try (exfalso; omega))
       | (refine wpr_forkN (fun _ => ?_) (fun _ => ?_) <;> try (exfalso; omega))
       | refine wpr_run rfl ?_
       | refine wpr_pass rfl rfl ?_
       | refine wpr_passS rfl ?_
       | ((first | apply wpr_p | apply wpr_r | apply wpr_callA | apply wpr_callA0 | apply wpr_e0 | apply wpr_e | apply wpr_end0); focus ((try simp (disch := omega) only [push_cast, Nat.reduceEqDiff, ↓reduceIte, reduceCtorEq, Nat.reduceAdd, Nat.reduceMul, Nat.reduceLeDiff]); rfl))
       | refine wpr_pass0 rfl rfl ?_
       | refine wpr_pass0S rfl ?_
       | (apply wpr_end; (focus ((try simp (disch := omega) only [push_cast, Nat.reduceEqDiff, ↓reduceIte, reduceCtorEq, Nat.reduceAdd, Nat.reduceMul, Nat.reduceLeDiff]); rfl)); (focus (simp (disch := omega) only [push_cast, Nat.reduceEqDiff, ↓reduceIte, reduceCtorEq, Nat.reduceAdd, Nat.reduceMul, Nat.reduceLeDiff]; done)))
       | fail)
    | (show Wp _ _ _ _ _ _
       first
       | refine wp_seq ?_
       | refine wp_region0 ?_
       | refine wp_region ?_
       | refine wp_cond_t rfl ?_
       | refine wp_cond_f rfl ?_
       | refine wp_ret ?_
       | refine wp_skip ?_
       | refine wp_exit ?_
       | refine wp_block ?_
       | fail)
    | refine thenQ_norm ?_
    | refine thenQ_ret ?_
    | refine thenQ_exit ?_
    | refine blockQ_norm ?_
    | refine blockQ_ret ?_
    | refine blockQ_same ?_
    | refine blockQ_ne rfl ?_
    | refine loopQ_norm ?_
    | refine loopQ_ret ?_
    | refine loopQ_exit ?_
    | ((first | apply retQ_ret | apply retQ_norm | apply wpc_of); focus ((try simp (disch := omega) only [push_cast, Nat.reduceEqDiff, ↓reduceIte, reduceCtorEq, Nat.reduceAdd, Nat.reduceMul, Nat.reduceLeDiff]); rfl))
    | fail)
             exact ⟨_, by omega, j + 1, t', _, rfl, by omega, rfl, rfl, f3, by simp; omega, hI1 (by omega)⟩)
          | exact ⟨_, by omega, j + 1, u, acc, rfl, by omega, rfl, rfl, f1, by omega, hI2 (by omega)⟩
    · rw [List.drop_eq_nil_of_le (by omega)] at hI
      (repeat' first
    | (show WpR _ _ _ _ _ _ _ _ _
       first
       | refine wpr_drop ?_
       | refine wpr_p (o := .mv _) (by simp only [ev_mv, opd_s, opd_c, fget, Nat.reduceEqDiff, Nat.one_ne_zero, Nat.zero_ne_one, reduceCtorEq, ↓reduceIte]; rfl) ?_
       | (refine wpr_fork (fun _ => ?_) (fun _ => ?_) <;> try (exfalso; omega))
       | (refine wpr_forkN (fun _ => ?_) (fun _ => ?_) <;> try (exfalso; omega))
       | refine wpr_run rfl ?_
       | refine wpr_pass rfl rfl ?_
       | refine wpr_passS rfl ?_
       | ((first | apply wpr_p | apply wpr_r | apply wpr_callA | apply wpr_callA0 | apply wpr_e0 | apply wpr_e | apply wpr_end0); focus ((try simp (disch := omega) only [push_cast, Nat.reduceEqDiff, ↓reduceIte, reduceCtorEq, Nat.reduceAdd, Nat.reduceMul, Nat.reduceLeDiff, hlen, hlen']); rfl))
       | refine wpr_pass0 rfl rfl ?_
       | refine wpr_pass0S rfl ?_
       | (apply wpr_end; (focus ((try simp (disch := omega) only [push_cast, Nat.reduceEqDiff, ↓reduceIte, reduceCtorEq, Nat.reduceAdd, Nat.reduceMul, Nat.reduceLeDiff, hlen, hlen']); rfl)); (focus (simp (disch := omega) only [push_cast, Nat.reduceEqDiff, ↓reduceIte, reduceCtorEq, Nat.reduceAdd, Nat.reduceMul, Nat.reduceLeDiff, hlen, hlen']; done)))
       | fail)
    | (show Wp _ _ _ _ _ _
       first
       | refine wp_seq ?_
       | refine wp_region0 ?_
       | refine wp_region ?_
       | refine wp_cond_t rfl ?_
       | refine wp_cond_f rfl ?_
       | refine wp_ret ?_
       | refine wp_skip ?_
       | refine wp_exit ?_
       | refine wp_block ?_
       | fail)
    | refine thenQ_norm ?_
    | refine thenQ_ret ?_
    | refine thenQ_exit ?_
    | refine blockQ_norm ?_
    | refine blockQ_ret ?_
    | refine blockQ_same ?_
    | refine blockQ_ne rfl ?_
    | refine loopQ_norm ?_
    | refine loopQ_ret ?_
    | refine loopQ_exit ?_
    | ((first | apply retQ_ret | apply retQ_norm | apply wpc_of); focus ((try simp (disch := omega) only [push_cast, Nat.reduceEqDiff, ↓reduceIte, reduceCtorEq, Nat.reduceAdd, Nat.reduceMul, Nat.reduceLeDiff, hlen, hlen']); rfl))
    | fail)
      refine ⟨_, ?_, i + 1, u, acc, rfl, by omega, rfl, rfl, f1, ?_, by rw [← hI]; simp [interS]⟩
      · omega
      · rw [Nat.add_mul]; omega
  · rw [List.drop_eq_nil_of_le (by omega)] at hI
    have hI' : acc = allS l m := by rw [← hI]; simp [allS]
    subst hI'
    have him : i * m.length ≤ 1000 * 1000 := Nat.mul_le_mul (by omega) (by omega)
    (repeat' first
    | (show WpR _ _ _ _ _ _ _ _ _
       first
       | refine wpr_drop ?_
       | refine wpr_p (o := .mv _) (by simp only [ev_mv, opd_s, opd_c, fget, Nat.reduceEqDiff, Nat.one_ne_zero, Nat.zero_ne_one, reduceCtorEq, ↓reduceIte]; rfl) ?_
       | (refine wpr_fork (fun _ => ?_) (fun _ => ?_) <;> try (exfalso; omega))
       | (refine wpr_forkN (fun _ => ?_) (fun _ => ?_) <;> try (exfalso; omega))
       | refine wpr_run rfl ?_
       | refine wpr_pass rfl rfl ?_
       | refine wpr_passS rfl ?_
       | ((first | apply wpr_p | apply wpr_r | apply wpr_callA | apply wpr_callA0 | apply wpr_e0 | apply wpr_e | apply wpr_end0); focus ((try simp (disch := omega) only [push_cast, Nat.reduceEqDiff, ↓reduceIte, reduceCtorEq, Nat.reduceAdd, Nat.reduceMul, Nat.reduceLeDiff, hlen, hlen']); rfl))
       | refine wpr_pass0 rfl rfl ?_
       | refine wpr_pass0S rfl ?_
       | (apply wpr_end; (focus ((try simp (disch := omega) only [push_cast, Nat.reduceEqDiff, ↓reduceIte, reduceCtorEq, Nat.reduceAdd, Nat.reduceMul, Nat.reduceLeDiff, hlen, hlen']); rfl)); (focus (simp (disch := omega) only [push_cast, Nat.reduceEqDiff, ↓reduceIte, reduceCtorEq, Nat.reduceAdd, Nat.reduceMul, Nat.reduceLeDiff, hlen, hlen']; done)))
       | fail)
    | (show Wp _ _ _ _ _ _
       first
       | refine wp_seq ?_
       | refine wp_region0 ?_
       | refine wp_region ?_
       | refine wp_cond_t rfl ?_
       | refine wp_cond_f rfl ?_
       | refine wp_ret ?_
       | refine wp_skip ?_
       | refine wp_exit ?_
       | refine wp_block ?_
       | fail)
    | refine thenQ_norm ?_
    | refine thenQ_ret ?_
    | refine thenQ_exit ?_
    | refine blockQ_norm ?_
    | refine blockQ_ret ?_
    | refine blockQ_same ?_
    | refine blockQ_ne rfl ?_
    | refine loopQ_norm ?_
    | refine loopQ_ret ?_
    | refine loopQ_exit ?_
    | ((first | apply retQ_ret | apply retQ_norm | apply wpc_of); focus ((try simp (disch := omega) only [push_cast, Nat.reduceEqDiff, ↓reduceIte, reduceCtorEq, Nat.reduceAdd, Nat.reduceMul, Nat.reduceLeDiff, hlen, hlen']); rfl))
    | fail)
    refine (refSpans_spec f1.reads (by omega) (by omega) hR hMc hcov').mono ?_
    rintro v h3 ⟨w, rfl, f3⟩
    (repeat' first
    | (show WpR _ _ _ _ _ _ _ _ _
       first
       | refine wpr_drop ?_
       | refine wpr_p (o := .mv _) (by simp only [ev_mv, opd_s, opd_c, fget, Nat.reduceEqDiff, Nat.one_ne_zero, Nat.zero_ne_one, reduceCtorEq, ↓reduceIte]; rfl) ?_
       | (refine wpr_fork (fun _ => ?_) (fun _ => ?_) <;> try (exfalso; omega))
       | (refine wpr_forkN (fun _ => ?_) (fun _ => ?_) <;> try (exfalso; omega))
       | refine wpr_run rfl ?_
       | refine wpr_pass rfl rfl ?_
       | refine wpr_passS rfl ?_
       | ((first | apply wpr_p | apply wpr_r | apply wpr_callA | apply wpr_callA0 | apply wpr_e0 | apply wpr_e | apply wpr_end0); focus ((try simp (disch := omega) only [push_cast, Nat.reduceEqDiff, ↓reduceIte, reduceCtorEq, Nat.reduceAdd, Nat.reduceMul, Nat.reduceLeDiff]); rfl))
       | refine wpr_pass0 rfl rfl ?_
       | refine wpr_pass0S rfl ?_
       | (apply wpr_end; (focus ((try simp (disch := omega) only [push_cast, Nat.reduceEqDiff, ↓reduceIte, reduceCtorEq, Nat.reduceAdd, Nat.reduceMul, Nat.reduceLeDiff]); rfl)); (focus (simp (disch := omega) only [push_cast, Nat.reduceEqDiff, ↓reduceIte, reduceCtorEq, Nat.reduceAdd, Nat.reduceMul, Nat.reduceLeDiff]; done)))
       | fail)
    | (show Wp _ _ _ _ _ _
       first
       | refine wp_seq ?_
       | refine wp_region0 ?_
       | refine wp_region ?_
       | refine wp_cond_t rfl ?_
       | refine wp_cond_f rfl ?_
       | refine wp_ret ?_
       | refine wp_skip ?_
       | refine wp_exit ?_
       | refine wp_block ?_
       | fail)
    | refine thenQ_norm ?_
    | refine thenQ_ret ?_
    | refine thenQ_exit ?_
    | refine blockQ_norm ?_
    | refine blockQ_ret ?_
    | refine blockQ_same ?_
    | refine blockQ_ne rfl ?_
    | refine loopQ_norm ?_
    | refine loopQ_ret ?_
    | refine loopQ_exit ?_
    | ((first | apply retQ_ret | apply retQ_norm | apply wpc_of); focus ((try simp (disch := omega) only [push_cast, Nat.reduceEqDiff, ↓reduceIte, reduceCtorEq, Nat.reduceAdd, Nat.reduceMul, Nat.reduceLeDiff]); rfl))
    | fail)
    exact ⟨w, rfl, ⟨f3.own, f1.kp.trans f3.kp, fun b hb => Nat.le_trans f1.kp.1 (f3.new b hb)⟩⟩

end Go.Proofs.Ytanpdopjgepbkaa.AM
