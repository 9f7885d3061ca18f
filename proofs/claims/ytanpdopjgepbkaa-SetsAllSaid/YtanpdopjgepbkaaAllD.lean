/- Back is a sequence. -/
import Derived.Test.YtanpdopjgepbkaaAllC
set_option linter.unusedVariables false
set_option linter.unusedSimpArgs false
namespace Go.Proofs.Ytanpdopjgepbkaa.AM
open Go

theorem back_split {C : List (Int × Int)} {i : Nat} (hi : i < C.length) : (runesL C).reverse = (runesL (C.drop (i + 1))).reverse ++ ((runesRow C[i]).reverse ++ (runesL (C.take i)).reverse) := by
  rw [runesL_split hi]; simp
theorem back_get {C : List (Int × Int)} {i : Nat} (hi : i < C.length) {j : Nat} (hj : j < ((C[i]).2 - (C[i]).1).toNat) :
    ∃ hk : (runesL (C.drop (i + 1))).length + j < (runesL C).reverse.length, (runesL C).reverse[(runesL (C.drop (i + 1))).length + j] = runeF ((C[i]).2 - 1 - (j : Int)) := by
  have hs := back_split hi
  have hl : (runesL C).reverse.length = (runesL (C.drop (i + 1))).length + ((runesRow C[i]).length + (runesL (C.take i)).length) := by
    conv => lhs; rw [hs]
    simp
  rw [runesRow_len] at hl
  refine ⟨by omega, ?_⟩
  have h2 : (runesL C).reverse[(runesL (C.drop (i + 1))).length + j]? = some (runeF ((C[i]).2 - 1 - (j : Int))) := by
    rw [hs, List.getElem?_append_right (by simp), List.length_reverse, Nat.add_sub_cancel_left, List.getElem?_append_left (by simp [runesRow_len]; omega), List.getElem?_reverse (by rw [runesRow_len]; exact hj), runesRow_len]
    unfold runesRow
    rw [List.getElem?_map, List.getElem?_range (by omega)]
    simp only [Option.map_some]
    congr 2
    omega
  exact (List.getElem?_eq_some_iff.1 h2).2
theorem back_next {C : List (Int × Int)} {i : Nat} (hi : i < C.length) : (runesL (C.drop i)).length = (runesL (C.drop (i + 1))).length + ((C[i]).2 - (C[i]).1).toNat := by
  rw [List.drop_eq_getElem_cons hi, runesL_cons, List.length_append, runesRow_len]; omega

theorem back_seq {C : List (Int × Int)} {bx b : Nat} {t : Sl} (hC : ∀ x ∈ C, 0 ≤ x.1 ∧ x.1 < x.2 ∧ x.2 ≤ 1112064) (hn : C.length < 1000000000) :
    Seq PS (.func (.func 76) #[] #[.pointer (some ⟨bx, 0, none⟩)]) (runesL C).reverse runeV (SetD bx b t C) := by
  intro yv I E h hyv hvs hc hD h0
  obtain ⟨d1, d2, d3⟩ := hD _ _ _ h0
  have hlen := d3.len
  have hset := hyv.set
  have hlc1 := hyv.lc1
  have hloc := hyv.loc
  have hcell := hyv.cell
  have hvc := hyv.vc
  refine wpV_fn ?_
  refine wpc_fn (ps_ext rfl) (ps_fn fn76) rfl ?_
  unfold LF76
  simp only [argFr, List.nil_append, List.cons_append]
  have d1' := AH.get_push_ne (j := bx) (.cells false [yv]) (Nat.ne_of_lt (AH.get_lt d1))
  have d2' := AH.get_push_ne (j := b) (.cells false [yv]) (Nat.ne_of_lt (AH.get_lt d2))
  rw [d1] at d1'
  rw [d2] at d2'
  have eb := fun h => backw_eq t h
  (repeat' first
    | (show WpR _ _ _ _ _ _ _ _ _
       first
       | refine wpr_p (o := .mv _) (by simp only [ev_mv, opd_s, opd_c, fget, Nat.reduceEqDiff, Nat.one_ne_zero, Nat.zero_ne_one, reduceCtorEq, ↓reduceIte]; rfl) ?_
       | (refine wpr_fork (fun _ => ?_) (fun _ => ?_) <;> try (exfalso; omega))
       | (refine wpr_forkN (fun _ => ?_) (fun _ => ?_) <;> try (exfalso; omega))
       | refine wpr_p (by simp (disch := omega) only [push_cast, Nat.reduceEqDiff, ↓reduceIte, reduceCtorEq, Nat.reduceAdd, Nat.reduceMul, Nat.reduceLeDiff, hlen, d1', d2', hset, hlc1, hcell, hvc, hloc, eb]; rfl) ?_
       | refine wpr_r (by simp (disch := omega) only [push_cast, Nat.reduceEqDiff, ↓reduceIte, reduceCtorEq, Nat.reduceAdd, Nat.reduceMul, Nat.reduceLeDiff, hlen, d1', d2', hset, hlc1, hcell, hvc, hloc, eb]; rfl) ?_
       | refine wpr_run rfl ?_
       | refine wpr_pass rfl rfl ?_
       | refine wpr_passS rfl ?_
       | refine wpr_call (by (try simp (disch := omega) only [push_cast, Nat.reduceEqDiff, ↓reduceIte, reduceCtorEq, Nat.reduceAdd, Nat.reduceMul, Nat.reduceLeDiff, hlen, d1', d2', hset, hlc1, hcell, hvc, hloc, eb]) <;> rfl) (by first | rfl | simp only [push_cast, Nat.reduceEqDiff, ↓reduceIte, reduceCtorEq, Nat.reduceAdd, Nat.reduceMul, Nat.reduceLeDiff, hlen, d1', d2', hset, hlc1, hcell, hvc, hloc, eb]) ?_
       | refine wpr_e0 (by simp (disch := omega) only [push_cast, Nat.reduceEqDiff, ↓reduceIte, reduceCtorEq, Nat.reduceAdd, Nat.reduceMul, Nat.reduceLeDiff, hlen, d1', d2', hset, hlc1, hcell, hvc, hloc, eb]; rfl) ?_
       | refine wpr_e (by simp (disch := omega) only [push_cast, Nat.reduceEqDiff, ↓reduceIte, reduceCtorEq, Nat.reduceAdd, Nat.reduceMul, Nat.reduceLeDiff, hlen, d1', d2', hset, hlc1, hcell, hvc, hloc, eb]; rfl) ?_
       | refine wpr_nil (by first | exact chkT_nil | (simp (disch := omega) only [push_cast, Nat.reduceEqDiff, ↓reduceIte, reduceCtorEq, Nat.reduceAdd, Nat.reduceMul, Nat.reduceLeDiff, hlen, d1', d2', hset, hlc1, hcell, hvc, hloc, eb]; done)) (by (try simp only [push_cast, Nat.reduceEqDiff, ↓reduceIte, reduceCtorEq, Nat.reduceAdd, Nat.reduceMul, Nat.reduceLeDiff, hlen, d1', d2', hset, hlc1, hcell, hvc, hloc, eb]); rfl) (by (try simp only [push_cast, Nat.reduceEqDiff, ↓reduceIte, reduceCtorEq, Nat.reduceAdd, Nat.reduceMul, Nat.reduceLeDiff, hlen, d1', d2', hset, hlc1, hcell, hvc, hloc, eb]); rfl) ?_
       | refine wpr_pass0 rfl rfl ?_
       | refine wpr_pass0S rfl ?_)
    | (show Wp _ _ _ _ _ _
       first
       | refine wp_seq ?_
       | refine wp_region ?_
       | refine wp_cond_t rfl ?_
       | refine wp_cond_f rfl ?_
       | refine wp_ret ?_
       | refine wp_skip ?_
       | refine wp_exit ?_
       | refine wp_block ?_)
    | refine thenQ_norm ?_
    | refine thenQ_ret ?_
    | refine thenQ_exit ?_
    | refine blockQ_norm ?_
    | refine blockQ_ret ?_
    | refine blockQ_same ?_
    | refine blockQ_ne rfl ?_
    | refine loopQ_norm ?_
    | refine loopQ_ret ?_
    | refine loopQ_exit ?_
    | refine retQ_ret (by (try simp (disch := omega) only [push_cast, Nat.reduceEqDiff, ↓reduceIte, reduceCtorEq, Nat.reduceAdd, Nat.reduceMul, Nat.reduceLeDiff, hlen, d1', d2', hset, hlc1, hcell, hvc, hloc, eb]); rfl) ?_
    | refine retQ_norm (by (try simp (disch := omega) only [push_cast, Nat.reduceEqDiff, ↓reduceIte, reduceCtorEq, Nat.reduceAdd, Nat.reduceMul, Nat.reduceLeDiff, hlen, d1', d2', hset, hlc1, hcell, hvc, hloc, eb]); rfl) ?_
    | refine wpc_of (by simp (disch := omega) only [push_cast, Nat.reduceEqDiff, ↓reduceIte, reduceCtorEq, Nat.reduceAdd, Nat.reduceMul, Nat.reduceLeDiff, hlen, d1', d2', hset, hlc1, hcell, hvc, hloc, eb]; rfl) ?_)
  have hh1 := AH.get_push_same (h.push (.cells false [yv])) (.cells false [t.val 2])
  have hh0 : ((h.push (.cells false [yv])).push (.cells false [t.val 2])).get h.n = some (.cells false [yv]) := by
    rw [AH.get_push_ne _ (by rw [AH.push_n]; omega)]; exact AH.get_push_same _ _
  have hkp : Kp h ((h.push (.cells false [yv])).push (.cells false [t.val 2])) :=
    ⟨by rw [AH.push_n, AH.push_n]; omega, fun b hb => by rw [AH.get_push_ne _ (by rw [AH.push_n]; omega), AH.get_push_ne _ (by omega)]⟩
  have hnn : ((h.push (.cells false [yv])).push (.cells false [t.val 2])).n = h.n + 2 := rfl
  rw [AH.push_n] at hh1 ⊢
  generalize (h.push (.cells false [yv])).push (.cells false [t.val 2]) = hh at hh0 hh1 hkp hnn
  refine wp_range (xs := backL C) (enc := backV) rfl (backward_seq (bs := h.n + 1) (t := t) hn) (fun _ => rfl)
    (fun i T h1 => i ≤ C.length ∧ I (runesL (C.drop (C.length - i))).length (fun b => T b ∨ (h.n ≤ b ∧ b ≤ h.n + 2 ∧ b < h1.n)) h1 ∧ h1.get h.n = some (.cells false [yv]) ∧ h1.get (h.n + 1) = some (.cells false [t.val 2]))
    (fun ex T h1 => ex = .ret ∧ E (fun b => T b ∨ (h.n ≤ b ∧ b ≤ h.n + 2 ∧ b < h1.n)) h1)
    (fun x => [(2, .pointer (some ⟨h.n, 0, none⟩)), (4, .pointer (some ⟨8, 0, some 1⟩))]) (fun x => [(8, .cells false [.int .i64 x.2.1, .int .i64 x.2.2])]) ?_ ?_ ?_ ?_ ?_ ?_ ?_ ?_
  · rintro i T T' h1 h2 ⟨a0, a1, a2, a3⟩ hT hm hT'
    rw [hnn] at hT hm hT'
    refine ⟨a0, hc.frI _ _ _ _ _ a1 ⟨hm.n, fun b hb hn => hm.keep b hb (fun h => hn (.inl h)) (fun h => hn (.inr ⟨by omega, by omega, hb⟩))⟩ (fun b hb => ?_), ?_, ?_⟩
    · rcases hb with hb | hb
      · have := hT' b hb
        exact ⟨this.2.1, this.2.2.imp .inl id⟩
      · refine ⟨hb.2.2, ?_⟩
        rcases Nat.lt_or_ge b h1.n with h | h
        · exact .inl (.inr ⟨hb.1, hb.2.1, h⟩)
        · exact .inr h
    · rw [hm.keep _ (AH.get_lt a2) (fun h => by have := (hT _ h).1; omega) (by omega)]; exact a2
    · rw [hm.keep _ (AH.get_lt a3) (fun h => by have := (hT _ h).1; omega) (by omega)]; exact a3
  · rintro ex T T' h1 h2 ⟨a0, a1⟩ hT hm hT'
    rw [hnn] at hT hm hT'
    refine ⟨a0, hc.frE _ _ _ _ a1 ⟨hm.n, fun b hb hn => hm.keep b hb (fun h => hn (.inl h)) (fun h => hn (.inr ⟨by omega, by omega, hb⟩))⟩ (fun b hb => ?_)⟩
    rcases hb with hb | hb
    · have := hT' b hb
      exact ⟨this.2.1, this.2.2.imp .inl id⟩
    · refine ⟨hb.2.2, ?_⟩
      rcases Nat.lt_or_ge b h1.n with h | h
      · exact .inl (.inr ⟨hb.1, hb.2.1, h⟩)
      · exact .inr h
  · rintro i T h1 ⟨a0, a1, a2, a3⟩
    exact ⟨a3, (hD _ _ _ a1).2.2⟩
  · intro x h1
    simp only [backV, List.zip_cons_cons, List.zip_nil_right, List.reverse_cons, List.reverse_nil, List.nil_append, List.cons_append, okFr_cons, okFr_nil, okV_eq, isLoc_ptr, isLoc_func, Bool.not_false, if_true]
    (repeat' first
    | (show WpR _ _ _ _ _ _ _ _ _
       first
       | refine wpr_p (o := .mv _) (by simp only [ev_mv, opd_s, opd_c, fget, Nat.reduceEqDiff, Nat.one_ne_zero, Nat.zero_ne_one, reduceCtorEq, ↓reduceIte]; rfl) ?_
       | (refine wpr_fork (fun _ => ?_) (fun _ => ?_) <;> try (exfalso; omega))
       | (refine wpr_forkN (fun _ => ?_) (fun _ => ?_) <;> try (exfalso; omega))
       | refine wpr_p (by simp (disch := omega) only [push_cast, Nat.reduceEqDiff, ↓reduceIte, reduceCtorEq, Nat.reduceAdd, Nat.reduceMul, Nat.reduceLeDiff, hset, hlc1]; rfl) ?_
       | refine wpr_r (by simp (disch := omega) only [push_cast, Nat.reduceEqDiff, ↓reduceIte, reduceCtorEq, Nat.reduceAdd, Nat.reduceMul, Nat.reduceLeDiff, hset, hlc1]; rfl) ?_
       | refine wpr_run rfl ?_
       | refine wpr_pass rfl rfl ?_
       | refine wpr_passS rfl ?_
       | refine wpr_call (by (try simp (disch := omega) only [push_cast, Nat.reduceEqDiff, ↓reduceIte, reduceCtorEq, Nat.reduceAdd, Nat.reduceMul, Nat.reduceLeDiff, hset, hlc1]) <;> rfl) (by first | rfl | simp only [push_cast, Nat.reduceEqDiff, ↓reduceIte, reduceCtorEq, Nat.reduceAdd, Nat.reduceMul, Nat.reduceLeDiff, hset, hlc1]) ?_
       | refine wpr_e0 (by simp (disch := omega) only [push_cast, Nat.reduceEqDiff, ↓reduceIte, reduceCtorEq, Nat.reduceAdd, Nat.reduceMul, Nat.reduceLeDiff, hset, hlc1]; rfl) ?_
       | refine wpr_e (by simp (disch := omega) only [push_cast, Nat.reduceEqDiff, ↓reduceIte, reduceCtorEq, Nat.reduceAdd, Nat.reduceMul, Nat.reduceLeDiff, hset, hlc1]; rfl) ?_
       | refine wpr_nil (by first | exact chkT_nil | (simp (disch := omega) only [push_cast, Nat.reduceEqDiff, ↓reduceIte, reduceCtorEq, Nat.reduceAdd, Nat.reduceMul, Nat.reduceLeDiff, hset, hlc1]; done)) (by (try simp only [push_cast, Nat.reduceEqDiff, ↓reduceIte, reduceCtorEq, Nat.reduceAdd, Nat.reduceMul, Nat.reduceLeDiff, hset, hlc1]); rfl) (by (try simp only [push_cast, Nat.reduceEqDiff, ↓reduceIte, reduceCtorEq, Nat.reduceAdd, Nat.reduceMul, Nat.reduceLeDiff, hset, hlc1]); rfl) ?_
       | refine wpr_pass0 rfl rfl ?_
       | refine wpr_pass0S rfl ?_)
    | (show Wp _ _ _ _ _ _
       first
       | refine wp_seq ?_
       | refine wp_region ?_
       | refine wp_cond_t rfl ?_
       | refine wp_cond_f rfl ?_
       | refine wp_ret ?_
       | refine wp_skip ?_
       | refine wp_exit ?_
       | refine wp_block ?_)
    | refine thenQ_norm ?_
    | refine thenQ_ret ?_
    | refine thenQ_exit ?_
    | refine blockQ_norm ?_
    | refine blockQ_ret ?_
    | refine blockQ_same ?_
    | refine blockQ_ne rfl ?_
    | refine loopQ_norm ?_
    | refine loopQ_ret ?_
    | refine loopQ_exit ?_
    | refine retQ_ret (by (try simp (disch := omega) only [push_cast, Nat.reduceEqDiff, ↓reduceIte, reduceCtorEq, Nat.reduceAdd, Nat.reduceMul, Nat.reduceLeDiff, hset, hlc1]); rfl) ?_
    | refine retQ_norm (by (try simp (disch := omega) only [push_cast, Nat.reduceEqDiff, ↓reduceIte, reduceCtorEq, Nat.reduceAdd, Nat.reduceMul, Nat.reduceLeDiff, hset, hlc1]); rfl) ?_
    | refine wpc_of (by simp (disch := omega) only [push_cast, Nat.reduceEqDiff, ↓reduceIte, reduceCtorEq, Nat.reduceAdd, Nat.reduceMul, Nat.reduceLeDiff, hset, hlc1]; rfl) ?_)
    exact ⟨rfl, rfl, rfl, rfl⟩
  · refine ⟨Nat.zero_le _, ?_, hh0, hh1⟩
    have : (runesL (C.drop (C.length - 0))).length = 0 := by simp [runesL]
    rw [this]
    refine hc.frI _ _ _ _ _ h0 hkp.pf fun b hb => ?_
    rcases hb with hb | hb
    · exact hb.elim
    · exact ⟨hb.2.2, .inr hb.1⟩
  · rintro i hi T h1 o ⟨a0, a1, a2, a3⟩ hT hl ho
    rw [hnn] at hT hl ho ⊢
    rw [backL_len] at hi
    have hil : C.length - 1 - i < C.length := by omega
    have hx : (backL C)[i]'(by rw [backL_len]; exact hi) = (C.length - 1 - i, C[C.length - 1 - i]) := by
      simp only [backL, List.getElem_map, List.getElem_range, List.getD_eq_getElem?_getD, List.getElem?_eq_getElem hil, Option.getD_some]
    rw [hx]
    have hxb := hC C[C.length - 1 - i] (List.getElem_mem hil)
    have hget := fun j hj => @back_get C _ hil j hj
    have hnx := back_next hil
    rw [show C.length - 1 - i + 1 = C.length - i by omega] at hget hnx
    rw [show C.length - (i + 1) = C.length - 1 - i by omega]
    generalize C[C.length - 1 - i] = x at hxb hget hnx
    simp only
    (repeat' first
    | (show WpR _ _ _ _ _ _ _ _ _
       first
       | refine wpr_p (o := .mv _) (by simp only [ev_mv, opd_s, opd_c, fget, Nat.reduceEqDiff, Nat.one_ne_zero, Nat.zero_ne_one, reduceCtorEq, ↓reduceIte]; rfl) ?_
       | (refine wpr_fork (fun _ => ?_) (fun _ => ?_) <;> try (exfalso; omega))
       | (refine wpr_forkN (fun _ => ?_) (fun _ => ?_) <;> try (exfalso; omega))
       | refine wpr_p (by simp (disch := omega) only [push_cast, Nat.reduceEqDiff, ↓reduceIte, reduceCtorEq, Nat.reduceAdd, Nat.reduceMul, Nat.reduceLeDiff, hset, hlc1]; rfl) ?_
       | refine wpr_r (by simp (disch := omega) only [push_cast, Nat.reduceEqDiff, ↓reduceIte, reduceCtorEq, Nat.reduceAdd, Nat.reduceMul, Nat.reduceLeDiff, hset, hlc1]; rfl) ?_
       | refine wpr_run rfl ?_
       | refine wpr_pass rfl rfl ?_
       | refine wpr_passS rfl ?_
       | refine wpr_call (by (try simp (disch := omega) only [push_cast, Nat.reduceEqDiff, ↓reduceIte, reduceCtorEq, Nat.reduceAdd, Nat.reduceMul, Nat.reduceLeDiff, hset, hlc1]) <;> rfl) (by first | rfl | simp only [push_cast, Nat.reduceEqDiff, ↓reduceIte, reduceCtorEq, Nat.reduceAdd, Nat.reduceMul, Nat.reduceLeDiff, hset, hlc1]) ?_
       | refine wpr_e0 (by simp (disch := omega) only [push_cast, Nat.reduceEqDiff, ↓reduceIte, reduceCtorEq, Nat.reduceAdd, Nat.reduceMul, Nat.reduceLeDiff, hset, hlc1]; rfl) ?_
       | refine wpr_e (by simp (disch := omega) only [push_cast, Nat.reduceEqDiff, ↓reduceIte, reduceCtorEq, Nat.reduceAdd, Nat.reduceMul, Nat.reduceLeDiff, hset, hlc1]; rfl) ?_
       | refine wpr_nil (by first | exact chkT_nil | (simp (disch := omega) only [push_cast, Nat.reduceEqDiff, ↓reduceIte, reduceCtorEq, Nat.reduceAdd, Nat.reduceMul, Nat.reduceLeDiff, hset, hlc1]; done)) (by (try simp only [push_cast, Nat.reduceEqDiff, ↓reduceIte, reduceCtorEq, Nat.reduceAdd, Nat.reduceMul, Nat.reduceLeDiff, hset, hlc1]); rfl) (by (try simp only [push_cast, Nat.reduceEqDiff, ↓reduceIte, reduceCtorEq, Nat.reduceAdd, Nat.reduceMul, Nat.reduceLeDiff, hset, hlc1]); rfl) ?_
       | refine wpr_pass0 rfl rfl ?_
       | refine wpr_pass0S rfl ?_)
    | (show Wp _ _ _ _ _ _
       first
       | refine wp_seq ?_
       | refine wp_region ?_
       | refine wp_cond_t rfl ?_
       | refine wp_cond_f rfl ?_
       | refine wp_ret ?_
       | refine wp_skip ?_
       | refine wp_exit ?_
       | refine wp_block ?_)
    | refine thenQ_norm ?_
    | refine thenQ_ret ?_
    | refine thenQ_exit ?_
    | refine blockQ_norm ?_
    | refine blockQ_ret ?_
    | refine blockQ_same ?_
    | refine blockQ_ne rfl ?_
    | refine loopQ_norm ?_
    | refine loopQ_ret ?_
    | refine loopQ_exit ?_
    | refine retQ_ret (by (try simp (disch := omega) only [push_cast, Nat.reduceEqDiff, ↓reduceIte, reduceCtorEq, Nat.reduceAdd, Nat.reduceMul, Nat.reduceLeDiff, hset, hlc1]); rfl) ?_
    | refine retQ_norm (by (try simp (disch := omega) only [push_cast, Nat.reduceEqDiff, ↓reduceIte, reduceCtorEq, Nat.reduceAdd, Nat.reduceMul, Nat.reduceLeDiff, hset, hlc1]); rfl) ?_
    | refine wpc_of (by simp (disch := omega) only [push_cast, Nat.reduceEqDiff, ↓reduceIte, reduceCtorEq, Nat.reduceAdd, Nat.reduceMul, Nat.reduceLeDiff, hset, hlc1]; rfl) ?_)
    refine wp_loop (fun n fr lc h2 => ∃ (j : Nat), n = (x.2 - x.1).toNat - j ∧ j ≤ (x.2 - x.1).toNat ∧ fr = [(2, .pointer (some ⟨h.n, 0, none⟩)), (4, .pointer (some ⟨8, 0, some 1⟩)), (5, .int .i64 (x.2 - 1 - (j : Int)))] ∧
        lc = [(8, .cells false [.int .i64 x.1, .int .i64 x.2])] ∧ I ((runesL (C.drop (C.length - i))).length + j) (fun b => T b ∨ (h.n ≤ b ∧ b ≤ h.n + 2 ∧ b < h1.n)) h2 ∧ h1.n ≤ h2.n ∧
        ∀ b, (T b ∨ (h.n ≤ b ∧ b ≤ h.n + 2)) → h2.get b = h1.get b)
      (x.2 - x.1).toNat ⟨0, rfl, Nat.zero_le _, by simp, rfl, a1, Nat.le_refl _, fun _ _ => rfl⟩ ?_
    rintro n fr lc h2 ⟨j, rfl, hj, rfl, rfl, hI, hn2, hk2⟩
    have b2 : h2.get h.n = some (.cells false [yv]) := by rw [hk2 _ (.inr ⟨Nat.le_refl _, by omega⟩)]; exact a2
    have b3 : h2.get (h.n + 1) = some (.cells false [t.val 2]) := by rw [hk2 _ (.inr ⟨by omega, by omega⟩)]; exact a3
    have b4 : h2.get (h.n + 2) = some o := by rw [hk2 _ (.inr ⟨by omega, by omega⟩)]; exact ho
    rcases Nat.lt_or_ge j (x.2 - x.1).toNat with hjl | hjl
    · obtain ⟨hk, hg⟩ := hget j hjl
      have hst := hc.step _ hk _ h2 hI
      rw [hg] at hst
      (repeat' first
    | (show WpR _ _ _ _ _ _ _ _ _
       first
       | refine wpr_p (o := .mv _) (by simp only [ev_mv, opd_s, opd_c, fget, Nat.reduceEqDiff, Nat.one_ne_zero, Nat.zero_ne_one, reduceCtorEq, ↓reduceIte]; rfl) ?_
       | (refine wpr_fork (fun _ => ?_) (fun _ => ?_) <;> try (exfalso; omega))
       | (refine wpr_forkN (fun _ => ?_) (fun _ => ?_) <;> try (exfalso; omega))
       | refine wpr_p (by simp (disch := omega) only [push_cast, Nat.reduceEqDiff, ↓reduceIte, reduceCtorEq, Nat.reduceAdd, Nat.reduceMul, Nat.reduceLeDiff, hset, hlc1, b2, hvs]; rfl) ?_
       | refine wpr_r (by simp (disch := omega) only [push_cast, Nat.reduceEqDiff, ↓reduceIte, reduceCtorEq, Nat.reduceAdd, Nat.reduceMul, Nat.reduceLeDiff, hset, hlc1, b2, hvs]; rfl) ?_
       | refine wpr_run rfl ?_
       | refine wpr_pass rfl rfl ?_
       | refine wpr_passS rfl ?_
       | refine wpr_call (by (try simp (disch := omega) only [push_cast, Nat.reduceEqDiff, ↓reduceIte, reduceCtorEq, Nat.reduceAdd, Nat.reduceMul, Nat.reduceLeDiff, hset, hlc1, b2, hvs]) <;> rfl) (by first | rfl | simp only [push_cast, Nat.reduceEqDiff, ↓reduceIte, reduceCtorEq, Nat.reduceAdd, Nat.reduceMul, Nat.reduceLeDiff, hset, hlc1, b2, hvs]) ?_
       | refine wpr_e0 (by simp (disch := omega) only [push_cast, Nat.reduceEqDiff, ↓reduceIte, reduceCtorEq, Nat.reduceAdd, Nat.reduceMul, Nat.reduceLeDiff, hset, hlc1, b2, hvs]; rfl) ?_
       | refine wpr_e (by simp (disch := omega) only [push_cast, Nat.reduceEqDiff, ↓reduceIte, reduceCtorEq, Nat.reduceAdd, Nat.reduceMul, Nat.reduceLeDiff, hset, hlc1, b2, hvs]; rfl) ?_
       | refine wpr_nil (by first | exact chkT_nil | (simp (disch := omega) only [push_cast, Nat.reduceEqDiff, ↓reduceIte, reduceCtorEq, Nat.reduceAdd, Nat.reduceMul, Nat.reduceLeDiff, hset, hlc1, b2, hvs]; done)) (by (try simp only [push_cast, Nat.reduceEqDiff, ↓reduceIte, reduceCtorEq, Nat.reduceAdd, Nat.reduceMul, Nat.reduceLeDiff, hset, hlc1, b2, hvs]); rfl) (by (try simp only [push_cast, Nat.reduceEqDiff, ↓reduceIte, reduceCtorEq, Nat.reduceAdd, Nat.reduceMul, Nat.reduceLeDiff, hset, hlc1, b2, hvs]); rfl) ?_
       | refine wpr_pass0 rfl rfl ?_
       | refine wpr_pass0S rfl ?_)
    | (show Wp _ _ _ _ _ _
       first
       | refine wp_seq ?_
       | refine wp_region ?_
       | refine wp_cond_t rfl ?_
       | refine wp_cond_f rfl ?_
       | refine wp_ret ?_
       | refine wp_skip ?_
       | refine wp_exit ?_
       | refine wp_block ?_)
    | refine thenQ_norm ?_
    | refine thenQ_ret ?_
    | refine thenQ_exit ?_
    | refine blockQ_norm ?_
    | refine blockQ_ret ?_
    | refine blockQ_same ?_
    | refine blockQ_ne rfl ?_
    | refine loopQ_norm ?_
    | refine loopQ_ret ?_
    | refine loopQ_exit ?_
    | refine retQ_ret (by (try simp (disch := omega) only [push_cast, Nat.reduceEqDiff, ↓reduceIte, reduceCtorEq, Nat.reduceAdd, Nat.reduceMul, Nat.reduceLeDiff, hset, hlc1, b2, hvs]); rfl) ?_
    | refine retQ_norm (by (try simp (disch := omega) only [push_cast, Nat.reduceEqDiff, ↓reduceIte, reduceCtorEq, Nat.reduceAdd, Nat.reduceMul, Nat.reduceLeDiff, hset, hlc1, b2, hvs]); rfl) ?_
    | refine wpc_of (by simp (disch := omega) only [push_cast, Nat.reduceEqDiff, ↓reduceIte, reduceCtorEq, Nat.reduceAdd, Nat.reduceMul, Nat.reduceLeDiff, hset, hlc1, b2, hvs]; rfl) ?_)
      refine wpr_callV (fv := yv) rfl rfl rfl ?_
      refine hst.mono ?_
      rintro v h3 ⟨hor, hn3, hk3⟩
      have hk4 : ∀ b, (T b ∨ (h.n ≤ b ∧ b ≤ h.n + 2)) → h3.get b = h1.get b := fun b hb => by
        rw [hk3 b (hb.imp id fun h => ⟨h.1, h.2, by omega⟩), hk2 b hb]
      rcases hor with ⟨rfl, hI2⟩ | ⟨rfl, hE⟩
      · (repeat' first
    | (show WpR _ _ _ _ _ _ _ _ _
       first
       | refine wpr_p (o := .mv _) (by simp only [ev_mv, opd_s, opd_c, fget, Nat.reduceEqDiff, Nat.one_ne_zero, Nat.zero_ne_one, reduceCtorEq, ↓reduceIte]; rfl) ?_
       | (refine wpr_fork (fun _ => ?_) (fun _ => ?_) <;> try (exfalso; omega))
       | (refine wpr_forkN (fun _ => ?_) (fun _ => ?_) <;> try (exfalso; omega))
       | refine wpr_p (by simp (disch := omega) only [push_cast, Nat.reduceEqDiff, ↓reduceIte, reduceCtorEq, Nat.reduceAdd, Nat.reduceMul, Nat.reduceLeDiff, hset, hlc1, b2, hvs]; rfl) ?_
       | refine wpr_r (by simp (disch := omega) only [push_cast, Nat.reduceEqDiff, ↓reduceIte, reduceCtorEq, Nat.reduceAdd, Nat.reduceMul, Nat.reduceLeDiff, hset, hlc1, b2, hvs]; rfl) ?_
       | refine wpr_run rfl ?_
       | refine wpr_pass rfl rfl ?_
       | refine wpr_passS rfl ?_
       | refine wpr_call (by (try simp (disch := omega) only [push_cast, Nat.reduceEqDiff, ↓reduceIte, reduceCtorEq, Nat.reduceAdd, Nat.reduceMul, Nat.reduceLeDiff, hset, hlc1, b2, hvs]) <;> rfl) (by first | rfl | simp only [push_cast, Nat.reduceEqDiff, ↓reduceIte, reduceCtorEq, Nat.reduceAdd, Nat.reduceMul, Nat.reduceLeDiff, hset, hlc1, b2, hvs]) ?_
       | refine wpr_e0 (by simp (disch := omega) only [push_cast, Nat.reduceEqDiff, ↓reduceIte, reduceCtorEq, Nat.reduceAdd, Nat.reduceMul, Nat.reduceLeDiff, hset, hlc1, b2, hvs]; rfl) ?_
       | refine wpr_e (by simp (disch := omega) only [push_cast, Nat.reduceEqDiff, ↓reduceIte, reduceCtorEq, Nat.reduceAdd, Nat.reduceMul, Nat.reduceLeDiff, hset, hlc1, b2, hvs]; rfl) ?_
       | refine wpr_nil (by first | exact chkT_nil | (simp (disch := omega) only [push_cast, Nat.reduceEqDiff, ↓reduceIte, reduceCtorEq, Nat.reduceAdd, Nat.reduceMul, Nat.reduceLeDiff, hset, hlc1, b2, hvs]; done)) (by (try simp only [push_cast, Nat.reduceEqDiff, ↓reduceIte, reduceCtorEq, Nat.reduceAdd, Nat.reduceMul, Nat.reduceLeDiff, hset, hlc1, b2, hvs]); rfl) (by (try simp only [push_cast, Nat.reduceEqDiff, ↓reduceIte, reduceCtorEq, Nat.reduceAdd, Nat.reduceMul, Nat.reduceLeDiff, hset, hlc1, b2, hvs]); rfl) ?_
       | refine wpr_pass0 rfl rfl ?_
       | refine wpr_pass0S rfl ?_)
    | (show Wp _ _ _ _ _ _
       first
       | refine wp_seq ?_
       | refine wp_region ?_
       | refine wp_cond_t rfl ?_
       | refine wp_cond_f rfl ?_
       | refine wp_ret ?_
       | refine wp_skip ?_
       | refine wp_exit ?_
       | refine wp_block ?_)
    | refine thenQ_norm ?_
    | refine thenQ_ret ?_
    | refine thenQ_exit ?_
    | refine blockQ_norm ?_
    | refine blockQ_ret ?_
    | refine blockQ_same ?_
    | refine blockQ_ne rfl ?_
    | refine loopQ_norm ?_
    | refine loopQ_ret ?_
    | refine loopQ_exit ?_
    | refine retQ_ret (by (try simp (disch := omega) only [push_cast, Nat.reduceEqDiff, ↓reduceIte, reduceCtorEq, Nat.reduceAdd, Nat.reduceMul, Nat.reduceLeDiff, hset, hlc1, b2, hvs]); rfl) ?_
    | refine retQ_norm (by (try simp (disch := omega) only [push_cast, Nat.reduceEqDiff, ↓reduceIte, reduceCtorEq, Nat.reduceAdd, Nat.reduceMul, Nat.reduceLeDiff, hset, hlc1, b2, hvs]); rfl) ?_
    | refine wpc_of (by simp (disch := omega) only [push_cast, Nat.reduceEqDiff, ↓reduceIte, reduceCtorEq, Nat.reduceAdd, Nat.reduceMul, Nat.reduceLeDiff, hset, hlc1, b2, hvs]; rfl) ?_)
        refine ⟨_, ?_, j + 1, rfl, by omega, ?_, rfl, hI2, by omega, hk4⟩
        · omega
        · congr 5; omega
      · (repeat' first
    | (show WpR _ _ _ _ _ _ _ _ _
       first
       | refine wpr_p (o := .mv _) (by simp only [ev_mv, opd_s, opd_c, fget, Nat.reduceEqDiff, Nat.one_ne_zero, Nat.zero_ne_one, reduceCtorEq, ↓reduceIte]; rfl) ?_
       | (refine wpr_fork (fun _ => ?_) (fun _ => ?_) <;> try (exfalso; omega))
       | (refine wpr_forkN (fun _ => ?_) (fun _ => ?_) <;> try (exfalso; omega))
       | refine wpr_p (by simp (disch := omega) only [push_cast, Nat.reduceEqDiff, ↓reduceIte, reduceCtorEq, Nat.reduceAdd, Nat.reduceMul, Nat.reduceLeDiff, hset, hlc1, b2, hvs]; rfl) ?_
       | refine wpr_r (by simp (disch := omega) only [push_cast, Nat.reduceEqDiff, ↓reduceIte, reduceCtorEq, Nat.reduceAdd, Nat.reduceMul, Nat.reduceLeDiff, hset, hlc1, b2, hvs]; rfl) ?_
       | refine wpr_run rfl ?_
       | refine wpr_pass rfl rfl ?_
       | refine wpr_passS rfl ?_
       | refine wpr_call (by (try simp (disch := omega) only [push_cast, Nat.reduceEqDiff, ↓reduceIte, reduceCtorEq, Nat.reduceAdd, Nat.reduceMul, Nat.reduceLeDiff, hset, hlc1, b2, hvs]) <;> rfl) (by first | rfl | simp only [push_cast, Nat.reduceEqDiff, ↓reduceIte, reduceCtorEq, Nat.reduceAdd, Nat.reduceMul, Nat.reduceLeDiff, hset, hlc1, b2, hvs]) ?_
       | refine wpr_e0 (by simp (disch := omega) only [push_cast, Nat.reduceEqDiff, ↓reduceIte, reduceCtorEq, Nat.reduceAdd, Nat.reduceMul, Nat.reduceLeDiff, hset, hlc1, b2, hvs]; rfl) ?_
       | refine wpr_e (by simp (disch := omega) only [push_cast, Nat.reduceEqDiff, ↓reduceIte, reduceCtorEq, Nat.reduceAdd, Nat.reduceMul, Nat.reduceLeDiff, hset, hlc1, b2, hvs]; rfl) ?_
       | refine wpr_nil (by first | exact chkT_nil | (simp (disch := omega) only [push_cast, Nat.reduceEqDiff, ↓reduceIte, reduceCtorEq, Nat.reduceAdd, Nat.reduceMul, Nat.reduceLeDiff, hset, hlc1, b2, hvs]; done)) (by (try simp only [push_cast, Nat.reduceEqDiff, ↓reduceIte, reduceCtorEq, Nat.reduceAdd, Nat.reduceMul, Nat.reduceLeDiff, hset, hlc1, b2, hvs]); rfl) (by (try simp only [push_cast, Nat.reduceEqDiff, ↓reduceIte, reduceCtorEq, Nat.reduceAdd, Nat.reduceMul, Nat.reduceLeDiff, hset, hlc1, b2, hvs]); rfl) ?_
       | refine wpr_pass0 rfl rfl ?_
       | refine wpr_pass0S rfl ?_)
    | (show Wp _ _ _ _ _ _
       first
       | refine wp_seq ?_
       | refine wp_region ?_
       | refine wp_cond_t rfl ?_
       | refine wp_cond_f rfl ?_
       | refine wp_ret ?_
       | refine wp_skip ?_
       | refine wp_exit ?_
       | refine wp_block ?_)
    | refine thenQ_norm ?_
    | refine thenQ_ret ?_
    | refine thenQ_exit ?_
    | refine blockQ_norm ?_
    | refine blockQ_ret ?_
    | refine blockQ_same ?_
    | refine blockQ_ne rfl ?_
    | refine loopQ_norm ?_
    | refine loopQ_ret ?_
    | refine loopQ_exit ?_
    | refine retQ_ret (by (try simp (disch := omega) only [push_cast, Nat.reduceEqDiff, ↓reduceIte, reduceCtorEq, Nat.reduceAdd, Nat.reduceMul, Nat.reduceLeDiff, hset, hlc1, b2, hvs]); rfl) ?_
    | refine retQ_norm (by (try simp (disch := omega) only [push_cast, Nat.reduceEqDiff, ↓reduceIte, reduceCtorEq, Nat.reduceAdd, Nat.reduceMul, Nat.reduceLeDiff, hset, hlc1, b2, hvs]); rfl) ?_
    | refine wpc_of (by simp (disch := omega) only [push_cast, Nat.reduceEqDiff, ↓reduceIte, reduceCtorEq, Nat.reduceAdd, Nat.reduceMul, Nat.reduceLeDiff, hset, hlc1, b2, hvs]; rfl) ?_)
        refine ⟨by rw [hk4 _ (.inr ⟨by omega, by omega⟩)]; exact ho, by omega, fun b hb => hk4 b (.inl hb), rfl, ?_⟩
        refine hc.frE _ _ _ _ hE ⟨Nat.le_refl _, fun _ _ _ => rfl⟩ fun b hb => ?_
        rcases hb with hb | hb
        · exact ⟨by have := hT b hb; omega, .inl (.inl hb)⟩
        · exact ⟨hb.2.2, .inl (.inr ⟨hb.1, hb.2.1, by omega⟩)⟩
    · (repeat' first
    | (show WpR _ _ _ _ _ _ _ _ _
       first
       | refine wpr_p (o := .mv _) (by simp only [ev_mv, opd_s, opd_c, fget, Nat.reduceEqDiff, Nat.one_ne_zero, Nat.zero_ne_one, reduceCtorEq, ↓reduceIte]; rfl) ?_
       | (refine wpr_fork (fun _ => ?_) (fun _ => ?_) <;> try (exfalso; omega))
       | (refine wpr_forkN (fun _ => ?_) (fun _ => ?_) <;> try (exfalso; omega))
       | refine wpr_p (by simp (disch := omega) only [push_cast, Nat.reduceEqDiff, ↓reduceIte, reduceCtorEq, Nat.reduceAdd, Nat.reduceMul, Nat.reduceLeDiff, hset, hlc1, b2, hvs]; rfl) ?_
       | refine wpr_r (by simp (disch := omega) only [push_cast, Nat.reduceEqDiff, ↓reduceIte, reduceCtorEq, Nat.reduceAdd, Nat.reduceMul, Nat.reduceLeDiff, hset, hlc1, b2, hvs]; rfl) ?_
       | refine wpr_run rfl ?_
       | refine wpr_pass rfl rfl ?_
       | refine wpr_passS rfl ?_
       | refine wpr_call (by (try simp (disch := omega) only [push_cast, Nat.reduceEqDiff, ↓reduceIte, reduceCtorEq, Nat.reduceAdd, Nat.reduceMul, Nat.reduceLeDiff, hset, hlc1, b2, hvs]) <;> rfl) (by first | rfl | simp only [push_cast, Nat.reduceEqDiff, ↓reduceIte, reduceCtorEq, Nat.reduceAdd, Nat.reduceMul, Nat.reduceLeDiff, hset, hlc1, b2, hvs]) ?_
       | refine wpr_e0 (by simp (disch := omega) only [push_cast, Nat.reduceEqDiff, ↓reduceIte, reduceCtorEq, Nat.reduceAdd, Nat.reduceMul, Nat.reduceLeDiff, hset, hlc1, b2, hvs]; rfl) ?_
       | refine wpr_e (by simp (disch := omega) only [push_cast, Nat.reduceEqDiff, ↓reduceIte, reduceCtorEq, Nat.reduceAdd, Nat.reduceMul, Nat.reduceLeDiff, hset, hlc1, b2, hvs]; rfl) ?_
       | refine wpr_nil (by first | exact chkT_nil | (simp (disch := omega) only [push_cast, Nat.reduceEqDiff, ↓reduceIte, reduceCtorEq, Nat.reduceAdd, Nat.reduceMul, Nat.reduceLeDiff, hset, hlc1, b2, hvs]; done)) (by (try simp only [push_cast, Nat.reduceEqDiff, ↓reduceIte, reduceCtorEq, Nat.reduceAdd, Nat.reduceMul, Nat.reduceLeDiff, hset, hlc1, b2, hvs]); rfl) (by (try simp only [push_cast, Nat.reduceEqDiff, ↓reduceIte, reduceCtorEq, Nat.reduceAdd, Nat.reduceMul, Nat.reduceLeDiff, hset, hlc1, b2, hvs]); rfl) ?_
       | refine wpr_pass0 rfl rfl ?_
       | refine wpr_pass0S rfl ?_)
    | (show Wp _ _ _ _ _ _
       first
       | refine wp_seq ?_
       | refine wp_region ?_
       | refine wp_cond_t rfl ?_
       | refine wp_cond_f rfl ?_
       | refine wp_ret ?_
       | refine wp_skip ?_
       | refine wp_exit ?_
       | refine wp_block ?_)
    | refine thenQ_norm ?_
    | refine thenQ_ret ?_
    | refine thenQ_exit ?_
    | refine blockQ_norm ?_
    | refine blockQ_ret ?_
    | refine blockQ_same ?_
    | refine blockQ_ne rfl ?_
    | refine loopQ_norm ?_
    | refine loopQ_ret ?_
    | refine loopQ_exit ?_
    | refine retQ_ret (by (try simp (disch := omega) only [push_cast, Nat.reduceEqDiff, ↓reduceIte, reduceCtorEq, Nat.reduceAdd, Nat.reduceMul, Nat.reduceLeDiff, hset, hlc1, b2, hvs]); rfl) ?_
    | refine retQ_norm (by (try simp (disch := omega) only [push_cast, Nat.reduceEqDiff, ↓reduceIte, reduceCtorEq, Nat.reduceAdd, Nat.reduceMul, Nat.reduceLeDiff, hset, hlc1, b2, hvs]); rfl) ?_
    | refine wpc_of (by simp (disch := omega) only [push_cast, Nat.reduceEqDiff, ↓reduceIte, reduceCtorEq, Nat.reduceAdd, Nat.reduceMul, Nat.reduceLeDiff, hset, hlc1, b2, hvs]; rfl) ?_)
      refine ⟨b4, hn2, fun b hb => hk2 b (.inl hb), by omega, ?_, b2, b3⟩
      rw [hnx]
      have : j = (x.2 - x.1).toNat := by omega
      rw [← this]
      refine hc.frI _ _ _ _ _ hI ⟨Nat.le_refl _, fun _ _ _ => rfl⟩ fun b hb => ?_
      rcases hb with hb | hb
      · exact ⟨by have := hT b hb; omega, .inl (.inl hb)⟩
      · exact ⟨hb.2.2, .inl (.inr ⟨hb.1, hb.2.1, by omega⟩)⟩
  · rintro T h1 ⟨a0, a1, a2, a3⟩ hT hl
    rw [backL_len, Nat.sub_self, List.drop_zero] at a1
    (repeat' first
    | (show WpR _ _ _ _ _ _ _ _ _
       first
       | refine wpr_p (o := .mv _) (by simp only [ev_mv, opd_s, opd_c, fget, Nat.reduceEqDiff, Nat.one_ne_zero, Nat.zero_ne_one, reduceCtorEq, ↓reduceIte]; rfl) ?_
       | (refine wpr_fork (fun _ => ?_) (fun _ => ?_) <;> try (exfalso; omega))
       | (refine wpr_forkN (fun _ => ?_) (fun _ => ?_) <;> try (exfalso; omega))
       | refine wpr_p (by simp (disch := omega) only [push_cast, Nat.reduceEqDiff, ↓reduceIte, reduceCtorEq, Nat.reduceAdd, Nat.reduceMul, Nat.reduceLeDiff, hset, hlc1]; rfl) ?_
       | refine wpr_r (by simp (disch := omega) only [push_cast, Nat.reduceEqDiff, ↓reduceIte, reduceCtorEq, Nat.reduceAdd, Nat.reduceMul, Nat.reduceLeDiff, hset, hlc1]; rfl) ?_
       | refine wpr_run rfl ?_
       | refine wpr_pass rfl rfl ?_
       | refine wpr_passS rfl ?_
       | refine wpr_call (by (try simp (disch := omega) only [push_cast, Nat.reduceEqDiff, ↓reduceIte, reduceCtorEq, Nat.reduceAdd, Nat.reduceMul, Nat.reduceLeDiff, hset, hlc1]) <;> rfl) (by first | rfl | simp only [push_cast, Nat.reduceEqDiff, ↓reduceIte, reduceCtorEq, Nat.reduceAdd, Nat.reduceMul, Nat.reduceLeDiff, hset, hlc1]) ?_
       | refine wpr_e0 (by simp (disch := omega) only [push_cast, Nat.reduceEqDiff, ↓reduceIte, reduceCtorEq, Nat.reduceAdd, Nat.reduceMul, Nat.reduceLeDiff, hset, hlc1]; rfl) ?_
       | refine wpr_e (by simp (disch := omega) only [push_cast, Nat.reduceEqDiff, ↓reduceIte, reduceCtorEq, Nat.reduceAdd, Nat.reduceMul, Nat.reduceLeDiff, hset, hlc1]; rfl) ?_
       | refine wpr_nil (by first | exact chkT_nil | (simp (disch := omega) only [push_cast, Nat.reduceEqDiff, ↓reduceIte, reduceCtorEq, Nat.reduceAdd, Nat.reduceMul, Nat.reduceLeDiff, hset, hlc1]; done)) (by (try simp only [push_cast, Nat.reduceEqDiff, ↓reduceIte, reduceCtorEq, Nat.reduceAdd, Nat.reduceMul, Nat.reduceLeDiff, hset, hlc1]); rfl) (by (try simp only [push_cast, Nat.reduceEqDiff, ↓reduceIte, reduceCtorEq, Nat.reduceAdd, Nat.reduceMul, Nat.reduceLeDiff, hset, hlc1]); rfl) ?_
       | refine wpr_pass0 rfl rfl ?_
       | refine wpr_pass0S rfl ?_)
    | (show Wp _ _ _ _ _ _
       first
       | refine wp_seq ?_
       | refine wp_region ?_
       | refine wp_cond_t rfl ?_
       | refine wp_cond_f rfl ?_
       | refine wp_ret ?_
       | refine wp_skip ?_
       | refine wp_exit ?_
       | refine wp_block ?_)
    | refine thenQ_norm ?_
    | refine thenQ_ret ?_
    | refine thenQ_exit ?_
    | refine blockQ_norm ?_
    | refine blockQ_ret ?_
    | refine blockQ_same ?_
    | refine blockQ_ne rfl ?_
    | refine loopQ_norm ?_
    | refine loopQ_ret ?_
    | refine loopQ_exit ?_
    | refine retQ_ret (by (try simp (disch := omega) only [push_cast, Nat.reduceEqDiff, ↓reduceIte, reduceCtorEq, Nat.reduceAdd, Nat.reduceMul, Nat.reduceLeDiff, hset, hlc1]); rfl) ?_
    | refine retQ_norm (by (try simp (disch := omega) only [push_cast, Nat.reduceEqDiff, ↓reduceIte, reduceCtorEq, Nat.reduceAdd, Nat.reduceMul, Nat.reduceLeDiff, hset, hlc1]); rfl) ?_
    | refine wpc_of (by simp (disch := omega) only [push_cast, Nat.reduceEqDiff, ↓reduceIte, reduceCtorEq, Nat.reduceAdd, Nat.reduceMul, Nat.reduceLeDiff, hset, hlc1]; rfl) ?_)
    exact ⟨_, .inl (by rw [List.length_reverse]; exact a1)⟩
  · rintro ex T h1 hex ⟨rfl, a1⟩ hT hl
    (repeat' first
    | (show WpR _ _ _ _ _ _ _ _ _
       first
       | refine wpr_p (o := .mv _) (by simp only [ev_mv, opd_s, opd_c, fget, Nat.reduceEqDiff, Nat.one_ne_zero, Nat.zero_ne_one, reduceCtorEq, ↓reduceIte]; rfl) ?_
       | (refine wpr_fork (fun _ => ?_) (fun _ => ?_) <;> try (exfalso; omega))
       | (refine wpr_forkN (fun _ => ?_) (fun _ => ?_) <;> try (exfalso; omega))
       | refine wpr_p (by simp (disch := omega) only [push_cast, Nat.reduceEqDiff, ↓reduceIte, reduceCtorEq, Nat.reduceAdd, Nat.reduceMul, Nat.reduceLeDiff, hset, hlc1]; rfl) ?_
       | refine wpr_r (by simp (disch := omega) only [push_cast, Nat.reduceEqDiff, ↓reduceIte, reduceCtorEq, Nat.reduceAdd, Nat.reduceMul, Nat.reduceLeDiff, hset, hlc1]; rfl) ?_
       | refine wpr_run rfl ?_
       | refine wpr_pass rfl rfl ?_
       | refine wpr_passS rfl ?_
       | refine wpr_call (by (try simp (disch := omega) only [push_cast, Nat.reduceEqDiff, ↓reduceIte, reduceCtorEq, Nat.reduceAdd, Nat.reduceMul, Nat.reduceLeDiff, hset, hlc1]) <;> rfl) (by first | rfl | simp only [push_cast, Nat.reduceEqDiff, ↓reduceIte, reduceCtorEq, Nat.reduceAdd, Nat.reduceMul, Nat.reduceLeDiff, hset, hlc1]) ?_
       | refine wpr_e0 (by simp (disch := omega) only [push_cast, Nat.reduceEqDiff, ↓reduceIte, reduceCtorEq, Nat.reduceAdd, Nat.reduceMul, Nat.reduceLeDiff, hset, hlc1]; rfl) ?_
       | refine wpr_e (by simp (disch := omega) only [push_cast, Nat.reduceEqDiff, ↓reduceIte, reduceCtorEq, Nat.reduceAdd, Nat.reduceMul, Nat.reduceLeDiff, hset, hlc1]; rfl) ?_
       | refine wpr_nil (by first | exact chkT_nil | (simp (disch := omega) only [push_cast, Nat.reduceEqDiff, ↓reduceIte, reduceCtorEq, Nat.reduceAdd, Nat.reduceMul, Nat.reduceLeDiff, hset, hlc1]; done)) (by (try simp only [push_cast, Nat.reduceEqDiff, ↓reduceIte, reduceCtorEq, Nat.reduceAdd, Nat.reduceMul, Nat.reduceLeDiff, hset, hlc1]); rfl) (by (try simp only [push_cast, Nat.reduceEqDiff, ↓reduceIte, reduceCtorEq, Nat.reduceAdd, Nat.reduceMul, Nat.reduceLeDiff, hset, hlc1]); rfl) ?_
       | refine wpr_pass0 rfl rfl ?_
       | refine wpr_pass0S rfl ?_)
    | (show Wp _ _ _ _ _ _
       first
       | refine wp_seq ?_
       | refine wp_region ?_
       | refine wp_cond_t rfl ?_
       | refine wp_cond_f rfl ?_
       | refine wp_ret ?_
       | refine wp_skip ?_
       | refine wp_exit ?_
       | refine wp_block ?_)
    | refine thenQ_norm ?_
    | refine thenQ_ret ?_
    | refine thenQ_exit ?_
    | refine blockQ_norm ?_
    | refine blockQ_ret ?_
    | refine blockQ_same ?_
    | refine blockQ_ne rfl ?_
    | refine loopQ_norm ?_
    | refine loopQ_ret ?_
    | refine loopQ_exit ?_
    | refine retQ_ret (by (try simp (disch := omega) only [push_cast, Nat.reduceEqDiff, ↓reduceIte, reduceCtorEq, Nat.reduceAdd, Nat.reduceMul, Nat.reduceLeDiff, hset, hlc1]); rfl) ?_
    | refine retQ_norm (by (try simp (disch := omega) only [push_cast, Nat.reduceEqDiff, ↓reduceIte, reduceCtorEq, Nat.reduceAdd, Nat.reduceMul, Nat.reduceLeDiff, hset, hlc1]); rfl) ?_
    | refine wpc_of (by simp (disch := omega) only [push_cast, Nat.reduceEqDiff, ↓reduceIte, reduceCtorEq, Nat.reduceAdd, Nat.reduceMul, Nat.reduceLeDiff, hset, hlc1]; rfl) ?_)
    exact ⟨_, .inr a1⟩

end Go.Proofs.Ytanpdopjgepbkaa.AM
