/- A set is made of rows. -/
import Derived.Test.YtanpdopjgepbkaaSlC
import Derived.Test.YtanpdopjgepbkaaMkA
set_option linter.unusedVariables false
set_option linter.unusedSimpArgs false
namespace Go.Proofs.Ytanpdopjgepbkaa.AM
open Go

theorem rowsOf_flat : ∀ l : List (Int × Int), rowsOf (l.map rowV).flatten = some l
  | [] => rfl
  | (a, b) :: l => by
    have := rowsOf_flat l
    simp only [List.map_cons, List.flatten_cons, rowV, List.cons_append, List.nil_append, rowsOf, this, Option.map_some]

theorem sortF_length (l : List (Int × Int)) : (sortF l).length = l.length := by unfold sortF; exact List.length_mergeSort l

/-- The rows are sorted in their place. -/
theorem sort_eq {h0 h : AH} {s : Sl} {rows : List (Int × Int)} (f : FOwn h0 h 2 s (rows.map rowV)) (hn : rows.length < 1000000000000000) (hs : s = .nil ∨ 0 < rows.length) :
    WpC PS 87 [s.val 2, .func (.func 88) (Array.mk []) (Array.mk [])] h fun v h' => v = .tuple #[] ∧ FOwn h0 h' 2 s ((sortF rows).map rowV) := by
  have hext : PS.ext 87 = some sortX := by unfold PS; rw [withExt_ext]; rfl
  obtain ⟨own, kp, new⟩ := f
  cases s with
  | nil =>
    have hr : rows = [] := List.eq_nil_of_length_eq_zero (by have := own.1; simpa [Sl.len] using this.symm)
    subst hr
    exact ⟨_, _, by rw [callO_ext hext]; rfl, rfl, by simpa [sortF] using FOwn.nil (e := 2) kp⟩
  | «at» b o n =>
    have hl : 0 < rows.length := hs.resolve_left (by simp)
    obtain ⟨h1, h2, pre, h3, h4⟩ := own
    simp only [Sl.len, List.length_map] at h1
    subst h1
    have hfl := flatten_len h2
    rw [List.length_map] at hfl
    refine ⟨.tuple #[], h.set b (.cells false (pre ++ ((sortF rows).map rowV).flatten)), ?_, rfl, ⟨⟨by simp [Sl.len, sortF_length], fun x hx => by obtain ⟨y, _, rfl⟩ := List.mem_map.1 hx; rfl, pre, AH.get_set_same _ (AH.get_lt h3), h4⟩,
      ⟨kp.1, fun b' hb' => (AH.get_set_ne _ (fun e => by have := new b rfl; omega)).trans (kp.2 b' hb')⟩, new⟩⟩
    rw [callO_ext hext]
    have e1 : (pre ++ (rows.map rowV).flatten).drop o = (rows.map rowV).flatten := by rw [← h4, List.drop_left]
    have e2 : (pre ++ (rows.map rowV).flatten).take o = pre := by rw [← h4, List.take_left]
    have e3 : (pre ++ (rows.map rowV).flatten).drop (o + rows.length * 2) = [] := List.drop_eq_nil_of_le (by simp only [List.length_append, hfl, h4]; omega)
    have e4 : ((rows.map rowV).flatten).take (rows.length * 2) = (rows.map rowV).flatten := List.take_of_length_le (by omega)
    show sortX [.slice (some ⟨b, o, none⟩) rows.length 2, .func (.func 88) (Array.mk []) (Array.mk [])] h = _
    simp only [sortX, h3, e1, e2, e3, e4, rowsOf_flat, List.append_nil]
    rw [if_pos ⟨hl, hn, trivial, trivial, rfl, rfl, by simp only [List.length_append, hfl, h4]; omega⟩]

/-! ### made -/

def addRow (acc : List (Int × Int)) (x : Int × Int) : List (Int × Int) :=
  if x.2 ≤ x.1 then acc
  else if h : 0 < acc.length then (if x.1 ≤ (acc[acc.length - 1]).2 then acc.set (acc.length - 1) ((acc[acc.length - 1]).1, max (acc[acc.length - 1]).2 x.2) else acc ++ [x]) else acc ++ [x]
def madeF (rows : List (Int × Int)) : List (Int × Int) := (sortF rows).foldl addRow []

/-- A set's rows, read. -/
def SetR (h : AH) (b : Nat) (rows : List (Int × Int)) : Prop := ∃ t : Sl, h.get b = some (.cells false [t.val 2]) ∧ Reads h 2 t (rows.map rowV)

/-- .. all of it laid since a heap. -/
def SetF (h0 h : AH) (b : Nat) (rows : List (Int × Int)) : Prop := ∃ t : Sl, h.get b = some (.cells false [t.val 2]) ∧ h0.n ≤ b ∧ Reads h 2 t (rows.map rowV) ∧ ∀ x, t.blk = some x → h0.n ≤ x
theorem SetF.set {h0 h : AH} {b : Nat} {rows : List (Int × Int)} (r : SetF h0 h b rows) : SetR h b rows := let ⟨t, h1, _, h2, _⟩ := r; ⟨t, h1, h2⟩
theorem Reads.same {h h' : AH} {e : Nat} {s : Sl} {xss : List (List Value)} (r : Reads h e s xss) (k : ∀ b, s.blk = some b → h'.get b = h.get b) : Reads h' e s xss := by
  refine ⟨r.1, r.2.1, ?_⟩
  have := r.2.2
  cases s with
  | nil => trivial
  | «at» b o n => exact this.imp id fun ⟨ro, pre, post, h1, h2⟩ => ⟨ro, pre, post, by rw [k b rfl]; exact h1, h2⟩
theorem SetF.keep {h0 h h' : AH} {b : Nat} {rows : List (Int × Int)} (r : SetF h0 h b rows) (k : ∀ x, h0.n ≤ x → h'.get x = h.get x) : SetF h0 h' b rows :=
  let ⟨t, h1, h2, h3, h4⟩ := r
  ⟨t, by rw [k b h2]; exact h1, h2, h3.same fun x hx => k x (h4 x hx), h4⟩
theorem SetF.kp {h0 h h' : AH} {b : Nat} {rows : List (Int × Int)} (r : SetF h0 h b rows) (k : Kp h h') : SetF h0 h' b rows :=
  let ⟨t, h1, h2, h3, h4⟩ := r
  ⟨t, k.get h1, h2, h3.kp k, h4⟩

theorem SetR.kp {h0 h : AH} {b : Nat} {rows : List (Int × Int)} (r : SetR h0 b rows) (k : Kp h0 h) : SetR h b rows := let ⟨t, h1, h2⟩ := r; ⟨t, k.get h1, h2.kp k⟩

theorem addRow_length (acc : List (Int × Int)) (x : Int × Int) : (addRow acc x).length ≤ acc.length + 1 := by
  unfold addRow
  split
  · omega
  · split
    · split
      · simp
      · simp
    · simp

theorem foldl_length (l : List (Int × Int)) : ∀ acc : List (Int × Int), (l.foldl addRow acc).length ≤ acc.length + l.length := by
  induction l with
  | nil => intro acc; simp
  | cons x r ih =>
    intro acc
    simp only [List.foldl_cons, List.length_cons]
    have := ih (addRow acc x)
    have := addRow_length acc x
    omega

theorem map_set_hi (l : List (Int × Int)) {j : Nat} (hj : j < l.length) {m : Int} : (l.map rowV).set j (((l.map rowV)[j]'(by simpa using hj)).set 1 (.int .i64 m)) = (l.set j (l[j].1, m)).map rowV := by
  rw [List.map_set]
  congr 1
  simp [rowV]

theorem made_spec {h0 h : AH} {s : Sl} {rows : List (Int × Int)} (f : FOwn h0 h 2 s (rows.map rowV)) (hn : rows.length < 1000000000000) (hs : s = .nil ∨ 0 < rows.length) :
    WpC PS 73 [s.val 2] h fun v h' => ∃ b, v = .pointer (some ⟨b, 0, none⟩) ∧ SetF h0 h' b (madeF rows) ∧ Kp h0 h' := by
  have hlen := f.reads.len
  refine wpc_fn (ps_ext rfl) (ps_fn fn73) rfl ?_
  unfold LF73
  simp only [argFr]
  (repeat' first
    | (show WpR _ _ _ _ _ _ _ _ _
       first
       | refine wpr_p (o := .mv _) (by simp only [ev_mv, opd_s, opd_c, fget, Nat.reduceEqDiff, Nat.one_ne_zero, Nat.zero_ne_one, reduceCtorEq, ↓reduceIte]; rfl) ?_
       | (refine wpr_fork (fun _ => ?_) (fun _ => ?_) <;> try (exfalso; omega))
       | (refine wpr_forkN (fun _ => ?_) (fun _ => ?_) <;> try (exfalso; omega))
       | refine wpr_p (by simp (disch := omega) only [push_cast, Nat.reduceEqDiff, ↓reduceIte, reduceCtorEq, Nat.reduceAdd, Nat.reduceMul, Nat.reduceLeDiff, hlen]; rfl) ?_
       | refine wpr_r (by simp (disch := omega) only [push_cast, Nat.reduceEqDiff, ↓reduceIte, reduceCtorEq, Nat.reduceAdd, Nat.reduceMul, Nat.reduceLeDiff, hlen]; rfl) ?_
       | refine wpr_run rfl ?_
       | refine wpr_pass rfl rfl ?_
       | refine wpr_passS rfl ?_
       | refine wpr_call (by (try simp (disch := omega) only [push_cast, Nat.reduceEqDiff, ↓reduceIte, reduceCtorEq, Nat.reduceAdd, Nat.reduceMul, Nat.reduceLeDiff, hlen]) <;> rfl) (by first | rfl | simp only [push_cast, Nat.reduceEqDiff, ↓reduceIte, reduceCtorEq, Nat.reduceAdd, Nat.reduceMul, Nat.reduceLeDiff, hlen]) ?_
       | refine wpr_e0 (by simp (disch := omega) only [push_cast, Nat.reduceEqDiff, ↓reduceIte, reduceCtorEq, Nat.reduceAdd, Nat.reduceMul, Nat.reduceLeDiff, hlen]; rfl) ?_
       | refine wpr_e (by simp (disch := omega) only [push_cast, Nat.reduceEqDiff, ↓reduceIte, reduceCtorEq, Nat.reduceAdd, Nat.reduceMul, Nat.reduceLeDiff, hlen]; rfl) ?_
       | refine wpr_nil (by first | exact chkT_nil | (simp (disch := omega) only [push_cast, Nat.reduceEqDiff, ↓reduceIte, reduceCtorEq, Nat.reduceAdd, Nat.reduceMul, Nat.reduceLeDiff, hlen]; done)) (by (try simp only [push_cast, Nat.reduceEqDiff, ↓reduceIte, reduceCtorEq, Nat.reduceAdd, Nat.reduceMul, Nat.reduceLeDiff, hlen]); rfl) (by (try simp only [push_cast, Nat.reduceEqDiff, ↓reduceIte, reduceCtorEq, Nat.reduceAdd, Nat.reduceMul, Nat.reduceLeDiff, hlen]); rfl) ?_
       | refine wpr_pass0 rfl rfl ?_
       | refine wpr_pass0S rfl ?_)
    | (show Wp _ _ _ _ _ _
       first
       | refine wp_seq ?_
       | refine wp_region ?_
       | refine wp_cond_t rfl ?_
       | refine wp_cond_f rfl ?_
       | refine wp_ret ?_
       | refine wp_skip ?_
       | refine wp_exit ?_
       | refine wp_block ?_)
    | refine thenQ_norm ?_
    | refine thenQ_ret ?_
    | refine thenQ_exit ?_
    | refine blockQ_norm ?_
    | refine blockQ_ret ?_
    | refine blockQ_same ?_
    | refine blockQ_ne rfl ?_
    | refine loopQ_norm ?_
    | refine loopQ_ret ?_
    | refine loopQ_exit ?_
    | refine retQ_ret (by (try simp (disch := omega) only [push_cast, Nat.reduceEqDiff, ↓reduceIte, reduceCtorEq, Nat.reduceAdd, Nat.reduceMul, Nat.reduceLeDiff, hlen]); rfl) ?_
    | refine retQ_norm (by (try simp (disch := omega) only [push_cast, Nat.reduceEqDiff, ↓reduceIte, reduceCtorEq, Nat.reduceAdd, Nat.reduceMul, Nat.reduceLeDiff, hlen]); rfl) ?_
    | refine wpc_of (by simp (disch := omega) only [push_cast, Nat.reduceEqDiff, ↓reduceIte, reduceCtorEq, Nat.reduceAdd, Nat.reduceMul, Nat.reduceLeDiff, hlen]; rfl) ?_)
  refine (sort_eq f (by omega) hs).mono ?_
  rintro v h1 ⟨rfl, f1⟩
  (repeat' first
    | (show WpR _ _ _ _ _ _ _ _ _
       first
       | refine wpr_p (o := .mv _) (by simp only [ev_mv, opd_s, opd_c, fget, Nat.reduceEqDiff, Nat.one_ne_zero, Nat.zero_ne_one, reduceCtorEq, ↓reduceIte]; rfl) ?_
       | (refine wpr_fork (fun _ => ?_) (fun _ => ?_) <;> try (exfalso; omega))
       | (refine wpr_forkN (fun _ => ?_) (fun _ => ?_) <;> try (exfalso; omega))
       | refine wpr_p (by simp (disch := omega) only [push_cast, Nat.reduceEqDiff, ↓reduceIte, reduceCtorEq, Nat.reduceAdd, Nat.reduceMul, Nat.reduceLeDiff, hlen]; rfl) ?_
       | refine wpr_r (by simp (disch := omega) only [push_cast, Nat.reduceEqDiff, ↓reduceIte, reduceCtorEq, Nat.reduceAdd, Nat.reduceMul, Nat.reduceLeDiff, hlen]; rfl) ?_
       | refine wpr_run rfl ?_
       | refine wpr_pass rfl rfl ?_
       | refine wpr_passS rfl ?_
       | refine wpr_call (by (try simp (disch := omega) only [push_cast, Nat.reduceEqDiff, ↓reduceIte, reduceCtorEq, Nat.reduceAdd, Nat.reduceMul, Nat.reduceLeDiff, hlen]) <;> rfl) (by first | rfl | simp only [push_cast, Nat.reduceEqDiff, ↓reduceIte, reduceCtorEq, Nat.reduceAdd, Nat.reduceMul, Nat.reduceLeDiff, hlen]) ?_
       | refine wpr_e0 (by simp (disch := omega) only [push_cast, Nat.reduceEqDiff, ↓reduceIte, reduceCtorEq, Nat.reduceAdd, Nat.reduceMul, Nat.reduceLeDiff, hlen]; rfl) ?_
       | refine wpr_e (by simp (disch := omega) only [push_cast, Nat.reduceEqDiff, ↓reduceIte, reduceCtorEq, Nat.reduceAdd, Nat.reduceMul, Nat.reduceLeDiff, hlen]; rfl) ?_
       | refine wpr_nil (by first | exact chkT_nil | (simp (disch := omega) only [push_cast, Nat.reduceEqDiff, ↓reduceIte, reduceCtorEq, Nat.reduceAdd, Nat.reduceMul, Nat.reduceLeDiff, hlen]; done)) (by (try simp only [push_cast, Nat.reduceEqDiff, ↓reduceIte, reduceCtorEq, Nat.reduceAdd, Nat.reduceMul, Nat.reduceLeDiff, hlen]); rfl) (by (try simp only [push_cast, Nat.reduceEqDiff, ↓reduceIte, reduceCtorEq, Nat.reduceAdd, Nat.reduceMul, Nat.reduceLeDiff, hlen]); rfl) ?_
       | refine wpr_pass0 rfl rfl ?_
       | refine wpr_pass0S rfl ?_)
    | (show Wp _ _ _ _ _ _
       first
       | refine wp_seq ?_
       | refine wp_region ?_
       | refine wp_cond_t rfl ?_
       | refine wp_cond_f rfl ?_
       | refine wp_ret ?_
       | refine wp_skip ?_
       | refine wp_exit ?_
       | refine wp_block ?_)
    | refine thenQ_norm ?_
    | refine thenQ_ret ?_
    | refine thenQ_exit ?_
    | refine blockQ_norm ?_
    | refine blockQ_ret ?_
    | refine blockQ_same ?_
    | refine blockQ_ne rfl ?_
    | refine loopQ_norm ?_
    | refine loopQ_ret ?_
    | refine loopQ_exit ?_
    | refine retQ_ret (by (try simp (disch := omega) only [push_cast, Nat.reduceEqDiff, ↓reduceIte, reduceCtorEq, Nat.reduceAdd, Nat.reduceMul, Nat.reduceLeDiff, hlen]); rfl) ?_
    | refine retQ_norm (by (try simp (disch := omega) only [push_cast, Nat.reduceEqDiff, ↓reduceIte, reduceCtorEq, Nat.reduceAdd, Nat.reduceMul, Nat.reduceLeDiff, hlen]); rfl) ?_
    | refine wpc_of (by simp (disch := omega) only [push_cast, Nat.reduceEqDiff, ↓reduceIte, reduceCtorEq, Nat.reduceAdd, Nat.reduceMul, Nat.reduceLeDiff, hlen]; rfl) ?_)
  have hSl := sortF_length rows
  have hsb : ∀ x, s.blk = some x → x < h1.n := fun x hx => by
    obtain ⟨_, _, h3⟩ := f1.own
    cases s with
    | nil => cases hx
    | «at» b o n =>
      obtain ⟨pre, h4, _⟩ := h3
      injection hx with hx
      subst hx
      exact AH.get_lt h4
  have hb0 : h0.n ≤ h1.n := f1.kp.1
  refine wp_loop (fun n fr lc h => ∃ (i : Nat) (t : Sl) (acc : List (Int × Int)), n = rows.length - i ∧ i ≤ rows.length ∧ fr = [(3, .pointer (some ⟨h1.n, 0, none⟩)), (11, s.val 2), (12, .int .i64 rows.length), (13, .int .i64 i)] ∧ lc = [] ∧
      h.get h1.n = some (.cells false [t.val 2]) ∧ acc = ((sortF rows).take i).foldl addRow [] ∧ acc.length ≤ i ∧ Own h 2 t (acc.map rowV) ∧ (∀ x, t.blk = some x → h1.n < x) ∧ Kp h1 h)
    rows.length ⟨0, .nil, [], rfl, Nat.zero_le _, rfl, rfl, AH.get_push_same _ _, rfl, Nat.le_refl _, ⟨rfl, by simp, trivial⟩, (fun x hx => by cases hx), ⟨by simp, fun b hb => AH.get_push_ne _ (by omega)⟩⟩ ?_
  rintro n fr lc h2 ⟨i, t, acc, rfl, hi, rfl, rfl, hget, hacc, haccl, hown, htb, hkp⟩
  have htl : t.len = acc.length := by simpa using hown.1
  have hrd : Reads h2 2 s ((sortF rows).map rowV) := f1.reads.kp hkp
  have hrl : s.len = (sortF rows).length := by omega
  have hlt : h1.n < h2.n := AH.get_lt hget
  have hnb : t.blk ≠ some h1.n := fun e => by have := htb _ e; omega
  rcases Nat.lt_or_ge i rows.length with hil | hil
  · have hstep : ((sortF rows).take (i + 1)).foldl addRow [] = addRow acc (sortF rows)[i] := by
      rw [hacc, List.take_succ_eq_append_getElem (by omega), List.foldl_append]
      rfl
    generalize hx : (sortF rows)[i] = x at hstep
    have hxr : ∀ lc, Mem.rd ⟨lc, h2⟩ (s.adr 2 i) 2 = some (rowV x) := fun lc => by rw [← hx]; exact rd_map hrd (by omega)
    (repeat' first
    | (show WpR _ _ _ _ _ _ _ _ _
       first
       | refine wpr_p (o := .mv _) (by simp only [ev_mv, opd_s, opd_c, fget, Nat.reduceEqDiff, Nat.one_ne_zero, Nat.zero_ne_one, reduceCtorEq, ↓reduceIte]; rfl) ?_
       | (refine wpr_fork (fun _ => ?_) (fun _ => ?_) <;> try (exfalso; omega))
       | (refine wpr_forkN (fun _ => ?_) (fun _ => ?_) <;> try (exfalso; omega))
       | refine wpr_p (by simp (disch := omega) only [push_cast, Nat.reduceEqDiff, ↓reduceIte, reduceCtorEq, Nat.reduceAdd, Nat.reduceMul, Nat.reduceLeDiff, hlen, hget, hxr, rd_mapc hown.reads, rowV, htl]; rfl) ?_
       | refine wpr_r (by simp (disch := omega) only [push_cast, Nat.reduceEqDiff, ↓reduceIte, reduceCtorEq, Nat.reduceAdd, Nat.reduceMul, Nat.reduceLeDiff, hlen, hget, hxr, rd_mapc hown.reads, rowV, htl]; rfl) ?_
       | refine wpr_run rfl ?_
       | refine wpr_pass rfl rfl ?_
       | refine wpr_passS rfl ?_
       | refine wpr_call (by (try simp (disch := omega) only [push_cast, Nat.reduceEqDiff, ↓reduceIte, reduceCtorEq, Nat.reduceAdd, Nat.reduceMul, Nat.reduceLeDiff, hlen, hget, hxr, rd_mapc hown.reads, rowV, htl]) <;> rfl) (by first | rfl | simp only [push_cast, Nat.reduceEqDiff, ↓reduceIte, reduceCtorEq, Nat.reduceAdd, Nat.reduceMul, Nat.reduceLeDiff, hlen, hget, hxr, rd_mapc hown.reads, rowV, htl]) ?_
       | refine wpr_e0 (by simp (disch := omega) only [push_cast, Nat.reduceEqDiff, ↓reduceIte, reduceCtorEq, Nat.reduceAdd, Nat.reduceMul, Nat.reduceLeDiff, hlen, hget, hxr, rd_mapc hown.reads, rowV, htl]; rfl) ?_
       | refine wpr_e (by simp (disch := omega) only [push_cast, Nat.reduceEqDiff, ↓reduceIte, reduceCtorEq, Nat.reduceAdd, Nat.reduceMul, Nat.reduceLeDiff, hlen, hget, hxr, rd_mapc hown.reads, rowV, htl]; rfl) ?_
       | refine wpr_nil (by first | exact chkT_nil | (simp (disch := omega) only [push_cast, Nat.reduceEqDiff, ↓reduceIte, reduceCtorEq, Nat.reduceAdd, Nat.reduceMul, Nat.reduceLeDiff, hlen, hget, hxr, rd_mapc hown.reads, rowV, htl]; done)) (by (try simp only [push_cast, Nat.reduceEqDiff, ↓reduceIte, reduceCtorEq, Nat.reduceAdd, Nat.reduceMul, Nat.reduceLeDiff, hlen, hget, hxr, rd_mapc hown.reads, rowV, htl]); rfl) (by (try simp only [push_cast, Nat.reduceEqDiff, ↓reduceIte, reduceCtorEq, Nat.reduceAdd, Nat.reduceMul, Nat.reduceLeDiff, hlen, hget, hxr, rd_mapc hown.reads, rowV, htl]); rfl) ?_
       | refine wpr_pass0 rfl rfl ?_
       | refine wpr_pass0S rfl ?_)
    | (show Wp _ _ _ _ _ _
       first
       | refine wp_seq ?_
       | refine wp_region ?_
       | refine wp_cond_t rfl ?_
       | refine wp_cond_f rfl ?_
       | refine wp_ret ?_
       | refine wp_skip ?_
       | refine wp_exit ?_
       | refine wp_block ?_)
    | refine thenQ_norm ?_
    | refine thenQ_ret ?_
    | refine thenQ_exit ?_
    | refine blockQ_norm ?_
    | refine blockQ_ret ?_
    | refine blockQ_same ?_
    | refine blockQ_ne rfl ?_
    | refine loopQ_norm ?_
    | refine loopQ_ret ?_
    | refine loopQ_exit ?_
    | refine retQ_ret (by (try simp (disch := omega) only [push_cast, Nat.reduceEqDiff, ↓reduceIte, reduceCtorEq, Nat.reduceAdd, Nat.reduceMul, Nat.reduceLeDiff, hlen, hget, hxr, rd_mapc hown.reads, rowV, htl]); rfl) ?_
    | refine retQ_norm (by (try simp (disch := omega) only [push_cast, Nat.reduceEqDiff, ↓reduceIte, reduceCtorEq, Nat.reduceAdd, Nat.reduceMul, Nat.reduceLeDiff, hlen, hget, hxr, rd_mapc hown.reads, rowV, htl]); rfl) ?_
    | refine wpc_of (by simp (disch := omega) only [push_cast, Nat.reduceEqDiff, ↓reduceIte, reduceCtorEq, Nat.reduceAdd, Nat.reduceMul, Nat.reduceLeDiff, hlen, hget, hxr, rd_mapc hown.reads, rowV, htl]; rfl) ?_)
    · rename_i g1 g2
      refine ⟨_, ?_, i + 1, t, acc, rfl, by omega, rfl, rfl, hget, ?_, by omega, hown, htb, hkp⟩
      · omega
      · rw [hstep, addRow, if_pos g2]
    · rename_i g1 g2 g3 g4
      refine wpr_store1R (v := .int .i64 (max acc[((acc.length : Int) - 1).toNat].2 x.2)) hown rfl rfl rfl (by simp; omega) (by decide) fun h3 ho3 hn3 hk3 => ?_
      (repeat' first
    | (show WpR _ _ _ _ _ _ _ _ _
       first
       | refine wpr_p (o := .mv _) (by simp only [ev_mv, opd_s, opd_c, fget, Nat.reduceEqDiff, Nat.one_ne_zero, Nat.zero_ne_one, reduceCtorEq, ↓reduceIte]; rfl) ?_
       | (refine wpr_fork (fun _ => ?_) (fun _ => ?_) <;> try (exfalso; omega))
       | (refine wpr_forkN (fun _ => ?_) (fun _ => ?_) <;> try (exfalso; omega))
       | refine wpr_p (by simp (disch := omega) only [push_cast, Nat.reduceEqDiff, ↓reduceIte, reduceCtorEq, Nat.reduceAdd, Nat.reduceMul, Nat.reduceLeDiff]; rfl) ?_
       | refine wpr_r (by simp (disch := omega) only [push_cast, Nat.reduceEqDiff, ↓reduceIte, reduceCtorEq, Nat.reduceAdd, Nat.reduceMul, Nat.reduceLeDiff]; rfl) ?_
       | refine wpr_run rfl ?_
       | refine wpr_pass rfl rfl ?_
       | refine wpr_passS rfl ?_
       | refine wpr_call (by (try simp (disch := omega) only [push_cast, Nat.reduceEqDiff, ↓reduceIte, reduceCtorEq, Nat.reduceAdd, Nat.reduceMul, Nat.reduceLeDiff]) <;> rfl) (by first | rfl | simp only [push_cast, Nat.reduceEqDiff, ↓reduceIte, reduceCtorEq, Nat.reduceAdd, Nat.reduceMul, Nat.reduceLeDiff]) ?_
       | refine wpr_e0 (by simp (disch := omega) only [push_cast, Nat.reduceEqDiff, ↓reduceIte, reduceCtorEq, Nat.reduceAdd, Nat.reduceMul, Nat.reduceLeDiff]; rfl) ?_
       | refine wpr_e (by simp (disch := omega) only [push_cast, Nat.reduceEqDiff, ↓reduceIte, reduceCtorEq, Nat.reduceAdd, Nat.reduceMul, Nat.reduceLeDiff]; rfl) ?_
       | refine wpr_nil (by first | exact chkT_nil | (simp (disch := omega) only [push_cast, Nat.reduceEqDiff, ↓reduceIte, reduceCtorEq, Nat.reduceAdd, Nat.reduceMul, Nat.reduceLeDiff]; done)) (by (try simp only [push_cast, Nat.reduceEqDiff, ↓reduceIte, reduceCtorEq, Nat.reduceAdd, Nat.reduceMul, Nat.reduceLeDiff]); rfl) (by (try simp only [push_cast, Nat.reduceEqDiff, ↓reduceIte, reduceCtorEq, Nat.reduceAdd, Nat.reduceMul, Nat.reduceLeDiff]); rfl) ?_
       | refine wpr_pass0 rfl rfl ?_
       | refine wpr_pass0S rfl ?_)
    | (show Wp _ _ _ _ _ _
       first
       | refine wp_seq ?_
       | refine wp_region ?_
       | refine wp_cond_t rfl ?_
       | refine wp_cond_f rfl ?_
       | refine wp_ret ?_
       | refine wp_skip ?_
       | refine wp_exit ?_
       | refine wp_block ?_)
    | refine thenQ_norm ?_
    | refine thenQ_ret ?_
    | refine thenQ_exit ?_
    | refine blockQ_norm ?_
    | refine blockQ_ret ?_
    | refine blockQ_same ?_
    | refine blockQ_ne rfl ?_
    | refine loopQ_norm ?_
    | refine loopQ_ret ?_
    | refine loopQ_exit ?_
    | refine retQ_ret (by (try simp (disch := omega) only [push_cast, Nat.reduceEqDiff, ↓reduceIte, reduceCtorEq, Nat.reduceAdd, Nat.reduceMul, Nat.reduceLeDiff]); rfl) ?_
    | refine retQ_norm (by (try simp (disch := omega) only [push_cast, Nat.reduceEqDiff, ↓reduceIte, reduceCtorEq, Nat.reduceAdd, Nat.reduceMul, Nat.reduceLeDiff]); rfl) ?_
    | refine wpc_of (by simp (disch := omega) only [push_cast, Nat.reduceEqDiff, ↓reduceIte, reduceCtorEq, Nat.reduceAdd, Nat.reduceMul, Nat.reduceLeDiff]; rfl) ?_)
      have e1 : ((acc.length : Int) - 1).toNat = acc.length - 1 := by omega
      refine ⟨_, ?_, i + 1, t, addRow acc x, rfl, by omega, rfl, rfl, ?_, hstep.symm, ?_, ?_, htb, ?_⟩
      · omega
      · rw [hk3 _ hnb]; exact hget
      · have := addRow_length acc x; omega
      · simp only [e1] at ho3 g4
        rw [addRow, if_neg g2, dif_pos (by omega), if_pos g4]
        rw [← map_set_hi acc (by omega)]
        exact ho3
      · exact ⟨by have := hkp.1; omega, fun b hb => (hk3 b (fun e => by have := htb _ e; omega)).trans (hkp.2 b hb)⟩
    all_goals try (exfalso; omega)
    all_goals
      have e1 : ((acc.length : Int) - 1).toNat = acc.length - 1 := by omega
      simp only [e1] at *
      have happ : addRow acc x = acc ++ [x] := by
        unfold addRow
        repeat' split
        all_goals first | rfl | contradiction | omega
      refine wpr_appendR (yss := [rowV x]) (k := 1) hown rfl rfl rfl rfl (by simp [rowV]) (by decide) (by decide) (by decide) (by simp; omega) fun t' h3 ho3 hb3 hn3 hk3 => ?_
      have hget3 : h3.get h1.n = some (.cells false [t.val 2]) := by rw [hk3 _ hlt hnb]; exact hget
      (repeat' first
    | (show WpR _ _ _ _ _ _ _ _ _
       first
       | refine wpr_p (o := .mv _) (by simp only [ev_mv, opd_s, opd_c, fget, Nat.reduceEqDiff, Nat.one_ne_zero, Nat.zero_ne_one, reduceCtorEq, ↓reduceIte]; rfl) ?_
       | (refine wpr_fork (fun _ => ?_) (fun _ => ?_) <;> try (exfalso; omega))
       | (refine wpr_forkN (fun _ => ?_) (fun _ => ?_) <;> try (exfalso; omega))
       | refine wpr_p (by simp (disch := omega) only [push_cast, Nat.reduceEqDiff, ↓reduceIte, reduceCtorEq, Nat.reduceAdd, Nat.reduceMul, Nat.reduceLeDiff, hget3, hget]; rfl) ?_
       | refine wpr_r (by simp (disch := omega) only [push_cast, Nat.reduceEqDiff, ↓reduceIte, reduceCtorEq, Nat.reduceAdd, Nat.reduceMul, Nat.reduceLeDiff, hget3, hget]; rfl) ?_
       | refine wpr_run rfl ?_
       | refine wpr_pass rfl rfl ?_
       | refine wpr_passS rfl ?_
       | refine wpr_call (by (try simp (disch := omega) only [push_cast, Nat.reduceEqDiff, ↓reduceIte, reduceCtorEq, Nat.reduceAdd, Nat.reduceMul, Nat.reduceLeDiff, hget3, hget]) <;> rfl) (by first | rfl | simp only [push_cast, Nat.reduceEqDiff, ↓reduceIte, reduceCtorEq, Nat.reduceAdd, Nat.reduceMul, Nat.reduceLeDiff, hget3, hget]) ?_
       | refine wpr_e0 (by simp (disch := omega) only [push_cast, Nat.reduceEqDiff, ↓reduceIte, reduceCtorEq, Nat.reduceAdd, Nat.reduceMul, Nat.reduceLeDiff, hget3, hget]; rfl) ?_
       | refine wpr_e (by simp (disch := omega) only [push_cast, Nat.reduceEqDiff, ↓reduceIte, reduceCtorEq, Nat.reduceAdd, Nat.reduceMul, Nat.reduceLeDiff, hget3, hget]; rfl) ?_
       | refine wpr_nil (by first | exact chkT_nil | (simp (disch := omega) only [push_cast, Nat.reduceEqDiff, ↓reduceIte, reduceCtorEq, Nat.reduceAdd, Nat.reduceMul, Nat.reduceLeDiff, hget3, hget]; done)) (by (try simp only [push_cast, Nat.reduceEqDiff, ↓reduceIte, reduceCtorEq, Nat.reduceAdd, Nat.reduceMul, Nat.reduceLeDiff, hget3, hget]); rfl) (by (try simp only [push_cast, Nat.reduceEqDiff, ↓reduceIte, reduceCtorEq, Nat.reduceAdd, Nat.reduceMul, Nat.reduceLeDiff, hget3, hget]); rfl) ?_
       | refine wpr_pass0 rfl rfl ?_
       | refine wpr_pass0S rfl ?_)
    | (show Wp _ _ _ _ _ _
       first
       | refine wp_seq ?_
       | refine wp_region ?_
       | refine wp_cond_t rfl ?_
       | refine wp_cond_f rfl ?_
       | refine wp_ret ?_
       | refine wp_skip ?_
       | refine wp_exit ?_
       | refine wp_block ?_)
    | refine thenQ_norm ?_
    | refine thenQ_ret ?_
    | refine thenQ_exit ?_
    | refine blockQ_norm ?_
    | refine blockQ_ret ?_
    | refine blockQ_same ?_
    | refine blockQ_ne rfl ?_
    | refine loopQ_norm ?_
    | refine loopQ_ret ?_
    | refine loopQ_exit ?_
    | refine retQ_ret (by (try simp (disch := omega) only [push_cast, Nat.reduceEqDiff, ↓reduceIte, reduceCtorEq, Nat.reduceAdd, Nat.reduceMul, Nat.reduceLeDiff, hget3, hget]); rfl) ?_
    | refine retQ_norm (by (try simp (disch := omega) only [push_cast, Nat.reduceEqDiff, ↓reduceIte, reduceCtorEq, Nat.reduceAdd, Nat.reduceMul, Nat.reduceLeDiff, hget3, hget]); rfl) ?_
    | refine wpc_of (by simp (disch := omega) only [push_cast, Nat.reduceEqDiff, ↓reduceIte, reduceCtorEq, Nat.reduceAdd, Nat.reduceMul, Nat.reduceLeDiff, hget3, hget]; rfl) ?_)
      have hlt3 : h1.n < h3.n := by omega
      refine ⟨_, ?_, i + 1, t', addRow acc x, rfl, by omega, rfl, rfl, AH.get_set_same _ hlt3, hstep.symm, ?_, ?_, (fun y hy => by rw [hb3] at hy; injection hy with hy; omega), ?_⟩
      · omega
      · have := addRow_length acc x; omega
      · rw [happ, List.map_append]
        refine ⟨ho3.1, ho3.2.1, ?_⟩
        have h33 := ho3.2.2
        cases t' with
        | nil => trivial
        | «at» bb oo nn =>
          injection hb3 with hb3
          obtain ⟨pre, q1, q2⟩ := h33
          exact ⟨pre, by rw [AH.get_set_ne _ (by omega)]; exact q1, q2⟩
      · exact ⟨by have := hkp.1; simp; omega, fun b hb => ((AH.get_set_ne _ (by omega)).trans (hk3 b (by omega) (fun e => by have := htb _ e; omega))).trans (hkp.2 b hb)⟩
  · (repeat' first
    | (show WpR _ _ _ _ _ _ _ _ _
       first
       | refine wpr_p (o := .mv _) (by simp only [ev_mv, opd_s, opd_c, fget, Nat.reduceEqDiff, Nat.one_ne_zero, Nat.zero_ne_one, reduceCtorEq, ↓reduceIte]; rfl) ?_
       | (refine wpr_fork (fun _ => ?_) (fun _ => ?_) <;> try (exfalso; omega))
       | (refine wpr_forkN (fun _ => ?_) (fun _ => ?_) <;> try (exfalso; omega))
       | refine wpr_p (by simp (disch := omega) only [push_cast, Nat.reduceEqDiff, ↓reduceIte, reduceCtorEq, Nat.reduceAdd, Nat.reduceMul, Nat.reduceLeDiff, hlen]; rfl) ?_
       | refine wpr_r (by simp (disch := omega) only [push_cast, Nat.reduceEqDiff, ↓reduceIte, reduceCtorEq, Nat.reduceAdd, Nat.reduceMul, Nat.reduceLeDiff, hlen]; rfl) ?_
       | refine wpr_run rfl ?_
       | refine wpr_pass rfl rfl ?_
       | refine wpr_passS rfl ?_
       | refine wpr_call (by (try simp (disch := omega) only [push_cast, Nat.reduceEqDiff, ↓reduceIte, reduceCtorEq, Nat.reduceAdd, Nat.reduceMul, Nat.reduceLeDiff, hlen]) <;> rfl) (by first | rfl | simp only [push_cast, Nat.reduceEqDiff, ↓reduceIte, reduceCtorEq, Nat.reduceAdd, Nat.reduceMul, Nat.reduceLeDiff, hlen]) ?_
       | refine wpr_e0 (by simp (disch := omega) only [push_cast, Nat.reduceEqDiff, ↓reduceIte, reduceCtorEq, Nat.reduceAdd, Nat.reduceMul, Nat.reduceLeDiff, hlen]; rfl) ?_
       | refine wpr_e (by simp (disch := omega) only [push_cast, Nat.reduceEqDiff, ↓reduceIte, reduceCtorEq, Nat.reduceAdd, Nat.reduceMul, Nat.reduceLeDiff, hlen]; rfl) ?_
       | refine wpr_nil (by first | exact chkT_nil | (simp (disch := omega) only [push_cast, Nat.reduceEqDiff, ↓reduceIte, reduceCtorEq, Nat.reduceAdd, Nat.reduceMul, Nat.reduceLeDiff, hlen]; done)) (by (try simp only [push_cast, Nat.reduceEqDiff, ↓reduceIte, reduceCtorEq, Nat.reduceAdd, Nat.reduceMul, Nat.reduceLeDiff, hlen]); rfl) (by (try simp only [push_cast, Nat.reduceEqDiff, ↓reduceIte, reduceCtorEq, Nat.reduceAdd, Nat.reduceMul, Nat.reduceLeDiff, hlen]); rfl) ?_
       | refine wpr_pass0 rfl rfl ?_
       | refine wpr_pass0S rfl ?_)
    | (show Wp _ _ _ _ _ _
       first
       | refine wp_seq ?_
       | refine wp_region ?_
       | refine wp_cond_t rfl ?_
       | refine wp_cond_f rfl ?_
       | refine wp_ret ?_
       | refine wp_skip ?_
       | refine wp_exit ?_
       | refine wp_block ?_)
    | refine thenQ_norm ?_
    | refine thenQ_ret ?_
    | refine thenQ_exit ?_
    | refine blockQ_norm ?_
    | refine blockQ_ret ?_
    | refine blockQ_same ?_
    | refine blockQ_ne rfl ?_
    | refine loopQ_norm ?_
    | refine loopQ_ret ?_
    | refine loopQ_exit ?_
    | refine retQ_ret (by (try simp (disch := omega) only [push_cast, Nat.reduceEqDiff, ↓reduceIte, reduceCtorEq, Nat.reduceAdd, Nat.reduceMul, Nat.reduceLeDiff, hlen]); rfl) ?_
    | refine retQ_norm (by (try simp (disch := omega) only [push_cast, Nat.reduceEqDiff, ↓reduceIte, reduceCtorEq, Nat.reduceAdd, Nat.reduceMul, Nat.reduceLeDiff, hlen]); rfl) ?_
    | refine wpc_of (by simp (disch := omega) only [push_cast, Nat.reduceEqDiff, ↓reduceIte, reduceCtorEq, Nat.reduceAdd, Nat.reduceMul, Nat.reduceLeDiff, hlen]; rfl) ?_)
    refine ⟨h1.n, rfl, ⟨t, hget, hb0, ?_, fun x hx => by have := htb x hx; omega⟩, f1.kp.trans hkp⟩
    have : (sortF rows).take i = sortF rows := List.take_of_length_le (by omega)
    rw [this] at hacc
    have hm : madeF rows = acc := hacc.symm
    rw [hm]
    exact hown.reads

end Go.Proofs.Ytanpdopjgepbkaa.AM
