/- The n-th rune, the next one, how many are below: the program's and the document's. -/
import Derived.Test.YtanpdopjgepbkaaSC
set_option linter.unusedVariables false
set_option linter.unusedSimpArgs false
namespace Go.Proofs.Ytanpdopjgepbkaa.AM
open Go

/-! ### Plain -/

def atR : List (Int × Int) → Int → Option Int
  | [], _ => none
  | x :: r, n => if n < x.2 - x.1 then some (runeF (x.1 + n)) else atR r (n - (x.2 - x.1))
def atF (l : List (Int × Int)) (n : Int) : Option Int := if n < 0 then none else atR l n
def belowR : List (Int × Int) → Int → Int
  | [], _ => 0
  | x :: r, k => max (min x.2 k - x.1) 0 + belowR r k

theorem belowR_append (l m : List (Int × Int)) (k : Int) : belowR (l ++ m) k = belowR l k + belowR m k := by
  induction l with
  | nil => simp [belowR]
  | cons x r ih => simp only [List.cons_append, belowR, ih]; omega
theorem belowR_nonneg (l : List (Int × Int)) (k : Int) : 0 ≤ belowR l k := by
  induction l with
  | nil => simp [belowR]
  | cons x r ih => simp only [belowR]; omega
theorem belowR_bound {l : List (Int × Int)} (h : ∀ x ∈ l, 0 ≤ x.1 ∧ x.1 < x.2 ∧ x.2 ≤ 1112064) (k : Int) : belowR l k ≤ l.length * 1112064 := by
  induction l with
  | nil => simp [belowR]
  | cons x r ih =>
    have h1 := h x (by simp)
    have h2 := ih fun y hy => h y (List.mem_cons_of_mem _ hy)
    simp only [belowR, List.length_cons]
    omega
theorem rankF_or (n : Int) : (n < 0xd800 ∧ rankF n = max n 0) ∨ (0xd800 ≤ n ∧ n < 0xe000 ∧ rankF n = 0xd800) ∨ (0xe000 ≤ n ∧ rankF n = min (n - 2048) 1112064) := by
  unfold rankF
  split
  · exact .inl ⟨by assumption, rfl⟩
  · split
    · exact .inr (.inl ⟨by omega, by assumption, rfl⟩)
    · exact .inr (.inr ⟨by omega, rfl⟩)
theorem belowR_zero {l : List (Int × Int)} {k : Int} (h : ∀ x ∈ l, k ≤ x.1) : belowR l k = 0 := by
  induction l with
  | nil => rfl
  | cons x r ih =>
    have h1 := h x (by simp)
    have h2 := ih fun y hy => h y (List.mem_cons_of_mem _ hy)
    simp only [belowR, h2]
    omega

def nextRef : List (Int × Int) → Int → Int
  | [], _ => -1
  | x :: l, r => if r < (spanOf x).1 then (spanOf x).1 else if r < (spanOf x).2 then (if 0xd800 ≤ upF r ∧ upF r ≤ 0xdfff then 0xe000 else upF r) else nextRef l r

theorem next_plain : ∀ {l : List (Int × Int)}, Canon l → (∀ x ∈ l, 0 ≤ x.1 ∧ x.1 < x.2 ∧ x.2 ≤ 1112064) → ∀ r, -2147483648 ≤ r → (atF l (belowR l (rankF (r + 1)))).getD (-1) = nextRef l r
  | [], _, _, r, _ => by simp [atF, belowR, atR, nextRef]
  | x :: l, hc, hb, r, hr => by
    have hx := hb x (by simp)
    have h1 := runeF_or x.1
    have h2 := runeF_or (x.2 - 1)
    have h3 := rankF_or (r + 1)
    have hs := (List.pairwise_cons.1 hc.sep).1
    have hn := belowR_nonneg l (rankF (r + 1))
    have hB : belowR (x :: l) (rankF (r + 1)) = max (min x.2 (rankF (r + 1)) - x.1) 0 + belowR l (rankF (r + 1)) := rfl
    have e2 : nextRef (x :: l) r = if r < runeF x.1 then runeF x.1 else if r < runeF (x.2 - 1) then (if 0xd800 ≤ upF r ∧ upF r ≤ 0xdfff then 0xe000 else upF r) else nextRef l r := rfl
    have e1 : ∀ B, atF (x :: l) B = if B < 0 then none else if B < x.2 - x.1 then some (runeF (x.1 + B)) else atR l (B - (x.2 - x.1)) := fun B => rfl
    rw [e1, e2]
    generalize belowR (x :: l) (rankF (r + 1)) = B at hB
    by_cases c1 : r < runeF x.1
    · rw [if_pos c1]
      have hk : rankF (r + 1) ≤ x.1 := by omega
      rw [belowR_zero (l := l) (fun y hy => by have := hs y hy; omega)] at hB
      rw [if_neg (by omega), if_pos (by omega), Option.getD_some]
      congr 1
      omega
    · rw [if_neg c1]
      by_cases c2 : r < runeF (x.2 - 1)
      · rw [if_pos c2]
        rw [belowR_zero (l := l) (fun y hy => by have := hs y hy; omega)] at hB
        rw [if_neg (by omega), if_pos (by omega), Option.getD_some]
        have h5 := runeF_or (x.1 + B)
        have h6 := upF_or r
        split <;> omega
      · rw [if_neg c2, ← next_plain hc.tail (fun y hy => hb y (List.mem_cons_of_mem _ hy)) r hr]
        rw [if_neg (by omega), if_neg (by omega)]
        unfold atF
        rw [if_neg (by omega)]
        congr 2
        omega

/-! ### The program's -/

theorem at_eq {rows : List (Int × Int)} {b : Nat} {h : AH} (hs : SetR h b rows) (hr0 : ∀ x ∈ rows, 0 ≤ x.1 ∧ x.1 < x.2 ∧ x.2 ≤ 1112064) (hn : rows.length < 1000000000) (n : Int) (h1 : -9223372036854775808 ≤ n) (h2 : n < 9223372036854775808) :
    callO PS 37 [.pointer (some ⟨b, 0, none⟩), .int .i64 n] h = some (.tuple (List.toArray [.int .i32 ((atF rows n).getD 0), .bool (atF rows n).isSome]), h) := by
  obtain ⟨s, hg, hr⟩ := hs
  have hlen := hr.len
  apply WpC.eqn
  refine wpc_fn (ps_ext rfl) (ps_fn fn37) rfl ?_
  unfold LF37
  simp only [argFr]
  (repeat' first
    | (show WpR _ _ _ _ _ _ _ _ _
       first
       | refine wpr_drop ?_
       | refine wpr_p (o := .mv _) (by simp only [ev_mv, opd_s, opd_c, fget, Nat.reduceEqDiff, Nat.one_ne_zero, Nat.zero_ne_one, reduceCtorEq, ↓reduceIte]; rfl) ?_
       | (refine wpr_fork (fun _ => ?_) (fun _ => ?_) <;> try (exfalso; omega))
       | (refine wpr_forkN (fun _ => ?_) (fun _ => ?_) <;> try (exfalso; omega))
       | refine wpr_run rfl ?_
       | refine wpr_pass rfl rfl ?_
       | refine wpr_passS rfl ?_
       | ((first | apply wpr_p | apply wpr_r | apply wpr_callA | apply wpr_callA0 | apply wpr_e0 | apply wpr_e | apply wpr_end0); focus ((try simp (disch := omega) only [push_cast, Nat.reduceEqDiff, ↓reduceIte, reduceCtorEq, Nat.reduceAdd, Nat.reduceMul, Nat.reduceLeDiff, hlen, hg]); rfl))
       | refine wpr_pass0 rfl rfl ?_
       | refine wpr_pass0S rfl ?_
       | (apply wpr_end; (focus ((try simp (disch := omega) only [push_cast, Nat.reduceEqDiff, ↓reduceIte, reduceCtorEq, Nat.reduceAdd, Nat.reduceMul, Nat.reduceLeDiff, hlen, hg]); rfl)); (focus (simp (disch := omega) only [push_cast, Nat.reduceEqDiff, ↓reduceIte, reduceCtorEq, Nat.reduceAdd, Nat.reduceMul, Nat.reduceLeDiff, hlen, hg]; done)))
       | fail)
    | (show Wp _ _ _ _ _ _
       first
       | refine wp_seq ?_
       | refine wp_region0 ?_
       | refine wp_region ?_
       | refine wp_cond_t rfl ?_
       | refine wp_cond_f rfl ?_
       | refine wp_ret ?_
       | refine wp_skip ?_
       | refine wp_exit ?_
       | refine wp_block ?_
       | fail)
    | refine thenQ_norm ?_
    | refine thenQ_ret ?_
    | refine thenQ_exit ?_
    | refine blockQ_norm ?_
    | refine blockQ_ret ?_
    | refine blockQ_same ?_
    | refine blockQ_ne rfl ?_
    | refine loopQ_norm ?_
    | refine loopQ_ret ?_
    | refine loopQ_exit ?_
    | ((first | apply retQ_ret | apply retQ_norm | apply wpc_of); focus ((try simp (disch := omega) only [push_cast, Nat.reduceEqDiff, ↓reduceIte, reduceCtorEq, Nat.reduceAdd, Nat.reduceMul, Nat.reduceLeDiff, hlen, hg]); rfl))
    | fail)
  · rename_i g
    exact ⟨by unfold atF; rw [if_pos g]; rfl, rfl⟩
  rename_i g
  have hat : atF rows n = atR rows n := by unfold atF; rw [if_neg g]
  rw [hat]
  refine wp_loop (fun q fr lc h1 => ∃ (i : Nat) (m : Int), q = rows.length - i ∧ i ≤ rows.length ∧ fr = [(1, .int .i64 m), (13, s.val 2), (14, .int .i64 rows.length), (15, .int .i64 i)] ∧ lc = [] ∧ h1 = h ∧ 0 ≤ m ∧ m ≤ n ∧ atR (rows.drop i) m = atR rows n)
    rows.length ⟨0, n, rfl, Nat.zero_le _, rfl, rfl, rfl, by omega, by omega, rfl⟩ ?_
  rintro q fr lc h3 ⟨i, m, rfl, hi, rfl, rfl, rfl, hm0, hm1, hI⟩
  rcases Nat.lt_or_ge i rows.length with hil | hil
  · have hb := hr0 rows[i] (List.getElem_mem hil)
    have hdr : rows.drop i = rows[i] :: rows.drop (i + 1) := List.drop_eq_getElem_cons hil
    generalize hx : rows[i] = x at hb hdr
    have hxr : ∀ lc, Mem.rd ⟨lc, h3⟩ (s.adr 2 i) 2 = some (rowV x) := fun lc => by rw [← hx]; exact rd_map hr hil
    rw [hdr, atR] at hI
    (repeat' first
    | (show WpR _ _ _ _ _ _ _ _ _
       first
       | refine wpr_drop ?_
       | refine wpr_p (o := .mv _) (by simp only [ev_mv, opd_s, opd_c, fget, Nat.reduceEqDiff, Nat.one_ne_zero, Nat.zero_ne_one, reduceCtorEq, ↓reduceIte]; rfl) ?_
       | (refine wpr_fork (fun _ => ?_) (fun _ => ?_) <;> try (exfalso; omega))
       | (refine wpr_forkN (fun _ => ?_) (fun _ => ?_) <;> try (exfalso; omega))
       | refine wpr_run rfl ?_
       | refine wpr_pass rfl rfl ?_
       | refine wpr_passS rfl ?_
       | ((first | apply wpr_p | apply wpr_r | apply wpr_callA | apply wpr_callA0 | apply wpr_e0 | apply wpr_e | apply wpr_end0); focus ((try simp (disch := omega) only [push_cast, Nat.reduceEqDiff, ↓reduceIte, reduceCtorEq, Nat.reduceAdd, Nat.reduceMul, Nat.reduceLeDiff, hlen, hxr, rowV]); rfl))
       | refine wpr_pass0 rfl rfl ?_
       | refine wpr_pass0S rfl ?_
       | (apply wpr_end; (focus ((try simp (disch := omega) only [push_cast, Nat.reduceEqDiff, ↓reduceIte, reduceCtorEq, Nat.reduceAdd, Nat.reduceMul, Nat.reduceLeDiff, hlen, hxr, rowV]); rfl)); (focus (simp (disch := omega) only [push_cast, Nat.reduceEqDiff, ↓reduceIte, reduceCtorEq, Nat.reduceAdd, Nat.reduceMul, Nat.reduceLeDiff, hlen, hxr, rowV]; done)))
       | fail)
    | (show Wp _ _ _ _ _ _
       first
       | refine wp_seq ?_
       | refine wp_region0 ?_
       | refine wp_region ?_
       | refine wp_cond_t rfl ?_
       | refine wp_cond_f rfl ?_
       | refine wp_ret ?_
       | refine wp_skip ?_
       | refine wp_exit ?_
       | refine wp_block ?_
       | fail)
    | refine thenQ_norm ?_
    | refine thenQ_ret ?_
    | refine thenQ_exit ?_
    | refine blockQ_norm ?_
    | refine blockQ_ret ?_
    | refine blockQ_same ?_
    | refine blockQ_ne rfl ?_
    | refine loopQ_norm ?_
    | refine loopQ_ret ?_
    | refine loopQ_exit ?_
    | ((first | apply retQ_ret | apply retQ_norm | apply wpc_of); focus ((try simp (disch := omega) only [push_cast, Nat.reduceEqDiff, ↓reduceIte, reduceCtorEq, Nat.reduceAdd, Nat.reduceMul, Nat.reduceLeDiff, hlen, hxr, rowV]); rfl))
    | fail)
    · rename_i g1 g2
      rw [if_pos g2] at hI
      exact ⟨by rw [← hI]; rfl, rfl⟩
    · rename_i g1 g2
      rw [if_neg g2] at hI
      refine ⟨_, ?_, i + 1, _, rfl, by omega, rfl, rfl, rfl, by omega, by omega, hI⟩
      omega
  · rw [List.drop_of_length_le hil, atR] at hI
    (repeat' first
    | (show WpR _ _ _ _ _ _ _ _ _
       first
       | refine wpr_drop ?_
       | refine wpr_p (o := .mv _) (by simp only [ev_mv, opd_s, opd_c, fget, Nat.reduceEqDiff, Nat.one_ne_zero, Nat.zero_ne_one, reduceCtorEq, ↓reduceIte]; rfl) ?_
       | (refine wpr_fork (fun _ => ?_) (fun _ => ?_) <;> try (exfalso; omega))
       | (refine wpr_forkN (fun _ => ?_) (fun _ => ?_) <;> try (exfalso; omega))
       | refine wpr_run rfl ?_
       | refine wpr_pass rfl rfl ?_
       | refine wpr_passS rfl ?_
       | ((first | apply wpr_p | apply wpr_r | apply wpr_callA | apply wpr_callA0 | apply wpr_e0 | apply wpr_e | apply wpr_end0); focus ((try simp (disch := omega) only [push_cast, Nat.reduceEqDiff, ↓reduceIte, reduceCtorEq, Nat.reduceAdd, Nat.reduceMul, Nat.reduceLeDiff, hlen]); rfl))
       | refine wpr_pass0 rfl rfl ?_
       | refine wpr_pass0S rfl ?_
       | (apply wpr_end; (focus ((try simp (disch := omega) only [push_cast, Nat.reduceEqDiff, ↓reduceIte, reduceCtorEq, Nat.reduceAdd, Nat.reduceMul, Nat.reduceLeDiff, hlen]); rfl)); (focus (simp (disch := omega) only [push_cast, Nat.reduceEqDiff, ↓reduceIte, reduceCtorEq, Nat.reduceAdd, Nat.reduceMul, Nat.reduceLeDiff, hlen]; done)))
       | fail)
    | (show Wp _ _ _ _ _ _
       first
       | refine wp_seq ?_
       | refine wp_region0 ?_
       | refine wp_region ?_
       | refine wp_cond_t rfl ?_
       | refine wp_cond_f rfl ?_
       | refine wp_ret ?_
       | refine wp_skip ?_
       | refine wp_exit ?_
       | refine wp_block ?_
       | fail)
    | refine thenQ_norm ?_
    | refine thenQ_ret ?_
    | refine thenQ_exit ?_
    | refine blockQ_norm ?_
    | refine blockQ_ret ?_
    | refine blockQ_same ?_
    | refine blockQ_ne rfl ?_
    | refine loopQ_norm ?_
    | refine loopQ_ret ?_
    | refine loopQ_exit ?_
    | ((first | apply retQ_ret | apply retQ_norm | apply wpc_of); focus ((try simp (disch := omega) only [push_cast, Nat.reduceEqDiff, ↓reduceIte, reduceCtorEq, Nat.reduceAdd, Nat.reduceMul, Nat.reduceLeDiff, hlen]); rfl))
    | fail)
    exact ⟨by rw [← hI]; rfl, rfl⟩

theorem below_eq {rows : List (Int × Int)} {b : Nat} {h : AH} (hs : SetR h b rows) (hr0 : ∀ x ∈ rows, 0 ≤ x.1 ∧ x.1 < x.2 ∧ x.2 ≤ 1112064) (hn : rows.length < 1000000000) (r : Int) (h1 : -2147483648 ≤ r) (h2 : r < 2147483648) :
    callO PS 41 [.pointer (some ⟨b, 0, none⟩), .int .i32 r] h = some (.int .i64 (belowR rows (rankF r)), h) := by
  obtain ⟨s, hg, hr⟩ := hs
  have hlen := hr.len
  apply WpC.eqn
  refine wpc_fn (ps_ext rfl) (ps_fn fn41) rfl ?_
  unfold LF41
  simp only [argFr]
  (repeat' first
    | (show WpR _ _ _ _ _ _ _ _ _
       first
       | refine wpr_drop ?_
       | refine wpr_p (o := .mv _) (by simp only [ev_mv, opd_s, opd_c, fget, Nat.reduceEqDiff, Nat.one_ne_zero, Nat.zero_ne_one, reduceCtorEq, ↓reduceIte]; rfl) ?_
       | (refine wpr_fork (fun _ => ?_) (fun _ => ?_) <;> try (exfalso; omega))
       | (refine wpr_forkN (fun _ => ?_) (fun _ => ?_) <;> try (exfalso; omega))
       | refine wpr_run rfl ?_
       | refine wpr_pass rfl rfl ?_
       | refine wpr_passS rfl ?_
       | ((first | apply wpr_p | apply wpr_r | apply wpr_callA | apply wpr_callA0 | apply wpr_e0 | apply wpr_e | apply wpr_end0); focus ((try simp (disch := omega) only [push_cast, Nat.reduceEqDiff, ↓reduceIte, reduceCtorEq, Nat.reduceAdd, Nat.reduceMul, Nat.reduceLeDiff, hlen, hg]); rfl))
       | refine wpr_pass0 rfl rfl ?_
       | refine wpr_pass0S rfl ?_
       | (apply wpr_end; (focus ((try simp (disch := omega) only [push_cast, Nat.reduceEqDiff, ↓reduceIte, reduceCtorEq, Nat.reduceAdd, Nat.reduceMul, Nat.reduceLeDiff, hlen, hg]); rfl)); (focus (simp (disch := omega) only [push_cast, Nat.reduceEqDiff, ↓reduceIte, reduceCtorEq, Nat.reduceAdd, Nat.reduceMul, Nat.reduceLeDiff, hlen, hg]; done)))
       | fail)
    | (show Wp _ _ _ _ _ _
       first
       | refine wp_seq ?_
       | refine wp_region0 ?_
       | refine wp_region ?_
       | refine wp_cond_t rfl ?_
       | refine wp_cond_f rfl ?_
       | refine wp_ret ?_
       | refine wp_skip ?_
       | refine wp_exit ?_
       | refine wp_block ?_
       | fail)
    | refine thenQ_norm ?_
    | refine thenQ_ret ?_
    | refine thenQ_exit ?_
    | refine blockQ_norm ?_
    | refine blockQ_ret ?_
    | refine blockQ_same ?_
    | refine blockQ_ne rfl ?_
    | refine loopQ_norm ?_
    | refine loopQ_ret ?_
    | refine loopQ_exit ?_
    | ((first | apply retQ_ret | apply retQ_norm | apply wpc_of); focus ((try simp (disch := omega) only [push_cast, Nat.reduceEqDiff, ↓reduceIte, reduceCtorEq, Nat.reduceAdd, Nat.reduceMul, Nat.reduceLeDiff, hlen, hg]); rfl))
    | fail)
  have hk1 := rankF_lo r
  have hk2 := rankF_hi r
  refine wp_loop (fun q fr lc h1 => ∃ (i : Nat), q = rows.length - i ∧ i ≤ rows.length ∧ fr = [(5, .int .i64 (belowR (rows.take i) (rankF r))), (6, .int .i64 (rankF r)), (15, s.val 2), (16, .int .i64 rows.length), (17, .int .i64 i)] ∧ lc = [] ∧ h1 = h)
    rows.length ⟨0, rfl, Nat.zero_le _, rfl, rfl, rfl⟩ ?_
  rintro q fr lc h3 ⟨i, rfl, hi, rfl, rfl, rfl⟩
  have hb1 := belowR_nonneg (rows.take i) (rankF r)
  have hb2 := belowR_bound (l := rows.take i) (fun x hx => hr0 x (List.mem_of_mem_take hx)) (rankF r)
  have htl : (rows.take i).length ≤ rows.length := by rw [List.length_take]; omega
  rcases Nat.lt_or_ge i rows.length with hil | hil
  · have hb := hr0 rows[i] (List.getElem_mem hil)
    have htk : rows.take (i + 1) = rows.take i ++ [rows[i]] := List.take_succ_eq_append_getElem hil
    generalize hx : rows[i] = x at hb htk
    have hxr : ∀ lc, Mem.rd ⟨lc, h3⟩ (s.adr 2 i) 2 = some (rowV x) := fun lc => by rw [← hx]; exact rd_map hr hil
    have hst : belowR (rows.take (i + 1)) (rankF r) = belowR (rows.take i) (rankF r) + max (min x.2 (rankF r) - x.1) 0 := by rw [htk, belowR_append]; simp [belowR]
    (repeat' first
    | (show WpR _ _ _ _ _ _ _ _ _
       first
       | refine wpr_drop ?_
       | refine wpr_p (o := .mv _) (by simp only [ev_mv, opd_s, opd_c, fget, Nat.reduceEqDiff, Nat.one_ne_zero, Nat.zero_ne_one, reduceCtorEq, ↓reduceIte]; rfl) ?_
       | (refine wpr_fork (fun _ => ?_) (fun _ => ?_) <;> try (exfalso; omega))
       | (refine wpr_forkN (fun _ => ?_) (fun _ => ?_) <;> try (exfalso; omega))
       | refine wpr_run rfl ?_
       | refine wpr_pass rfl rfl ?_
       | refine wpr_passS rfl ?_
       | ((first | apply wpr_p | apply wpr_r | apply wpr_callA | apply wpr_callA0 | apply wpr_e0 | apply wpr_e | apply wpr_end0); focus ((try simp (disch := omega) only [push_cast, Nat.reduceEqDiff, ↓reduceIte, reduceCtorEq, Nat.reduceAdd, Nat.reduceMul, Nat.reduceLeDiff, hlen, hxr, rowV]); rfl))
       | refine wpr_pass0 rfl rfl ?_
       | refine wpr_pass0S rfl ?_
       | (apply wpr_end; (focus ((try simp (disch := omega) only [push_cast, Nat.reduceEqDiff, ↓reduceIte, reduceCtorEq, Nat.reduceAdd, Nat.reduceMul, Nat.reduceLeDiff, hlen, hxr, rowV]); rfl)); (focus (simp (disch := omega) only [push_cast, Nat.reduceEqDiff, ↓reduceIte, reduceCtorEq, Nat.reduceAdd, Nat.reduceMul, Nat.reduceLeDiff, hlen, hxr, rowV]; done)))
       | fail)
    | (show Wp _ _ _ _ _ _
       first
       | refine wp_seq ?_
       | refine wp_region0 ?_
       | refine wp_region ?_
       | refine wp_cond_t rfl ?_
       | refine wp_cond_f rfl ?_
       | refine wp_ret ?_
       | refine wp_skip ?_
       | refine wp_exit ?_
       | refine wp_block ?_
       | fail)
    | refine thenQ_norm ?_
    | refine thenQ_ret ?_
    | refine thenQ_exit ?_
    | refine blockQ_norm ?_
    | refine blockQ_ret ?_
    | refine blockQ_same ?_
    | refine blockQ_ne rfl ?_
    | refine loopQ_norm ?_
    | refine loopQ_ret ?_
    | refine loopQ_exit ?_
    | ((first | apply retQ_ret | apply retQ_norm | apply wpc_of); focus ((try simp (disch := omega) only [push_cast, Nat.reduceEqDiff, ↓reduceIte, reduceCtorEq, Nat.reduceAdd, Nat.reduceMul, Nat.reduceLeDiff, hlen, hxr, rowV]); rfl))
    | fail)
    refine ⟨_, ?_, i + 1, rfl, by omega, ?_, rfl, rfl⟩
    · omega
    · rw [hst]; rfl
  · have hall : rows.take i = rows := List.take_of_length_le (by omega)
    (repeat' first
    | (show WpR _ _ _ _ _ _ _ _ _
       first
       | refine wpr_drop ?_
       | refine wpr_p (o := .mv _) (by simp only [ev_mv, opd_s, opd_c, fget, Nat.reduceEqDiff, Nat.one_ne_zero, Nat.zero_ne_one, reduceCtorEq, ↓reduceIte]; rfl) ?_
       | (refine wpr_fork (fun _ => ?_) (fun _ => ?_) <;> try (exfalso; omega))
       | (refine wpr_forkN (fun _ => ?_) (fun _ => ?_) <;> try (exfalso; omega))
       | refine wpr_run rfl ?_
       | refine wpr_pass rfl rfl ?_
       | refine wpr_passS rfl ?_
       | ((first | apply wpr_p | apply wpr_r | apply wpr_callA | apply wpr_callA0 | apply wpr_e0 | apply wpr_e | apply wpr_end0); focus ((try simp (disch := omega) only [push_cast, Nat.reduceEqDiff, ↓reduceIte, reduceCtorEq, Nat.reduceAdd, Nat.reduceMul, Nat.reduceLeDiff, hlen]); rfl))
       | refine wpr_pass0 rfl rfl ?_
       | refine wpr_pass0S rfl ?_
       | (apply wpr_end; (focus ((try simp (disch := omega) only [push_cast, Nat.reduceEqDiff, ↓reduceIte, reduceCtorEq, Nat.reduceAdd, Nat.reduceMul, Nat.reduceLeDiff, hlen]); rfl)); (focus (simp (disch := omega) only [push_cast, Nat.reduceEqDiff, ↓reduceIte, reduceCtorEq, Nat.reduceAdd, Nat.reduceMul, Nat.reduceLeDiff, hlen]; done)))
       | fail)
    | (show Wp _ _ _ _ _ _
       first
       | refine wp_seq ?_
       | refine wp_region0 ?_
       | refine wp_region ?_
       | refine wp_cond_t rfl ?_
       | refine wp_cond_f rfl ?_
       | refine wp_ret ?_
       | refine wp_skip ?_
       | refine wp_exit ?_
       | refine wp_block ?_
       | fail)
    | refine thenQ_norm ?_
    | refine thenQ_ret ?_
    | refine thenQ_exit ?_
    | refine blockQ_norm ?_
    | refine blockQ_ret ?_
    | refine blockQ_same ?_
    | refine blockQ_ne rfl ?_
    | refine loopQ_norm ?_
    | refine loopQ_ret ?_
    | refine loopQ_exit ?_
    | ((first | apply retQ_ret | apply retQ_norm | apply wpc_of); focus ((try simp (disch := omega) only [push_cast, Nat.reduceEqDiff, ↓reduceIte, reduceCtorEq, Nat.reduceAdd, Nat.reduceMul, Nat.reduceLeDiff, hlen]); rfl))
    | fail)
    exact ⟨by rw [hall], rfl⟩

theorem next_eq {rows : List (Int × Int)} {b : Nat} {h : AH} (hs : SetR h b rows) (hr0 : ∀ x ∈ rows, 0 ≤ x.1 ∧ x.1 < x.2 ∧ x.2 ≤ 1112064) (hn : rows.length < 1000000000) (r : Int) (h1 : -2147483648 ≤ r) (h2 : r < 2147483648) :
    callO PS 39 [.pointer (some ⟨b, 0, none⟩), .int .i32 r] h = some (.tuple (List.toArray [.int .i32 ((if r = 2147483647 then none else atF rows (belowR rows (rankF (r + 1)))).getD 0), .bool (if r = 2147483647 then none else atF rows (belowR rows (rankF (r + 1)))).isSome]), h) := by
  apply WpC.eqn
  refine wpc_fn (ps_ext rfl) (ps_fn fn39) rfl ?_
  unfold LF39
  simp only [argFr]
  by_cases hr : r = 2147483647
  · rw [if_pos hr]
    (repeat' first
    | (show WpR _ _ _ _ _ _ _ _ _
       first
       | refine wpr_drop ?_
       | refine wpr_p (o := .mv _) (by simp only [ev_mv, opd_s, opd_c, fget, Nat.reduceEqDiff, Nat.one_ne_zero, Nat.zero_ne_one, reduceCtorEq, ↓reduceIte]; rfl) ?_
       | (refine wpr_fork (fun _ => ?_) (fun _ => ?_) <;> try (exfalso; omega))
       | (refine wpr_forkN (fun _ => ?_) (fun _ => ?_) <;> try (exfalso; omega))
       | refine wpr_run rfl ?_
       | refine wpr_pass rfl rfl ?_
       | refine wpr_passS rfl ?_
       | ((first | apply wpr_p | apply wpr_r | apply wpr_callA | apply wpr_callA0 | apply wpr_e0 | apply wpr_e | apply wpr_end0); focus ((try simp (disch := omega) only [push_cast, Nat.reduceEqDiff, ↓reduceIte, reduceCtorEq, Nat.reduceAdd, Nat.reduceMul, Nat.reduceLeDiff]); rfl))
       | refine wpr_pass0 rfl rfl ?_
       | refine wpr_pass0S rfl ?_
       | (apply wpr_end; (focus ((try simp (disch := omega) only [push_cast, Nat.reduceEqDiff, ↓reduceIte, reduceCtorEq, Nat.reduceAdd, Nat.reduceMul, Nat.reduceLeDiff]); rfl)); (focus (simp (disch := omega) only [push_cast, Nat.reduceEqDiff, ↓reduceIte, reduceCtorEq, Nat.reduceAdd, Nat.reduceMul, Nat.reduceLeDiff]; done)))
       | fail)
    | (show Wp _ _ _ _ _ _
       first
       | refine wp_seq ?_
       | refine wp_region0 ?_
       | refine wp_region ?_
       | refine wp_cond_t rfl ?_
       | refine wp_cond_f rfl ?_
       | refine wp_ret ?_
       | refine wp_skip ?_
       | refine wp_exit ?_
       | refine wp_block ?_
       | fail)
    | refine thenQ_norm ?_
    | refine thenQ_ret ?_
    | refine thenQ_exit ?_
    | refine blockQ_norm ?_
    | refine blockQ_ret ?_
    | refine blockQ_same ?_
    | refine blockQ_ne rfl ?_
    | refine loopQ_norm ?_
    | refine loopQ_ret ?_
    | refine loopQ_exit ?_
    | ((first | apply retQ_ret | apply retQ_norm | apply wpc_of); focus ((try simp (disch := omega) only [push_cast, Nat.reduceEqDiff, ↓reduceIte, reduceCtorEq, Nat.reduceAdd, Nat.reduceMul, Nat.reduceLeDiff]); rfl))
    | fail)
    exact ⟨rfl, rfl⟩
  · rw [if_neg hr]
    have hbl := below_eq hs hr0 hn (r + 1) (by omega) (by omega)
    have hb1 := belowR_nonneg rows (rankF (r + 1))
    have hb2 := belowR_bound hr0 (rankF (r + 1))
    have hat := at_eq hs hr0 hn (belowR rows (rankF (r + 1))) (by omega) (by omega)
    (repeat' first
    | (show WpR _ _ _ _ _ _ _ _ _
       first
       | refine wpr_drop ?_
       | refine wpr_p (o := .mv _) (by simp only [ev_mv, opd_s, opd_c, fget, Nat.reduceEqDiff, Nat.one_ne_zero, Nat.zero_ne_one, reduceCtorEq, ↓reduceIte]; rfl) ?_
       | (refine wpr_fork (fun _ => ?_) (fun _ => ?_) <;> try (exfalso; omega))
       | (refine wpr_forkN (fun _ => ?_) (fun _ => ?_) <;> try (exfalso; omega))
       | refine wpr_run rfl ?_
       | refine wpr_pass rfl rfl ?_
       | refine wpr_passS rfl ?_
       | ((first | apply wpr_p | apply wpr_r | apply wpr_callA | apply wpr_callA0 | apply wpr_e0 | apply wpr_e | apply wpr_end0); focus ((try simp (disch := omega) only [push_cast, Nat.reduceEqDiff, ↓reduceIte, reduceCtorEq, Nat.reduceAdd, Nat.reduceMul, Nat.reduceLeDiff, hbl, hat]); rfl))
       | refine wpr_pass0 rfl rfl ?_
       | refine wpr_pass0S rfl ?_
       | (apply wpr_end; (focus ((try simp (disch := omega) only [push_cast, Nat.reduceEqDiff, ↓reduceIte, reduceCtorEq, Nat.reduceAdd, Nat.reduceMul, Nat.reduceLeDiff, hbl, hat]); rfl)); (focus (simp (disch := omega) only [push_cast, Nat.reduceEqDiff, ↓reduceIte, reduceCtorEq, Nat.reduceAdd, Nat.reduceMul, Nat.reduceLeDiff, hbl, hat]; done)))
       | fail)
    | (show Wp _ _ _ _ _ _
       first
       | refine wp_seq ?_
       | refine wp_region0 ?_
       | refine wp_region ?_
       | refine wp_cond_t rfl ?_
       | refine wp_cond_f rfl ?_
       | refine wp_ret ?_
       | refine wp_skip ?_
       | refine wp_exit ?_
       | refine wp_block ?_
       | fail)
    | refine thenQ_norm ?_
    | refine thenQ_ret ?_
    | refine thenQ_exit ?_
    | refine blockQ_norm ?_
    | refine blockQ_ret ?_
    | refine blockQ_same ?_
    | refine blockQ_ne rfl ?_
    | refine loopQ_norm ?_
    | refine loopQ_ret ?_
    | refine loopQ_exit ?_
    | ((first | apply retQ_ret | apply retQ_norm | apply wpc_of); focus ((try simp (disch := omega) only [push_cast, Nat.reduceEqDiff, ↓reduceIte, reduceCtorEq, Nat.reduceAdd, Nat.reduceMul, Nat.reduceLeDiff, hbl, hat]); rfl))
    | fail)
    all_goals first | exact ⟨rfl, rfl⟩ | trace_state

/-! ### The document's -/

theorem refAt_eq {C : List (Int × Int)} {s : Sl} {h : AH} (hr : Reads h 2 s ((C.map spanOf).map spanV)) (hn : C.length < 1000000000) (hC : ∀ x ∈ C, 0 ≤ x.1 ∧ x.1 < x.2 ∧ x.2 ≤ 1112064) (n : Int) (h1 : -9223372036854775808 ≤ n) (h2 : n < 9223372036854775808) :
    callO PS 38 [s.val 2, .int .i64 n] h = some (.int .i32 ((atF C n).getD (-1)), h) := by
  have hlen : s.len = C.length := by simpa using hr.len
  apply WpC.eqn
  refine wpc_fn (ps_ext rfl) (ps_fn fn38) rfl ?_
  unfold LF38
  simp only [argFr]
  (repeat' first
    | (show WpR _ _ _ _ _ _ _ _ _
       first
       | refine wpr_drop ?_
       | refine wpr_p (o := .mv _) (by simp only [ev_mv, opd_s, opd_c, fget, Nat.reduceEqDiff, Nat.one_ne_zero, Nat.zero_ne_one, reduceCtorEq, ↓reduceIte]; rfl) ?_
       | (refine wpr_fork (fun _ => ?_) (fun _ => ?_) <;> try (exfalso; omega))
       | (refine wpr_forkN (fun _ => ?_) (fun _ => ?_) <;> try (exfalso; omega))
       | refine wpr_run rfl ?_
       | refine wpr_pass rfl rfl ?_
       | refine wpr_passS rfl ?_
       | ((first | apply wpr_p | apply wpr_r | apply wpr_callA | apply wpr_callA0 | apply wpr_e0 | apply wpr_e | apply wpr_end0); focus ((try simp (disch := omega) only [push_cast, Nat.reduceEqDiff, ↓reduceIte, reduceCtorEq, Nat.reduceAdd, Nat.reduceMul, Nat.reduceLeDiff, hlen]); rfl))
       | refine wpr_pass0 rfl rfl ?_
       | refine wpr_pass0S rfl ?_
       | (apply wpr_end; (focus ((try simp (disch := omega) only [push_cast, Nat.reduceEqDiff, ↓reduceIte, reduceCtorEq, Nat.reduceAdd, Nat.reduceMul, Nat.reduceLeDiff, hlen]); rfl)); (focus (simp (disch := omega) only [push_cast, Nat.reduceEqDiff, ↓reduceIte, reduceCtorEq, Nat.reduceAdd, Nat.reduceMul, Nat.reduceLeDiff, hlen]; done)))
       | fail)
    | (show Wp _ _ _ _ _ _
       first
       | refine wp_seq ?_
       | refine wp_region0 ?_
       | refine wp_region ?_
       | refine wp_cond_t rfl ?_
       | refine wp_cond_f rfl ?_
       | refine wp_ret ?_
       | refine wp_skip ?_
       | refine wp_exit ?_
       | refine wp_block ?_
       | fail)
    | refine thenQ_norm ?_
    | refine thenQ_ret ?_
    | refine thenQ_exit ?_
    | refine blockQ_norm ?_
    | refine blockQ_ret ?_
    | refine blockQ_same ?_
    | refine blockQ_ne rfl ?_
    | refine loopQ_norm ?_
    | refine loopQ_ret ?_
    | refine loopQ_exit ?_
    | ((first | apply retQ_ret | apply retQ_norm | apply wpc_of); focus ((try simp (disch := omega) only [push_cast, Nat.reduceEqDiff, ↓reduceIte, reduceCtorEq, Nat.reduceAdd, Nat.reduceMul, Nat.reduceLeDiff, hlen]); rfl))
    | fail)
  · rename_i g
    exact ⟨by unfold atF; rw [if_pos g]; rfl, rfl⟩
  rename_i g
  have hat : atF C n = atR C n := by unfold atF; rw [if_neg g]
  rw [hat]
  refine wp_loop (fun q fr lc h1 => ∃ (i : Nat) (m : Int), q = C.length - i ∧ i ≤ C.length ∧ fr = [(0, s.val 2), (1, .int .i64 m), (5, .int .i64 i)] ∧ lc = [] ∧ h1 = h ∧ 0 ≤ m ∧ m ≤ n ∧ atR (C.drop i) m = atR C n)
    C.length ⟨0, n, rfl, Nat.zero_le _, rfl, rfl, rfl, by omega, by omega, rfl⟩ ?_
  rintro q fr lc h3 ⟨i, m, rfl, hi, rfl, rfl, rfl, hm0, hm1, hI⟩
  rcases Nat.lt_or_ge i C.length with hil | hil
  · have hb := hC C[i] (List.getElem_mem hil)
    have hdr : C.drop i = C[i] :: C.drop (i + 1) := List.drop_eq_getElem_cons hil
    have hsl : i < (C.map spanOf).length := by simpa using hil
    have hse : (C.map spanOf)[i] = spanOf C[i] := by simp
    generalize hx : C[i] = x at hb hdr hse
    have hxr : ∀ lc, Mem.rd ⟨lc, h3⟩ (s.adr 2 i) 2 = some (spanV (spanOf x)) := fun lc => by rw [← hse]; exact rd_map hr hsl
    have hxr1 : ∀ lc, Mem.rd ⟨lc, h3⟩ (ptrOff (s.adr 2 i) 0) 1 = some [.int .i32 (spanOf x).1] := fun lc => by rw [← hse]; exact rd_mapc hr hsl (by decide)
    have hsb := spanOf_bound hb
    have hsz : sizeF ((spanOf x).1, (spanOf x).2) = x.2 - x.1 := sizeF_spanOf hb
    rw [hdr, atR] at hI
    have e1 : (spanOf x).1 = runeF x.1 := rfl
    have r1 := runeF_or x.1
    have r2 := runeF_or (x.1 + m)
    (repeat' first
    | (show WpR _ _ _ _ _ _ _ _ _
       first
       | refine wpr_drop ?_
       | refine wpr_p (o := .mv _) (by simp only [ev_mv, opd_s, opd_c, fget, Nat.reduceEqDiff, Nat.one_ne_zero, Nat.zero_ne_one, reduceCtorEq, ↓reduceIte]; rfl) ?_
       | (refine wpr_fork (fun _ => ?_) (fun _ => ?_) <;> try (exfalso; omega))
       | (refine wpr_forkN (fun _ => ?_) (fun _ => ?_) <;> try (exfalso; omega))
       | refine wpr_run rfl ?_
       | refine wpr_pass rfl rfl ?_
       | refine wpr_passS rfl ?_
       | ((first | apply wpr_p | apply wpr_r | apply wpr_callA | apply wpr_callA0 | apply wpr_e0 | apply wpr_e | apply wpr_end0); focus ((try simp (disch := omega) only [push_cast, Nat.reduceEqDiff, ↓reduceIte, reduceCtorEq, Nat.reduceAdd, Nat.reduceMul, Nat.reduceLeDiff, hlen, hxr, hxr1, spanV, hsz]); rfl))
       | refine wpr_pass0 rfl rfl ?_
       | refine wpr_pass0S rfl ?_
       | (apply wpr_end; (focus ((try simp (disch := omega) only [push_cast, Nat.reduceEqDiff, ↓reduceIte, reduceCtorEq, Nat.reduceAdd, Nat.reduceMul, Nat.reduceLeDiff, hlen, hxr, hxr1, spanV, hsz]); rfl)); (focus (simp (disch := omega) only [push_cast, Nat.reduceEqDiff, ↓reduceIte, reduceCtorEq, Nat.reduceAdd, Nat.reduceMul, Nat.reduceLeDiff, hlen, hxr, hxr1, spanV, hsz]; done)))
       | fail)
    | (show Wp _ _ _ _ _ _
       first
       | refine wp_seq ?_
       | refine wp_region0 ?_
       | refine wp_region ?_
       | refine wp_cond_t rfl ?_
       | refine wp_cond_f rfl ?_
       | refine wp_ret ?_
       | refine wp_skip ?_
       | refine wp_exit ?_
       | refine wp_block ?_
       | fail)
    | refine thenQ_norm ?_
    | refine thenQ_ret ?_
    | refine thenQ_exit ?_
    | refine blockQ_norm ?_
    | refine blockQ_ret ?_
    | refine blockQ_same ?_
    | refine blockQ_ne rfl ?_
    | refine loopQ_norm ?_
    | refine loopQ_ret ?_
    | refine loopQ_exit ?_
    | ((first | apply retQ_ret | apply retQ_norm | apply wpc_of); focus ((try simp (disch := omega) only [push_cast, Nat.reduceEqDiff, ↓reduceIte, reduceCtorEq, Nat.reduceAdd, Nat.reduceMul, Nat.reduceLeDiff, hlen, hxr, hxr1, spanV, hsz]); rfl))
    | fail)
    all_goals first
      | (refine ⟨?_, rfl⟩
         rw [if_pos (by omega)] at hI
         rw [← hI, Option.getD_some]
         congr 1
         omega)
      | (rw [if_neg (by omega)] at hI
         refine ⟨_, ?_, i + 1, _, rfl, by omega, rfl, rfl, rfl, by omega, by omega, hI⟩
         omega)
      | trace_state
  · rw [List.drop_of_length_le hil, atR] at hI
    (repeat' first
    | (show WpR _ _ _ _ _ _ _ _ _
       first
       | refine wpr_drop ?_
       | refine wpr_p (o := .mv _) (by simp only [ev_mv, opd_s, opd_c, fget, Nat.reduceEqDiff, Nat.one_ne_zero, Nat.zero_ne_one, reduceCtorEq, ↓reduceIte]; rfl) ?_
       | (refine wpr_fork (fun _ => ?_) (fun _ => ?_) <;> try (exfalso; omega))
       | (refine wpr_forkN (fun _ => ?_) (fun _ => ?_) <;> try (exfalso; omega))
       | refine wpr_run rfl ?_
       | refine wpr_pass rfl rfl ?_
       | refine wpr_passS rfl ?_
       | ((first | apply wpr_p | apply wpr_r | apply wpr_callA | apply wpr_callA0 | apply wpr_e0 | apply wpr_e | apply wpr_end0); focus ((try simp (disch := omega) only [push_cast, Nat.reduceEqDiff, ↓reduceIte, reduceCtorEq, Nat.reduceAdd, Nat.reduceMul, Nat.reduceLeDiff, hlen]); rfl))
       | refine wpr_pass0 rfl rfl ?_
       | refine wpr_pass0S rfl ?_
       | (apply wpr_end; (focus ((try simp (disch := omega) only [push_cast, Nat.reduceEqDiff, ↓reduceIte, reduceCtorEq, Nat.reduceAdd, Nat.reduceMul, Nat.reduceLeDiff, hlen]); rfl)); (focus (simp (disch := omega) only [push_cast, Nat.reduceEqDiff, ↓reduceIte, reduceCtorEq, Nat.reduceAdd, Nat.reduceMul, Nat.reduceLeDiff, hlen]; done)))
       | fail)
    | (show Wp _ _ _ _ _ _
       first
       | refine wp_seq ?_
       | refine wp_region0 ?_
       | refine wp_region ?_
       | refine wp_cond_t rfl ?_
       | refine wp_cond_f rfl ?_
       | refine wp_ret ?_
       | refine wp_skip ?_
       | refine wp_exit ?_
       | refine wp_block ?_
       | fail)
    | refine thenQ_norm ?_
    | refine thenQ_ret ?_
    | refine thenQ_exit ?_
    | refine blockQ_norm ?_
    | refine blockQ_ret ?_
    | refine blockQ_same ?_
    | refine blockQ_ne rfl ?_
    | refine loopQ_norm ?_
    | refine loopQ_ret ?_
    | refine loopQ_exit ?_
    | ((first | apply retQ_ret | apply retQ_norm | apply wpc_of); focus ((try simp (disch := omega) only [push_cast, Nat.reduceEqDiff, ↓reduceIte, reduceCtorEq, Nat.reduceAdd, Nat.reduceMul, Nat.reduceLeDiff, hlen]); rfl))
    | fail)
    exact ⟨by rw [← hI]; rfl, rfl⟩

theorem refBelow_eq {C : List (Int × Int)} {s : Sl} {h : AH} (hr : Reads h 2 s ((C.map spanOf).map spanV)) (hn : C.length < 1000000000) (hC : ∀ x ∈ C, 0 ≤ x.1 ∧ x.1 < x.2 ∧ x.2 ≤ 1112064) (r : Int) (h1 : -2147483648 ≤ r) (h2 : r < 2147483648) :
    callO PS 42 [s.val 2, .int .i32 r] h = some (.int .i64 (belowR C (rankF r)), h) := by
  have hlen : s.len = C.length := by simpa using hr.len
  apply WpC.eqn
  refine wpc_fn (ps_ext rfl) (ps_fn fn42) rfl ?_
  unfold LF42
  simp only [argFr]
  (repeat' first
    | (show WpR _ _ _ _ _ _ _ _ _
       first
       | refine wpr_drop ?_
       | refine wpr_p (o := .mv _) (by simp only [ev_mv, opd_s, opd_c, fget, Nat.reduceEqDiff, Nat.one_ne_zero, Nat.zero_ne_one, reduceCtorEq, ↓reduceIte]; rfl) ?_
       | (refine wpr_fork (fun _ => ?_) (fun _ => ?_) <;> try (exfalso; omega))
       | (refine wpr_forkN (fun _ => ?_) (fun _ => ?_) <;> try (exfalso; omega))
       | refine wpr_run rfl ?_
       | refine wpr_pass rfl rfl ?_
       | refine wpr_passS rfl ?_
       | ((first | apply wpr_p | apply wpr_r | apply wpr_callA | apply wpr_callA0 | apply wpr_e0 | apply wpr_e | apply wpr_end0); focus ((try simp (disch := omega) only [push_cast, Nat.reduceEqDiff, ↓reduceIte, reduceCtorEq, Nat.reduceAdd, Nat.reduceMul, Nat.reduceLeDiff, hlen]); rfl))
       | refine wpr_pass0 rfl rfl ?_
       | refine wpr_pass0S rfl ?_
       | (apply wpr_end; (focus ((try simp (disch := omega) only [push_cast, Nat.reduceEqDiff, ↓reduceIte, reduceCtorEq, Nat.reduceAdd, Nat.reduceMul, Nat.reduceLeDiff, hlen]); rfl)); (focus (simp (disch := omega) only [push_cast, Nat.reduceEqDiff, ↓reduceIte, reduceCtorEq, Nat.reduceAdd, Nat.reduceMul, Nat.reduceLeDiff, hlen]; done)))
       | fail)
    | (show Wp _ _ _ _ _ _
       first
       | refine wp_seq ?_
       | refine wp_region0 ?_
       | refine wp_region ?_
       | refine wp_cond_t rfl ?_
       | refine wp_cond_f rfl ?_
       | refine wp_ret ?_
       | refine wp_skip ?_
       | refine wp_exit ?_
       | refine wp_block ?_
       | fail)
    | refine thenQ_norm ?_
    | refine thenQ_ret ?_
    | refine thenQ_exit ?_
    | refine blockQ_norm ?_
    | refine blockQ_ret ?_
    | refine blockQ_same ?_
    | refine blockQ_ne rfl ?_
    | refine loopQ_norm ?_
    | refine loopQ_ret ?_
    | refine loopQ_exit ?_
    | ((first | apply retQ_ret | apply retQ_norm | apply wpc_of); focus ((try simp (disch := omega) only [push_cast, Nat.reduceEqDiff, ↓reduceIte, reduceCtorEq, Nat.reduceAdd, Nat.reduceMul, Nat.reduceLeDiff, hlen]); rfl))
    | fail)
  have hk := rankF_or r
  refine wp_loop (fun q fr lc h1 => ∃ (i : Nat) (B : Int) (ex : Fr), q = C.length - i ∧ i ≤ C.length ∧ fr = [(0, s.val 2), (1, .int .i32 r), (5, .int .i64 B), (6, .int .i64 i)] ++ ex ∧ lc = [] ∧ h1 = h ∧ B = belowR (C.take i) (rankF r))
    C.length ⟨0, 0, [], rfl, Nat.zero_le _, rfl, rfl, rfl, rfl⟩ ?_
  rintro q fr lc h3 ⟨i, B, ex, rfl, hi, rfl, rfl, rfl, hB⟩
  have hb1 := belowR_nonneg (C.take i) (rankF r)
  have hb2 := belowR_bound (l := C.take i) (fun x hx => hC x (List.mem_of_mem_take hx)) (rankF r)
  rw [← hB] at hb1 hb2
  have htl : (C.take i).length ≤ C.length := by rw [List.length_take]; omega
  rcases Nat.lt_or_ge i C.length with hil | hil
  · have hb := hC C[i] (List.getElem_mem hil)
    have htk : C.take (i + 1) = C.take i ++ [C[i]] := List.take_succ_eq_append_getElem hil
    have hsl : i < (C.map spanOf).length := by simpa using hil
    have hse : (C.map spanOf)[i] = spanOf C[i] := by simp
    generalize hx : C[i] = x at hb htk hse
    have hxr : ∀ lc, Mem.rd ⟨lc, h3⟩ (s.adr 2 i) 2 = some (spanV (spanOf x)) := fun lc => by rw [← hse]; exact rd_map hr hsl
    have hxr1 : ∀ lc, Mem.rd ⟨lc, h3⟩ (ptrOff (s.adr 2 i) 0) 1 = some [.int .i32 (spanOf x).1] := fun lc => by rw [← hse]; exact rd_mapc hr hsl (by decide)
    have hst : belowR (C.take (i + 1)) (rankF r) = belowR (C.take i) (rankF r) + max (min x.2 (rankF r) - x.1) 0 := by rw [htk, belowR_append]; simp [belowR]
    have hsb := spanOf_bound hb
    have e1 : (spanOf x).1 = runeF x.1 := rfl
    have e2 : (spanOf x).2 = runeF (x.2 - 1) := rfl
    have r1 := runeF_or x.1
    have r2 := runeF_or (x.2 - 1)
    have hso : ∀ a b : Int, (a < 0xd800 ∧ 0xdfff < b ∧ sizeF (a, b) = b - a + 1 - 2048) ∨ ((¬ a < 0xd800 ∨ ¬ 0xdfff < b) ∧ sizeF (a, b) = b - a + 1) := fun a b => by
      unfold sizeF
      simp only
      split
      · exact .inl ⟨by omega, by omega, rfl⟩
      · exact .inr ⟨by omega, rfl⟩
    have s1 := hso (spanOf x).1 (spanOf x).2
    have s2 := hso (spanOf x).1 (r - 1)
    have s3 := hso (spanOf x).1 0xd7ff
    (repeat' first
    | (show WpR _ _ _ _ _ _ _ _ _
       first
       | refine wpr_drop ?_
       | refine wpr_p (o := .mv _) (by simp only [ev_mv, opd_s, opd_c, fget, Nat.reduceEqDiff, Nat.one_ne_zero, Nat.zero_ne_one, reduceCtorEq, ↓reduceIte]; rfl) ?_
       | (refine wpr_fork (fun _ => ?_) (fun _ => ?_) <;> try (exfalso; omega))
       | (refine wpr_forkN (fun _ => ?_) (fun _ => ?_) <;> try (exfalso; omega))
       | refine wpr_run rfl ?_
       | refine wpr_pass rfl rfl ?_
       | refine wpr_passS rfl ?_
       | ((first | apply wpr_p | apply wpr_r | apply wpr_callA | apply wpr_callA0 | apply wpr_e0 | apply wpr_e | apply wpr_end0); focus ((try simp (disch := omega) only [push_cast, Nat.reduceEqDiff, ↓reduceIte, reduceCtorEq, Nat.reduceAdd, Nat.reduceMul, Nat.reduceLeDiff, hlen, hxr, hxr1, spanV]); rfl))
       | refine wpr_pass0 rfl rfl ?_
       | refine wpr_pass0S rfl ?_
       | (apply wpr_end; (focus ((try simp (disch := omega) only [push_cast, Nat.reduceEqDiff, ↓reduceIte, reduceCtorEq, Nat.reduceAdd, Nat.reduceMul, Nat.reduceLeDiff, hlen, hxr, hxr1, spanV]); rfl)); (focus (simp (disch := omega) only [push_cast, Nat.reduceEqDiff, ↓reduceIte, reduceCtorEq, Nat.reduceAdd, Nat.reduceMul, Nat.reduceLeDiff, hlen, hxr, hxr1, spanV]; done)))
       | fail)
    | (show Wp _ _ _ _ _ _
       first
       | refine wp_seq ?_
       | refine wp_region0 ?_
       | refine wp_region ?_
       | refine wp_cond_t rfl ?_
       | refine wp_cond_f rfl ?_
       | refine wp_ret ?_
       | refine wp_skip ?_
       | refine wp_exit ?_
       | refine wp_block ?_
       | fail)
    | refine thenQ_norm ?_
    | refine thenQ_ret ?_
    | refine thenQ_exit ?_
    | refine blockQ_norm ?_
    | refine blockQ_ret ?_
    | refine blockQ_same ?_
    | refine blockQ_ne rfl ?_
    | refine loopQ_norm ?_
    | refine loopQ_ret ?_
    | refine loopQ_exit ?_
    | ((first | apply retQ_ret | apply retQ_norm | apply wpc_of); focus ((try simp (disch := omega) only [push_cast, Nat.reduceEqDiff, ↓reduceIte, reduceCtorEq, Nat.reduceAdd, Nat.reduceMul, Nat.reduceLeDiff, hlen, hxr, hxr1, spanV]); rfl))
    | fail)
    all_goals first
      | (refine ⟨_, ?_, i + 1, _, _, rfl, by omega, rfl, rfl, rfl, ?_⟩
         · omega
         · rw [hst]
           omega)
      | trace_state
  · have hall : C.take i = C := List.take_of_length_le (by omega)
    (repeat' first
    | (show WpR _ _ _ _ _ _ _ _ _
       first
       | refine wpr_drop ?_
       | refine wpr_p (o := .mv _) (by simp only [ev_mv, opd_s, opd_c, fget, Nat.reduceEqDiff, Nat.one_ne_zero, Nat.zero_ne_one, reduceCtorEq, ↓reduceIte]; rfl) ?_
       | (refine wpr_fork (fun _ => ?_) (fun _ => ?_) <;> try (exfalso; omega))
       | (refine wpr_forkN (fun _ => ?_) (fun _ => ?_) <;> try (exfalso; omega))
       | refine wpr_run rfl ?_
       | refine wpr_pass rfl rfl ?_
       | refine wpr_passS rfl ?_
       | ((first | apply wpr_p | apply wpr_r | apply wpr_callA | apply wpr_callA0 | apply wpr_e0 | apply wpr_e | apply wpr_end0); focus ((try simp (disch := omega) only [push_cast, Nat.reduceEqDiff, ↓reduceIte, reduceCtorEq, Nat.reduceAdd, Nat.reduceMul, Nat.reduceLeDiff, hlen]); rfl))
       | refine wpr_pass0 rfl rfl ?_
       | refine wpr_pass0S rfl ?_
       | (apply wpr_end; (focus ((try simp (disch := omega) only [push_cast, Nat.reduceEqDiff, ↓reduceIte, reduceCtorEq, Nat.reduceAdd, Nat.reduceMul, Nat.reduceLeDiff, hlen]); rfl)); (focus (simp (disch := omega) only [push_cast, Nat.reduceEqDiff, ↓reduceIte, reduceCtorEq, Nat.reduceAdd, Nat.reduceMul, Nat.reduceLeDiff, hlen]; done)))
       | fail)
    | (show Wp _ _ _ _ _ _
       first
       | refine wp_seq ?_
       | refine wp_region0 ?_
       | refine wp_region ?_
       | refine wp_cond_t rfl ?_
       | refine wp_cond_f rfl ?_
       | refine wp_ret ?_
       | refine wp_skip ?_
       | refine wp_exit ?_
       | refine wp_block ?_
       | fail)
    | refine thenQ_norm ?_
    | refine thenQ_ret ?_
    | refine thenQ_exit ?_
    | refine blockQ_norm ?_
    | refine blockQ_ret ?_
    | refine blockQ_same ?_
    | refine blockQ_ne rfl ?_
    | refine loopQ_norm ?_
    | refine loopQ_ret ?_
    | refine loopQ_exit ?_
    | ((first | apply retQ_ret | apply retQ_norm | apply wpc_of); focus ((try simp (disch := omega) only [push_cast, Nat.reduceEqDiff, ↓reduceIte, reduceCtorEq, Nat.reduceAdd, Nat.reduceMul, Nat.reduceLeDiff, hlen]); rfl))
    | fail)
    exact ⟨by rw [hB, hall], rfl⟩

theorem refNext_eq {C : List (Int × Int)} {s : Sl} {h : AH} (hr : Reads h 2 s ((C.map spanOf).map spanV)) (hn : C.length < 1000000000) (hC : ∀ x ∈ C, 0 ≤ x.1 ∧ x.1 < x.2 ∧ x.2 ≤ 1112064) (r : Int) (h1 : -2147483648 ≤ r) (h2 : r < 2147483648) :
    callO PS 40 [s.val 2, .int .i32 r] h = some (.int .i32 (nextRef C r), h) := by
  have hlen : s.len = C.length := by simpa using hr.len
  apply WpC.eqn
  refine wpc_fn (ps_ext rfl) (ps_fn fn40) rfl ?_
  unfold LF40
  simp only [argFr]
  (repeat' first
    | (show WpR _ _ _ _ _ _ _ _ _
       first
       | refine wpr_drop ?_
       | refine wpr_p (o := .mv _) (by simp only [ev_mv, opd_s, opd_c, fget, Nat.reduceEqDiff, Nat.one_ne_zero, Nat.zero_ne_one, reduceCtorEq, ↓reduceIte]; rfl) ?_
       | (refine wpr_fork (fun _ => ?_) (fun _ => ?_) <;> try (exfalso; omega))
       | (refine wpr_forkN (fun _ => ?_) (fun _ => ?_) <;> try (exfalso; omega))
       | refine wpr_run rfl ?_
       | refine wpr_pass rfl rfl ?_
       | refine wpr_passS rfl ?_
       | ((first | apply wpr_p | apply wpr_r | apply wpr_callA | apply wpr_callA0 | apply wpr_e0 | apply wpr_e | apply wpr_end0); focus ((try simp (disch := omega) only [push_cast, Nat.reduceEqDiff, ↓reduceIte, reduceCtorEq, Nat.reduceAdd, Nat.reduceMul, Nat.reduceLeDiff, hlen]); rfl))
       | refine wpr_pass0 rfl rfl ?_
       | refine wpr_pass0S rfl ?_
       | (apply wpr_end; (focus ((try simp (disch := omega) only [push_cast, Nat.reduceEqDiff, ↓reduceIte, reduceCtorEq, Nat.reduceAdd, Nat.reduceMul, Nat.reduceLeDiff, hlen]); rfl)); (focus (simp (disch := omega) only [push_cast, Nat.reduceEqDiff, ↓reduceIte, reduceCtorEq, Nat.reduceAdd, Nat.reduceMul, Nat.reduceLeDiff, hlen]; done)))
       | fail)
    | (show Wp _ _ _ _ _ _
       first
       | refine wp_seq ?_
       | refine wp_region0 ?_
       | refine wp_region ?_
       | refine wp_cond_t rfl ?_
       | refine wp_cond_f rfl ?_
       | refine wp_ret ?_
       | refine wp_skip ?_
       | refine wp_exit ?_
       | refine wp_block ?_
       | fail)
    | refine thenQ_norm ?_
    | refine thenQ_ret ?_
    | refine thenQ_exit ?_
    | refine blockQ_norm ?_
    | refine blockQ_ret ?_
    | refine blockQ_same ?_
    | refine blockQ_ne rfl ?_
    | refine loopQ_norm ?_
    | refine loopQ_ret ?_
    | refine loopQ_exit ?_
    | ((first | apply retQ_ret | apply retQ_norm | apply wpc_of); focus ((try simp (disch := omega) only [push_cast, Nat.reduceEqDiff, ↓reduceIte, reduceCtorEq, Nat.reduceAdd, Nat.reduceMul, Nat.reduceLeDiff, hlen]); rfl))
    | fail)
  refine wp_loop (fun q fr lc h1 => ∃ (i : Nat), q = C.length - i ∧ i ≤ C.length ∧ fr = [(0, s.val 2), (1, .int .i32 r), (5, .int .i64 i)] ∧ lc = [] ∧ h1 = h ∧ nextRef (C.drop i) r = nextRef C r)
    C.length ⟨0, rfl, Nat.zero_le _, rfl, rfl, rfl, rfl⟩ ?_
  rintro q fr lc h3 ⟨i, rfl, hi, rfl, rfl, rfl, hI⟩
  rcases Nat.lt_or_ge i C.length with hil | hil
  · have hb := hC C[i] (List.getElem_mem hil)
    have hdr : C.drop i = C[i] :: C.drop (i + 1) := List.drop_eq_getElem_cons hil
    have hsl : i < (C.map spanOf).length := by simpa using hil
    have hse : (C.map spanOf)[i] = spanOf C[i] := by simp
    generalize hx : C[i] = x at hb hdr hse
    have hxr1 : ∀ lc, Mem.rd ⟨lc, h3⟩ (ptrOff (s.adr 2 i) 0) 1 = some [.int .i32 (spanOf x).1] := fun lc => by rw [← hse]; exact rd_mapc hr hsl (by decide)
    have hxr2 : ∀ lc, Mem.rd ⟨lc, h3⟩ (ptrOff (s.adr 2 i) 1) 1 = some [.int .i32 (spanOf x).2] := fun lc => by rw [← hse]; exact rd_mapc hr hsl (by decide)
    have hsb := spanOf_bound hb
    rw [hdr, nextRef] at hI
    have hu := upF_or r
    (repeat' first
    | (show WpR _ _ _ _ _ _ _ _ _
       first
       | refine wpr_drop ?_
       | refine wpr_p (o := .mv _) (by simp only [ev_mv, opd_s, opd_c, fget, Nat.reduceEqDiff, Nat.one_ne_zero, Nat.zero_ne_one, reduceCtorEq, ↓reduceIte]; rfl) ?_
       | (refine wpr_fork (fun _ => ?_) (fun _ => ?_) <;> try (exfalso; omega))
       | (refine wpr_forkN (fun _ => ?_) (fun _ => ?_) <;> try (exfalso; omega))
       | refine wpr_run rfl ?_
       | refine wpr_pass rfl rfl ?_
       | refine wpr_passS rfl ?_
       | ((first | apply wpr_p | apply wpr_r | apply wpr_callA | apply wpr_callA0 | apply wpr_e0 | apply wpr_e | apply wpr_end0); focus ((try simp (disch := omega) only [push_cast, Nat.reduceEqDiff, ↓reduceIte, reduceCtorEq, Nat.reduceAdd, Nat.reduceMul, Nat.reduceLeDiff, hlen, hxr1, hxr2]); rfl))
       | refine wpr_pass0 rfl rfl ?_
       | refine wpr_pass0S rfl ?_
       | (apply wpr_end; (focus ((try simp (disch := omega) only [push_cast, Nat.reduceEqDiff, ↓reduceIte, reduceCtorEq, Nat.reduceAdd, Nat.reduceMul, Nat.reduceLeDiff, hlen, hxr1, hxr2]); rfl)); (focus (simp (disch := omega) only [push_cast, Nat.reduceEqDiff, ↓reduceIte, reduceCtorEq, Nat.reduceAdd, Nat.reduceMul, Nat.reduceLeDiff, hlen, hxr1, hxr2]; done)))
       | fail)
    | (show Wp _ _ _ _ _ _
       first
       | refine wp_seq ?_
       | refine wp_region0 ?_
       | refine wp_region ?_
       | refine wp_cond_t rfl ?_
       | refine wp_cond_f rfl ?_
       | refine wp_ret ?_
       | refine wp_skip ?_
       | refine wp_exit ?_
       | refine wp_block ?_
       | fail)
    | refine thenQ_norm ?_
    | refine thenQ_ret ?_
    | refine thenQ_exit ?_
    | refine blockQ_norm ?_
    | refine blockQ_ret ?_
    | refine blockQ_same ?_
    | refine blockQ_ne rfl ?_
    | refine loopQ_norm ?_
    | refine loopQ_ret ?_
    | refine loopQ_exit ?_
    | ((first | apply retQ_ret | apply retQ_norm | apply wpc_of); focus ((try simp (disch := omega) only [push_cast, Nat.reduceEqDiff, ↓reduceIte, reduceCtorEq, Nat.reduceAdd, Nat.reduceMul, Nat.reduceLeDiff, hlen, hxr1, hxr2]); rfl))
    | fail)
    all_goals first
      | (refine ⟨_, ?_, i + 1, rfl, by omega, rfl, rfl, rfl, ?_⟩
         · omega
         · rw [if_neg (by assumption), if_neg (by assumption)] at hI
           exact hI)
      | (refine ⟨?_, rfl⟩
         rw [← hI]
         congr 1
         repeat' split
         all_goals omega)
  · rw [List.drop_of_length_le hil, nextRef] at hI
    (repeat' first
    | (show WpR _ _ _ _ _ _ _ _ _
       first
       | refine wpr_drop ?_
       | refine wpr_p (o := .mv _) (by simp only [ev_mv, opd_s, opd_c, fget, Nat.reduceEqDiff, Nat.one_ne_zero, Nat.zero_ne_one, reduceCtorEq, ↓reduceIte]; rfl) ?_
       | (refine wpr_fork (fun _ => ?_) (fun _ => ?_) <;> try (exfalso; omega))
       | (refine wpr_forkN (fun _ => ?_) (fun _ => ?_) <;> try (exfalso; omega))
       | refine wpr_run rfl ?_
       | refine wpr_pass rfl rfl ?_
       | refine wpr_passS rfl ?_
       | ((first | apply wpr_p | apply wpr_r | apply wpr_callA | apply wpr_callA0 | apply wpr_e0 | apply wpr_e | apply wpr_end0); focus ((try simp (disch := omega) only [push_cast, Nat.reduceEqDiff, ↓reduceIte, reduceCtorEq, Nat.reduceAdd, Nat.reduceMul, Nat.reduceLeDiff, hlen]); rfl))
       | refine wpr_pass0 rfl rfl ?_
       | refine wpr_pass0S rfl ?_
       | (apply wpr_end; (focus ((try simp (disch := omega) only [push_cast, Nat.reduceEqDiff, ↓reduceIte, reduceCtorEq, Nat.reduceAdd, Nat.reduceMul, Nat.reduceLeDiff, hlen]); rfl)); (focus (simp (disch := omega) only [push_cast, Nat.reduceEqDiff, ↓reduceIte, reduceCtorEq, Nat.reduceAdd, Nat.reduceMul, Nat.reduceLeDiff, hlen]; done)))
       | fail)
    | (show Wp _ _ _ _ _ _
       first
       | refine wp_seq ?_
       | refine wp_region0 ?_
       | refine wp_region ?_
       | refine wp_cond_t rfl ?_
       | refine wp_cond_f rfl ?_
       | refine wp_ret ?_
       | refine wp_skip ?_
       | refine wp_exit ?_
       | refine wp_block ?_
       | fail)
    | refine thenQ_norm ?_
    | refine thenQ_ret ?_
    | refine thenQ_exit ?_
    | refine blockQ_norm ?_
    | refine blockQ_ret ?_
    | refine blockQ_same ?_
    | refine blockQ_ne rfl ?_
    | refine loopQ_norm ?_
    | refine loopQ_ret ?_
    | refine loopQ_exit ?_
    | ((first | apply retQ_ret | apply retQ_norm | apply wpc_of); focus ((try simp (disch := omega) only [push_cast, Nat.reduceEqDiff, ↓reduceIte, reduceCtorEq, Nat.reduceAdd, Nat.reduceMul, Nat.reduceLeDiff, hlen]); rfl))
    | fail)
    exact ⟨by rw [← hI], rfl⟩

end Go.Proofs.Ytanpdopjgepbkaa.AM
