/- The document's fewest spans: rounds over the rows apart. Plain mathematics. -/
import Derived.Test.YtanpdopjgepbkaaSB
set_option linter.unusedVariables false
set_option linter.unusedSimpArgs false
namespace Go.Proofs.Ytanpdopjgepbkaa.AM

theorem runeF_or (p : Int) : (p < 55296 ∧ runeF p = p) ∨ (55296 ≤ p ∧ runeF p = p + 2048) := by
  unfold runeF; split
  · exact .inr ⟨by omega, rfl⟩
  · exact .inl ⟨by omega, rfl⟩
theorem upF_or (n : Int) : (n = 0xd7ff ∧ upF n = 0xe000) ∨ (n ≠ 0xd7ff ∧ upF n = n + 1) := by
  unfold upF; split
  · exact .inl ⟨by assumption, rfl⟩
  · exact .inr ⟨by assumption, rfl⟩
theorem upF_runeF (p : Int) : upF (runeF p) = runeF (p + 1) := by
  have := runeF_or p; have := runeF_or (p + 1); have := upF_or (runeF p); omega

/-- A right span. -/
def RightS (x : Int × Int) : Prop := IsRune x.1 ∧ IsRune x.2 ∧ x.1 ≤ x.2

theorem rank_rune {n : Int} (h : IsRune n) : runeF (rankF n) = n ∧ 0 ≤ rankF n ∧ rankF n ≤ 1112063 := by
  have := runeF_or (rankF n)
  unfold rankF at *
  split at this
  · rename_i h1
    rw [if_pos h1]; omega
  · rename_i h1
    rw [if_neg h1]
    split at this
    · omega
    · rename_i h2
      rw [if_neg h2]; omega

theorem right_row {x : Int × Int} (h : RightS x) : x.1 = runeF (rowOf x).1 ∧ x.2 = runeF ((rowOf x).2 - 1) ∧ 0 ≤ (rowOf x).1 ∧ (rowOf x).1 < (rowOf x).2 ∧ (rowOf x).2 ≤ 1112064 := by
  obtain ⟨a, b, c⟩ := h
  have h1 := rank_rune a
  have h2 := rank_rune b
  have e : (rowOf x).2 - 1 = rankF x.2 := by unfold rowOf; simp only; omega
  rw [e]
  unfold rowOf
  simp only
  refine ⟨h1.1.symm, h2.1.symm, h1.2.1, ?_, by omega⟩
  have := runeF_or (rankF x.1); have := runeF_or (rankF x.2)
  omega

theorem wrong_right {x : Int × Int} (h : wrongF x = 0) : RightS x := by
  unfold wrongF at h
  split at h
  · cases h
  · rename_i h1
    split at h
    · cases h
    · exact ⟨by omega, by omega, by omega⟩

/-- No number right behind a row is in a row. -/
theorem canon_gap {C : List (Int × Int)} (hc : Canon C) {k : Nat} (hk : k < C.length) : ¬ InR (C[k]).2 C := by
  rintro ⟨y, hy, h1, h2⟩
  obtain ⟨j, hj, rfl⟩ := List.getElem_of_mem hy
  have hp := List.pairwise_iff_getElem.1 hc.sep
  rcases Nat.lt_trichotomy j k with h | h | h
  · have := hp j k hj hk h
    have := hc.ne C[k] (List.getElem_mem hk)
    omega
  · subst h; omega
  · have := hp k j hk hj h
    omega

/-- A number in a row that is not below the end of the row k - 1 is not below the row k. -/
theorem canon_from {C : List (Int × Int)} (hc : Canon C) {k : Nat} {z : Int} (hz : InR z C) (h : ∀ (h0 : 0 < k) (h1 : k - 1 < C.length), (C[k - 1]).2 ≤ z) (hk : k ≤ C.length) : ∃ h : k < C.length, (C[k]).1 ≤ z := by
  obtain ⟨y, hy, h1, h2⟩ := hz
  obtain ⟨j, hj, rfl⟩ := List.getElem_of_mem hy
  have hp := List.pairwise_iff_getElem.1 hc.sep
  have hjk : k ≤ j := by
    apply Nat.le_of_not_lt
    intro hlt
    have h3 := h (by omega) (by omega)
    rcases Nat.lt_or_ge j (k - 1) with h4 | h4
    · have := hp j (k - 1) hj (by omega) h4
      have := hc.ne C[k - 1] (List.getElem_mem (by omega))
      omega
    · have : j = k - 1 := by omega
      subst this; omega
  refine ⟨by omega, ?_⟩
  rcases Nat.lt_or_ge k j with h4 | h4
  · have := hp k j (by omega) hj h4
    have := hc.ne C[k] (List.getElem_mem (by omega))
    omega
  · have : j = k := by omega
    subst this; exact h1

/-- Where the next search begins: behind the row k - 1. -/
def posF (C : List (Int × Int)) (k : Nat) : Int := if h : 0 < k ∧ k - 1 < C.length then (C[k - 1]).2 else 0

/-- What the search for the least rune has found. -/
structure Least (l : List (Int × Int)) (a least : Int) : Prop where
  from' : least = 1114112 ∨ ∃ x ∈ l, least = max x.1 a ∧ max x.1 a ≤ x.2
  le : ∀ x ∈ l, max x.1 a ≤ x.2 → least ≤ max x.1 a

theorem Least.new {l : List (Int × Int)} {a least m : Int} {x : Int × Int} (h : Least l a least) (e : m = max x.1 a) (h1 : m ≤ x.2) (h2 : m ≤ least) : Least (l ++ [x]) a m where
  from' := .inr ⟨x, by simp, e, by omega⟩
  le := fun y hy hle => by
    rcases List.mem_append.1 hy with h' | h'
    · have := h.le y h' hle; omega
    · rw [List.mem_singleton.1 h']; omega
theorem Least.old {l : List (Int × Int)} {a least : Int} {x : Int × Int} (h : Least l a least) (h1 : max x.1 a ≤ x.2 → least ≤ max x.1 a) : Least (l ++ [x]) a least where
  from' := h.from'.imp id fun ⟨y, hy, e⟩ => ⟨y, List.mem_append_left _ hy, e⟩
  le := fun y hy hle => by
    rcases List.mem_append.1 hy with h' | h'
    · exact h.le y h' hle
    · rw [List.mem_singleton.1 h'] at hle ⊢; exact h1 hle

theorem least_done {l C : List (Int × Int)} (hl : ∀ x ∈ l, RightS x) (hc : Canon C) (hcov : ∀ z, InR z C ↔ InR z (l.map rowOf)) {k : Nat} (hk : k ≤ C.length) {least : Int} (h : Least l (runeF (posF C k)) least) :
    (∀ hk' : k < C.length, least = runeF (C[k]).1 ∧ (C[k]).1 < 1112064) ∧ (k = C.length → least = 1114112) := by
  have hpos : 0 ≤ posF C k := by
    unfold posF; split
    · rename_i hh
      have h1 : InR (C[k - 1]).1 C := ⟨_, List.getElem_mem hh.2, Int.le_refl _, hc.ne _ (List.getElem_mem hh.2)⟩
      obtain ⟨r, hr, h2⟩ := (hcov _).1 h1
      obtain ⟨x, hx, rfl⟩ := List.mem_map.1 hr
      have := right_row (hl x hx)
      have := hc.ne _ (List.getElem_mem hh.2)
      omega
    · omega
  -- each candidate is a number of a row, behind the place
  have cand : ∀ x ∈ l, max x.1 (runeF (posF C k)) ≤ x.2 → ∃ h : k < C.length, (C[k]).1 ≤ max (rowOf x).1 (posF C k) ∧ max x.1 (runeF (posF C k)) = runeF (max (rowOf x).1 (posF C k)) := by
    intro x hx hle
    obtain ⟨e1, e2, b1, b2, b3⟩ := right_row (hl x hx)
    have m1 := runeF_or (rowOf x).1
    have m2 := runeF_or ((rowOf x).2 - 1)
    have m3 := runeF_or (posF C k)
    have m4 := runeF_or (max (rowOf x).1 (posF C k))
    have hlt : max (rowOf x).1 (posF C k) < (rowOf x).2 := by omega
    have hz : InR (max (rowOf x).1 (posF C k)) C := (hcov _).2 ⟨rowOf x, List.mem_map.2 ⟨x, hx, rfl⟩, by omega, hlt⟩
    obtain ⟨h1, h2⟩ := canon_from hc hz (fun h0 h1 => by
      have : posF C k = (C[k - 1]).2 := by unfold posF; rw [dif_pos ⟨h0, h1⟩]
      omega) hk
    exact ⟨h1, h2, by omega⟩
  refine ⟨fun hk' => ?_, fun hk' => ?_⟩
  · have h1 : InR (C[k]).1 C := ⟨_, List.getElem_mem hk', Int.le_refl _, hc.ne _ (List.getElem_mem hk')⟩
    obtain ⟨r, hr, h2, h3⟩ := (hcov _).1 h1
    obtain ⟨x, hx, rfl⟩ := List.mem_map.1 hr
    obtain ⟨e1, e2, b1, b2, b3⟩ := right_row (hl x hx)
    have hp : posF C k ≤ (C[k]).1 := by
      unfold posF; split
      · rename_i hh
        have := List.pairwise_iff_getElem.1 hc.sep (k - 1) k hh.2 hk' (by omega)
        omega
      · omega
    have m1 := runeF_or (rowOf x).1
    have m2 := runeF_or ((rowOf x).2 - 1)
    have m3 := runeF_or (posF C k)
    have m5 := runeF_or (C[k]).1
    have hle : max x.1 (runeF (posF C k)) ≤ x.2 := by omega
    have hup := h.le x hx hle
    refine ⟨?_, by omega⟩
    obtain ⟨_, c1, c2⟩ := cand x hx hle
    have hmx : max (rowOf x).1 (posF C k) = (C[k]).1 := by omega
    rw [c2, hmx] at hup
    rcases h.from' with h4 | ⟨y, hy, h4, h5⟩
    · omega
    · obtain ⟨_, d1, d2⟩ := cand y hy h5
      have m6 := runeF_or (max (rowOf y).1 (posF C k))
      omega
  · rcases h.from' with h4 | ⟨y, hy, h4, h5⟩
    · exact h4
    · obtain ⟨d0, _⟩ := cand y hy h5
      omega

/-- One step further: a span that touches what is come to, and goes beyond. -/
theorem end_step {l C : List (Int × Int)} (hl : ∀ x ∈ l, RightS x) (hc : Canon C) (hcov : ∀ z, InR z C ↔ InR z (l.map rowOf)) {k : Nat} (hk : k < C.length) {q : Int} (h1 : (C[k]).1 < q) (h2 : q ≤ (C[k]).2) {x : Int × Int} (hx : x ∈ l)
    (h3 : x.1 ≤ runeF q) (h4 : runeF (q - 1) < x.2) : x.2 = runeF ((rowOf x).2 - 1) ∧ q < (rowOf x).2 ∧ (rowOf x).2 ≤ (C[k]).2 := by
  obtain ⟨e1, e2, b1, b2, b3⟩ := right_row (hl x hx)
  have m1 := runeF_or (rowOf x).1
  have m2 := runeF_or ((rowOf x).2 - 1)
  have m3 := runeF_or q
  have m4 := runeF_or (q - 1)
  refine ⟨e2, by omega, ?_⟩
  apply Int.le_of_not_gt
  intro hgt
  exact canon_gap hc hk ((hcov _).2 ⟨rowOf x, List.mem_map.2 ⟨x, hx, rfl⟩, by omega, hgt⟩)
theorem end_done {l C : List (Int × Int)} (hl : ∀ x ∈ l, RightS x) (hc : Canon C) (hcov : ∀ z, InR z C ↔ InR z (l.map rowOf)) {k : Nat} (hk : k < C.length) {q : Int} (h1 : (C[k]).1 < q) (h2 : q ≤ (C[k]).2)
    (h : ∀ x ∈ l, ¬ (x.1 ≤ runeF q ∧ runeF (q - 1) < x.2)) : q = (C[k]).2 := by
  apply Int.le_antisymm h2
  apply Int.le_of_not_gt
  intro hgt
  obtain ⟨r, hr, h3, h4⟩ := (hcov q).1 ⟨_, List.getElem_mem hk, by omega, hgt⟩
  obtain ⟨x, hx, rfl⟩ := List.mem_map.1 hr
  obtain ⟨e1, e2, b1, b2, b3⟩ := right_row (hl x hx)
  have m1 := runeF_or (rowOf x).1
  have m2 := runeF_or ((rowOf x).2 - 1)
  have m3 := runeF_or q
  have m4 := runeF_or (q - 1)
  exact h x hx ⟨by omega, by omega⟩

end Go.Proofs.Ytanpdopjgepbkaa.AM
/- The document's fewest spans: the walk. -/
set_option linter.unusedVariables false
set_option linter.unusedSimpArgs false
namespace Go.Proofs.Ytanpdopjgepbkaa.AM
open Go

theorem right_bounds {x : Int × Int} (h : RightS x) : 0 ≤ x.1 ∧ x.1 ≤ 1114111 ∧ 0 ≤ x.2 ∧ x.2 ≤ 1114111 := by
  obtain ⟨a, b, c⟩ := h; omega

theorem refSpans_spec {l C : List (Int × Int)} {s : Sl} {h : AH} (hr : Reads h 2 s (l.map spanV)) (hn : l.length < 1000000000) (hCn : C.length < 1000000000) (hl : ∀ x ∈ l, RightS x) (hc : Canon C) (hcov : ∀ z, InR z C ↔ InR z (l.map rowOf)) :
    WpC PS 36 [s.val 2] h fun v h' => ∃ t, v = Sl.val 2 t ∧ FOwn h h' 2 t ((C.map spanOf).map spanV) := by
  have hlen := hr.len
  have hCb : ∀ x ∈ C, 0 ≤ x.1 ∧ x.1 < x.2 ∧ x.2 ≤ 1112064 := fun x hx => by
    have h1 := hc.ne x hx
    obtain ⟨r, hr, a1, a2⟩ := (hcov x.1).1 ⟨x, hx, Int.le_refl _, h1⟩
    obtain ⟨y, hy, rfl⟩ := List.mem_map.1 hr
    have := right_row (hl y hy)
    obtain ⟨r', hr', b1, b2⟩ := (hcov (x.2 - 1)).1 ⟨x, hx, by omega, by omega⟩
    obtain ⟨y', hy', rfl⟩ := List.mem_map.1 hr'
    have := right_row (hl y' hy')
    omega
  refine wpc_fn (ps_ext rfl) (ps_fn fn36) rfl ?_
  unfold LF36
  simp only [argFr]
  (repeat' first
    | (show WpR _ _ _ _ _ _ _ _ _
       first
       | refine wpr_drop ?_
       | refine wpr_p (o := .mv _) (by simp only [ev_mv, opd_s, opd_c, fget, Nat.reduceEqDiff, Nat.one_ne_zero, Nat.zero_ne_one, reduceCtorEq, ↓reduceIte]; rfl) ?_
       | (refine wpr_fork (fun _ => ?_) (fun _ => ?_) <;> try (exfalso; omega))
       | (refine wpr_forkN (fun _ => ?_) (fun _ => ?_) <;> try (exfalso; omega))
       | refine wpr_run rfl ?_
       | refine wpr_pass rfl rfl ?_
       | refine wpr_passS rfl ?_
       | ((first | apply wpr_p | apply wpr_r | apply wpr_callA | apply wpr_callA0 | apply wpr_e0 | apply wpr_e | apply wpr_end0); focus ((try simp (disch := omega) only [push_cast, Nat.reduceEqDiff, ↓reduceIte, reduceCtorEq, Nat.reduceAdd, Nat.reduceMul, Nat.reduceLeDiff, hlen]); rfl))
       | refine wpr_pass0 rfl rfl ?_
       | refine wpr_pass0S rfl ?_
       | (apply wpr_end; (focus ((try simp (disch := omega) only [push_cast, Nat.reduceEqDiff, ↓reduceIte, reduceCtorEq, Nat.reduceAdd, Nat.reduceMul, Nat.reduceLeDiff, hlen]); rfl)); (focus (simp (disch := omega) only [push_cast, Nat.reduceEqDiff, ↓reduceIte, reduceCtorEq, Nat.reduceAdd, Nat.reduceMul, Nat.reduceLeDiff, hlen]; done)))
       | fail)
    | (show Wp _ _ _ _ _ _
       first
       | refine wp_seq ?_
       | refine wp_region0 ?_
       | refine wp_region ?_
       | refine wp_cond_t rfl ?_
       | refine wp_cond_f rfl ?_
       | refine wp_ret ?_
       | refine wp_skip ?_
       | refine wp_exit ?_
       | refine wp_block ?_
       | fail)
    | refine thenQ_norm ?_
    | refine thenQ_ret ?_
    | refine thenQ_exit ?_
    | refine blockQ_norm ?_
    | refine blockQ_ret ?_
    | refine blockQ_same ?_
    | refine blockQ_ne rfl ?_
    | refine loopQ_norm ?_
    | refine loopQ_ret ?_
    | refine loopQ_exit ?_
    | ((first | apply retQ_ret | apply retQ_norm | apply wpc_of); focus ((try simp (disch := omega) only [push_cast, Nat.reduceEqDiff, ↓reduceIte, reduceCtorEq, Nat.reduceAdd, Nat.reduceMul, Nat.reduceLeDiff, hlen]); rfl))
    | fail)
  refine wp_loop (fun n fr lc h1 => ∃ (k : Nat) (t : Sl), n = C.length - k ∧ k ≤ C.length ∧ fr = [(0, s.val 2), (3, t.val 2), (4, .int .i32 (runeF (posF C k)))] ∧ lc = [] ∧ FOwn h h1 2 t (((C.take k).map spanOf).map spanV))
    C.length ⟨0, .nil, rfl, Nat.zero_le _, by simp [posF, runeF, Sl.val], rfl, FOwn.nil (Kp.refl h)⟩ ?_
  rintro n fr lc h1 ⟨k, t, rfl, hk, rfl, rfl, f1⟩
  have hr1 := hr.kp f1.kp
  have hpb : 0 ≤ runeF (posF C k) ∧ runeF (posF C k) ≤ 1114112 := by
    have := runeF_or (posF C k)
    have : 0 ≤ posF C k ∧ posF C k ≤ 1112064 := by
      unfold posF; split
      · have := hCb _ (List.getElem_mem (by assumption : 0 < k ∧ k - 1 < C.length).2); omega
      · omega
    omega
  have har : runeF (posF C k) < 55296 ∨ 57343 < runeF (posF C k) := by have := runeF_or (posF C k); omega
  generalize hat : runeF (posF C k) = a at hpb har
  (repeat' first
    | (show WpR _ _ _ _ _ _ _ _ _
       first
       | refine wpr_drop ?_
       | refine wpr_p (o := .mv _) (by simp only [ev_mv, opd_s, opd_c, fget, Nat.reduceEqDiff, Nat.one_ne_zero, Nat.zero_ne_one, reduceCtorEq, ↓reduceIte]; rfl) ?_
       | (refine wpr_fork (fun _ => ?_) (fun _ => ?_) <;> try (exfalso; omega))
       | (refine wpr_forkN (fun _ => ?_) (fun _ => ?_) <;> try (exfalso; omega))
       | refine wpr_run rfl ?_
       | refine wpr_pass rfl rfl ?_
       | refine wpr_passS rfl ?_
       | ((first | apply wpr_p | apply wpr_r | apply wpr_callA | apply wpr_callA0 | apply wpr_e0 | apply wpr_e | apply wpr_end0); focus ((try simp (disch := omega) only [push_cast, Nat.reduceEqDiff, ↓reduceIte, reduceCtorEq, Nat.reduceAdd, Nat.reduceMul, Nat.reduceLeDiff, hlen]); rfl))
       | refine wpr_pass0 rfl rfl ?_
       | refine wpr_pass0S rfl ?_
       | (apply wpr_end; (focus ((try simp (disch := omega) only [push_cast, Nat.reduceEqDiff, ↓reduceIte, reduceCtorEq, Nat.reduceAdd, Nat.reduceMul, Nat.reduceLeDiff, hlen]); rfl)); (focus (simp (disch := omega) only [push_cast, Nat.reduceEqDiff, ↓reduceIte, reduceCtorEq, Nat.reduceAdd, Nat.reduceMul, Nat.reduceLeDiff, hlen]; done)))
       | fail)
    | (show Wp _ _ _ _ _ _
       first
       | refine wp_seq ?_
       | refine wp_region0 ?_
       | refine wp_region ?_
       | refine wp_cond_t rfl ?_
       | refine wp_cond_f rfl ?_
       | refine wp_ret ?_
       | refine wp_skip ?_
       | refine wp_exit ?_
       | refine wp_block ?_
       | fail)
    | refine thenQ_norm ?_
    | refine thenQ_ret ?_
    | refine thenQ_exit ?_
    | refine blockQ_norm ?_
    | refine blockQ_ret ?_
    | refine blockQ_same ?_
    | refine blockQ_ne rfl ?_
    | refine loopQ_norm ?_
    | refine loopQ_ret ?_
    | refine loopQ_exit ?_
    | ((first | apply retQ_ret | apply retQ_norm | apply wpc_of); focus ((try simp (disch := omega) only [push_cast, Nat.reduceEqDiff, ↓reduceIte, reduceCtorEq, Nat.reduceAdd, Nat.reduceMul, Nat.reduceLeDiff, hlen]); rfl))
    | fail)
  refine wp_loop (fun n fr lc h2 => ∃ (i : Nat) (least : Int), n = l.length - i ∧ i ≤ l.length ∧ fr = [(0, s.val 2), (3, t.val 2), (4, .int .i32 a), (5, .int .i32 least), (6, .int .i64 i)] ∧ lc = [] ∧ h2 = h1 ∧ Least (l.take i) a least ∧ 0 ≤ least ∧ least ≤ 1114112)
    l.length ⟨0, 1114112, rfl, Nat.zero_le _, rfl, rfl, rfl, ⟨.inl rfl, by simp⟩, by decide, by decide⟩ ?_
  rintro n fr lc h2 ⟨i, least, rfl, hi, rfl, rfl, rfl, hL, hb1, hb2⟩
  rcases Nat.lt_or_ge i l.length with hil | hil
  · have hri := hl l[i] (List.getElem_mem hil)
    have hbi := right_bounds hri
    have hri' := hri
    have htk : l.take (i + 1) = l.take i ++ [l[i]] := List.take_succ_eq_append_getElem hil
    generalize hx : l[i] = x at hbi htk hri
    obtain ⟨r1, r2, r3⟩ := hri
    have hxr : ∀ lc, Mem.rd ⟨lc, h2⟩ (s.adr 2 i) 2 = some (spanV x) := fun lc => by rw [← hx]; exact rd_map hr1 hil
    have hxr1 : ∀ lc, Mem.rd ⟨lc, h2⟩ (ptrOff (s.adr 2 i) 0) 1 = some [.int .i32 x.1] := fun lc => by rw [← hx]; exact rd_mapc hr1 hil (by decide)
    have hxr2 : ∀ lc, Mem.rd ⟨lc, h2⟩ (ptrOff (s.adr 2 i) 1) 1 = some [.int .i32 x.2] := fun lc => by rw [← hx]; exact rd_mapc hr1 hil (by decide)
    (repeat' first
    | (show WpR _ _ _ _ _ _ _ _ _
       first
       | refine wpr_drop ?_
       | refine wpr_p (o := .mv _) (by simp only [ev_mv, opd_s, opd_c, fget, Nat.reduceEqDiff, Nat.one_ne_zero, Nat.zero_ne_one, reduceCtorEq, ↓reduceIte]; rfl) ?_
       | (refine wpr_fork (fun _ => ?_) (fun _ => ?_) <;> try (exfalso; omega))
       | (refine wpr_forkN (fun _ => ?_) (fun _ => ?_) <;> try (exfalso; omega))
       | refine wpr_run rfl ?_
       | refine wpr_pass rfl rfl ?_
       | refine wpr_passS rfl ?_
       | ((first | apply wpr_p | apply wpr_r | apply wpr_callA | apply wpr_callA0 | apply wpr_e0 | apply wpr_e | apply wpr_end0); focus ((try simp (disch := omega) only [push_cast, Nat.reduceEqDiff, ↓reduceIte, reduceCtorEq, Nat.reduceAdd, Nat.reduceMul, Nat.reduceLeDiff, hlen, hxr1, hxr2]); rfl))
       | refine wpr_pass0 rfl rfl ?_
       | refine wpr_pass0S rfl ?_
       | (apply wpr_end; (focus ((try simp (disch := omega) only [push_cast, Nat.reduceEqDiff, ↓reduceIte, reduceCtorEq, Nat.reduceAdd, Nat.reduceMul, Nat.reduceLeDiff, hlen, hxr1, hxr2]); rfl)); (focus (simp (disch := omega) only [push_cast, Nat.reduceEqDiff, ↓reduceIte, reduceCtorEq, Nat.reduceAdd, Nat.reduceMul, Nat.reduceLeDiff, hlen, hxr1, hxr2]; done)))
       | fail)
    | (show Wp _ _ _ _ _ _
       first
       | refine wp_seq ?_
       | refine wp_region0 ?_
       | refine wp_region ?_
       | refine wp_cond_t rfl ?_
       | refine wp_cond_f rfl ?_
       | refine wp_ret ?_
       | refine wp_skip ?_
       | refine wp_exit ?_
       | refine wp_block ?_
       | fail)
    | refine thenQ_norm ?_
    | refine thenQ_ret ?_
    | refine thenQ_exit ?_
    | refine blockQ_norm ?_
    | refine blockQ_ret ?_
    | refine blockQ_same ?_
    | refine blockQ_ne rfl ?_
    | refine loopQ_norm ?_
    | refine loopQ_ret ?_
    | refine loopQ_exit ?_
    | ((first | apply retQ_ret | apply retQ_norm | apply wpc_of); focus ((try simp (disch := omega) only [push_cast, Nat.reduceEqDiff, ↓reduceIte, reduceCtorEq, Nat.reduceAdd, Nat.reduceMul, Nat.reduceLeDiff, hlen, hxr1, hxr2]); rfl))
    | fail)
    all_goals
      refine ⟨_, ?_, i + 1, _, rfl, by omega, rfl, rfl, rfl, ?_, by omega, by omega⟩
      · omega
      · rw [htk]
        first
          | exact hL.new (by omega) (by omega) (by omega)
          | exact hL.old (by omega)
  · have hall : l.take i = l := List.take_of_length_le (by omega)
    rw [hall, ← hat] at hL
    obtain ⟨hd1, hd2⟩ := least_done hl hc hcov hk hL
    (repeat' first
    | (show WpR _ _ _ _ _ _ _ _ _
       first
       | refine wpr_drop ?_
       | refine wpr_p (o := .mv _) (by simp only [ev_mv, opd_s, opd_c, fget, Nat.reduceEqDiff, Nat.one_ne_zero, Nat.zero_ne_one, reduceCtorEq, ↓reduceIte]; rfl) ?_
       | (refine wpr_fork (fun _ => ?_) (fun _ => ?_) <;> try (exfalso; omega))
       | (refine wpr_forkN (fun _ => ?_) (fun _ => ?_) <;> try (exfalso; omega))
       | refine wpr_run rfl ?_
       | refine wpr_pass rfl rfl ?_
       | refine wpr_passS rfl ?_
       | ((first | apply wpr_p | apply wpr_r | apply wpr_callA | apply wpr_callA0 | apply wpr_e0 | apply wpr_e | apply wpr_end0); focus ((try simp (disch := omega) only [push_cast, Nat.reduceEqDiff, ↓reduceIte, reduceCtorEq, Nat.reduceAdd, Nat.reduceMul, Nat.reduceLeDiff, hlen]); rfl))
       | refine wpr_pass0 rfl rfl ?_
       | refine wpr_pass0S rfl ?_
       | (apply wpr_end; (focus ((try simp (disch := omega) only [push_cast, Nat.reduceEqDiff, ↓reduceIte, reduceCtorEq, Nat.reduceAdd, Nat.reduceMul, Nat.reduceLeDiff, hlen]); rfl)); (focus (simp (disch := omega) only [push_cast, Nat.reduceEqDiff, ↓reduceIte, reduceCtorEq, Nat.reduceAdd, Nat.reduceMul, Nat.reduceLeDiff, hlen]; done)))
       | fail)
    | (show Wp _ _ _ _ _ _
       first
       | refine wp_seq ?_
       | refine wp_region0 ?_
       | refine wp_region ?_
       | refine wp_cond_t rfl ?_
       | refine wp_cond_f rfl ?_
       | refine wp_ret ?_
       | refine wp_skip ?_
       | refine wp_exit ?_
       | refine wp_block ?_
       | fail)
    | refine thenQ_norm ?_
    | refine thenQ_ret ?_
    | refine thenQ_exit ?_
    | refine blockQ_norm ?_
    | refine blockQ_ret ?_
    | refine blockQ_same ?_
    | refine blockQ_ne rfl ?_
    | refine loopQ_norm ?_
    | refine loopQ_ret ?_
    | refine loopQ_exit ?_
    | ((first | apply retQ_ret | apply retQ_norm | apply wpc_of); focus ((try simp (disch := omega) only [push_cast, Nat.reduceEqDiff, ↓reduceIte, reduceCtorEq, Nat.reduceAdd, Nat.reduceMul, Nat.reduceLeDiff, hlen]); rfl))
    | fail)
    · have hkC : k = C.length := by
        rcases Nat.lt_or_ge k C.length with h' | h'
        · obtain ⟨e1, e2⟩ := hd1 h'
          have := runeF_or (C[k]).1
          omega
        · omega
      rw [hkC, List.take_length] at f1
      exact ⟨t, rfl, f1⟩
    rename_i g1 g2
    have hk' : k < C.length := by
      rcases Nat.lt_or_ge k C.length with h' | h'
      · exact h'
      · have := hd2 (by omega); omega
    obtain ⟨e1, e2⟩ := hd1 hk'
    have hck := hCb _ (List.getElem_mem hk')
    refine wp_loop (fun n fr lc h3 => ∃ (q : Int) (ag : Bool) (ex : Fr), n = 2 * ((C[k]).2 - q).toNat + ag.toNat ∧ (C[k]).1 < q ∧ q ≤ (C[k]).2 ∧ fr = [(0, s.val 2), (3, t.val 2), (5, .int .i32 least), (8, .int .i32 (runeF (q - 1))), (9, .bool ag)] ++ ex ∧ lc = [] ∧ h3 = h2 ∧
        (ag = false → ∀ x ∈ l, ¬ (x.1 ≤ runeF q ∧ runeF (q - 1) < x.2)))
      (2 * ((C[k]).2 - ((C[k]).1 + 1)).toNat + 1) ⟨(C[k]).1 + 1, true, [], rfl, by omega, by omega, by rw [e1, show (C[k]).1 + 1 - 1 = (C[k]).1 by omega]; rfl, rfl, rfl, by simp⟩ ?_
    rintro n fr lc h3 ⟨q, ag, ex, rfl, hq1, hq2, rfl, rfl, rfl, hag⟩
    cases ag with
    | false =>
      have hq := end_done hl hc hcov hk' hq1 hq2 (hag rfl)
      (repeat' first
    | (show WpR _ _ _ _ _ _ _ _ _
       first
       | refine wpr_drop ?_
       | refine wpr_p (o := .mv _) (by simp only [ev_mv, opd_s, opd_c, fget, Nat.reduceEqDiff, Nat.one_ne_zero, Nat.zero_ne_one, reduceCtorEq, ↓reduceIte]; rfl) ?_
       | (refine wpr_fork (fun _ => ?_) (fun _ => ?_) <;> try (exfalso; omega))
       | (refine wpr_forkN (fun _ => ?_) (fun _ => ?_) <;> try (exfalso; omega))
       | refine wpr_run rfl ?_
       | refine wpr_pass rfl rfl ?_
       | refine wpr_passS rfl ?_
       | ((first | apply wpr_p | apply wpr_r | apply wpr_callA | apply wpr_callA0 | apply wpr_e0 | apply wpr_e | apply wpr_end0); focus ((try simp (disch := omega) only [push_cast, Nat.reduceEqDiff, ↓reduceIte, reduceCtorEq, Nat.reduceAdd, Nat.reduceMul, Nat.reduceLeDiff]); rfl))
       | refine wpr_pass0 rfl rfl ?_
       | refine wpr_pass0S rfl ?_
       | (apply wpr_end; (focus ((try simp (disch := omega) only [push_cast, Nat.reduceEqDiff, ↓reduceIte, reduceCtorEq, Nat.reduceAdd, Nat.reduceMul, Nat.reduceLeDiff]); rfl)); (focus (simp (disch := omega) only [push_cast, Nat.reduceEqDiff, ↓reduceIte, reduceCtorEq, Nat.reduceAdd, Nat.reduceMul, Nat.reduceLeDiff]; done)))
       | fail)
    | (show Wp _ _ _ _ _ _
       first
       | refine wp_seq ?_
       | refine wp_region0 ?_
       | refine wp_region ?_
       | refine wp_cond_t rfl ?_
       | refine wp_cond_f rfl ?_
       | refine wp_ret ?_
       | refine wp_skip ?_
       | refine wp_exit ?_
       | refine wp_block ?_
       | fail)
    | refine thenQ_norm ?_
    | refine thenQ_ret ?_
    | refine thenQ_exit ?_
    | refine blockQ_norm ?_
    | refine blockQ_ret ?_
    | refine blockQ_same ?_
    | refine blockQ_ne rfl ?_
    | refine loopQ_norm ?_
    | refine loopQ_ret ?_
    | refine loopQ_exit ?_
    | ((first | apply retQ_ret | apply retQ_norm | apply wpc_of); focus ((try simp (disch := omega) only [push_cast, Nat.reduceEqDiff, ↓reduceIte, reduceCtorEq, Nat.reduceAdd, Nat.reduceMul, Nat.reduceLeDiff]); rfl))
    | fail)
      have hap : ((C.take k).map spanOf).map spanV ++ [spanV (spanOf C[k])] = ((C.take (k + 1)).map spanOf).map spanV := by
        rw [List.take_succ_eq_append_getElem hk', List.map_append, List.map_append]; rfl
      have hso : spanOf C[k] = (least, runeF (q - 1)) := by rw [e1, hq]; rfl
      have hqb := runeF_or (q - 1)
      have hposk : posF C (k + 1) = q := by unfold posF; rw [dif_pos ⟨by omega, by omega⟩]; exact hq.symm
      have hup : upF (runeF (q - 1)) = runeF q := by rw [upF_runeF, show q - 1 + 1 = q by omega]
      refine wpr_appendS (yss := [spanV (least, runeF (q - 1))]) (k := 1) f1 rfl rfl rfl rfl (by simp [spanV]) (by decide) (by decide) (by decide) (by simp; omega) fun t' h5 f5 => ?_
      rw [← hso, hap] at f5
      (repeat' first
    | (show WpR _ _ _ _ _ _ _ _ _
       first
       | refine wpr_drop ?_
       | refine wpr_p (o := .mv _) (by simp only [ev_mv, opd_s, opd_c, fget, Nat.reduceEqDiff, Nat.one_ne_zero, Nat.zero_ne_one, reduceCtorEq, ↓reduceIte]; rfl) ?_
       | (refine wpr_fork (fun _ => ?_) (fun _ => ?_) <;> try (exfalso; omega))
       | (refine wpr_forkN (fun _ => ?_) (fun _ => ?_) <;> try (exfalso; omega))
       | refine wpr_run rfl ?_
       | refine wpr_pass rfl rfl ?_
       | refine wpr_passS rfl ?_
       | ((first | apply wpr_p | apply wpr_r | apply wpr_callA | apply wpr_callA0 | apply wpr_e0 | apply wpr_e | apply wpr_end0); focus ((try simp (disch := omega) only [push_cast, Nat.reduceEqDiff, ↓reduceIte, reduceCtorEq, Nat.reduceAdd, Nat.reduceMul, Nat.reduceLeDiff, hup]); rfl))
       | refine wpr_pass0 rfl rfl ?_
       | refine wpr_pass0S rfl ?_
       | (apply wpr_end; (focus ((try simp (disch := omega) only [push_cast, Nat.reduceEqDiff, ↓reduceIte, reduceCtorEq, Nat.reduceAdd, Nat.reduceMul, Nat.reduceLeDiff, hup]); rfl)); (focus (simp (disch := omega) only [push_cast, Nat.reduceEqDiff, ↓reduceIte, reduceCtorEq, Nat.reduceAdd, Nat.reduceMul, Nat.reduceLeDiff, hup]; done)))
       | fail)
    | (show Wp _ _ _ _ _ _
       first
       | refine wp_seq ?_
       | refine wp_region0 ?_
       | refine wp_region ?_
       | refine wp_cond_t rfl ?_
       | refine wp_cond_f rfl ?_
       | refine wp_ret ?_
       | refine wp_skip ?_
       | refine wp_exit ?_
       | refine wp_block ?_
       | fail)
    | refine thenQ_norm ?_
    | refine thenQ_ret ?_
    | refine thenQ_exit ?_
    | refine blockQ_norm ?_
    | refine blockQ_ret ?_
    | refine blockQ_same ?_
    | refine blockQ_ne rfl ?_
    | refine loopQ_norm ?_
    | refine loopQ_ret ?_
    | refine loopQ_exit ?_
    | ((first | apply retQ_ret | apply retQ_norm | apply wpc_of); focus ((try simp (disch := omega) only [push_cast, Nat.reduceEqDiff, ↓reduceIte, reduceCtorEq, Nat.reduceAdd, Nat.reduceMul, Nat.reduceLeDiff, hup]); rfl))
    | fail)
      refine ⟨_, ?_, k + 1, t', rfl, by omega, by rw [hposk], rfl, f5⟩
      omega
    | true =>
      (repeat' first
    | (show WpR _ _ _ _ _ _ _ _ _
       first
       | refine wpr_drop ?_
       | refine wpr_p (o := .mv _) (by simp only [ev_mv, opd_s, opd_c, fget, Nat.reduceEqDiff, Nat.one_ne_zero, Nat.zero_ne_one, reduceCtorEq, ↓reduceIte]; rfl) ?_
       | (refine wpr_fork (fun _ => ?_) (fun _ => ?_) <;> try (exfalso; omega))
       | (refine wpr_forkN (fun _ => ?_) (fun _ => ?_) <;> try (exfalso; omega))
       | refine wpr_run rfl ?_
       | refine wpr_pass rfl rfl ?_
       | refine wpr_passS rfl ?_
       | ((first | apply wpr_p | apply wpr_r | apply wpr_callA | apply wpr_callA0 | apply wpr_e0 | apply wpr_e | apply wpr_end0); focus ((try simp (disch := omega) only [push_cast, Nat.reduceEqDiff, ↓reduceIte, reduceCtorEq, Nat.reduceAdd, Nat.reduceMul, Nat.reduceLeDiff]); rfl))
       | refine wpr_pass0 rfl rfl ?_
       | refine wpr_pass0S rfl ?_
       | (apply wpr_end; (focus ((try simp (disch := omega) only [push_cast, Nat.reduceEqDiff, ↓reduceIte, reduceCtorEq, Nat.reduceAdd, Nat.reduceMul, Nat.reduceLeDiff]); rfl)); (focus (simp (disch := omega) only [push_cast, Nat.reduceEqDiff, ↓reduceIte, reduceCtorEq, Nat.reduceAdd, Nat.reduceMul, Nat.reduceLeDiff]; done)))
       | fail)
    | (show Wp _ _ _ _ _ _
       first
       | refine wp_seq ?_
       | refine wp_region0 ?_
       | refine wp_region ?_
       | refine wp_cond_t rfl ?_
       | refine wp_cond_f rfl ?_
       | refine wp_ret ?_
       | refine wp_skip ?_
       | refine wp_exit ?_
       | refine wp_block ?_
       | fail)
    | refine thenQ_norm ?_
    | refine thenQ_ret ?_
    | refine thenQ_exit ?_
    | refine blockQ_norm ?_
    | refine blockQ_ret ?_
    | refine blockQ_same ?_
    | refine blockQ_ne rfl ?_
    | refine loopQ_norm ?_
    | refine loopQ_ret ?_
    | refine loopQ_exit ?_
    | ((first | apply retQ_ret | apply retQ_norm | apply wpc_of); focus ((try simp (disch := omega) only [push_cast, Nat.reduceEqDiff, ↓reduceIte, reduceCtorEq, Nat.reduceAdd, Nat.reduceMul, Nat.reduceLeDiff]); rfl))
    | fail)
      refine wp_loop (fun n fr lc h4 => ∃ (j : Nat) (p : Int) (ag : Bool), n = l.length - j ∧ j ≤ l.length ∧ (C[k]).1 < p ∧ p ≤ (C[k]).2 ∧ q ≤ p ∧ fr = [(0, s.val 2), (3, t.val 2), (5, .int .i32 least), (8, .int .i32 (runeF (p - 1))), (9, .bool ag), (10, .int .i64 j)] ∧ lc = [] ∧ h4 = h3 ∧
          (ag = true → q < p) ∧ (ag = false → q = p ∧ ∀ x ∈ l.take j, ¬ (x.1 ≤ runeF p ∧ runeF (p - 1) < x.2)))
        l.length ⟨0, q, false, rfl, Nat.zero_le _, hq1, hq2, Int.le_refl _, rfl, rfl, rfl, by simp, by simp⟩ ?_
      rintro n fr lc h4 ⟨j, p, ag, rfl, hj, hp1, hp2, hqp, rfl, rfl, rfl, hag1, hag2⟩
      have hpb := runeF_or (p - 1)
      have hpb2 := runeF_or p
      have hup : upF (runeF (p - 1)) = runeF p := by rw [upF_runeF, show p - 1 + 1 = p by omega]
      rcases Nat.lt_or_ge j l.length with hjl | hjl
      · have hrj := hl l[j] (List.getElem_mem hjl)
        have hbj := right_bounds hrj
        have hmem : l[j] ∈ l := List.getElem_mem hjl
        have htk : l.take (j + 1) = l.take j ++ [l[j]] := List.take_succ_eq_append_getElem hjl
        have hxr1 : ∀ lc, Mem.rd ⟨lc, h4⟩ (ptrOff (s.adr 2 j) 0) 1 = some [.int .i32 (l[j]).1] := fun lc => rd_mapc hr1 hjl (by decide)
        have hxr2 : ∀ lc, Mem.rd ⟨lc, h4⟩ (ptrOff (s.adr 2 j) 1) 1 = some [.int .i32 (l[j]).2] := fun lc => rd_mapc hr1 hjl (by decide)
        generalize hx : l[j] = x at hbj htk hmem hxr1 hxr2
        (repeat' first
    | (show WpR _ _ _ _ _ _ _ _ _
       first
       | refine wpr_drop ?_
       | refine wpr_p (o := .mv _) (by simp only [ev_mv, opd_s, opd_c, fget, Nat.reduceEqDiff, Nat.one_ne_zero, Nat.zero_ne_one, reduceCtorEq, ↓reduceIte]; rfl) ?_
       | (refine wpr_fork (fun _ => ?_) (fun _ => ?_) <;> try (exfalso; omega))
       | (refine wpr_forkN (fun _ => ?_) (fun _ => ?_) <;> try (exfalso; omega))
       | refine wpr_run rfl ?_
       | refine wpr_pass rfl rfl ?_
       | refine wpr_passS rfl ?_
       | ((first | apply wpr_p | apply wpr_r | apply wpr_callA | apply wpr_callA0 | apply wpr_e0 | apply wpr_e | apply wpr_end0); focus ((try simp (disch := omega) only [push_cast, Nat.reduceEqDiff, ↓reduceIte, reduceCtorEq, Nat.reduceAdd, Nat.reduceMul, Nat.reduceLeDiff, hlen, hxr1, hxr2, hup]); rfl))
       | refine wpr_pass0 rfl rfl ?_
       | refine wpr_pass0S rfl ?_
       | (apply wpr_end; (focus ((try simp (disch := omega) only [push_cast, Nat.reduceEqDiff, ↓reduceIte, reduceCtorEq, Nat.reduceAdd, Nat.reduceMul, Nat.reduceLeDiff, hlen, hxr1, hxr2, hup]); rfl)); (focus (simp (disch := omega) only [push_cast, Nat.reduceEqDiff, ↓reduceIte, reduceCtorEq, Nat.reduceAdd, Nat.reduceMul, Nat.reduceLeDiff, hlen, hxr1, hxr2, hup]; done)))
       | fail)
    | (show Wp _ _ _ _ _ _
       first
       | refine wp_seq ?_
       | refine wp_region0 ?_
       | refine wp_region ?_
       | refine wp_cond_t rfl ?_
       | refine wp_cond_f rfl ?_
       | refine wp_ret ?_
       | refine wp_skip ?_
       | refine wp_exit ?_
       | refine wp_block ?_
       | fail)
    | refine thenQ_norm ?_
    | refine thenQ_ret ?_
    | refine thenQ_exit ?_
    | refine blockQ_norm ?_
    | refine blockQ_ret ?_
    | refine blockQ_same ?_
    | refine blockQ_ne rfl ?_
    | refine loopQ_norm ?_
    | refine loopQ_ret ?_
    | refine loopQ_exit ?_
    | ((first | apply retQ_ret | apply retQ_norm | apply wpc_of); focus ((try simp (disch := omega) only [push_cast, Nat.reduceEqDiff, ↓reduceIte, reduceCtorEq, Nat.reduceAdd, Nat.reduceMul, Nat.reduceLeDiff, hlen, hxr1, hxr2, hup]); rfl))
    | fail)
        · rename_i g3 g4 g5
          obtain ⟨c1, c2, c3⟩ := end_step hl hc hcov hk' hp1 hp2 hmem g4 g5
          refine ⟨_, ?_, j + 1, (rowOf x).2, true, rfl, by omega, by omega, c3, by omega, by rw [← c1]; rfl, rfl, rfl, fun _ => by omega, by simp⟩
          omega
        all_goals
          refine ⟨_, ?_, j + 1, p, ag, rfl, by omega, hp1, hp2, hqp, rfl, rfl, rfl, hag1, fun e => ⟨(hag2 e).1, fun y hy => ?_⟩⟩
          · omega
          · rw [htk] at hy
            rcases List.mem_append.1 hy with h' | h'
            · exact (hag2 e).2 y h'
            · rw [List.mem_singleton.1 h']
              intro hc'
              first | exact absurd hc'.1 (by assumption) | exact absurd hc'.2 (by assumption)
      · have hall2 : l.take j = l := List.take_of_length_le (by omega)
        rw [hall2] at hag2
        (repeat' first
    | (show WpR _ _ _ _ _ _ _ _ _
       first
       | refine wpr_drop ?_
       | refine wpr_p (o := .mv _) (by simp only [ev_mv, opd_s, opd_c, fget, Nat.reduceEqDiff, Nat.one_ne_zero, Nat.zero_ne_one, reduceCtorEq, ↓reduceIte]; rfl) ?_
       | (refine wpr_fork (fun _ => ?_) (fun _ => ?_) <;> try (exfalso; omega))
       | (refine wpr_forkN (fun _ => ?_) (fun _ => ?_) <;> try (exfalso; omega))
       | refine wpr_run rfl ?_
       | refine wpr_pass rfl rfl ?_
       | refine wpr_passS rfl ?_
       | ((first | apply wpr_p | apply wpr_r | apply wpr_callA | apply wpr_callA0 | apply wpr_e0 | apply wpr_e | apply wpr_end0); focus ((try simp (disch := omega) only [push_cast, Nat.reduceEqDiff, ↓reduceIte, reduceCtorEq, Nat.reduceAdd, Nat.reduceMul, Nat.reduceLeDiff, hlen]); rfl))
       | refine wpr_pass0 rfl rfl ?_
       | refine wpr_pass0S rfl ?_
       | (apply wpr_end; (focus ((try simp (disch := omega) only [push_cast, Nat.reduceEqDiff, ↓reduceIte, reduceCtorEq, Nat.reduceAdd, Nat.reduceMul, Nat.reduceLeDiff, hlen]); rfl)); (focus (simp (disch := omega) only [push_cast, Nat.reduceEqDiff, ↓reduceIte, reduceCtorEq, Nat.reduceAdd, Nat.reduceMul, Nat.reduceLeDiff, hlen]; done)))
       | fail)
    | (show Wp _ _ _ _ _ _
       first
       | refine wp_seq ?_
       | refine wp_region0 ?_
       | refine wp_region ?_
       | refine wp_cond_t rfl ?_
       | refine wp_cond_f rfl ?_
       | refine wp_ret ?_
       | refine wp_skip ?_
       | refine wp_exit ?_
       | refine wp_block ?_
       | fail)
    | refine thenQ_norm ?_
    | refine thenQ_ret ?_
    | refine thenQ_exit ?_
    | refine blockQ_norm ?_
    | refine blockQ_ret ?_
    | refine blockQ_same ?_
    | refine blockQ_ne rfl ?_
    | refine loopQ_norm ?_
    | refine loopQ_ret ?_
    | refine loopQ_exit ?_
    | ((first | apply retQ_ret | apply retQ_norm | apply wpc_of); focus ((try simp (disch := omega) only [push_cast, Nat.reduceEqDiff, ↓reduceIte, reduceCtorEq, Nat.reduceAdd, Nat.reduceMul, Nat.reduceLeDiff, hlen]); rfl))
    | fail)
        refine ⟨_, ?_, p, ag, _, rfl, hp1, hp2, rfl, rfl, rfl, fun e => (hag2 e).2⟩
        cases ag with
        | false => obtain ⟨e, _⟩ := hag2 rfl; simp only [Bool.toNat_false, Bool.toNat_true]; omega
        | true => have := hag1 rfl; simp only [Bool.toNat_true]; omega

end Go.Proofs.Ytanpdopjgepbkaa.AM

/- The law's own 'made': a set of spans and the fewest spans, or both refuse. -/
set_option linter.unusedVariables false
set_option linter.unusedSimpArgs false
namespace Go.Proofs.Ytanpdopjgepbkaa.AM
open Go

theorem all_right {l : List (Int × Int)} (h : ofAt l 0 0 = 0) : ∀ x ∈ l, RightS x := by
  have h12 : ∀ x ∈ l, wrongF x ≠ 12 := fun x hx e => by
    rw [ofAt_12 l l.length 0 0 (by omega) ⟨x, by simpa using hx, e⟩] at h
    cases h
  have hw := ofAt_why l l.length 0 0 (by omega) (by simpa using h12)
  rw [h, if_pos rfl] at hw
  intro x hx
  refine wrong_right ?_
  rcases wrongF_cases x with e | e | e
  · exact e
  · rw [if_pos ⟨x, by simpa using hx, e⟩] at hw; omega
  · exact absurd e (h12 x hx)

/-- The rows of right spans, apart. -/
def canonF (l : List (Int × Int)) : List (Int × Int) := madeF (l.map rowOf)
theorem canonF_canon (l : List (Int × Int)) : Canon (canonF l) := madeF_canon _
theorem canonF_in (l : List (Int × Int)) (z : Int) : InR z (canonF l) ↔ InR z (l.map rowOf) := madeF_in _ z
theorem canonF_bound {l : List (Int × Int)} (h : ∀ x ∈ l, RightS x) : ∀ x ∈ canonF l, 0 ≤ x.1 ∧ x.1 < x.2 ∧ x.2 ≤ 1112064 := fun x hx => by
  have h1 := madeF_within (lo := 0) (hi := 1112064) (l := l.map rowOf) (fun y hy => by
    obtain ⟨z, hz, rfl⟩ := List.mem_map.1 hy
    have := right_row (h z hz)
    omega) x hx
  have := (canonF_canon l).ne x hx
  omega
theorem canonF_length (l : List (Int × Int)) : (canonF l).length ≤ l.length := by
  have := madeF_length (l.map rowOf)
  simpa [canonF] using this
theorem spanOf_bound {x : Int × Int} (h : 0 ≤ x.1 ∧ x.1 < x.2 ∧ x.2 ≤ 1112064) : 0 ≤ (spanOf x).1 ∧ (spanOf x).1 ≤ 1114111 ∧ 0 ≤ (spanOf x).2 ∧ (spanOf x).2 ≤ 1114111 := by
  have := runeF_or x.1
  have := runeF_or (x.2 - 1)
  unfold spanOf
  simp only
  omega

theorem lawMade_spec (l : List (Int × Int)) (s : Sl) (h : AH) (hr : Reads h 2 s (l.map spanV)) (hn : l.length < 1000000000) (hb : Span32 l) :
    WpC PS 17 [s.val 2] h fun v h' => Kp h h' ∧ ((ofAt l 0 0 ≠ 0 ∧ v = .tuple (List.toArray [.pointer none, .slice none 0 0, .bool true])) ∨
      (ofAt l 0 0 = 0 ∧ ∃ b t, v = .tuple (List.toArray [.pointer (some ⟨b, 0, none⟩), Sl.val 2 t, .bool true]) ∧ SetF h h' b (canonF l) ∧ Reads h' 2 t (((canonF l).map spanOf).map spanV) ∧ (∀ x, t.blk = some x → h.n ≤ x))) := by
  have hlen := hr.len
  refine wpc_fn (ps_ext rfl) (ps_fn fn17) rfl ?_
  unfold LF17
  simp only [argFr]
  (repeat' first
    | (show WpR _ _ _ _ _ _ _ _ _
       first
       | refine wpr_drop ?_
       | refine wpr_p (o := .mv _) (by simp only [ev_mv, opd_s, opd_c, fget, Nat.reduceEqDiff, Nat.one_ne_zero, Nat.zero_ne_one, reduceCtorEq, ↓reduceIte]; rfl) ?_
       | (refine wpr_fork (fun _ => ?_) (fun _ => ?_) <;> try (exfalso; omega))
       | (refine wpr_forkN (fun _ => ?_) (fun _ => ?_) <;> try (exfalso; omega))
       | refine wpr_run rfl ?_
       | refine wpr_pass rfl rfl ?_
       | refine wpr_passS rfl ?_
       | ((first | apply wpr_p | apply wpr_r | apply wpr_callA | apply wpr_callA0 | apply wpr_e0 | apply wpr_e | apply wpr_end0); focus ((try simp (disch := omega) only [push_cast, Nat.reduceEqDiff, ↓reduceIte, reduceCtorEq, Nat.reduceAdd, Nat.reduceMul, Nat.reduceLeDiff, hlen]); rfl))
       | refine wpr_pass0 rfl rfl ?_
       | refine wpr_pass0S rfl ?_
       | (apply wpr_end; (focus ((try simp (disch := omega) only [push_cast, Nat.reduceEqDiff, ↓reduceIte, reduceCtorEq, Nat.reduceAdd, Nat.reduceMul, Nat.reduceLeDiff, hlen]); rfl)); (focus (simp (disch := omega) only [push_cast, Nat.reduceEqDiff, ↓reduceIte, reduceCtorEq, Nat.reduceAdd, Nat.reduceMul, Nat.reduceLeDiff, hlen]; done)))
       | fail)
    | (show Wp _ _ _ _ _ _
       first
       | refine wp_seq ?_
       | refine wp_region0 ?_
       | refine wp_region ?_
       | refine wp_cond_t rfl ?_
       | refine wp_cond_f rfl ?_
       | refine wp_ret ?_
       | refine wp_skip ?_
       | refine wp_exit ?_
       | refine wp_block ?_
       | fail)
    | refine thenQ_norm ?_
    | refine thenQ_ret ?_
    | refine thenQ_exit ?_
    | refine blockQ_norm ?_
    | refine blockQ_ret ?_
    | refine blockQ_same ?_
    | refine blockQ_ne rfl ?_
    | refine loopQ_norm ?_
    | refine loopQ_ret ?_
    | refine loopQ_exit ?_
    | ((first | apply retQ_ret | apply retQ_norm | apply wpc_of); focus ((try simp (disch := omega) only [push_cast, Nat.reduceEqDiff, ↓reduceIte, reduceCtorEq, Nat.reduceAdd, Nat.reduceMul, Nat.reduceLeDiff, hlen]); rfl))
    | fail)
  refine (of_spec l s h hr hn hb).mono ?_
  rintro v h1 ⟨k1, hor⟩
  have hr1 := hr.kp k1
  have href := refOf_eq l s h1 hr1 hn hb
  rcases hor with ⟨e0, rfl⟩ | ⟨e0, b, rfl, hs⟩
  · (repeat' first
    | (show WpR _ _ _ _ _ _ _ _ _
       first
       | refine wpr_drop ?_
       | refine wpr_p (o := .mv _) (by simp only [ev_mv, opd_s, opd_c, fget, Nat.reduceEqDiff, Nat.one_ne_zero, Nat.zero_ne_one, reduceCtorEq, ↓reduceIte]; rfl) ?_
       | (refine wpr_fork (fun _ => ?_) (fun _ => ?_) <;> try (exfalso; omega))
       | (refine wpr_forkN (fun _ => ?_) (fun _ => ?_) <;> try (exfalso; omega))
       | refine wpr_run rfl ?_
       | refine wpr_pass rfl rfl ?_
       | refine wpr_passS rfl ?_
       | ((first | apply wpr_p | apply wpr_r | apply wpr_callA | apply wpr_callA0 | apply wpr_e0 | apply wpr_e | apply wpr_end0); focus ((try simp (disch := omega) only [push_cast, Nat.reduceEqDiff, ↓reduceIte, reduceCtorEq, Nat.reduceAdd, Nat.reduceMul, Nat.reduceLeDiff, hlen, href]); rfl))
       | refine wpr_pass0 rfl rfl ?_
       | refine wpr_pass0S rfl ?_
       | (apply wpr_end; (focus ((try simp (disch := omega) only [push_cast, Nat.reduceEqDiff, ↓reduceIte, reduceCtorEq, Nat.reduceAdd, Nat.reduceMul, Nat.reduceLeDiff, hlen, href]); rfl)); (focus (simp (disch := omega) only [push_cast, Nat.reduceEqDiff, ↓reduceIte, reduceCtorEq, Nat.reduceAdd, Nat.reduceMul, Nat.reduceLeDiff, hlen, href]; done)))
       | fail)
    | (show Wp _ _ _ _ _ _
       first
       | refine wp_seq ?_
       | refine wp_region0 ?_
       | refine wp_region ?_
       | refine wp_cond_t rfl ?_
       | refine wp_cond_f rfl ?_
       | refine wp_ret ?_
       | refine wp_skip ?_
       | refine wp_exit ?_
       | refine wp_block ?_
       | fail)
    | refine thenQ_norm ?_
    | refine thenQ_ret ?_
    | refine thenQ_exit ?_
    | refine blockQ_norm ?_
    | refine blockQ_ret ?_
    | refine blockQ_same ?_
    | refine blockQ_ne rfl ?_
    | refine loopQ_norm ?_
    | refine loopQ_ret ?_
    | refine loopQ_exit ?_
    | ((first | apply retQ_ret | apply retQ_norm | apply wpc_of); focus ((try simp (disch := omega) only [push_cast, Nat.reduceEqDiff, ↓reduceIte, reduceCtorEq, Nat.reduceAdd, Nat.reduceMul, Nat.reduceLeDiff, hlen, href]); rfl))
    | fail)
    exact ⟨k1, .inl ⟨e0, rfl⟩⟩
  · rw [e0] at href
    have hR := all_right e0
    have hC := canonF_length l
    (repeat' first
    | (show WpR _ _ _ _ _ _ _ _ _
       first
       | refine wpr_drop ?_
       | refine wpr_p (o := .mv _) (by simp only [ev_mv, opd_s, opd_c, fget, Nat.reduceEqDiff, Nat.one_ne_zero, Nat.zero_ne_one, reduceCtorEq, ↓reduceIte]; rfl) ?_
       | (refine wpr_fork (fun _ => ?_) (fun _ => ?_) <;> try (exfalso; omega))
       | (refine wpr_forkN (fun _ => ?_) (fun _ => ?_) <;> try (exfalso; omega))
       | refine wpr_run rfl ?_
       | refine wpr_pass rfl rfl ?_
       | refine wpr_passS rfl ?_
       | ((first | apply wpr_p | apply wpr_r | apply wpr_callA | apply wpr_callA0 | apply wpr_e0 | apply wpr_e | apply wpr_end0); focus ((try simp (disch := omega) only [push_cast, Nat.reduceEqDiff, ↓reduceIte, reduceCtorEq, Nat.reduceAdd, Nat.reduceMul, Nat.reduceLeDiff, hlen, href]); rfl))
       | refine wpr_pass0 rfl rfl ?_
       | refine wpr_pass0S rfl ?_
       | (apply wpr_end; (focus ((try simp (disch := omega) only [push_cast, Nat.reduceEqDiff, ↓reduceIte, reduceCtorEq, Nat.reduceAdd, Nat.reduceMul, Nat.reduceLeDiff, hlen, href]); rfl)); (focus (simp (disch := omega) only [push_cast, Nat.reduceEqDiff, ↓reduceIte, reduceCtorEq, Nat.reduceAdd, Nat.reduceMul, Nat.reduceLeDiff, hlen, href]; done)))
       | fail)
    | (show Wp _ _ _ _ _ _
       first
       | refine wp_seq ?_
       | refine wp_region0 ?_
       | refine wp_region ?_
       | refine wp_cond_t rfl ?_
       | refine wp_cond_f rfl ?_
       | refine wp_ret ?_
       | refine wp_skip ?_
       | refine wp_exit ?_
       | refine wp_block ?_
       | fail)
    | refine thenQ_norm ?_
    | refine thenQ_ret ?_
    | refine thenQ_exit ?_
    | refine blockQ_norm ?_
    | refine blockQ_ret ?_
    | refine blockQ_same ?_
    | refine blockQ_ne rfl ?_
    | refine loopQ_norm ?_
    | refine loopQ_ret ?_
    | refine loopQ_exit ?_
    | ((first | apply retQ_ret | apply retQ_norm | apply wpc_of); focus ((try simp (disch := omega) only [push_cast, Nat.reduceEqDiff, ↓reduceIte, reduceCtorEq, Nat.reduceAdd, Nat.reduceMul, Nat.reduceLeDiff, hlen, href]); rfl))
    | fail)
    refine (refSpans_spec hr1 hn (by omega) hR (canonF_canon l) (canonF_in l)).mono ?_
    rintro v h2 ⟨t, rfl, f2⟩
    (repeat' first
    | (show WpR _ _ _ _ _ _ _ _ _
       first
       | refine wpr_drop ?_
       | refine wpr_p (o := .mv _) (by simp only [ev_mv, opd_s, opd_c, fget, Nat.reduceEqDiff, Nat.one_ne_zero, Nat.zero_ne_one, reduceCtorEq, ↓reduceIte]; rfl) ?_
       | (refine wpr_fork (fun _ => ?_) (fun _ => ?_) <;> try (exfalso; omega))
       | (refine wpr_forkN (fun _ => ?_) (fun _ => ?_) <;> try (exfalso; omega))
       | refine wpr_run rfl ?_
       | refine wpr_pass rfl rfl ?_
       | refine wpr_passS rfl ?_
       | ((first | apply wpr_p | apply wpr_r | apply wpr_callA | apply wpr_callA0 | apply wpr_e0 | apply wpr_e | apply wpr_end0); focus ((try simp (disch := omega) only [push_cast, Nat.reduceEqDiff, ↓reduceIte, reduceCtorEq, Nat.reduceAdd, Nat.reduceMul, Nat.reduceLeDiff]); rfl))
       | refine wpr_pass0 rfl rfl ?_
       | refine wpr_pass0S rfl ?_
       | (apply wpr_end; (focus ((try simp (disch := omega) only [push_cast, Nat.reduceEqDiff, ↓reduceIte, reduceCtorEq, Nat.reduceAdd, Nat.reduceMul, Nat.reduceLeDiff]); rfl)); (focus (simp (disch := omega) only [push_cast, Nat.reduceEqDiff, ↓reduceIte, reduceCtorEq, Nat.reduceAdd, Nat.reduceMul, Nat.reduceLeDiff]; done)))
       | fail)
    | (show Wp _ _ _ _ _ _
       first
       | refine wp_seq ?_
       | refine wp_region0 ?_
       | refine wp_region ?_
       | refine wp_cond_t rfl ?_
       | refine wp_cond_f rfl ?_
       | refine wp_ret ?_
       | refine wp_skip ?_
       | refine wp_exit ?_
       | refine wp_block ?_
       | fail)
    | refine thenQ_norm ?_
    | refine thenQ_ret ?_
    | refine thenQ_exit ?_
    | refine blockQ_norm ?_
    | refine blockQ_ret ?_
    | refine blockQ_same ?_
    | refine blockQ_ne rfl ?_
    | refine loopQ_norm ?_
    | refine loopQ_ret ?_
    | refine loopQ_exit ?_
    | ((first | apply retQ_ret | apply retQ_norm | apply wpc_of); focus ((try simp (disch := omega) only [push_cast, Nat.reduceEqDiff, ↓reduceIte, reduceCtorEq, Nat.reduceAdd, Nat.reduceMul, Nat.reduceLeDiff]); rfl))
    | fail)
    exact ⟨k1.trans f2.kp, .inr ⟨e0, b, t, rfl, hs.kp f2.kp, f2.reads, fun x hx => by have := f2.new x hx; have := k1.1; omega⟩⟩

end Go.Proofs.Ytanpdopjgepbkaa.AM

/- The run of SetsKept. -/
set_option linter.unusedVariables false
set_option linter.unusedSimpArgs false
namespace Go.Proofs.Ytanpdopjgepbkaa.AM
open Go

theorem alive_eq (h : AH) : callO PS 14 [] h = some (.bool true, h) := by
  rw [callO_ext (g := aliveX) (by unfold PS; rw [withExt_ext]; rfl)]
  rfl

theorem sizeF_spanOf {x : Int × Int} (h : 0 ≤ x.1 ∧ x.1 < x.2 ∧ x.2 ≤ 1112064) : sizeF (spanOf x) = x.2 - x.1 := by
  have := runeF_or x.1
  have := runeF_or (x.2 - 1)
  unfold sizeF spanOf
  simp only
  split <;> omega
theorem sizeS_spanOf : ∀ {l : List (Int × Int)}, (∀ x ∈ l, 0 ≤ x.1 ∧ x.1 < x.2 ∧ x.2 ≤ 1112064) → sizeS (l.map spanOf) = sizeR l
  | [], _ => rfl
  | x :: l, h => by
    simp only [List.map_cons, sizeS, sizeR, sizeF_spanOf (h x (by simp)), sizeS_spanOf fun y hy => h y (List.mem_cons_of_mem _ hy)]

theorem Own.kp {h0 h : AH} {e : Nat} {s : Sl} {xss : List (List Value)} (r : Own h0 e s xss) (k : Kp h0 h) : Own h e s xss := by
  refine ⟨r.1, r.2.1, ?_⟩
  have := r.2.2
  cases s with
  | nil => trivial
  | «at» b o n => obtain ⟨pre, h1, h2⟩ := this; exact ⟨pre, k.get h1, h2⟩

theorem Span32.take {l : List (Int × Int)} (h : Span32 l) (n : Nat) : Span32 (l.take n) := fun x hx => h x (List.mem_of_mem_take hx)

theorem setsKept_run (l : List (Int × Int)) (s : Sl) (h : AH) (hr : Reads h 2 s (l.map spanV)) (hn : l.length ≤ 17592186044416) (hb : Span32 l) : WpC PS 4 [s.val 2] h fun v _ => v = .bool true := by
  have hlen := hr.len
  refine wpc_fn (ps_ext rfl) (ps_fn fn4) rfl ?_
  unfold LF4
  simp only [argFr]
  (repeat' first
    | (show WpR _ _ _ _ _ _ _ _ _
       first
       | refine wpr_drop ?_
       | refine wpr_p (o := .mv _) (by simp only [ev_mv, opd_s, opd_c, fget, Nat.reduceEqDiff, Nat.one_ne_zero, Nat.zero_ne_one, reduceCtorEq, ↓reduceIte]; rfl) ?_
       | (refine wpr_fork (fun _ => ?_) (fun _ => ?_) <;> try (exfalso; omega))
       | (refine wpr_forkN (fun _ => ?_) (fun _ => ?_) <;> try (exfalso; omega))
       | refine wpr_run rfl ?_
       | refine wpr_pass rfl rfl ?_
       | refine wpr_passS rfl ?_
       | ((first | apply wpr_p | apply wpr_r | apply wpr_callA | apply wpr_callA0 | apply wpr_e0 | apply wpr_e | apply wpr_end0); focus ((try simp (disch := omega) only [push_cast, Nat.reduceEqDiff, ↓reduceIte, reduceCtorEq, Nat.reduceAdd, Nat.reduceMul, Nat.reduceLeDiff, hlen, alive_eq]); rfl))
       | refine wpr_pass0 rfl rfl ?_
       | refine wpr_pass0S rfl ?_
       | (apply wpr_end; (focus ((try simp (disch := omega) only [push_cast, Nat.reduceEqDiff, ↓reduceIte, reduceCtorEq, Nat.reduceAdd, Nat.reduceMul, Nat.reduceLeDiff, hlen, alive_eq]); rfl)); (focus (simp (disch := omega) only [push_cast, Nat.reduceEqDiff, ↓reduceIte, reduceCtorEq, Nat.reduceAdd, Nat.reduceMul, Nat.reduceLeDiff, hlen, alive_eq]; done)))
       | fail)
    | (show Wp _ _ _ _ _ _
       first
       | refine wp_seq ?_
       | refine wp_region0 ?_
       | refine wp_region ?_
       | refine wp_cond_t rfl ?_
       | refine wp_cond_f rfl ?_
       | refine wp_ret ?_
       | refine wp_skip ?_
       | refine wp_exit ?_
       | refine wp_block ?_
       | fail)
    | refine thenQ_norm ?_
    | refine thenQ_ret ?_
    | refine thenQ_exit ?_
    | refine blockQ_norm ?_
    | refine blockQ_ret ?_
    | refine blockQ_same ?_
    | refine blockQ_ne rfl ?_
    | refine loopQ_norm ?_
    | refine loopQ_ret ?_
    | refine loopQ_exit ?_
    | ((first | apply retQ_ret | apply retQ_norm | apply wpc_of); focus ((try simp (disch := omega) only [push_cast, Nat.reduceEqDiff, ↓reduceIte, reduceCtorEq, Nat.reduceAdd, Nat.reduceMul, Nat.reduceLeDiff, hlen, alive_eq]); rfl))
    | fail)
  refine (few_eq l s h hr (by omega)).mono ?_
  rintro v h0 ⟨rfl, s1, rfl, hr1⟩
  (repeat' first
    | (show WpR _ _ _ _ _ _ _ _ _
       first
       | refine wpr_drop ?_
       | refine wpr_p (o := .mv _) (by simp only [ev_mv, opd_s, opd_c, fget, Nat.reduceEqDiff, Nat.one_ne_zero, Nat.zero_ne_one, reduceCtorEq, ↓reduceIte]; rfl) ?_
       | (refine wpr_fork (fun _ => ?_) (fun _ => ?_) <;> try (exfalso; omega))
       | (refine wpr_forkN (fun _ => ?_) (fun _ => ?_) <;> try (exfalso; omega))
       | refine wpr_run rfl ?_
       | refine wpr_pass rfl rfl ?_
       | refine wpr_passS rfl ?_
       | ((first | apply wpr_p | apply wpr_r | apply wpr_callA | apply wpr_callA0 | apply wpr_e0 | apply wpr_e | apply wpr_end0); focus ((try simp (disch := omega) only [push_cast, Nat.reduceEqDiff, ↓reduceIte, reduceCtorEq, Nat.reduceAdd, Nat.reduceMul, Nat.reduceLeDiff]); rfl))
       | refine wpr_pass0 rfl rfl ?_
       | refine wpr_pass0S rfl ?_
       | (apply wpr_end; (focus ((try simp (disch := omega) only [push_cast, Nat.reduceEqDiff, ↓reduceIte, reduceCtorEq, Nat.reduceAdd, Nat.reduceMul, Nat.reduceLeDiff]); rfl)); (focus (simp (disch := omega) only [push_cast, Nat.reduceEqDiff, ↓reduceIte, reduceCtorEq, Nat.reduceAdd, Nat.reduceMul, Nat.reduceLeDiff]; done)))
       | fail)
    | (show Wp _ _ _ _ _ _
       first
       | refine wp_seq ?_
       | refine wp_region0 ?_
       | refine wp_region ?_
       | refine wp_cond_t rfl ?_
       | refine wp_cond_f rfl ?_
       | refine wp_ret ?_
       | refine wp_skip ?_
       | refine wp_exit ?_
       | refine wp_block ?_
       | fail)
    | refine thenQ_norm ?_
    | refine thenQ_ret ?_
    | refine thenQ_exit ?_
    | refine blockQ_norm ?_
    | refine blockQ_ret ?_
    | refine blockQ_same ?_
    | refine blockQ_ne rfl ?_
    | refine loopQ_norm ?_
    | refine loopQ_ret ?_
    | refine loopQ_exit ?_
    | ((first | apply retQ_ret | apply retQ_norm | apply wpc_of); focus ((try simp (disch := omega) only [push_cast, Nat.reduceEqDiff, ↓reduceIte, reduceCtorEq, Nat.reduceAdd, Nat.reduceMul, Nat.reduceLeDiff]); rfl))
    | fail)
  refine wpr_appendNil hr1 rfl rfl (by decide) (by decide) (by simp; omega) fun s2 h1 f1 _ => ?_
  have hl60 : (l.take 60).length ≤ 60 := by rw [List.length_take]; omega
  have hb60 := hb.take 60
  generalize l.take 60 = m at hr1 f1 hl60 hb60
  (repeat' first
    | (show WpR _ _ _ _ _ _ _ _ _
       first
       | refine wpr_drop ?_
       | refine wpr_p (o := .mv _) (by simp only [ev_mv, opd_s, opd_c, fget, Nat.reduceEqDiff, Nat.one_ne_zero, Nat.zero_ne_one, reduceCtorEq, ↓reduceIte]; rfl) ?_
       | (refine wpr_fork (fun _ => ?_) (fun _ => ?_) <;> try (exfalso; omega))
       | (refine wpr_forkN (fun _ => ?_) (fun _ => ?_) <;> try (exfalso; omega))
       | refine wpr_run rfl ?_
       | refine wpr_pass rfl rfl ?_
       | refine wpr_passS rfl ?_
       | ((first | apply wpr_p | apply wpr_r | apply wpr_callA | apply wpr_callA0 | apply wpr_e0 | apply wpr_e | apply wpr_end0); focus ((try simp (disch := omega) only [push_cast, Nat.reduceEqDiff, ↓reduceIte, reduceCtorEq, Nat.reduceAdd, Nat.reduceMul, Nat.reduceLeDiff]); rfl))
       | refine wpr_pass0 rfl rfl ?_
       | refine wpr_pass0S rfl ?_
       | (apply wpr_end; (focus ((try simp (disch := omega) only [push_cast, Nat.reduceEqDiff, ↓reduceIte, reduceCtorEq, Nat.reduceAdd, Nat.reduceMul, Nat.reduceLeDiff]); rfl)); (focus (simp (disch := omega) only [push_cast, Nat.reduceEqDiff, ↓reduceIte, reduceCtorEq, Nat.reduceAdd, Nat.reduceMul, Nat.reduceLeDiff]; done)))
       | fail)
    | (show Wp _ _ _ _ _ _
       first
       | refine wp_seq ?_
       | refine wp_region0 ?_
       | refine wp_region ?_
       | refine wp_cond_t rfl ?_
       | refine wp_cond_f rfl ?_
       | refine wp_ret ?_
       | refine wp_skip ?_
       | refine wp_exit ?_
       | refine wp_block ?_
       | fail)
    | refine thenQ_norm ?_
    | refine thenQ_ret ?_
    | refine thenQ_exit ?_
    | refine blockQ_norm ?_
    | refine blockQ_ret ?_
    | refine blockQ_same ?_
    | refine blockQ_ne rfl ?_
    | refine loopQ_norm ?_
    | refine loopQ_ret ?_
    | refine loopQ_exit ?_
    | ((first | apply retQ_ret | apply retQ_norm | apply wpc_of); focus ((try simp (disch := omega) only [push_cast, Nat.reduceEqDiff, ↓reduceIte, reduceCtorEq, Nat.reduceAdd, Nat.reduceMul, Nat.reduceLeDiff]); rfl))
    | fail)
  refine (lawMade_spec m s2 h1 f1.reads (by omega) hb60).mono ?_
  rintro v h2 ⟨k2, hor⟩
  rcases hor with ⟨e0, rfl⟩ | ⟨e0, b, t, rfl, hs, ht, htb⟩
  · (repeat' first
    | (show WpR _ _ _ _ _ _ _ _ _
       first
       | refine wpr_drop ?_
       | refine wpr_p (o := .mv _) (by simp only [ev_mv, opd_s, opd_c, fget, Nat.reduceEqDiff, Nat.one_ne_zero, Nat.zero_ne_one, reduceCtorEq, ↓reduceIte]; rfl) ?_
       | (refine wpr_fork (fun _ => ?_) (fun _ => ?_) <;> try (exfalso; omega))
       | (refine wpr_forkN (fun _ => ?_) (fun _ => ?_) <;> try (exfalso; omega))
       | refine wpr_run rfl ?_
       | refine wpr_pass rfl rfl ?_
       | refine wpr_passS rfl ?_
       | ((first | apply wpr_p | apply wpr_r | apply wpr_callA | apply wpr_callA0 | apply wpr_e0 | apply wpr_e | apply wpr_end0); focus ((try simp (disch := omega) only [push_cast, Nat.reduceEqDiff, ↓reduceIte, reduceCtorEq, Nat.reduceAdd, Nat.reduceMul, Nat.reduceLeDiff]); rfl))
       | refine wpr_pass0 rfl rfl ?_
       | refine wpr_pass0S rfl ?_
       | (apply wpr_end; (focus ((try simp (disch := omega) only [push_cast, Nat.reduceEqDiff, ↓reduceIte, reduceCtorEq, Nat.reduceAdd, Nat.reduceMul, Nat.reduceLeDiff]); rfl)); (focus (simp (disch := omega) only [push_cast, Nat.reduceEqDiff, ↓reduceIte, reduceCtorEq, Nat.reduceAdd, Nat.reduceMul, Nat.reduceLeDiff]; done)))
       | fail)
    | (show Wp _ _ _ _ _ _
       first
       | refine wp_seq ?_
       | refine wp_region0 ?_
       | refine wp_region ?_
       | refine wp_cond_t rfl ?_
       | refine wp_cond_f rfl ?_
       | refine wp_ret ?_
       | refine wp_skip ?_
       | refine wp_exit ?_
       | refine wp_block ?_
       | fail)
    | refine thenQ_norm ?_
    | refine thenQ_ret ?_
    | refine thenQ_exit ?_
    | refine blockQ_norm ?_
    | refine blockQ_ret ?_
    | refine blockQ_same ?_
    | refine blockQ_ne rfl ?_
    | refine loopQ_norm ?_
    | refine loopQ_ret ?_
    | refine loopQ_exit ?_
    | ((first | apply retQ_ret | apply retQ_norm | apply wpc_of); focus ((try simp (disch := omega) only [push_cast, Nat.reduceEqDiff, ↓reduceIte, reduceCtorEq, Nat.reduceAdd, Nat.reduceMul, Nat.reduceLeDiff]); rfl))
    | fail)
    rfl
  have hR := all_right e0
  have hCl := canonF_length m
  have hCb := canonF_bound hR
  have hCb' : ∀ x ∈ canonF m, 0 ≤ x.1 ∧ x.1 ≤ x.2 ∧ x.2 ≤ 1112064 := fun x hx => by have := hCb x hx; omega
  have hs2l : s2.len = m.length := f1.reads.len
  have hs2b : ∀ x, s2.blk = some x → x < h1.n := fun x hx => by
    obtain ⟨_, _, h3⟩ := f1.own
    cases s2 with
    | nil => cases hx
    | «at» b o n =>
      obtain ⟨pre, h4, _⟩ := h3
      injection hx with hx
      subst hx
      exact AH.get_lt h4
  (repeat' first
    | (show WpR _ _ _ _ _ _ _ _ _
       first
       | refine wpr_drop ?_
       | refine wpr_p (o := .mv _) (by simp only [ev_mv, opd_s, opd_c, fget, Nat.reduceEqDiff, Nat.one_ne_zero, Nat.zero_ne_one, reduceCtorEq, ↓reduceIte]; rfl) ?_
       | (refine wpr_fork (fun _ => ?_) (fun _ => ?_) <;> try (exfalso; omega))
       | (refine wpr_forkN (fun _ => ?_) (fun _ => ?_) <;> try (exfalso; omega))
       | refine wpr_run rfl ?_
       | refine wpr_pass rfl rfl ?_
       | refine wpr_passS rfl ?_
       | ((first | apply wpr_p | apply wpr_r | apply wpr_callA | apply wpr_callA0 | apply wpr_e0 | apply wpr_e | apply wpr_end0); focus ((try simp (disch := omega) only [push_cast, Nat.reduceEqDiff, ↓reduceIte, reduceCtorEq, Nat.reduceAdd, Nat.reduceMul, Nat.reduceLeDiff]); rfl))
       | refine wpr_pass0 rfl rfl ?_
       | refine wpr_pass0S rfl ?_
       | (apply wpr_end; (focus ((try simp (disch := omega) only [push_cast, Nat.reduceEqDiff, ↓reduceIte, reduceCtorEq, Nat.reduceAdd, Nat.reduceMul, Nat.reduceLeDiff]); rfl)); (focus (simp (disch := omega) only [push_cast, Nat.reduceEqDiff, ↓reduceIte, reduceCtorEq, Nat.reduceAdd, Nat.reduceMul, Nat.reduceLeDiff]; done)))
       | fail)
    | (show Wp _ _ _ _ _ _
       first
       | refine wp_seq ?_
       | refine wp_region0 ?_
       | refine wp_region ?_
       | refine wp_cond_t rfl ?_
       | refine wp_cond_f rfl ?_
       | refine wp_ret ?_
       | refine wp_skip ?_
       | refine wp_exit ?_
       | refine wp_block ?_
       | fail)
    | refine thenQ_norm ?_
    | refine thenQ_ret ?_
    | refine thenQ_exit ?_
    | refine blockQ_norm ?_
    | refine blockQ_ret ?_
    | refine blockQ_same ?_
    | refine blockQ_ne rfl ?_
    | refine loopQ_norm ?_
    | refine loopQ_ret ?_
    | refine loopQ_exit ?_
    | ((first | apply retQ_ret | apply retQ_norm | apply wpc_of); focus ((try simp (disch := omega) only [push_cast, Nat.reduceEqDiff, ↓reduceIte, reduceCtorEq, Nat.reduceAdd, Nat.reduceMul, Nat.reduceLeDiff]); rfl))
    | fail)
  refine wp_loop (fun n fr lc h3 => ∃ (i : Nat) (xss : List (List Value)), n = m.length - i ∧ i ≤ m.length ∧ fr = [(0, s2.val 2), (3, .pointer (some ⟨b, 0, none⟩)), (4, t.val 2), (6, .int .i64 i)] ∧ lc = [] ∧ Own h3 2 s2 xss ∧ xss.length = m.length ∧
      h3.n = h2.n ∧ ∀ x, h1.n ≤ x → h3.get x = h2.get x)
    m.length ⟨0, m.map spanV, rfl, Nat.zero_le _, rfl, rfl, f1.own.kp k2, by simp, rfl, fun _ _ => rfl⟩ ?_
  rintro n fr lc h3 ⟨i, xss, rfl, hi, rfl, rfl, ho3, hxl, hn3, hk3⟩
  rcases Nat.lt_or_ge i m.length with hil | hil
  · (repeat' first
    | (show WpR _ _ _ _ _ _ _ _ _
       first
       | refine wpr_drop ?_
       | refine wpr_p (o := .mv _) (by simp only [ev_mv, opd_s, opd_c, fget, Nat.reduceEqDiff, Nat.one_ne_zero, Nat.zero_ne_one, reduceCtorEq, ↓reduceIte]; rfl) ?_
       | (refine wpr_fork (fun _ => ?_) (fun _ => ?_) <;> try (exfalso; omega))
       | (refine wpr_forkN (fun _ => ?_) (fun _ => ?_) <;> try (exfalso; omega))
       | refine wpr_run rfl ?_
       | refine wpr_pass rfl rfl ?_
       | refine wpr_passS rfl ?_
       | ((first | apply wpr_p | apply wpr_r | apply wpr_callA | apply wpr_callA0 | apply wpr_e0 | apply wpr_e | apply wpr_end0); focus ((try simp (disch := omega) only [push_cast, Nat.reduceEqDiff, ↓reduceIte, reduceCtorEq, Nat.reduceAdd, Nat.reduceMul, Nat.reduceLeDiff, hs2l]); rfl))
       | refine wpr_pass0 rfl rfl ?_
       | refine wpr_pass0S rfl ?_
       | (apply wpr_end; (focus ((try simp (disch := omega) only [push_cast, Nat.reduceEqDiff, ↓reduceIte, reduceCtorEq, Nat.reduceAdd, Nat.reduceMul, Nat.reduceLeDiff, hs2l]); rfl)); (focus (simp (disch := omega) only [push_cast, Nat.reduceEqDiff, ↓reduceIte, reduceCtorEq, Nat.reduceAdd, Nat.reduceMul, Nat.reduceLeDiff, hs2l]; done)))
       | fail)
    | (show Wp _ _ _ _ _ _
       first
       | refine wp_seq ?_
       | refine wp_region0 ?_
       | refine wp_region ?_
       | refine wp_cond_t rfl ?_
       | refine wp_cond_f rfl ?_
       | refine wp_ret ?_
       | refine wp_skip ?_
       | refine wp_exit ?_
       | refine wp_block ?_
       | fail)
    | refine thenQ_norm ?_
    | refine thenQ_ret ?_
    | refine thenQ_exit ?_
    | refine blockQ_norm ?_
    | refine blockQ_ret ?_
    | refine blockQ_same ?_
    | refine blockQ_ne rfl ?_
    | refine loopQ_norm ?_
    | refine loopQ_ret ?_
    | refine loopQ_exit ?_
    | ((first | apply retQ_ret | apply retQ_norm | apply wpc_of); focus ((try simp (disch := omega) only [push_cast, Nat.reduceEqDiff, ↓reduceIte, reduceCtorEq, Nat.reduceAdd, Nat.reduceMul, Nat.reduceLeDiff, hs2l]); rfl))
    | fail)
    refine wpr_storeR (vs := [.int .i32 0, .int .i32 0]) ho3 rfl rfl rfl rfl rfl (by omega) fun h4 ho4 hn4 hk4 => ?_
    (repeat' first
    | (show WpR _ _ _ _ _ _ _ _ _
       first
       | refine wpr_drop ?_
       | refine wpr_p (o := .mv _) (by simp only [ev_mv, opd_s, opd_c, fget, Nat.reduceEqDiff, Nat.one_ne_zero, Nat.zero_ne_one, reduceCtorEq, ↓reduceIte]; rfl) ?_
       | (refine wpr_fork (fun _ => ?_) (fun _ => ?_) <;> try (exfalso; omega))
       | (refine wpr_forkN (fun _ => ?_) (fun _ => ?_) <;> try (exfalso; omega))
       | refine wpr_run rfl ?_
       | refine wpr_pass rfl rfl ?_
       | refine wpr_passS rfl ?_
       | ((first | apply wpr_p | apply wpr_r | apply wpr_callA | apply wpr_callA0 | apply wpr_e0 | apply wpr_e | apply wpr_end0); focus ((try simp (disch := omega) only [push_cast, Nat.reduceEqDiff, ↓reduceIte, reduceCtorEq, Nat.reduceAdd, Nat.reduceMul, Nat.reduceLeDiff]); rfl))
       | refine wpr_pass0 rfl rfl ?_
       | refine wpr_pass0S rfl ?_
       | (apply wpr_end; (focus ((try simp (disch := omega) only [push_cast, Nat.reduceEqDiff, ↓reduceIte, reduceCtorEq, Nat.reduceAdd, Nat.reduceMul, Nat.reduceLeDiff]); rfl)); (focus (simp (disch := omega) only [push_cast, Nat.reduceEqDiff, ↓reduceIte, reduceCtorEq, Nat.reduceAdd, Nat.reduceMul, Nat.reduceLeDiff]; done)))
       | fail)
    | (show Wp _ _ _ _ _ _
       first
       | refine wp_seq ?_
       | refine wp_region0 ?_
       | refine wp_region ?_
       | refine wp_cond_t rfl ?_
       | refine wp_cond_f rfl ?_
       | refine wp_ret ?_
       | refine wp_skip ?_
       | refine wp_exit ?_
       | refine wp_block ?_
       | fail)
    | refine thenQ_norm ?_
    | refine thenQ_ret ?_
    | refine thenQ_exit ?_
    | refine blockQ_norm ?_
    | refine blockQ_ret ?_
    | refine blockQ_same ?_
    | refine blockQ_ne rfl ?_
    | refine loopQ_norm ?_
    | refine loopQ_ret ?_
    | refine loopQ_exit ?_
    | ((first | apply retQ_ret | apply retQ_norm | apply wpc_of); focus ((try simp (disch := omega) only [push_cast, Nat.reduceEqDiff, ↓reduceIte, reduceCtorEq, Nat.reduceAdd, Nat.reduceMul, Nat.reduceLeDiff]); rfl))
    | fail)
    refine ⟨_, ?_, i + 1, _, rfl, by omega, rfl, rfl, ho4, by simpa using hxl, by omega, fun x hx => ?_⟩
    · omega
    · rw [hk4 x (fun e => by have := hs2b x e; omega)]; exact hk3 x hx
  have hs3 : SetF h1 h3 b (canonF m) := hs.keep hk3
  have ht3 : Reads h3 2 t (((canonF m).map spanOf).map spanV) := ht.same fun x hx => hk3 x (htb x hx)
  (repeat' first
    | (show WpR _ _ _ _ _ _ _ _ _
       first
       | refine wpr_drop ?_
       | refine wpr_p (o := .mv _) (by simp only [ev_mv, opd_s, opd_c, fget, Nat.reduceEqDiff, Nat.one_ne_zero, Nat.zero_ne_one, reduceCtorEq, ↓reduceIte]; rfl) ?_
       | (refine wpr_fork (fun _ => ?_) (fun _ => ?_) <;> try (exfalso; omega))
       | (refine wpr_forkN (fun _ => ?_) (fun _ => ?_) <;> try (exfalso; omega))
       | refine wpr_run rfl ?_
       | refine wpr_pass rfl rfl ?_
       | refine wpr_passS rfl ?_
       | ((first | apply wpr_p | apply wpr_r | apply wpr_callA | apply wpr_callA0 | apply wpr_e0 | apply wpr_e | apply wpr_end0); focus ((try simp (disch := omega) only [push_cast, Nat.reduceEqDiff, ↓reduceIte, reduceCtorEq, Nat.reduceAdd, Nat.reduceMul, Nat.reduceLeDiff, hs2l]); rfl))
       | refine wpr_pass0 rfl rfl ?_
       | refine wpr_pass0S rfl ?_
       | (apply wpr_end; (focus ((try simp (disch := omega) only [push_cast, Nat.reduceEqDiff, ↓reduceIte, reduceCtorEq, Nat.reduceAdd, Nat.reduceMul, Nat.reduceLeDiff, hs2l]); rfl)); (focus (simp (disch := omega) only [push_cast, Nat.reduceEqDiff, ↓reduceIte, reduceCtorEq, Nat.reduceAdd, Nat.reduceMul, Nat.reduceLeDiff, hs2l]; done)))
       | fail)
    | (show Wp _ _ _ _ _ _
       first
       | refine wp_seq ?_
       | refine wp_region0 ?_
       | refine wp_region ?_
       | refine wp_cond_t rfl ?_
       | refine wp_cond_f rfl ?_
       | refine wp_ret ?_
       | refine wp_skip ?_
       | refine wp_exit ?_
       | refine wp_block ?_
       | fail)
    | refine thenQ_norm ?_
    | refine thenQ_ret ?_
    | refine thenQ_exit ?_
    | refine blockQ_norm ?_
    | refine blockQ_ret ?_
    | refine blockQ_same ?_
    | refine blockQ_ne rfl ?_
    | refine loopQ_norm ?_
    | refine loopQ_ret ?_
    | refine loopQ_exit ?_
    | ((first | apply retQ_ret | apply retQ_norm | apply wpc_of); focus ((try simp (disch := omega) only [push_cast, Nat.reduceEqDiff, ↓reduceIte, reduceCtorEq, Nat.reduceAdd, Nat.reduceMul, Nat.reduceLeDiff, hs2l]); rfl))
    | fail)
  refine (spans_spec hs3.set hCb' (by omega)).mono ?_
  rintro v h4 ⟨g, rfl, f4⟩
  have hgl : g.len = (canonF m).length := by simpa using f4.reads.len
  (repeat' first
    | (show WpR _ _ _ _ _ _ _ _ _
       first
       | refine wpr_drop ?_
       | refine wpr_p (o := .mv _) (by simp only [ev_mv, opd_s, opd_c, fget, Nat.reduceEqDiff, Nat.one_ne_zero, Nat.zero_ne_one, reduceCtorEq, ↓reduceIte]; rfl) ?_
       | (refine wpr_fork (fun _ => ?_) (fun _ => ?_) <;> try (exfalso; omega))
       | (refine wpr_forkN (fun _ => ?_) (fun _ => ?_) <;> try (exfalso; omega))
       | refine wpr_run rfl ?_
       | refine wpr_pass rfl rfl ?_
       | refine wpr_passS rfl ?_
       | ((first | apply wpr_p | apply wpr_r | apply wpr_callA | apply wpr_callA0 | apply wpr_e0 | apply wpr_e | apply wpr_end0); focus ((try simp (disch := omega) only [push_cast, Nat.reduceEqDiff, ↓reduceIte, reduceCtorEq, Nat.reduceAdd, Nat.reduceMul, Nat.reduceLeDiff]); rfl))
       | refine wpr_pass0 rfl rfl ?_
       | refine wpr_pass0S rfl ?_
       | (apply wpr_end; (focus ((try simp (disch := omega) only [push_cast, Nat.reduceEqDiff, ↓reduceIte, reduceCtorEq, Nat.reduceAdd, Nat.reduceMul, Nat.reduceLeDiff]); rfl)); (focus (simp (disch := omega) only [push_cast, Nat.reduceEqDiff, ↓reduceIte, reduceCtorEq, Nat.reduceAdd, Nat.reduceMul, Nat.reduceLeDiff]; done)))
       | fail)
    | (show Wp _ _ _ _ _ _
       first
       | refine wp_seq ?_
       | refine wp_region0 ?_
       | refine wp_region ?_
       | refine wp_cond_t rfl ?_
       | refine wp_cond_f rfl ?_
       | refine wp_ret ?_
       | refine wp_skip ?_
       | refine wp_exit ?_
       | refine wp_block ?_
       | fail)
    | refine thenQ_norm ?_
    | refine thenQ_ret ?_
    | refine thenQ_exit ?_
    | refine blockQ_norm ?_
    | refine blockQ_ret ?_
    | refine blockQ_same ?_
    | refine blockQ_ne rfl ?_
    | refine loopQ_norm ?_
    | refine loopQ_ret ?_
    | refine loopQ_exit ?_
    | ((first | apply retQ_ret | apply retQ_norm | apply wpc_of); focus ((try simp (disch := omega) only [push_cast, Nat.reduceEqDiff, ↓reduceIte, reduceCtorEq, Nat.reduceAdd, Nat.reduceMul, Nat.reduceLeDiff]); rfl))
    | fail)
  refine wp_loop (fun n fr lc h5 => ∃ (i : Nat) (xss : List (List Value)), n = (canonF m).length - i ∧ i ≤ (canonF m).length ∧ fr = [(3, .pointer (some ⟨b, 0, none⟩)), (4, t.val 2), (7, g.val 2), (8, .int .i64 i)] ∧ lc = [] ∧ FOwn h3 h5 2 g xss ∧ xss.length = (canonF m).length)
    (canonF m).length ⟨0, _, rfl, Nat.zero_le _, rfl, rfl, f4, by simp⟩ ?_
  rintro n fr lc h5 ⟨i, xss, rfl, hi, rfl, rfl, f5, hxl⟩
  rcases Nat.lt_or_ge i (canonF m).length with hil | hil
  · (repeat' first
    | (show WpR _ _ _ _ _ _ _ _ _
       first
       | refine wpr_drop ?_
       | refine wpr_p (o := .mv _) (by simp only [ev_mv, opd_s, opd_c, fget, Nat.reduceEqDiff, Nat.one_ne_zero, Nat.zero_ne_one, reduceCtorEq, ↓reduceIte]; rfl) ?_
       | (refine wpr_fork (fun _ => ?_) (fun _ => ?_) <;> try (exfalso; omega))
       | (refine wpr_forkN (fun _ => ?_) (fun _ => ?_) <;> try (exfalso; omega))
       | refine wpr_run rfl ?_
       | refine wpr_pass rfl rfl ?_
       | refine wpr_passS rfl ?_
       | ((first | apply wpr_p | apply wpr_r | apply wpr_callA | apply wpr_callA0 | apply wpr_e0 | apply wpr_e | apply wpr_end0); focus ((try simp (disch := omega) only [push_cast, Nat.reduceEqDiff, ↓reduceIte, reduceCtorEq, Nat.reduceAdd, Nat.reduceMul, Nat.reduceLeDiff, hgl]); rfl))
       | refine wpr_pass0 rfl rfl ?_
       | refine wpr_pass0S rfl ?_
       | (apply wpr_end; (focus ((try simp (disch := omega) only [push_cast, Nat.reduceEqDiff, ↓reduceIte, reduceCtorEq, Nat.reduceAdd, Nat.reduceMul, Nat.reduceLeDiff, hgl]); rfl)); (focus (simp (disch := omega) only [push_cast, Nat.reduceEqDiff, ↓reduceIte, reduceCtorEq, Nat.reduceAdd, Nat.reduceMul, Nat.reduceLeDiff, hgl]; done)))
       | fail)
    | (show Wp _ _ _ _ _ _
       first
       | refine wp_seq ?_
       | refine wp_region0 ?_
       | refine wp_region ?_
       | refine wp_cond_t rfl ?_
       | refine wp_cond_f rfl ?_
       | refine wp_ret ?_
       | refine wp_skip ?_
       | refine wp_exit ?_
       | refine wp_block ?_
       | fail)
    | refine thenQ_norm ?_
    | refine thenQ_ret ?_
    | refine thenQ_exit ?_
    | refine blockQ_norm ?_
    | refine blockQ_ret ?_
    | refine blockQ_same ?_
    | refine blockQ_ne rfl ?_
    | refine loopQ_norm ?_
    | refine loopQ_ret ?_
    | refine loopQ_exit ?_
    | ((first | apply retQ_ret | apply retQ_norm | apply wpc_of); focus ((try simp (disch := omega) only [push_cast, Nat.reduceEqDiff, ↓reduceIte, reduceCtorEq, Nat.reduceAdd, Nat.reduceMul, Nat.reduceLeDiff, hgl]); rfl))
    | fail)
    refine wpr_storeS (vs := [.int .i32 0, .int .i32 0]) f5 rfl rfl rfl rfl rfl (by omega) fun h6 f6 => ?_
    (repeat' first
    | (show WpR _ _ _ _ _ _ _ _ _
       first
       | refine wpr_drop ?_
       | refine wpr_p (o := .mv _) (by simp only [ev_mv, opd_s, opd_c, fget, Nat.reduceEqDiff, Nat.one_ne_zero, Nat.zero_ne_one, reduceCtorEq, ↓reduceIte]; rfl) ?_
       | (refine wpr_fork (fun _ => ?_) (fun _ => ?_) <;> try (exfalso; omega))
       | (refine wpr_forkN (fun _ => ?_) (fun _ => ?_) <;> try (exfalso; omega))
       | refine wpr_run rfl ?_
       | refine wpr_pass rfl rfl ?_
       | refine wpr_passS rfl ?_
       | ((first | apply wpr_p | apply wpr_r | apply wpr_callA | apply wpr_callA0 | apply wpr_e0 | apply wpr_e | apply wpr_end0); focus ((try simp (disch := omega) only [push_cast, Nat.reduceEqDiff, ↓reduceIte, reduceCtorEq, Nat.reduceAdd, Nat.reduceMul, Nat.reduceLeDiff]); rfl))
       | refine wpr_pass0 rfl rfl ?_
       | refine wpr_pass0S rfl ?_
       | (apply wpr_end; (focus ((try simp (disch := omega) only [push_cast, Nat.reduceEqDiff, ↓reduceIte, reduceCtorEq, Nat.reduceAdd, Nat.reduceMul, Nat.reduceLeDiff]); rfl)); (focus (simp (disch := omega) only [push_cast, Nat.reduceEqDiff, ↓reduceIte, reduceCtorEq, Nat.reduceAdd, Nat.reduceMul, Nat.reduceLeDiff]; done)))
       | fail)
    | (show Wp _ _ _ _ _ _
       first
       | refine wp_seq ?_
       | refine wp_region0 ?_
       | refine wp_region ?_
       | refine wp_cond_t rfl ?_
       | refine wp_cond_f rfl ?_
       | refine wp_ret ?_
       | refine wp_skip ?_
       | refine wp_exit ?_
       | refine wp_block ?_
       | fail)
    | refine thenQ_norm ?_
    | refine thenQ_ret ?_
    | refine thenQ_exit ?_
    | refine blockQ_norm ?_
    | refine blockQ_ret ?_
    | refine blockQ_same ?_
    | refine blockQ_ne rfl ?_
    | refine loopQ_norm ?_
    | refine loopQ_ret ?_
    | refine loopQ_exit ?_
    | ((first | apply retQ_ret | apply retQ_norm | apply wpc_of); focus ((try simp (disch := omega) only [push_cast, Nat.reduceEqDiff, ↓reduceIte, reduceCtorEq, Nat.reduceAdd, Nat.reduceMul, Nat.reduceLeDiff]); rfl))
    | fail)
    refine ⟨_, ?_, i + 1, _, rfl, by omega, rfl, rfl, f6, by simpa using hxl⟩
    omega
  have hs5 := hs3.kp f5.kp
  have ht5 := ht3.kp f5.kp
  (repeat' first
    | (show WpR _ _ _ _ _ _ _ _ _
       first
       | refine wpr_drop ?_
       | refine wpr_p (o := .mv _) (by simp only [ev_mv, opd_s, opd_c, fget, Nat.reduceEqDiff, Nat.one_ne_zero, Nat.zero_ne_one, reduceCtorEq, ↓reduceIte]; rfl) ?_
       | (refine wpr_fork (fun _ => ?_) (fun _ => ?_) <;> try (exfalso; omega))
       | (refine wpr_forkN (fun _ => ?_) (fun _ => ?_) <;> try (exfalso; omega))
       | refine wpr_run rfl ?_
       | refine wpr_pass rfl rfl ?_
       | refine wpr_passS rfl ?_
       | ((first | apply wpr_p | apply wpr_r | apply wpr_callA | apply wpr_callA0 | apply wpr_e0 | apply wpr_e | apply wpr_end0); focus ((try simp (disch := omega) only [push_cast, Nat.reduceEqDiff, ↓reduceIte, reduceCtorEq, Nat.reduceAdd, Nat.reduceMul, Nat.reduceLeDiff, hgl]); rfl))
       | refine wpr_pass0 rfl rfl ?_
       | refine wpr_pass0S rfl ?_
       | (apply wpr_end; (focus ((try simp (disch := omega) only [push_cast, Nat.reduceEqDiff, ↓reduceIte, reduceCtorEq, Nat.reduceAdd, Nat.reduceMul, Nat.reduceLeDiff, hgl]); rfl)); (focus (simp (disch := omega) only [push_cast, Nat.reduceEqDiff, ↓reduceIte, reduceCtorEq, Nat.reduceAdd, Nat.reduceMul, Nat.reduceLeDiff, hgl]; done)))
       | fail)
    | (show Wp _ _ _ _ _ _
       first
       | refine wp_seq ?_
       | refine wp_region0 ?_
       | refine wp_region ?_
       | refine wp_cond_t rfl ?_
       | refine wp_cond_f rfl ?_
       | refine wp_ret ?_
       | refine wp_skip ?_
       | refine wp_exit ?_
       | refine wp_block ?_
       | fail)
    | refine thenQ_norm ?_
    | refine thenQ_ret ?_
    | refine thenQ_exit ?_
    | refine blockQ_norm ?_
    | refine blockQ_ret ?_
    | refine blockQ_same ?_
    | refine blockQ_ne rfl ?_
    | refine loopQ_norm ?_
    | refine loopQ_ret ?_
    | refine loopQ_exit ?_
    | ((first | apply retQ_ret | apply retQ_norm | apply wpc_of); focus ((try simp (disch := omega) only [push_cast, Nat.reduceEqDiff, ↓reduceIte, reduceCtorEq, Nat.reduceAdd, Nat.reduceMul, Nat.reduceLeDiff, hgl]); rfl))
    | fail)
  refine (spans_spec hs5.set hCb' (by omega)).mono ?_
  rintro v h6 ⟨u, rfl, f6⟩
  have hs6 := hs5.kp f6.kp
  have ht6 := ht5.kp f6.kp
  have e1 := same_eq _ _ u t h6 f6.reads ht6 (by simp; omega)
  have e2 := sizeSet_eq hs6.set hCb' (by omega)
  have e3 := refSize_eq ht6 (by simp; omega) (fun x hx => by obtain ⟨y, hy, rfl⟩ := List.mem_map.1 hx; exact spanOf_bound (hCb y hy))
  rw [sizeS_spanOf hCb] at e3
  (repeat' first
    | (show WpR _ _ _ _ _ _ _ _ _
       first
       | refine wpr_drop ?_
       | refine wpr_p (o := .mv _) (by simp only [ev_mv, opd_s, opd_c, fget, Nat.reduceEqDiff, Nat.one_ne_zero, Nat.zero_ne_one, reduceCtorEq, ↓reduceIte]; rfl) ?_
       | (refine wpr_fork (fun _ => ?_) (fun _ => ?_) <;> try (exfalso; omega))
       | (refine wpr_forkN (fun _ => ?_) (fun _ => ?_) <;> try (exfalso; omega))
       | refine wpr_run rfl ?_
       | refine wpr_pass rfl rfl ?_
       | refine wpr_passS rfl ?_
       | ((first | apply wpr_p | apply wpr_r | apply wpr_callA | apply wpr_callA0 | apply wpr_e0 | apply wpr_e | apply wpr_end0); focus ((try simp (disch := omega) only [push_cast, Nat.reduceEqDiff, ↓reduceIte, reduceCtorEq, Nat.reduceAdd, Nat.reduceMul, Nat.reduceLeDiff, e1, e2, e3]); rfl))
       | refine wpr_pass0 rfl rfl ?_
       | refine wpr_pass0S rfl ?_
       | (apply wpr_end; (focus ((try simp (disch := omega) only [push_cast, Nat.reduceEqDiff, ↓reduceIte, reduceCtorEq, Nat.reduceAdd, Nat.reduceMul, Nat.reduceLeDiff, e1, e2, e3]); rfl)); (focus (simp (disch := omega) only [push_cast, Nat.reduceEqDiff, ↓reduceIte, reduceCtorEq, Nat.reduceAdd, Nat.reduceMul, Nat.reduceLeDiff, e1, e2, e3]; done)))
       | fail)
    | (show Wp _ _ _ _ _ _
       first
       | refine wp_seq ?_
       | refine wp_region0 ?_
       | refine wp_region ?_
       | refine wp_cond_t rfl ?_
       | refine wp_cond_f rfl ?_
       | refine wp_ret ?_
       | refine wp_skip ?_
       | refine wp_exit ?_
       | refine wp_block ?_
       | fail)
    | refine thenQ_norm ?_
    | refine thenQ_ret ?_
    | refine thenQ_exit ?_
    | refine blockQ_norm ?_
    | refine blockQ_ret ?_
    | refine blockQ_same ?_
    | refine blockQ_ne rfl ?_
    | refine loopQ_norm ?_
    | refine loopQ_ret ?_
    | refine loopQ_exit ?_
    | ((first | apply retQ_ret | apply retQ_norm | apply wpc_of); focus ((try simp (disch := omega) only [push_cast, Nat.reduceEqDiff, ↓reduceIte, reduceCtorEq, Nat.reduceAdd, Nat.reduceMul, Nat.reduceLeDiff, e1, e2, e3]); rfl))
    | fail)
  rfl

end Go.Proofs.Ytanpdopjgepbkaa.AM
