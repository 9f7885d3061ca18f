/- Parts of the proof of MarksOrders: its lemmas, joined. -/
import Derived.Test.YtblmakgjdenpfaaDoorMO4
import Derived.Deep.DeepHandedRow
import Derived.OpenShut
import Derived.LaidLaws
set_option linter.unusedVariables false
set_option linter.unusedSimpArgs false
set_option linter.unusedSectionVars false
namespace Go.Proofs.YtblmakgjdenpfaaDoor.AM
open Go
structure U8T (h : AH) : Prop where
  f : h.get 0 = some (.cells true firstV)
  a : h.get 1 = some (.cells true acceptV)
theorem U8T.kp {h h' : AH} (t : U8T h) (k : Kp h h') : U8T h' := ⟨k.get t.f, k.get t.a⟩
def fstN (x : Nat) : Nat := Go.Pinned.utf8FirstZ.getD x 0
set_option maxRecDepth 100000 in
theorem fst_len : Go.Pinned.utf8FirstZ.length = 256 := by decide
set_option maxRecDepth 100000 in
theorem fst_cls : ∀ x : Fin 256, 128 ≤ x.val → (194 ≤ x.val ∧ x.val ≤ 223 ∧ fstN x.val = 2) ∨ (x.val = 224 ∧ fstN x.val = 19) ∨ (x.val = 237 ∧ fstN x.val = 35) ∨ (225 ≤ x.val ∧ x.val ≤ 239 ∧ x.val ≠ 237 ∧ fstN x.val = 3) ∨ (x.val = 240 ∧ fstN x.val = 52) ∨ (x.val = 244 ∧ fstN x.val = 68) ∨
    (241 ≤ x.val ∧ x.val ≤ 243 ∧ fstN x.val = 4) ∨ ((x.val < 194 ∨ 244 < x.val) ∧ fstN x.val = 241) := by decide
theorem rd_first {h : AH} (t : U8T h) (lc : Lc) {x : Nat} (hx : x < 256) : Mem.rd ⟨lc, h⟩ ⟨0, x, none⟩ 1 = some [.int .u8 (fstN x)] := by
  have hl : firstV.length = 256 := by unfold firstV; rw [List.length_map, fst_len]
  rw [rd_heap, t.f]
  simp only [hl]
  rw [if_pos (by omega)]
  congr 1
  rw [List.drop_eq_getElem_cons (by omega), List.take_succ_cons, List.take_zero]
  unfold firstV fstN
  rw [List.getElem_map, List.getD_eq_getElem?_getD, List.getElem?_eq_getElem (by rw [fst_len]; exact hx), Option.getD_some]
theorem rd_accept {h : AH} (t : U8T h) (lc : Lc) (j : Fin 16) : Mem.rd ⟨lc, h⟩ ⟨1, 2 * j.val, none⟩ 2 = some [.int .u8 (acceptZ.getD j.val (0, 0)).1, .int .u8 (acceptZ.getD j.val (0, 0)).2] := by
  rw [rd_heap, t.a]
  obtain ⟨j, hj⟩ := j
  rcases (show j = 0 ∨ j = 1 ∨ j = 2 ∨ j = 3 ∨ j = 4 ∨ j = 5 ∨ j = 6 ∨ j = 7 ∨ j = 8 ∨ j = 9 ∨ j = 10 ∨ j = 11 ∨ j = 12 ∨ j = 13 ∨ j = 14 ∨ j = 15 by omega) with rfl | rfl | rfl | rfl | rfl | rfl | rfl | rfl | rfl | rfl | rfl | rfl | rfl | rfl | rfl | rfl <;> rfl
theorem rn_some {l : Bytes} : (rnB l).isSome = validB l := by
  unfold rnB
  split
  · rename_i h; rw [h]; rfl
  · rename_i h; rw [Bool.eq_false_iff.2 h]; rfl
theorem rn_skip : ∀ (k : Nat) {l : Bytes}, k ≤ l.length → (∀ i, i < k → bat l i < 128) → (rnB l).isSome = (rnB (l.drop k)).isSome
  | 0, l, _, _ => by rw [List.drop_zero]
  | k + 1, l, hk, h => by
    have hne : l ≠ [] := fun e => by rw [e] at hk; simp at hk
    have h0 := h 0 (by omega)
    have e : (rnB l).isSome = (rnB (l.drop 1)).isSome := by
      rcases seq1 hne with ⟨_, e⟩ | ⟨a, _⟩ | ⟨a, _⟩ | ⟨a, _⟩ | ⟨_, hh, _⟩
      · rw [e]; simp
      all_goals omega
    rw [e, rn_skip k (by rw [List.length_drop]; omega) (fun i hi => by rw [bat_drop]; exact h (1 + i) (by omega)), List.drop_drop]
    congr 3
    omega
theorem ext_drop (s : ByteArray) (i : Nat) (hi : i ≤ s.size) : (s.extract i s.size).data.toList = s.data.toList.drop i ∧ (s.extract i s.size).size = s.size - i := by
  have e := ba_extract s i s.size (Nat.le_refl _)
  have hz : s.size = s.data.toList.length := rfl
  rw [List.take_of_length_le (by rw [List.length_drop]; omega)] at e
  refine ⟨e, ?_⟩
  show (s.extract i s.size).data.size = _
  rw [← Array.length_toList, e, List.length_drop]
  omega
theorem u8a (z r : Int) (h : (z, r) ∈ [((2 : Int), (2 : Int)), (19, 3), (35, 3), (3, 3), (52, 4), (68, 4), (4, 4), (241, 1)]) : binA .and (.int .u8 z) (.int .u8 7) = some (.int .u8 r) := by
  simp only [List.mem_cons, List.mem_nil_iff, or_false, Prod.mk.injEq] at h
  rcases h with ⟨rfl, rfl⟩ | ⟨rfl, rfl⟩ | ⟨rfl, rfl⟩ | ⟨rfl, rfl⟩ | ⟨rfl, rfl⟩ | ⟨rfl, rfl⟩ | ⟨rfl, rfl⟩ | ⟨rfl, rfl⟩ <;> rfl
theorem u8s (z r : Int) (h : (z, r) ∈ [((2 : Int), (0 : Int)), (19, 1), (35, 2), (3, 0), (52, 3), (68, 4), (4, 0), (241, 15)]) : binA .shr (.int .u8 z) (.int .u64 4) = some (.int .u8 r) := by
  simp only [List.mem_cons, List.mem_nil_iff, or_false, Prod.mk.injEq] at h
  rcases h with ⟨rfl, rfl⟩ | ⟨rfl, rfl⟩ | ⟨rfl, rfl⟩ | ⟨rfl, rfl⟩ | ⟨rfl, rfl⟩ | ⟨rfl, rfl⟩ | ⟨rfl, rfl⟩ | ⟨rfl, rfl⟩ <;> rfl
set_option maxHeartbeats 4000000 in
theorem validString_eq (s : ByteArray) (h : AH) (hT : U8T h) (hsz : s.size < 100000000) : callO PX 90 [.string s] h = some (.bool (validB s.data.toList), h) := by
  apply WpC.eqn
  rw [← rn_some]
  obtain ⟨V, hV⟩ : ∃ V, V = (rnB s.data.toList).isSome := ⟨_, rfl⟩
  rw [← hV]
  refine wpc_fn (px_ext rfl) (px_fn fn_utf8_ValidString) rfl ?_
  unfold LF_utf8_ValidString
  simp only [argFr]
  (refine W_x trivial ?_; (repeat' first | apply Cj.mk | exact Nl.nl) <;> intros)
  refine wp_loopB (fun w fr lc h1 => ∃ t : ByteArray, w = t.size ∧ t.size < 100000000 ∧ V = (rnB t.data.toList).isSome ∧ h1 = h ∧ fr = [(0, .string t)] ∧ lc = []) s.size [(0, .string s)] (by repeat' first | exact True.intro | refine And.intro rfl ?_) ⟨s, rfl, hsz, hV, rfl, rfl, rfl⟩ (by rintro _ _ _ _ ⟨t, _, _, _, _, rfl, _⟩; rfl) ?_
  rintro w fr lc h1 ⟨t, rfl, htz, hV, rfl, rfl, rfl⟩
  obtain ⟨l, hl⟩ : ∃ l, l = t.data.toList := ⟨_, rfl⟩
  have hll : l.length = t.size := by rw [hl]; rfl
  rw [← hl] at hV
  rcases Nat.eq_zero_or_pos t.size with h0 | h0
  · have hn : l = [] := List.eq_nil_of_length_eq_zero (by omega)
    rw [hn, rnB_nil] at hV
    (refine W_x trivial ?_; (repeat' first | apply Cj.mk | exact Nl.nl) <;> intros)
    exact ⟨by rw [hV]; rfl, rfl⟩
  have hne : l ≠ [] := fun e => by rw [e] at hll; simp at hll; omega
  have cut : ∀ k : Nat, k ≤ t.size → ∃ u : ByteArray, t.extract k t.size = u ∧ u.data.toList = l.drop k ∧ u.size = t.size - k := fun k hk => by
    obtain ⟨a, b⟩ := ext_drop t k hk
    exact ⟨_, rfl, by rw [a, hl], b⟩
  obtain ⟨x0, q0⟩ : ∃ x, bat l 0 = x := ⟨_, rfl⟩
  have c0 := bat_lt l 0
  rw [q0] at c0
  by_cases hx : x0 < 128
  · obtain ⟨u, hu, ul, uz⟩ := cut 1 (by omega)
    have hV1 : V = (rnB u.data.toList).isSome := by rw [hV, ul]; exact rn_skip 1 (by omega) (fun i hi => by rw [show i = 0 by omega, q0]; exact hx)
    have hlt : u.size < t.size := by omega
    clear hV cut
    have ec : ((hiC : Nat) : Int) = 9259542123273814144 := rfl
    have fin : ∀ (w : ByteArray) (f : Fr), V = (rnB w.data.toList).isSome → w.size < t.size → AgF [(0, Value.string w)] f → ∃ n', n' < t.size ∧ ∃ f1 : Fr, AgF f1 f ∧ ∃ t1 : ByteArray, n' = t1.size ∧ t1.size < 100000000 ∧ V = (rnB t1.data.toList).isSome ∧ h1 = h1 ∧ f1 = [(0, .string t1)] ∧ ([] : Lc) = [] := fun w f a b c => ⟨_, b, _, c, w, rfl, by omega, a, rfl, rfl, rfl⟩
    have skip : ∀ (w : ByteArray) (k : Nat), V = (rnB w.data.toList).isSome → w.size < t.size → k ≤ w.size → (∀ i, i < k → bat w.data.toList i < 128) → ∃ w', w.extract k w.size = w' ∧ V = (rnB w'.data.toList).isSome ∧ w'.size < t.size ∧ w'.size = w.size - k := fun w k a b c d => by
      obtain ⟨e1, e2⟩ := ext_drop w k c
      exact ⟨_, rfl, by rw [e1, a]; exact rn_skip k (by rw [Array.length_toList]; exact c) d, by omega, e2⟩
    by_cases c8 : 8 < u.size
    · obtain ⟨w1, v1⟩ := word_eq u h1 (by omega)
      have ec1 := and64 v1 (show hiC < 18446744073709551616 by decide)
      rw [ec] at ec1
      by_cases z1 : wordN u.data.toList &&& hiC = 0
      · rw [z1] at ec1
        obtain ⟨u2, hu2, hV2, lt2, uz2⟩ := skip u 8 hV1 hlt (by omega) (word_low z1)
        by_cases c16 : 16 < u2.size
        · obtain ⟨w2, v2⟩ := word_eq u2 h1 (by omega)
          obtain ⟨d3, d3z⟩ := ext_drop u2 8 (by omega)
          obtain ⟨w3, v3⟩ := word_eq (u2.extract 8 u2.size) h1 (by omega)
          obtain ⟨o1, o2⟩ := or64 v2 v3
          have ec2 := and64 o2 (show hiC < 18446744073709551616 by decide)
          rw [ec] at ec2
          by_cases z2 : (wordN u2.data.toList ||| wordN (u2.extract 8 u2.size).data.toList) &&& hiC = 0
          · rw [z2] at ec2
            obtain ⟨y1, y2⟩ := or_zero z2
            have y1 := word_low y1
            have y2 := word_low y2
            obtain ⟨u3, hu3, hV3, lt3, uz3⟩ := skip u2 16 hV2 lt2 (by omega) (fun i hi => by
              rcases Nat.lt_or_ge i 8 with h8 | h8
              · exact y1 i h8
              · have := y2 (i - 8) (by omega)
                rw [d3, bat_drop, show 8 + (i - 8) = i by omega] at this
                exact this)
            (refine W_x (Aj hl.symm (Aj q0 (Aj hu (Aj w1 (Aj ec1 (Aj hu2 (Aj w2 (Aj w3 (Aj o1 (Aj ec2 hu3)))))))))) ?_; (repeat' first | apply Cj.mk | exact Nl.nl) <;> intros)
            clear hV1 hV2 w1 w2 w3 o1 o2 ec1 ec2 hu hu2 hu3 d3 d3z v1 v2 v3 z1 z2 y1 y2 c8 c16 uz uz2 uz3 ul hlt lt2
            refine wp_loopB (fun w fr lc h2 => ∃ t1 : ByteArray, w = t1.size ∧ V = (rnB t1.data.toList).isSome ∧ t1.size < t.size ∧ h2 = h1 ∧ fr = [(0, .string t1)] ∧ lc = []) u3.size [(0, .string u3)] (by repeat' first | exact True.intro | refine And.intro rfl ?_) ⟨u3, rfl, hV3, lt3, rfl, rfl, rfl⟩ (by rintro _ _ _ _ ⟨t, _, _, _, _, rfl, _⟩; rfl) ?_
            rintro w fr lc h2 ⟨t1, rfl, hV4, lt4, rfl, rfl, rfl⟩
            by_cases c32 : 32 < t1.size
            · obtain ⟨w1, v1⟩ := word_eq t1 h2 (by omega)
              obtain ⟨d2, d2z⟩ := ext_drop t1 8 (by omega)
              obtain ⟨w2, v2⟩ := word_eq (t1.extract 8 t1.size) h2 (by omega)
              obtain ⟨d3, d3z⟩ := ext_drop t1 16 (by omega)
              obtain ⟨w3, v3⟩ := word_eq (t1.extract 16 t1.size) h2 (by omega)
              obtain ⟨d4, d4z⟩ := ext_drop t1 24 (by omega)
              obtain ⟨w4, v4⟩ := word_eq (t1.extract 24 t1.size) h2 (by omega)
              obtain ⟨o1, o2⟩ := or64 v1 v2
              obtain ⟨o3, o4⟩ := or64 v3 v4
              obtain ⟨o5, o6⟩ := or64 o2 o4
              have ec2 := and64 o6 (show hiC < 18446744073709551616 by decide)
              rw [ec] at ec2
              by_cases z2 : ((wordN t1.data.toList ||| wordN (t1.extract 8 t1.size).data.toList) ||| (wordN (t1.extract 16 t1.size).data.toList ||| wordN (t1.extract 24 t1.size).data.toList)) &&& hiC = 0
              · rw [z2] at ec2
                obtain ⟨y12, y34⟩ := or_zero z2
                obtain ⟨y1, y2⟩ := or_zero y12
                obtain ⟨y3, y4⟩ := or_zero y34
                have y1 := word_low y1
                have y2 := word_low y2
                have y3 := word_low y3
                have y4 := word_low y4
                obtain ⟨u4, hu4, hV5, lt5, uz5⟩ := skip t1 32 hV4 lt4 (by omega) (fun i hi => by
                  rcases Nat.lt_or_ge i 8 with h8 | h8
                  · exact y1 i h8
                  rcases Nat.lt_or_ge i 16 with h16 | h16
                  · have := y2 (i - 8) (by omega)
                    rw [d2, bat_drop, show 8 + (i - 8) = i by omega] at this
                    exact this
                  rcases Nat.lt_or_ge i 24 with h24 | h24
                  · have := y3 (i - 16) (by omega)
                    rw [d3, bat_drop, show 16 + (i - 16) = i by omega] at this
                    exact this
                  · have := y4 (i - 24) (by omega)
                    rw [d4, bat_drop, show 24 + (i - 24) = i by omega] at this
                    exact this)
                (refine W_x (Aj w1 (Aj w2 (Aj w3 (Aj w4 (Aj o1 (Aj o3 (Aj o5 (Aj ec2 hu4)))))))) ?_; (repeat' first | apply Cj.mk | exact Nl.nl) <;> intros)
                exact ⟨_, by omega, _, (by repeat' first | exact True.intro | refine And.intro rfl ?_), u4, rfl, hV5, lt5, rfl, rfl, rfl⟩
              · generalize ((wordN t1.data.toList ||| wordN (t1.extract 8 t1.size).data.toList) ||| (wordN (t1.extract 16 t1.size).data.toList ||| wordN (t1.extract 24 t1.size).data.toList)) &&& hiC = zz at ec2 z2
                (refine W_x (Aj w1 (Aj w2 (Aj w3 (Aj w4 (Aj o1 (Aj o3 (Aj o5 ec2))))))) ?_; (repeat' first | apply Cj.mk | exact Nl.nl) <;> intros)
                exact fin t1 _ hV4 lt4 (by repeat' first | exact True.intro | refine And.intro rfl ?_)
            · (refine W_x trivial ?_; (repeat' first | apply Cj.mk | exact Nl.nl) <;> intros)
              exact fin t1 _ hV4 lt4 (by repeat' first | exact True.intro | refine And.intro rfl ?_)
          · generalize (wordN u2.data.toList ||| wordN (u2.extract 8 u2.size).data.toList) &&& hiC = zz at ec2 z2
            (refine W_x (Aj hl.symm (Aj q0 (Aj hu (Aj w1 (Aj ec1 (Aj hu2 (Aj w2 (Aj w3 (Aj o1 ec2))))))))) ?_; (repeat' first | apply Cj.mk | exact Nl.nl) <;> intros)
            exact fin u2 _ hV2 lt2 (by repeat' first | exact True.intro | refine And.intro rfl ?_)
        · (refine W_x (Aj hl.symm (Aj q0 (Aj hu (Aj w1 (Aj ec1 hu2))))) ?_; (repeat' first | apply Cj.mk | exact Nl.nl) <;> intros)
          exact fin u2 _ hV2 lt2 (by repeat' first | exact True.intro | refine And.intro rfl ?_)
      · generalize wordN u.data.toList &&& hiC = zz at ec1 z1
        (refine W_x (Aj hl.symm (Aj q0 (Aj hu (Aj w1 ec1)))) ?_; (repeat' first | apply Cj.mk | exact Nl.nl) <;> intros)
        exact fin u _ hV1 hlt (by repeat' first | exact True.intro | refine And.intro rfl ?_)
    · (refine W_x (Aj hl.symm (Aj q0 hu)) ?_; (repeat' first | apply Cj.mk | exact Nl.nl) <;> intros)
      exact fin u _ hV1 hlt (by repeat' first | exact True.intro | refine And.intro rfl ?_)
  ·
    obtain ⟨x1, q1⟩ : ∃ x, bat l 1 = x := ⟨_, rfl⟩
    obtain ⟨x2, q2⟩ : ∃ x, bat l 2 = x := ⟨_, rfl⟩
    obtain ⟨x3, q3⟩ : ∃ x, bat l 3 = x := ⟨_, rfl⟩
    have c1 := bat_lt l 1
    have c2 := bat_lt l 2
    have c3 := bat_lt l 3
    rw [q1] at c1
    rw [q2] at c2
    rw [q3] at c3
    have rf := fun lc => rd_first hT lc c0
    have ra := fun j lc => rd_accept hT lc j
    have fin : ∀ (k : Nat) (c : Nat) (f : Fr), 0 < k → k ≤ t.size → rnB l = (rnB (l.drop k)).map (c :: ·) → AgF [(0, Value.string (t.extract k t.size))] f → ∃ n', n' < t.size ∧ ∃ f1 : Fr, AgF f1 f ∧ ∃ t1 : ByteArray, n' = t1.size ∧ t1.size < 100000000 ∧ V = (rnB t1.data.toList).isSome ∧ h1 = h1 ∧ f1 = [(0, .string t1)] ∧ ([] : Lc) = [] := fun k c f h0 hk e ha => by
      obtain ⟨u, hu, ul, uz⟩ := cut k hk
      rw [hu] at ha
      exact ⟨_, by omega, _, ha, u, rfl, by omega, by rw [hV, e, ul]; simp, rfl, rfl, rfl⟩
    have badV : rnB l = none → V = false := fun e => by rw [hV, e]; rfl
    have g2 := seq1 hne
    clear hV cut
    simp only [acceptZ] at ra
    rcases fst_cls ⟨x0, c0⟩ (by simp only; omega) with ⟨a1, a2, hz⟩ | ⟨a1, hz⟩ | ⟨a1, hz⟩ | ⟨a1, a2, a3, hz⟩ | ⟨a1, hz⟩ | ⟨a1, hz⟩ | ⟨a1, a2, hz⟩ | ⟨a1, hz⟩
    all_goals simp only at hz
    · have rf : ∀ lc, Mem.rd ⟨lc, h1⟩ ⟨0, x0, none⟩ 1 = some [.int .u8 2] := fun lc => by rw [rf lc, hz]; rfl
      have e1 := u8a 2 2 (by simp)
      have e2 := u8s 2 0 (by simp)
      have r0 : ∀ lc, Mem.rd ⟨lc, h1⟩ ⟨1, 0, none⟩ 2 = some [.int .u8 128, .int .u8 191] := fun lc => ra 0 lc
      simp only at a1 a2
      rcases g2 with ⟨a, e⟩ | ⟨a, b, n, d1, r, e⟩ | ⟨a, b, n, d1, d2, r, v, e⟩ | ⟨a, b, n, d1, d2, d3, r, v, e⟩ | ⟨e, hh, b2, b3, b4⟩
      · rw [q0] at a; omega
      · simp only [q0, q1] at a b d1 r e
        (refine W_x (Aj hl.symm (Aj q0 (Aj q1 (Aj q2 (Aj q3 (Aj rf (Aj e1 (Aj e2 r0)))))))) ?_; (repeat' first | apply Cj.mk | exact Nl.nl) <;> intros)
        exact fin 2 _ _ (by decide) (by omega) e (by repeat' first | exact True.intro | refine And.intro rfl ?_)
      · simp only [q0, q1, q2] at a b d1 d2 r v e
        omega
      · simp only [q0, q1, q2, q3] at a b d1 d2 d3 r v e
        omega
      · have hVf := badV e
        simp only [q0, q1, q2, q3] at hh b2 b3 b4
        unfold RuneN at b3 b4
        (refine W_x (Aj hl.symm (Aj q0 (Aj q1 (Aj q2 (Aj q3 (Aj rf (Aj e1 (Aj e2 r0)))))))) ?_; (repeat' first | apply Cj.mk | exact Nl.nl) <;> intros)
        all_goals exact ⟨by rw [hVf], rfl⟩
    · have rf : ∀ lc, Mem.rd ⟨lc, h1⟩ ⟨0, x0, none⟩ 1 = some [.int .u8 19] := fun lc => by rw [rf lc, hz]; rfl
      have e1 := u8a 19 3 (by simp)
      have e2 := u8s 19 1 (by simp)
      have r0 : ∀ lc, Mem.rd ⟨lc, h1⟩ ⟨1, 2, none⟩ 2 = some [.int .u8 160, .int .u8 191] := fun lc => ra 1 lc
      simp only at a1
      rcases g2 with ⟨a, e⟩ | ⟨a, b, n, d1, r, e⟩ | ⟨a, b, n, d1, d2, r, v, e⟩ | ⟨a, b, n, d1, d2, d3, r, v, e⟩ | ⟨e, hh, b2, b3, b4⟩
      · rw [q0] at a; omega
      · simp only [q0, q1] at a b d1 r e
        omega
      · simp only [q0, q1, q2] at a b d1 d2 r v e
        unfold RuneN at v
        (refine W_x (Aj hl.symm (Aj q0 (Aj q1 (Aj q2 (Aj q3 (Aj rf (Aj e1 (Aj e2 r0)))))))) ?_; (repeat' first | apply Cj.mk | exact Nl.nl) <;> intros)
        exact fin 3 _ _ (by decide) (by omega) e (by repeat' first | exact True.intro | refine And.intro rfl ?_)
      · simp only [q0, q1, q2, q3] at a b d1 d2 d3 r v e
        omega
      · have hVf := badV e
        simp only [q0, q1, q2, q3] at hh b2 b3 b4
        unfold RuneN at b3 b4
        (refine W_x (Aj hl.symm (Aj q0 (Aj q1 (Aj q2 (Aj q3 (Aj rf (Aj e1 (Aj e2 r0)))))))) ?_; (repeat' first | apply Cj.mk | exact Nl.nl) <;> intros)
        all_goals exact ⟨by rw [hVf], rfl⟩
    · have rf : ∀ lc, Mem.rd ⟨lc, h1⟩ ⟨0, x0, none⟩ 1 = some [.int .u8 35] := fun lc => by rw [rf lc, hz]; rfl
      have e1 := u8a 35 3 (by simp)
      have e2 := u8s 35 2 (by simp)
      have r0 : ∀ lc, Mem.rd ⟨lc, h1⟩ ⟨1, 4, none⟩ 2 = some [.int .u8 128, .int .u8 159] := fun lc => ra 2 lc
      simp only at a1
      rcases g2 with ⟨a, e⟩ | ⟨a, b, n, d1, r, e⟩ | ⟨a, b, n, d1, d2, r, v, e⟩ | ⟨a, b, n, d1, d2, d3, r, v, e⟩ | ⟨e, hh, b2, b3, b4⟩
      · rw [q0] at a; omega
      · simp only [q0, q1] at a b d1 r e
        omega
      · simp only [q0, q1, q2] at a b d1 d2 r v e
        unfold RuneN at v
        (refine W_x (Aj hl.symm (Aj q0 (Aj q1 (Aj q2 (Aj q3 (Aj rf (Aj e1 (Aj e2 r0)))))))) ?_; (repeat' first | apply Cj.mk | exact Nl.nl) <;> intros)
        exact fin 3 _ _ (by decide) (by omega) e (by repeat' first | exact True.intro | refine And.intro rfl ?_)
      · simp only [q0, q1, q2, q3] at a b d1 d2 d3 r v e
        omega
      · have hVf := badV e
        simp only [q0, q1, q2, q3] at hh b2 b3 b4
        unfold RuneN at b3 b4
        (refine W_x (Aj hl.symm (Aj q0 (Aj q1 (Aj q2 (Aj q3 (Aj rf (Aj e1 (Aj e2 r0)))))))) ?_; (repeat' first | apply Cj.mk | exact Nl.nl) <;> intros)
        all_goals exact ⟨by rw [hVf], rfl⟩
    · have rf : ∀ lc, Mem.rd ⟨lc, h1⟩ ⟨0, x0, none⟩ 1 = some [.int .u8 3] := fun lc => by rw [rf lc, hz]; rfl
      have e1 := u8a 3 3 (by simp)
      have e2 := u8s 3 0 (by simp)
      have r0 : ∀ lc, Mem.rd ⟨lc, h1⟩ ⟨1, 0, none⟩ 2 = some [.int .u8 128, .int .u8 191] := fun lc => ra 0 lc
      simp only at a1 a2 a3
      rcases g2 with ⟨a, e⟩ | ⟨a, b, n, d1, r, e⟩ | ⟨a, b, n, d1, d2, r, v, e⟩ | ⟨a, b, n, d1, d2, d3, r, v, e⟩ | ⟨e, hh, b2, b3, b4⟩
      · rw [q0] at a; omega
      · simp only [q0, q1] at a b d1 r e
        omega
      · simp only [q0, q1, q2] at a b d1 d2 r v e
        unfold RuneN at v
        (refine W_x (Aj hl.symm (Aj q0 (Aj q1 (Aj q2 (Aj q3 (Aj rf (Aj e1 (Aj e2 r0)))))))) ?_; (repeat' first | apply Cj.mk | exact Nl.nl) <;> intros)
        exact fin 3 _ _ (by decide) (by omega) e (by repeat' first | exact True.intro | refine And.intro rfl ?_)
      · simp only [q0, q1, q2, q3] at a b d1 d2 d3 r v e
        omega
      · have hVf := badV e
        simp only [q0, q1, q2, q3] at hh b2 b3 b4
        unfold RuneN at b3 b4
        (refine W_x (Aj hl.symm (Aj q0 (Aj q1 (Aj q2 (Aj q3 (Aj rf (Aj e1 (Aj e2 r0)))))))) ?_; (repeat' first | apply Cj.mk | exact Nl.nl) <;> intros)
        all_goals exact ⟨by rw [hVf], rfl⟩
    · have rf : ∀ lc, Mem.rd ⟨lc, h1⟩ ⟨0, x0, none⟩ 1 = some [.int .u8 52] := fun lc => by rw [rf lc, hz]; rfl
      have e1 := u8a 52 4 (by simp)
      have e2 := u8s 52 3 (by simp)
      have r0 : ∀ lc, Mem.rd ⟨lc, h1⟩ ⟨1, 6, none⟩ 2 = some [.int .u8 144, .int .u8 191] := fun lc => ra 3 lc
      simp only at a1
      rcases g2 with ⟨a, e⟩ | ⟨a, b, n, d1, r, e⟩ | ⟨a, b, n, d1, d2, r, v, e⟩ | ⟨a, b, n, d1, d2, d3, r, v, e⟩ | ⟨e, hh, b2, b3, b4⟩
      · rw [q0] at a; omega
      · simp only [q0, q1] at a b d1 r e
        omega
      · simp only [q0, q1, q2] at a b d1 d2 r v e
        omega
      · simp only [q0, q1, q2, q3] at a b d1 d2 d3 r v e
        unfold RuneN at v
        (refine W_x (Aj hl.symm (Aj q0 (Aj q1 (Aj q2 (Aj q3 (Aj rf (Aj e1 (Aj e2 r0)))))))) ?_; (repeat' first | apply Cj.mk | exact Nl.nl) <;> intros)
        exact fin 4 _ _ (by decide) (by omega) e (by repeat' first | exact True.intro | refine And.intro rfl ?_)
      · have hVf := badV e
        simp only [q0, q1, q2, q3] at hh b2 b3 b4
        unfold RuneN at b3 b4
        (refine W_x (Aj hl.symm (Aj q0 (Aj q1 (Aj q2 (Aj q3 (Aj rf (Aj e1 (Aj e2 r0)))))))) ?_; (repeat' first | apply Cj.mk | exact Nl.nl) <;> intros)
        all_goals exact ⟨by rw [hVf], rfl⟩
    · have rf : ∀ lc, Mem.rd ⟨lc, h1⟩ ⟨0, x0, none⟩ 1 = some [.int .u8 68] := fun lc => by rw [rf lc, hz]; rfl
      have e1 := u8a 68 4 (by simp)
      have e2 := u8s 68 4 (by simp)
      have r0 : ∀ lc, Mem.rd ⟨lc, h1⟩ ⟨1, 8, none⟩ 2 = some [.int .u8 128, .int .u8 143] := fun lc => ra 4 lc
      simp only at a1
      rcases g2 with ⟨a, e⟩ | ⟨a, b, n, d1, r, e⟩ | ⟨a, b, n, d1, d2, r, v, e⟩ | ⟨a, b, n, d1, d2, d3, r, v, e⟩ | ⟨e, hh, b2, b3, b4⟩
      · rw [q0] at a; omega
      · simp only [q0, q1] at a b d1 r e
        omega
      · simp only [q0, q1, q2] at a b d1 d2 r v e
        omega
      · simp only [q0, q1, q2, q3] at a b d1 d2 d3 r v e
        unfold RuneN at v
        (refine W_x (Aj hl.symm (Aj q0 (Aj q1 (Aj q2 (Aj q3 (Aj rf (Aj e1 (Aj e2 r0)))))))) ?_; (repeat' first | apply Cj.mk | exact Nl.nl) <;> intros)
        exact fin 4 _ _ (by decide) (by omega) e (by repeat' first | exact True.intro | refine And.intro rfl ?_)
      · have hVf := badV e
        simp only [q0, q1, q2, q3] at hh b2 b3 b4
        unfold RuneN at b3 b4
        (refine W_x (Aj hl.symm (Aj q0 (Aj q1 (Aj q2 (Aj q3 (Aj rf (Aj e1 (Aj e2 r0)))))))) ?_; (repeat' first | apply Cj.mk | exact Nl.nl) <;> intros)
        all_goals exact ⟨by rw [hVf], rfl⟩
    · have rf : ∀ lc, Mem.rd ⟨lc, h1⟩ ⟨0, x0, none⟩ 1 = some [.int .u8 4] := fun lc => by rw [rf lc, hz]; rfl
      have e1 := u8a 4 4 (by simp)
      have e2 := u8s 4 0 (by simp)
      have r0 : ∀ lc, Mem.rd ⟨lc, h1⟩ ⟨1, 0, none⟩ 2 = some [.int .u8 128, .int .u8 191] := fun lc => ra 0 lc
      simp only at a1 a2
      rcases g2 with ⟨a, e⟩ | ⟨a, b, n, d1, r, e⟩ | ⟨a, b, n, d1, d2, r, v, e⟩ | ⟨a, b, n, d1, d2, d3, r, v, e⟩ | ⟨e, hh, b2, b3, b4⟩
      · rw [q0] at a; omega
      · simp only [q0, q1] at a b d1 r e
        omega
      · simp only [q0, q1, q2] at a b d1 d2 r v e
        omega
      · simp only [q0, q1, q2, q3] at a b d1 d2 d3 r v e
        unfold RuneN at v
        (refine W_x (Aj hl.symm (Aj q0 (Aj q1 (Aj q2 (Aj q3 (Aj rf (Aj e1 (Aj e2 r0)))))))) ?_; (repeat' first | apply Cj.mk | exact Nl.nl) <;> intros)
        exact fin 4 _ _ (by decide) (by omega) e (by repeat' first | exact True.intro | refine And.intro rfl ?_)
      · have hVf := badV e
        simp only [q0, q1, q2, q3] at hh b2 b3 b4
        unfold RuneN at b3 b4
        (refine W_x (Aj hl.symm (Aj q0 (Aj q1 (Aj q2 (Aj q3 (Aj rf (Aj e1 (Aj e2 r0)))))))) ?_; (repeat' first | apply Cj.mk | exact Nl.nl) <;> intros)
        all_goals exact ⟨by rw [hVf], rfl⟩
    · have rf : ∀ lc, Mem.rd ⟨lc, h1⟩ ⟨0, x0, none⟩ 1 = some [.int .u8 241] := fun lc => by rw [rf lc, hz]; rfl
      have e1 := u8a 241 1 (by simp)
      have e2 := u8s 241 15 (by simp)
      have r0 : ∀ lc, Mem.rd ⟨lc, h1⟩ ⟨1, 30, none⟩ 2 = some [.int .u8 0, .int .u8 0] := fun lc => ra 15 lc
      simp only at a1
      rcases g2 with ⟨a, e⟩ | ⟨a, b, n, d1, r, e⟩ | ⟨a, b, n, d1, d2, r, v, e⟩ | ⟨a, b, n, d1, d2, d3, r, v, e⟩ | ⟨e, hh, b2, b3, b4⟩
      · rw [q0] at a; omega
      · simp only [q0, q1] at a b d1 r e
        omega
      · simp only [q0, q1, q2] at a b d1 d2 r v e
        omega
      · simp only [q0, q1, q2, q3] at a b d1 d2 d3 r v e
        unfold RuneN at v; omega
      · have hVf := badV e
        simp only [q0, q1, q2, q3] at hh b2 b3 b4
        unfold RuneN at b3 b4
        (refine W_x (Aj hl.symm (Aj q0 (Aj q1 (Aj q2 (Aj q3 (Aj rf (Aj e1 (Aj e2 r0)))))))) ?_; (repeat' first | apply Cj.mk | exact Nl.nl) <;> intros)
        all_goals exact ⟨by rw [hVf], rfl⟩
end Go.Proofs.YtblmakgjdenpfaaDoor.AM
namespace Go.Proofs.YtblmakgjdenpfaaDoor.AM
open Go Go.ChangeShapes Go.WideShapes Go.ChangeAt Go.RowKit
theorem px_ok (B : Nat) : PrgOk Tryd.prog B PX where
  fn := fun f lf h => by
    unfold PX at h
    rw [withExt_fn] at h
    exact (autoPrg_ok Tryd.prog B).fn f lf h
  ext := fun f g h => by
    unfold PX at h
    rw [withExt_ext] at h
    cases h
abbrev laidL : List (String × DataW Unit) := [("unicode/utf8.acceptRanges", Rows.laid_unicode_utf8_acceptRanges), ("unicode/utf8.first", Rows.laid_unicode_utf8_first)]
def laidV : List (Nat × List Value) := [(0, firstV), (1, acceptV)]
theorem g_first : Tryd.prog.globalNamed "unicode/utf8.first" = some 0 := by kernel_rfl
theorem g_accept : Tryd.prog.globalNamed "unicode/utf8.acceptRanges" = some 1 := by kernel_rfl
set_option maxRecDepth 100000 in
theorem laid_start {W : World} (hL : laidMetH Tryd.prog laidL W) : HRel Tryd.prog W.heap.size (laidR Tryd.prog laidV) (laidH Tryd.prog laidV) W ∧ RO (laidH Tryd.prog laidV) ∧ U8T (laidH Tryd.prog laidV) ∧ 2 ≤ (laidH Tryd.prog laidV).n := by
  have hm : laidMet Tryd.prog laidL W := hL
  have gs : Tryd.prog.globals.size = 3 := by kernel_rfl
  have v1 : VarIs W 0 firstV := first_is (Lib.laidMet.reads hm (n := "unicode/utf8.first") (d := Rows.laid_unicode_utf8_first) (by simp [laidL])) g_first (t := 173) (e := 5) (by kernel_rfl) Tryd.underlying173 Tryd.underlying5 (by kernel_rfl) (by kernel_rfl)
  have v2 : VarIs W 1 acceptV := accept_is (Lib.laidMet.reads hm (n := "unicode/utf8.acceptRanges") (d := Rows.laid_unicode_utf8_acceptRanges) (by simp [laidL])) g_accept (t := 176) (e := 175) (by kernel_rfl) Tryd.underlying176 Tryd.underlying175 ⟨Tryd.underlying5, rfl, by kernel_rfl⟩ ⟨Tryd.underlying5, rfl, by kernel_rfl⟩ (by kernel_rfl) (by kernel_rfl)
  have hg : ∀ x ∈ laidV, x.1 < Tryd.prog.globals.size := fun x hx => by
    rw [gs]
    simp only [laidV, List.mem_cons, List.mem_nil_iff, or_false] at hx
    rcases hx with rfl | rfl <;> decide
  have hl := hrel_laid (P := Tryd.prog) (L := laidV) (w := W) hg (fun x hx => by
    simp only [laidV, List.mem_cons, List.mem_nil_iff, or_false] at hx
    rcases hx with rfl | rfl <;> decide) (fun x hx => by
    simp only [laidV, List.mem_cons, List.mem_nil_iff, or_false] at hx
    rcases hx with rfl | rfl
    · exact v1
    · exact v2)
  have hn := laidH_n Tryd.prog laidV
  rw [gs] at hn
  refine ⟨hl.1, hl.2, ⟨?_, ?_⟩, by omega⟩
  · simp only [laidH, laidV, List.foldr_cons, List.foldr_nil]
    exact AH.get_set_same _ (by rw [AH.set_n, gs]; decide)
  · simp only [laidH, laidV, List.foldr_cons, List.foldr_nil]
    rw [AH.get_set_ne _ (by decide)]
    exact AH.get_set_same _ (by rw [gs]; decide)
end Go.Proofs.YtblmakgjdenpfaaDoor.AM
namespace Go.Proofs.YtblmakgjdenpfaaDoor.AM
open Go Go.ChangeShapes Go.WideShapes Go.ChangeAt Go.RowKit
theorem own : ownKnob Tryd.prog.godebug = none := by kernel_rfl
theorem mixed : Tryd.prog.follows .mixedOrders = true := by kernel_rfl
theorem laidOut : laidOutB Tryd.prog = true := by kernel_rfl
def setO (xs : List Value) : Obj → Obj
  | .cells _ t frozen => .cells xs.toArray t frozen
  | o => o
noncomputable def laidWorld (os : Os) : World :=
  { World.holding Tryd.prog os ⟨#[], #[], []⟩ with heap := ((World.holding Tryd.prog os ⟨#[], #[], []⟩).heap.modify 0 (setO firstV)).modify 1 (setO acceptV) }
set_option maxRecDepth 100000 in
theorem laid_met (os : Os) (args : Array Value) : laidMet Tryd.prog laidL ((laidWorld os).forCall (fun _ _ => 0) ⟨#[], args, []⟩).memory :=
  laidMet_of_run' 8 (by kernel_rfl) (by kernel_rfl)
end Go.Proofs.YtblmakgjdenpfaaDoor.AM
namespace Go.Proofs.YtblmakgjdenpfaaDoor.AM
open Go
theorem vsameL_val {s : Sl} {e : Nat} {r r' : List Value} : vsameL (s.val e :: r) (s.val e :: r') = vsameL r r' := by cases s <;> simp [vsameL, vsame0, Sl.val]
theorem vsameL_str {s : ByteArray} {r r' : List Value} : vsameL (.string s :: r) (.string s :: r') = vsameL r r' := by simp [vsameL, vsame0, bytes_beq_self]
theorem vsameL_bool {b : Bool} {r r' : List Value} : vsameL (.bool b :: r) (.bool b :: r') = vsameL r r' := by simp [vsameL, vsame0]
theorem vsameL_ptr {b : Option Addr} {r r' : List Value} : vsameL (.pointer b :: r) (.pointer b :: r') = vsameL r r' := by simp [vsameL, vsame0]
attribute [push_cast] vsameL_val vsameL_str vsameL_bool vsameL_ptr
def bs (l : Bytes) : ByteArray := ⟨l.toArray⟩
theorem bs_l (l : Bytes) : (bs l).data.toList = l := by simp [bs]
theorem bs_size (l : Bytes) : (bs l).size = l.length := by simp [ba_size, bs_l]
theorem runesFrom_eq {s : ByteArray} {l : Bytes} (hl : l = s.data.toList) : ∀ (n i : Nat) (acc : Array Value), i ≤ (spots l).length → (spots l).length ≤ i + n →
    (Conv.runesFrom s n (posn l i) acc).toList = acc.toList ++ ((spots l).drop i).map fun x => .int .i32 x.1
  | 0, i, acc, h1, h2 => by
    rw [List.drop_of_length_le (by omega)]
    simp [Conv.runesFrom]
  | n + 1, i, acc, h1, h2 => by
    have hz : l.length = s.size := by rw [hl]; rfl
    unfold Conv.runesFrom
    by_cases hi : i < (spots l).length
    · obtain ⟨p1, p2, p3⟩ := posn_lt hi
      rw [if_pos (by omega)]
      have hd : Utf8.decode s (posn l i) = (spots l)[i] := by rw [decode_list s _ (by omega), ← hl, p2]
      rw [hd]
      simp only
      rw [← posn_succ hi, runesFrom_eq hl n (i + 1) _ (by omega) (by omega), List.drop_eq_getElem_cons hi, List.map_cons, Array.toList_push, List.append_assoc]
      rfl
    · have : i = (spots l).length := by omega
      subst this
      rw [posn_all, if_neg (by omega), List.drop_length]
      simp
theorem runesFrom_all (s : ByteArray) : (Conv.runesFrom s s.size 0 #[]).toList = (runesB s.data.toList).map fun c : Nat => Value.int .i32 c := by
  have hz : s.data.toList.length = s.size := rfl
  have := runesFrom_eq (s := s) rfl s.size 0 #[] (Nat.zero_le _) (by have := spots_len s.data.toList; omega)
  rw [posn_zero] at this
  rw [this]
  simp [runesB]
theorem flat_rnV (L : List Nat) : (L.map rnV).flatten = L.map fun c : Nat => Value.int .i32 c := by
  induction L with
  | nil => rfl
  | cons c L ih => simp only [List.map_cons, List.flatten_cons, ih]; rfl
theorem wo_s2r {p : Prg} {lc : Lc} {h h0 : AH} {H : Value → Lc → AH → Prop} {s : ByteArray} (k : Kp h0 h) (hs : s.size ≤ 70368744177664)
    (hq : ∀ sl h', FOwn h0 h' 1 sl ((runesB s.data.toList).map rnV) → H (sl.val 1) lc h') : WpO p (.e (.s2r (.s 0))) [.string s] lc h H := by
  have hr := runesFrom_all s
  have hsz : (Conv.runesFrom s s.size 0 #[]).size = (runesB s.data.toList).length := by rw [← Array.length_toList, hr, List.length_map]
  refine wo_e (v := (Sl.at h.n 0 (runesB s.data.toList).length).val 1) (lc' := lc) (h' := h.push (.cells false (((runesB s.data.toList).map rnV).flatten))) ?_ (hq (.at h.n 0 (runesB s.data.toList).length) _ ?_)
  · simp only [EOp.ev, opd_s, fg0]
    rw [if_pos hs, hr, hsz, flat_rnV]
    rfl
  · exact ⟨⟨by simp [Sl.len], fun x hx => by obtain ⟨c, _, rfl⟩ := List.mem_map.1 hx; rfl, [], by rw [List.nil_append]; exact AH.get_push_same h _, rfl⟩, k.push _, fun b hb => by injection hb with hb; have := k.1; omega⟩
theorem Own.rd {lc : Lc} {h : AH} {e b o n : Nat} {xss : List (List Value)} (r : Own h e (.at b o n) xss) : Mem.rd ⟨lc, h⟩ ⟨b, o, none⟩ (n * e) = some xss.flatten := by
  have hl : n = xss.length := r.1
  obtain ⟨pre, h3, h4⟩ := r.2.2
  have hf := flatten_len r.2.1
  rw [rd_heap, h3]
  simp only [List.length_append, hf, h4]
  rw [if_pos (by rw [hl]; omega), ← h4, List.drop_left, hl, ← hf, List.take_length]
def r2sP (m : Mem) (v : Value) : Option Value := (ROp.r2s (.c v)).ev [] m
theorem ev_r2sP {fr : Fr} {m : Mem} {x : Opd} : (ROp.r2s x).ev fr m = r2sP m (opd fr x) := rfl
theorem runesOf_map : ∀ B : List Nat, runesOf ((B.map rnV).flatten) = some (B.map fun n : Nat => (n : Int))
  | [] => rfl
  | c :: r => by
    have ih := runesOf_map r
    have e : ((c :: r).map rnV).flatten = .int .i32 c :: (r.map rnV).flatten := rfl
    rw [e]
    simp only [runesOf, ih, Option.map_some, List.map_cons]
theorem encAll_nat : ∀ (B : List Nat) (acc : ByteArray), (∀ c ∈ B, RuneN c) → (encAll (B.map fun n : Nat => (n : Int)) acc).data.toList = acc.data.toList ++ encs B
  | [], acc, _ => by simp [encAll, encs]
  | c :: r, acc, h => by
    have ih := encAll_nat r (acc ++ Utf8.encode c) (fun x hx => h x (by simp [hx]))
    simp only [List.map_cons, encAll]
    rw [ih, encs_cons, ByteArray.data_append, Array.toList_append, encode_eq (h c (by simp)), List.append_assoc]
theorem r2s_own {h : AH} {lc : Lc} {s : Sl} {B : List Nat} (r : Own h 1 s (B.map rnV)) (hB : ∀ c ∈ B, RuneN c) : r2sP ⟨lc, h⟩ (s.val 1) = some (.string (bs (encs B))) := by
  cases s with
  | nil =>
    have : B = [] := by have := r.1; simp [Sl.len] at this; exact List.eq_nil_of_length_eq_zero this.symm
    subst this
    rfl
  | «at» b o n =>
    have e := r.rd (lc := lc)
    rw [Nat.mul_one] at e
    simp only [r2sP, ROp.ev, opd, Sl.val, e, runesOf_map, Option.map_some]
    congr 2
    apply ba_ext
    rw [encAll_nat _ _ hB, bs_l]
    simp
def byteV (c : UInt8) : List Value := [.int .u8 c.toNat]
def b2sP (m : Mem) (v : Value) : Option Value := (ROp.b2s (.c v)).ev [] m
theorem ev_b2sP {fr : Fr} {m : Mem} {x : Opd} : (ROp.b2s x).ev fr m = b2sP m (opd fr x) := rfl
theorem bytesOf_map : ∀ B : Bytes, bytesOf ((B.map byteV).flatten) = some B
  | [] => rfl
  | c :: r => by
    have ih := bytesOf_map r
    have e : ((c :: r).map byteV).flatten = .int .u8 c.toNat :: (r.map byteV).flatten := rfl
    rw [e]
    simp only [bytesOf, ih, Option.map_some, Int.toNat_natCast]
    rw [u8_eq rfl]
theorem b2s_own {h : AH} {lc : Lc} {s : Sl} {B : Bytes} (r : Own h 1 s (B.map byteV)) : b2sP ⟨lc, h⟩ (s.val 1) = some (.string (bs B)) := by
  cases s with
  | nil =>
    have : B = [] := by have := r.1; simp [Sl.len] at this; exact List.eq_nil_of_length_eq_zero this.symm
    subst this
    rfl
  | «at» b o n =>
    have e := r.rd (lc := lc)
    rw [Nat.mul_one] at e
    simp only [b2sP, ROp.ev, opd, Sl.val, e, bytesOf_map, Option.map_some]
    rfl
theorem enc_bs {c : Nat} (h : RuneN c) : Utf8.encode (c : Int) = bs (encN c) := ba_ext (by rw [encode_eq h, bs_l])
attribute [push_cast] ev_r2sP ev_b2sP
end Go.Proofs.YtblmakgjdenpfaaDoor.AM
namespace Go.Proofs.YtblmakgjdenpfaaDoor.AM
open Go
def LF_guiselaw8_known : LFunc :=
  .mk 0 [.tmp 0] (.seq (R 999 [] [.set 0 (.cv (.bool false))]) (.seq (R 5 [1, 2, 3] [.set 4 (xc1 9 (xc0 29)), .tmp 7 (xex 0 (.sl 4)), .tmp 8 (xex 1
  (.sl 4)), .tmp 9 (xex 2 (.sl 4)), .set 1 (.sl 7), .set 2 (.sl 8), .set 3 (.sl 9)]) (.seq (.seq (R 10 [1, 15] [.tmp 15 (.or (xu .not (.va 2)) (xu .not (.va 3)))]) (.cond (.s 15)
  (.seq (R 999 [0] [.set 0 (.cv (.bool false))]) .ret) .skip)) (.seq (R 16 [0] [.set 0 (.and (xb .eql (xc2 25 (.va 1) (.cv (.string ⟨#[97, 204, 129, 204, 163]⟩))) (.cv
  (.string ⟨#[97, 204, 163, 204, 129]⟩))) (xb .eql (xc2 25 (.va 1) (.cv (.string ⟨#[255]⟩))) (.cv (.string ⟨#[239, 191, 189]⟩))))]) .ret))))
theorem fn_guiselaw8_known : (autoPrg Tryd.prog).fn 21 = some LF_guiselaw8_known := by kernel_rfl
def LF_guiselaw8_few : LFunc :=
  .mk 2 [.tmp 4] (.seq (R 999 [0, 1] [.set 4 (.cv (.string ⟨#[]⟩))]) (.seq (.seq (R 5 [0, 1, 8] [.tmp 8 (xb .gtr (xsl (.va 0)) (.va 1))]) (.cond (.s 8) (.seq (R 9 [4] [.set 4 (.op
  (.p (.slS (.s 0) none (some (.s 1)))) (.cons (.va 0) (.va 1)))]) .ret) .skip)) (.seq (R 12 [4] [.set 4 (.va 0)]) .ret)))
theorem fn_guiselaw8_few : (autoPrg Tryd.prog).fn 23 = some LF_guiselaw8_few := by kernel_rfl
def LF_guiselaw8_house : LFunc :=
  .mk 0 [.cell 0 (some 8)] (.seq (R 0 [0] [.tmp 0 (xnl 0 [.slice none 0 0, .slice none 0 0, .slice none 0 0, .slice none 0 0, .slice none 0 0, .slice none 0 0, .slice none 0 0,
  .slice none 0 0])]) (.seq (R 1 [0] [.run (xst 8 (.sl 0) (xc0 34))]) .ret))
theorem fn_guiselaw8_house : (autoPrg Tryd.prog).fn 29 = some LF_guiselaw8_house := by kernel_rfl
def LF_marks_Order : LFunc :=
  .mk 2 [.tmp 4] (.seq (R 2 [1, 2] [.tmp 2 (xbh 1 (.sl 0)), .set 4 (.cv (.string ⟨#[]⟩))]) (.seq (.seq (R 8 [1, 2, 9] [.tmp 9 (.op (.p (.eqk false .ptr (.s 0) (.s 1))) (.cons (xld
  (.sl 2)) (.cv (.pointer none))))]) (.cond (.s 9) (.seq (R 999 [4] [.set 4 (.cv (.string ⟨#[]⟩))]) .ret) .skip)) (.seq (R 10 [2, 5] [.set 5 (.op (.e (.s2r (.s 0))) (.va 1))]) (.seq
  (.seq (R 999 [2, 5, 6] [.set 6 (xi 0)]) (.block 0 (.loop (.seq (.seq (R 12 [2, 5, 6, 15] [.tmp 15 (xb .lss (.va 6) (xlen (.va 5)))]) (.cond (.s 15) .skip (.exit 0))) (.block 1
  (.seq (R 16 [2, 5, 6, 7] [.set 7 (xb .add (.va 6) (xi 1))]) (.seq (.seq (R 18 [2, 5, 6, 7, 24] [.tmp 24 (xb .gtr (xc2 24 (xld (.sl 2)) (xld (xia 1 (.va 5)
  (.va 6)))) (xi 0))]) (.cond (.s 24) (.seq (.block 2 (.loop (.seq (.seq (R 25 [2, 5, 6, 7, 37] [.tmp 37 (.and (xb .lss (.va 7) (xlen (.va 5))) (xb .gtr (xc2
  24 (xld (.sl 2)) (xld (xia 1 (.va 5) (.va 7)))) (xi 0)))]) (.cond (.s 37) .skip (.exit 2))) (.block 3 (R 38 [2, 5, 6, 7] [.set 7 (xb .add (.va 7) (xi
  1))]))))) (R 40 [2, 5, 7] [.tmp 46 (xc2 47 (.op (.p (.sl 1 (.s 0) (some (.s 1)) (some (.s 2)) (some (.s 3)))) (.cons (.va 5) (.cons (.va 6)
  (.cons (.va 7) (.va 7))))) (.op (.p (.mkfn (.func 48) [] [.s 0])) (.sl 2)))])) .skip)) (R 47 [2, 5, 6] [.set 6 (.va 7)])))))))) (.seq (R 48 [4] [.set 4 (.op (.r
  (.r2s (.s 0))) (.va 5))]) .ret)))))
theorem fn_marks_Order : (autoPrg Tryd.prog).fn 25 = some LF_marks_Order := by kernel_rfl
def LF_marks_Order_1 : LFunc :=
  .mk 3 [.tmp 5] (.seq (R 999 [0, 1, 2] [.set 5 (xi 0)]) (.seq (.region [.mk (some 6) (.r (.load none (.s 2))) none, .mk (some 7) (.p (.mv (.s 0))) none, .mk (some 8) (.e (.call
  24 [.s 6, .s 7])) none, .mk (some 9) (.r (.load none (.s 2))) none, .mk (some 10) (.p (.mv (.s 1))) none, .mk (some 11) (.e (.call 24
  [.s 9, .s 10])) none, .mk (some 12) (.e (.call 49 [.s 8, .s 11])) none, .mk (some 5) (.p (.mv (.s 12))) none] [5] [(3, 0)]) .ret))
theorem fn_marks_Order_1 : (autoPrg Tryd.prog).fn 48 = some LF_marks_Order_1 := by kernel_rfl
def LF_marks_First : LFunc :=
  .mk 2 [.cell 4 (some 2), .tmp 5] (.seq (R 4 [0, 1, 4] [.tmp 4 (xnl 4 [.int .i64 0, .int .i64 0]), .set 5 (.cv (.bool false))]) (.seq (.seq (R 11 [0, 1, 4, 12] [.tmp 12 (.op (.p
  (.eqk false .ptr (.s 0) (.s 1))) (.cons (.va 0) (.cv (.pointer none))))]) (.cond (.s 12) (.seq (R 13 [4, 5] [.run (xst 2 (.sl 4) (.op (.p (.build [.int .i64 0, .int .i64 0] []))
  .nil)), .set 5 (.cv (.bool false))]) .ret) .skip)) (.seq (R 999 [0, 1, 4, 6, 7] [.set 6 (xi 0), .set 7 (xi 0)]) (.seq (.seq (R 14 [0, 4, 6, 7, 15] [.tmp 15 (.op (.e (.rngS 15 (.s
  0))) (.va 1))]) (.block 0 (.loop (.seq (R 16 [0, 4, 6, 7, 15, 16, 17] [.tmp 16 (.op (.e (.nxtS (.s 0))) (.sl 15)), .tmp 17 (xex 0 (.sl 16))]) (.seq (.cond (.s 17) .skip (.exit 0))
  (.block 1 (.seq (R 18 [0, 4, 6, 7, 8, 9, 15] [.tmp 18 (xex 1 (.sl 16)), .tmp 19 (xex 2 (.sl 16)), .set 8 (.sl 18), .set 9 (.sl 19)]) (.seq (R 20 [0, 4, 6, 7, 8, 10, 15] [.set 10
  (xc2 24 (.va 0) (.va 9))]) (.seq (.seq (R 23 [0, 4, 7, 8, 10, 15, 29] [.tmp 29 (.and (xb .gtr (.va 10) (xi 0)) (xb .lss (.va 10) (.va 6)))]) (.cond (.s 29)
  (.seq (R 30 [4, 5] [.run (xst 2 (.sl 4) (.op (.p (.build [.int .i64 0, .int .i64 0] [(0, 1, .s 0), (1, 1, .s 1)])) (.cons (.va 8) (.va 7)))), .set 5 (.cv (.bool true))]) .ret)
  .skip)) (.seq (R 33 [0, 4, 6, 7, 15] [.set 6 (.va 10)]) (R 34 [0, 4, 6, 7, 15] [.set 7 (xb .add (.va 7) (xi 1))]))))))))))) (.seq (R 36 [4, 5] [.run (xst 2 (.sl 4) (.op (.p
  (.build [.int .i64 0, .int .i64 0] [])) .nil)), .set 5 (.cv (.bool false))]) .ret)))))
theorem fn_marks_First : (autoPrg Tryd.prog).fn 26 = some LF_marks_First := by kernel_rfl
def LF_guiseref8_First : LFunc :=
  .mk 2 [.cell 4 (some 2), .tmp 5] (.seq (R 2 [1, 2, 4] [.tmp 2 (xbl 2 8 (.sl 0)), .at 4, .tmp 4 (xnl 4 [.int .i64 0, .int .i64 0]), .set 5 (.cv (.bool false))]) (.seq (R 999 [1, 2,
  4, 6] [.set 6 (xi 0)]) (.seq (R 999 [1, 2, 4, 6, 7] [.set 7 (xi 0)]) (.seq (.seq (R 11 [2, 4, 6, 7, 12] [.tmp 12 (.op (.e (.rngS 12 (.s 0))) (.va 1))]) (.block 0 (.loop (.seq (R
  13 [2, 4, 6, 7, 12, 13, 14] [.tmp 13 (.op (.e (.nxtS (.s 0))) (.sl 12)), .tmp 14 (xex 0 (.sl 13))]) (.seq (.cond (.s 14) .skip (.exit 0)) (.block 1 (.seq (R 15 [2, 4, 6, 7, 8, 9,
  12] [.tmp 15 (xex 1 (.sl 13)), .tmp 16 (xex 2 (.sl 13)), .set 8 (.sl 15), .set 9 (.sl 16)]) (.seq (R 17 [2, 4, 6, 7, 8, 10, 12] [.set 10 (xc2 50 (xln 8 (.sl 2))
  (.va 9))]) (.seq (.seq (R 20 [2, 4, 7, 8, 10, 12, 26] [.tmp 26 (.and (xb .gtr (.va 10) (xi 0)) (xb .lss (.va 10) (.va 6)))]) (.cond (.s 26) (.seq (R 27 [4, 5] [.run (xst 2 (.sl 4)
  (.op (.p (.build [.int .i64 0, .int .i64 0] [(0, 1, .s 0), (1, 1, .s 1)])) (.cons (.va 8) (.va 7)))), .set 5 (.cv (.bool true))]) .ret) .skip)) (.seq (R 30 [2, 4, 6, 7, 12] [.set
  6 (.va 10)]) (R 31 [2, 4, 6, 7, 12] [.set 7 (xb .add (.va 7) (xi 1))]))))))))))) (.seq (R 33 [4, 5] [.run (xst 2 (.sl 4) (.op (.p (.build [.int .i64 0, .int .i64 0] [])) .nil)),
  .set 5 (.cv (.bool false))]) .ret)))))
theorem fn_guiseref8_First : (autoPrg Tryd.prog).fn 27 = some LF_guiseref8_First := by kernel_rfl
def LF_guiseref8_Order : LFunc :=
  .mk 2 [.tmp 4] (.seq (R 2 [1, 2] [.tmp 2 (xbl 2 8 (.sl 0)), .set 4 (.cv (.string ⟨#[]⟩))]) (.seq (.region [.mk (some 5) (.r (.load (some 8) (.s 2))) none, .mk (some 6) (.p (.mv
  (.s 1))) none, .mk (some 7) (.e (.call 53 [.s 6])) none, .mk (some 8) (.e (.call 52 [.s 5, .s 7])) none, .mk (some 9) (.e (.call
  51 [.s 8])) none, .mk (some 4) (.p (.mv (.s 9))) none] [4] [(0, 3)]) .ret))
theorem fn_guiseref8_Order : (autoPrg Tryd.prog).fn 28 = some LF_guiseref8_Order := by kernel_rfl
def LF_guiseref8_Text : LFunc :=
  .mk 1 [.tmp 2] (.seq (R 999 [0] [.set 2 (.cv (.string ⟨#[]⟩))]) (.seq (R 999 [0, 3] [.set 3 (.cv (.slice none 0 0))]) (.seq (.seq (R 999 [0, 3, 4] [.set 4 (xi 0)]) (.block 0
  (.loop (.seq (.seq (R 5 [0, 3, 4, 8] [.tmp 8 (xb .lss (.va 4) (xlen (.va 0)))]) (.cond (.s 8) .skip (.exit 0))) (.seq (.block 1 (R 11 [0, 3, 4] [.set 3 (xap 1 1 (.va 3) (.op (.p
  (.i2s (.s 0))) (xld (xia 1 (.va 0) (.va 4)))))])) (R 9 [0, 3, 4] [.set 4 (xb .add (.va 4) (xi 1))])))))) (.seq (R 18 [2] [.set 2 (.op (.r (.b2s (.s 0))) (.va 3))]) .ret))))
theorem fn_guiseref8_Text : (autoPrg Tryd.prog).fn 51 = some LF_guiseref8_Text := by kernel_rfl
def LF_guiseref8_Sorted : LFunc :=
  .mk 2 [.tmp 4] (.seq (R 2 [1, 2] [.tmp 2 (xbl 2 8 (.sl 0)), .set 4 (.cv (.slice none 0 0))]) (.seq (R 11 [2, 5] [.set 5 (xap 1 4 (.op (.e (.litH 0 1 [] [])) .nil) (.va 1))]) (.seq
  (.seq (R 999 [2, 5, 6] [.set 6 (.cv (.bool true))]) (.block 0 (.loop (.seq (.seq (R 14 [2, 5, 14] [.tmp 14 (.va 6)]) (.cond (.s 14) .skip (.exit 0))) (.block 1 (.seq (R 999 [2, 5,
  6] [.set 6 (.cv (.bool false))]) (.seq (R 999 [2, 5, 6, 7] [.set 7 (xi 1)]) (.block 2 (.loop (.seq (.seq (R 15 [2, 5, 6, 7, 18] [.tmp 18 (xb .lss (.va 7) (xlen (.va 5)))]) (.cond
  (.s 18) .skip (.exit 2))) (.seq (.block 3 (.seq (R 21 [2, 5, 6, 7, 8] [.set 8 (xc2 50 (xln 8 (.sl 2)) (xld (xia 1 (.va 5) (xb .sub (.va 7) (xi 1)))))]) (.seq (R
  28 [2, 5, 6, 7, 8, 9] [.set 9 (xc2 50 (xln 8 (.sl 2)) (xld (xia 1 (.va 5) (.va 7))))]) (.seq (R 34 [2, 5, 6, 7, 40] [.tmp 40 (.and (xb .gtr (.va 9) (xi 0)) (xb
  .lss (.va 9) (.va 8)))]) (.cond (.s 40) (.seq (R 41 [2, 5, 7, 10] [.set 10 (xld (xia 1 (.va 5) (.va 7)))]) (.seq (R 45 [2, 5, 7, 10] [.tmp 45 (.va 5), .tmp 46 (.va 7), .tmp 51
  (xld (xia 1 (.va 5) (xb .sub (.va 7) (xi 1)))), .run (xst 1 (xia 1 (.sl 45) (.sl 46)) (.sl 51))]) (.seq (R 53 [2, 5, 7] [.tmp 53 (.va 5), .tmp 55 (xb .sub (.va 7) (xi 1)), .tmp 56
  (.va 10), .run (xst 1 (xia 1 (.sl 53) (.sl 55)) (.sl 56))]) (R 999 [2, 5, 6, 7] [.set 6 (.cv (.bool true))])))) .skip))))) (R 19 [2, 5, 6, 7] [.set 7 (xb .add (.va 7) (xi
  1))])))))))))))) (.seq (R 58 [4] [.set 4 (.va 5)]) .ret))))
theorem fn_guiseref8_Sorted : (autoPrg Tryd.prog).fn 52 = some LF_guiseref8_Sorted := by kernel_rfl
def LF_guiseref8_Runes : LFunc :=
  .mk 1 [.tmp 2] (.seq (R 999 [0] [.set 2 (.cv (.slice none 0 0))]) (.seq (R 999 [0, 3] [.set 3 (.cv (.slice none 0 0))]) (.seq (.seq (R 6 [3, 7] [.tmp 7 (.op (.e (.rngS 7 (.s 0)))
  (.va 0))]) (.block 0 (.loop (.seq (R 8 [3, 7, 8, 9] [.tmp 8 (.op (.e (.nxtS (.s 0))) (.sl 7)), .tmp 9 (xex 0 (.sl 8))]) (.seq (.cond (.s 9) .skip (.exit 0)) (.block 1 (.seq (R 10
  [3, 5, 7] [.set 5 (xex 2 (.sl 8))]) (R 11 [3, 7] [.set 3 (xap 1 4 (.va 3) (.op (.e (.litL 13 1 1 [.int .i32 0] [(0, 1, .s 0)])) (.va 5)))])))))))) (.seq (R 15 [2] [.set 2 (.va
  3)]) .ret))))
theorem fn_guiseref8_Runes : (autoPrg Tryd.prog).fn 53 = some LF_guiseref8_Runes := by kernel_rfl
def LF_guiseref6_Class : LFunc :=
  .mk 2 [.tmp 4] (.seq (R 2 [1, 2] [.tmp 2 (xbl 2 8 (.sl 0)), .set 4 (xi 0)]) (.seq (.seq (R 999 [1, 2, 5] [.set 5 (xi 0)]) (.block 0 (.loop (.seq (.seq (R 6 [1, 2, 5, 10] [.tmp 10
  (xb .lss (.va 5) (xlen (xld (xfa 2 (.sl 2)))))]) (.cond (.s 10) .skip (.exit 0))) (.seq (.block 1 (.seq (R 13 [1, 2, 5, 20] [.tmp 20 (xb .eql (xld (xfa 0 (xia 2 (xld (xfa 2 (.sl
  2))) (.va 5)))) (.va 1))]) (.cond (.s 20) (.seq (R 21 [4] [.set 4 (xld (xfa 1 (xia 2 (xld (xfa 2 (.sl 2))) (.va 5))))]) .ret) .skip))) (R 11 [1, 2, 5] [.set 5 (xb .add (.va 5) (xi
  1))])))))) (.seq (R 999 [4] [.set 4 (xi 0)]) .ret)))
theorem fn_guiseref6_Class : (autoPrg Tryd.prog).fn 50 = some LF_guiseref6_Class := by kernel_rfl
def LF_tables_Book_Class : LFunc :=
  .mk 2 [.tmp 4] (.seq (R 999 [0, 1] [.set 4 (xi 0)]) (.seq (R 5 [4] [.set 4 (.op (.r (.lookup (.one .int) (.int .i64 0) false (.s 0) (.s 1))) (.cons (xld (xfa 8 (xnk (.va 0))))
  (.va 1)))]) .ret))
theorem fn_tables_Book_Class : (autoPrg Tryd.prog).fn 24 = some LF_tables_Book_Class := by kernel_rfl
def LF_guisebook_House : LFunc :=
  .mk 0 [.cell 0 (some 8)] (.seq (R 0 [0] [.tmp 0 (xnl 0 [.slice none 0 0, .slice none 0 0, .slice none 0 0, .slice none 0 0, .slice none 0 0, .slice none 0 0, .slice none 0 0,
  .slice none 0 0])]) (.seq (R 1 [0] [.run (xst 8 (.sl 0) (.op (.p (.build [.slice none 0 0, .slice none 0 0, .slice none 0 0, .slice none 0 0, .slice none 0 0, .slice none 0 0,
  .slice none 0 0, .slice none 0 0] [(0, 1, .s 0), (1, 1, .s 1), (2, 1, .s 2), (3, 1, .s 3), (4, 1, .s 4), (5, 1, .s 5), (6, 1, .s 6), (7, 1, .s 7)])) (.cons (.op (.e (.litH 3 2
  [.string ⟨#[]⟩, .slice none 0 0] [(0, 2, .s 0), (2, 2, .s 1), (4, 2, .s 2)])) (.cons (.op (.p (.build [.string ⟨#[]⟩, .slice none 0 0] [(0, 1, .s 0), (1, 1, .s 1)])) (.cons (.cv
  (.string ⟨#[108, 97, 116, 105, 110]⟩)) (.op (.e (.litH 4 2 [.int .i32 0, .int .i32 0] [(0, 2, .s 0), (2, 2, .s 1), (4, 2, .s 2), (6, 2, .s 3)])) (.cons (.op (.p (.build [.int .i32
  0, .int .i32 0] [(0, 1, .s 0), (1, 1, .s 1)])) (.cons (xr 65) (xr 90))) (.cons (.op (.p (.build [.int .i32 0, .int .i32 0] [(0, 1, .s 0), (1, 1, .s 1)])) (.cons (xr 97) (xr 122)))
  (.cons (.op (.p (.build [.int .i32 0, .int .i32 0] [(0, 1, .s 0), (1, 1, .s 1)])) (.cons (xr 232) (xr 234))) (.op (.p (.build [.int .i32 0, .int .i32 0] [(0, 1, .s 0), (1, 1, .s
  1)])) (.cons (xr 7865) (xr 7871))))))))) (.cons (.op (.p (.build [.string ⟨#[]⟩, .slice none 0 0] [(0, 1, .s 0), (1, 1, .s 1)])) (.cons (.cv (.string ⟨#[103, 114, 101, 101,
  107]⟩)) (.op (.e (.litH 1 2 [.int .i32 0, .int .i32 0] [(0, 2, .s 0)])) (.op (.p (.build [.int .i32 0, .int .i32 0] [(0, 1, .s 0), (1, 1, .s 1)])) (.cons (xr 945) (xr 969))))))
  (.op (.p (.build [.string ⟨#[]⟩, .slice none 0 0] [(0, 1, .s 0), (1, 1, .s 1)])) (.cons (.cv (.string ⟨#[99, 121, 114, 105, 108, 108, 105, 99]⟩)) (.op (.e (.litH 1 2 [.int .i32 0,
  .int .i32 0] [(0, 2, .s 0)])) (.op (.p (.build [.int .i32 0, .int .i32 0] [(0, 1, .s 0), (1, 1, .s 1)])) (.cons (xr 1072) (xr 1103))))))))) (.cons (.op (.e (.litH 1 2 [.int .i32
  0, .int .i32 0] [(0, 2, .s 0)])) (.op (.p (.build [.int .i32 0, .int .i32 0] [(0, 1, .s 0), (1, 1, .s 1)])) (.cons (xr 45) (xr 57)))) (.cons (.op (.e (.litH 3 2 [.int .i32 0, .int
  .i64 0] [(0, 2, .s 0), (2, 2, .s 1), (4, 2, .s 2)])) (.cons (.op (.p (.build [.int .i32 0, .int .i64 0] [(0, 1, .s 0), (1, 1, .s 1)])) (.cons (xr 769) (xi 230))) (.cons (.op (.p
  (.build [.int .i32 0, .int .i64 0] [(0, 1, .s 0), (1, 1, .s 1)])) (.cons (xr 770) (xi 230))) (.op (.p (.build [.int .i32 0, .int .i64 0] [(0, 1, .s 0), (1, 1, .s 1)])) (.cons (xr
  803) (xi 220)))))) (.cons (.op (.e (.litH 4 3 [.int .i32 0, .int .i32 0, .int .i32 0] [(0, 3, .s 0), (3, 3, .s 1), (6, 3, .s 2), (9, 3, .s 3)])) (.cons (.op (.p (.build [.int .i32
  0, .int .i32 0, .int .i32 0] [(0, 1, .s 0), (1, 1, .s 1), (2, 1, .s 2)])) (.cons (xr 233) (.cons (xr 101) (xr 769)))) (.cons (.op (.p (.build [.int .i32 0, .int .i32 0, .int .i32
  0] [(0, 1, .s 0), (1, 1, .s 1), (2, 1, .s 2)])) (.cons (xr 234) (.cons (xr 101) (xr 770)))) (.cons (.op (.p (.build [.int .i32 0, .int .i32 0, .int .i32 0] [(0, 1, .s 0), (1, 1,
  .s 1), (2, 1, .s 2)])) (.cons (xr 7865) (.cons (xr 101) (xr 803)))) (.op (.p (.build [.int .i32 0, .int .i32 0, .int .i32 0] [(0, 1, .s 0), (1, 1, .s 1), (2, 1, .s 2)])) (.cons
  (xr 7871) (.cons (xr 234) (xr 769)))))))) (.cons (.op (.e (.litH 2 2 [.int .i32 0, .string ⟨#[]⟩] [(0, 2, .s 0), (2, 2, .s 1)])) (.cons (.op (.p (.build [.int .i32 0, .string
  ⟨#[]⟩] [(0, 1, .s 0), (1, 1, .s 1)])) (.cons (xr 65) (.cv (.string ⟨#[97]⟩)))) (.op (.p (.build [.int .i32 0, .string ⟨#[]⟩] [(0, 1, .s 0), (1, 1, .s 1)])) (.cons (xr 69) (.cv
  (.string ⟨#[101]⟩)))))) (.cons (.op (.e (.litH 3 2 [.int .i32 0, .string ⟨#[]⟩] [(0, 2, .s 0), (2, 2, .s 1), (4, 2, .s 2)])) (.cons (.op (.p (.build [.int .i32 0, .string ⟨#[]⟩]
  [(0, 1, .s 0), (1, 1, .s 1)])) (.cons (xr 1072) (.cv (.string ⟨#[97]⟩)))) (.cons (.op (.p (.build [.int .i32 0, .string ⟨#[]⟩] [(0, 1, .s 0), (1, 1, .s 1)])) (.cons (xr 49) (.cv
  (.string ⟨#[108]⟩)))) (.op (.p (.build [.int .i32 0, .string ⟨#[]⟩] [(0, 1, .s 0), (1, 1, .s 1)])) (.cons (xr 109) (.cv (.string ⟨#[114, 110]⟩))))))) (.cons (.op (.e (.litH 1 2
  [.int .i32 0, .int .i32 0] [(0, 2, .s 0)])) (.op (.p (.build [.int .i32 0, .int .i32 0] [(0, 1, .s 0), (1, 1, .s 1)])) (.cons (xr 8205) (xr 8205)))) (.op (.e (.litH 9 2 [.int .i32
  0, .int .i32 0] [(0, 2, .s 0), (2, 2, .s 1), (4, 2, .s 2), (6, 2, .s 3), (8, 2, .s 4), (10, 2, .s 5), (12, 2, .s 6), (14, 2, .s 7), (16, 2, .s 8)])) (.cons (.op (.p (.build [.int
  .i32 0, .int .i32 0] [(0, 1, .s 0), (1, 1, .s 1)])) (.cons (xr 45) (xr 45))) (.cons (.op (.p (.build [.int .i32 0, .int .i32 0] [(0, 1, .s 0), (1, 1, .s 1)])) (.cons (xr 48) (xr
  57))) (.cons (.op (.p (.build [.int .i32 0, .int .i32 0] [(0, 1, .s 0), (1, 1, .s 1)])) (.cons (xr 97) (xr 122))) (.cons (.op (.p (.build [.int .i32 0, .int .i32 0] [(0, 1, .s 0),
  (1, 1, .s 1)])) (.cons (xr 232) (xr 234))) (.cons (.op (.p (.build [.int .i32 0, .int .i32 0] [(0, 1, .s 0), (1, 1, .s 1)])) (.cons (xr 769) (xr 770))) (.cons (.op (.p (.build
  [.int .i32 0, .int .i32 0] [(0, 1, .s 0), (1, 1, .s 1)])) (.cons (xr 803) (xr 803))) (.cons (.op (.p (.build [.int .i32 0, .int .i32 0] [(0, 1, .s 0), (1, 1, .s 1)])) (.cons (xr
  945) (xr 969))) (.cons (.op (.p (.build [.int .i32 0, .int .i32 0] [(0, 1, .s 0), (1, 1, .s 1)])) (.cons (xr 1072) (xr 1103))) (.op (.p (.build [.int .i32 0, .int .i32 0] [(0, 1,
  .s 0), (1, 1, .s 1)])) (.cons (xr 7865) (xr 7871)))))))))))))))))))))]) .ret))
theorem fn_guisebook_House : (autoPrg Tryd.prog).fn 34 = some LF_guisebook_House := by kernel_rfl
def LF_cmp_Compare_int : LFunc :=
  .mk 2 [.tmp 4] (.seq (R 999 [0, 1] [.set 4 (xi 0)]) (.seq (R 7 [0, 1, 5] [.set 5 (xc1 81 (.va 0))]) (.seq (R 9 [0, 1, 5, 6] [.set 6 (xc1 81 (.va
  1))]) (.seq (.seq (R 11 [0, 1, 6, 11] [.tmp 11 (.va 5)]) (.cond (.s 11) (.seq (.seq (R 12 [12] [.tmp 12 (.va 6)]) (.cond (.s 12) (.seq (R 999 [4] [.set 4 (xi 0)]) .ret) .skip))
  (.seq (R 999 [4] [.set 4 (xi (-1))]) .ret)) .skip)) (.seq (.seq (R 13 [0, 1, 13] [.tmp 13 (.va 6)]) (.cond (.s 13) (.seq (R 999 [4] [.set 4 (xi 1)]) .ret) .skip)) (.seq (.seq (R
  14 [0, 1, 16] [.tmp 16 (xb .lss (.va 0) (.va 1))]) (.cond (.s 16) (.seq (R 999 [4] [.set 4 (xi (-1))]) .ret) .skip)) (.seq (.seq (R 17 [19] [.tmp 19 (xb .gtr (.va 0) (.va 1))])
  (.cond (.s 19) (.seq (R 999 [4] [.set 4 (xi 1)]) .ret) .skip)) (.seq (R 999 [4] [.set 4 (xi 0)]) .ret))))))))
theorem fn_cmp_Compare_int : (autoPrg Tryd.prog).fn 49 = some LF_cmp_Compare_int := by kernel_rfl
def LF_cmp_isNaN_int : LFunc :=
  .mk 1 [.tmp 2] (.seq (R 999 [0] [.set 2 (.cv (.bool false))]) (.seq (R 3 [2] [.set 2 (xb .neq (.va 0) (.va 0))]) .ret))
theorem fn_cmp_isNaN_int : (autoPrg Tryd.prog).fn 81 = some LF_cmp_isNaN_int := by kernel_rfl
end Go.Proofs.YtblmakgjdenpfaaDoor.AM
namespace Go.Proofs.YtblmakgjdenpfaaDoor.AM
open Go
def houseT : Tab where
  scripts := [(⟨#[108, 97, 116, 105, 110]⟩, [(65, 90), (97, 122), (232, 234), (7865, 7871)]), (⟨#[103, 114, 101, 101, 107]⟩, [(945, 969)]), (⟨#[99, 121, 114, 105, 108, 108, 105, 99]⟩, [(1072, 1103)])]
  common := [(45, 57)]
  marks := [(769, 230), (770, 230), (803, 220)]
  pairs := [(233, 101, 769), (234, 101, 770), (7865, 101, 803), (7871, 234, 769)]
  folds := [(65, ⟨#[97]⟩), (69, ⟨#[101]⟩)]
  looks := [(1072, ⟨#[97]⟩), (49, ⟨#[108]⟩), (109, ⟨#[114, 110]⟩)]
  drops := [(8205, 8205)]
  allowed := [(45, 45), (48, 57), (97, 122), (232, 234), (769, 770), (803, 803), (945, 969), (1072, 1103), (7865, 7871)]
instance (r : Int) : Decidable (r32 r) := by unfold r32; infer_instance
instance (r : Int) : Decidable (r64 r) := by unfold r64; infer_instance
theorem house_fits : Tab.Fits houseT :=
  ⟨by decide, by decide, by decide, by decide, by decide, by decide, by decide, by decide, by decide, by decide, by decide, by decide, by decide, by decide, by decide, by decide, by decide⟩
theorem reads_cells {h : AH} {b e n : Nat} {xss : List (List Value)} (hb : h.get b = some (.cells false xss.flatten)) (hn : n = xss.length) (he : ∀ x ∈ xss, x.length = e) : Reads h e (.at b 0 n) xss :=
  ⟨hn, he, .inr ⟨false, [], [], by rw [List.nil_append, List.append_nil]; exact hb, rfl⟩⟩
set_option maxHeartbeats 4000000 in
theorem house_spec (h : AH) : WpC PX 34 [] h fun v h' => ∃ S, v = .agg S.vs.toArray ∧ TabAt h' S houseT ∧ Kp h h' := by
  refine wpc_fn (px_ext rfl) (px_fn fn_guisebook_House) rfl ?_
  unfold LF_guisebook_House
  simp only [argFr]
  (refine W_x trivial ?_; (repeat' first | apply Cj.mk | exact Nl.nl) <;> intros)
  simp only [Nat.add_assoc, Nat.reduceAdd]
  refine ⟨⟨.at (h.n + 3) 0 3, .at (h.n + 4) 0 1, .at (h.n + 5) 0 3, .at (h.n + 6) 0 4, .at (h.n + 7) 0 2, .at (h.n + 8) 0 3, .at (h.n + 9) 0 1, .at (h.n + 10) 0 9,
    [((⟨#[108, 97, 116, 105, 110]⟩, [(65, 90), (97, 122), (232, 234), (7865, 7871)]), .at h.n 0 4), ((⟨#[103, 114, 101, 101, 107]⟩, [(945, 969)]), .at (h.n + 1) 0 1), ((⟨#[99, 121, 114, 105, 108, 108, 105, 99]⟩, [(1072, 1103)]), .at (h.n + 2) 0 1)]⟩, rfl,
    ⟨house_fits, reads_cells (by simp (disch := first | omega | (simp only [AH.nn_push, AH.nn_set, AH.nn_kill]; omega) | (simp only [AH.nn_push, AH.nn_set, AH.nn_kill]; done) | fail) only [AH.get_push_eq, AH.get_push_ne, AH.get_set_eq, AH.get_set_ne, AH.push_n]; rfl) rfl (by simp [houseT, scrV]), rfl, fun z hz => ?_, reads_cells (by simp (disch := first | omega | (simp only [AH.nn_push, AH.nn_set, AH.nn_kill]; omega) | (simp only [AH.nn_push, AH.nn_set, AH.nn_kill]; done) | fail) only [AH.get_push_eq, AH.get_push_ne, AH.get_set_eq, AH.get_set_ne, AH.push_n]; rfl) rfl (by simp [houseT, pairV]), reads_cells (by simp (disch := first | omega | (simp only [AH.nn_push, AH.nn_set, AH.nn_kill]; omega) | (simp only [AH.nn_push, AH.nn_set, AH.nn_kill]; done) | fail) only [AH.get_push_eq, AH.get_push_ne, AH.get_set_eq, AH.get_set_ne, AH.push_n]; rfl) rfl (by simp [houseT, markV]),
    reads_cells (by simp (disch := first | omega | (simp only [AH.nn_push, AH.nn_set, AH.nn_kill]; omega) | (simp only [AH.nn_push, AH.nn_set, AH.nn_kill]; done) | fail) only [AH.get_push_eq, AH.get_push_ne, AH.get_set_eq, AH.get_set_ne, AH.push_n]; rfl) rfl (by simp [houseT, tripV]), reads_cells (by simp (disch := first | omega | (simp only [AH.nn_push, AH.nn_set, AH.nn_kill]; omega) | (simp only [AH.nn_push, AH.nn_set, AH.nn_kill]; done) | fail) only [AH.get_push_eq, AH.get_push_ne, AH.get_set_eq, AH.get_set_ne, AH.push_n]; rfl) rfl (by simp [houseT, mapV]), reads_cells (by simp (disch := first | omega | (simp only [AH.nn_push, AH.nn_set, AH.nn_kill]; omega) | (simp only [AH.nn_push, AH.nn_set, AH.nn_kill]; done) | fail) only [AH.get_push_eq, AH.get_push_ne, AH.get_set_eq, AH.get_set_ne, AH.push_n]; rfl) rfl (by simp [houseT, mapV]),
    reads_cells (by simp (disch := first | omega | (simp only [AH.nn_push, AH.nn_set, AH.nn_kill]; omega) | (simp only [AH.nn_push, AH.nn_set, AH.nn_kill]; done) | fail) only [AH.get_push_eq, AH.get_push_ne, AH.get_set_eq, AH.get_set_ne, AH.push_n]; rfl) rfl (by simp [houseT, pairV]), reads_cells (by simp (disch := first | omega | (simp only [AH.nn_push, AH.nn_set, AH.nn_kill]; omega) | (simp only [AH.nn_push, AH.nn_set, AH.nn_kill]; done) | fail) only [AH.get_push_eq, AH.get_push_ne, AH.get_set_eq, AH.get_set_ne, AH.push_n]; rfl) rfl (by simp [houseT, pairV])⟩, ?_⟩
  · simp only [List.mem_cons, List.mem_nil_iff, or_false] at hz
    rcases hz with rfl | rfl | rfl
    · exact reads_cells (by simp (disch := first | omega | (simp only [AH.nn_push, AH.nn_set, AH.nn_kill]; omega) | (simp only [AH.nn_push, AH.nn_set, AH.nn_kill]; done) | fail) only [AH.get_push_eq, AH.get_push_ne, AH.get_set_eq, AH.get_set_ne, AH.push_n]; rfl) rfl (by simp [houseT, pairV])
    · exact reads_cells (by simp (disch := first | omega | (simp only [AH.nn_push, AH.nn_set, AH.nn_kill]; omega) | (simp only [AH.nn_push, AH.nn_set, AH.nn_kill]; done) | fail) only [AH.get_push_eq, AH.get_push_ne, AH.get_set_eq, AH.get_set_ne, AH.push_n]; rfl) rfl (by simp [houseT, pairV])
    · exact reads_cells (by simp (disch := first | omega | (simp only [AH.nn_push, AH.nn_set, AH.nn_kill]; omega) | (simp only [AH.nn_push, AH.nn_set, AH.nn_kill]; done) | fail) only [AH.get_push_eq, AH.get_push_ne, AH.get_set_eq, AH.get_set_ne, AH.push_n]; rfl) rfl (by simp [houseT, pairV])
  · exact (((((((((((Kp.refl h).push _).push _).push _).push _).push _).push _).push _).push _).push _).push _).push _
end Go.Proofs.YtblmakgjdenpfaaDoor.AM
namespace Go.Proofs.YtblmakgjdenpfaaDoor.AM
open Go
def LF_guisekeep_Of : LFunc :=
  .mk 1 [.tmp 2, .tmp 3, .tmp 4] (.seq (R 1 [1] [.tmp 1 (xbl 1 8 (.sl 0)), .set 2 (.cv (.pointer none)), .set 3 (.cv (.bool false)), .set 4 (.cv (.bool false))]) (.seq (.seq (R 8
  [1, 9] [.tmp 9 (xc1 31 (xln 8 (.sl 1)))]) (.cond (.s 9) (.seq (R 999 [2, 3, 4] [.set 2 (.cv (.pointer none)), .set 3 (.cv (.bool false)), .set 4 (.cv (.bool
  true))]) .ret) .skip)) (.seq (R 11 [1, 5, 6] [.set 10 (xc1 32 (xln 8 (.sl 1))), .tmp 13 (xex 0 (.sl 10)), .tmp 14 (xex 1 (.sl 10)), .at 6, .tmp 6 (xnl 6 [.int .i64 0,
  .int .i64 0, .int .i64 0]), .set 5 (.sl 13), .run (xst 3 (.sl 6) (.sl 14))]) (.seq (R 15 [5, 6, 7] [.tmp 16 (xc1 33 (xln 8 (.sl 1))), .at 7, .tmp 7 (xnl 7 [.int
  .i64 0, .int .i64 0, .int .i64 0]), .run (xst 3 (.sl 7) (.sl 16))]) (.seq (.seq (R 17 [5, 6, 7, 19] [.tmp 19 (xb .neq (xld (xfa 0 (.sl 7))) (xi 0))]) (.cond (.s 19) (.seq (R 20
  [2, 3, 4] [.tmp 26 (.and (.op (.p (.eqk false .ptr (.s 0) (.s 1))) (.cons (.va 5) (.cv (.pointer none)))) (.op (.p (.eqA false [.int, .int, .int] (.s 0) (.s 1))) (.cons (xln 3
  (.sl 6)) (xln 3 (.sl 7))))), .set 2 (.cv (.pointer none)), .set 3 (.cv (.bool false)), .set 4 (.sl 26)]) .ret) .skip)) (.seq (.seq (R 27 [5, 33] [.tmp 33 (.or (.op (.p (.eqk false
  .ptr (.s 0) (.s 1))) (.cons (.va 5) (.cv (.pointer none)))) (.op (.p (.eqA true [.int, .int, .int] (.s 0) (.s 1))) (.cons (xln 3 (.sl 6)) (.op (.p (.build [.int .i64 0, .int .i64
  0, .int .i64 0] [])) .nil))))]) (.cond (.s 33) (.seq (R 999 [2, 3, 4] [.set 2 (.cv (.pointer none)), .set 3 (.cv (.bool false)), .set 4 (.cv (.bool false))]) .ret) .skip)) (.seq
  (R 34 [2, 3, 4] [.set 2 (.va 5), .set 3 (.cv (.bool true)), .set 4 (.cv (.bool true))]) .ret)))))))
theorem fn_guisekeep_Of : (autoPrg Tryd.prog).fn 9 = some LF_guisekeep_Of := by kernel_rfl
def LF_guisekeep6_Large : LFunc :=
  .mk 1 [.tmp 2] (.seq (R 1 [1] [.tmp 1 (xbl 1 8 (.sl 0)), .set 2 (.cv (.bool false))]) (.seq (R 5 [1, 3] [.set 3 (xb .add (xb .add (xb .add (xb .add (xb .add (xb .add (xlen (xld
  (xfa 1 (.sl 1)))) (xlen (xld (xfa 2 (.sl 1))))) (xlen (xld (xfa 3 (.sl 1))))) (xlen (xld (xfa 4 (.sl 1))))) (xlen (xld (xfa 5 (.sl 1))))) (xlen (xld (xfa 6 (.sl 1))))) (xlen (xld
  (xfa 7 (.sl 1)))))]) (.seq (.seq (R 999 [1, 3, 4] [.set 4 (xi 0)]) (.block 0 (.loop (.seq (.seq (R 32 [1, 3, 4, 40] [.tmp 40 (.and (xb .lss (.va 4) (xlen (xld (xfa 0 (.sl 1)))))
  (xb .lss (.va 4) (xi 200)))]) (.cond (.s 40) .skip (.exit 0))) (.seq (.block 1 (R 43 [1, 3, 4] [.set 3 (xb .add (xb .add (.va 3) (xi 1)) (xlen (xld (xfa 1 (xia 2 (xld (xfa 0 (.sl
  1))) (.va 4))))))])) (R 41 [1, 3, 4] [.set 4 (xb .add (.va 4) (xi 1))])))))) (.seq (R 53 [2] [.set 2 (.or (xb .gtr (.va 3) (xi 6000)) (xb .gtr (xlen (xld (xfa 0 (.sl 1)))) (xi
  100)))]) .ret))))
theorem fn_guisekeep6_Large : (autoPrg Tryd.prog).fn 31 = some LF_guisekeep6_Large := by kernel_rfl
def LF_tables_New : LFunc :=
  .mk 1 [.tmp 2, .cell 3 (some 3)] (.seq (R 1 [1, 3] [.tmp 1 (xbl 1 8 (.sl 0)), .set 2 (.cv (.pointer none)), .at 3, .tmp 3 (xnl 3 [.int .i64 0, .int .i64 0, .int .i64 0])]) (.seq
  (R 8 [1, 3, 4] [.set 4 (xbh 9 (.op (.p (.build [.slice none 0 0, .slice none 0 0, .slice none 0 0, .slice none 0 0, .slice none 0 0, .slice none 0 0, .slice none 0 0, .slice none
  0 0, .pointer none] [(0, 8, .s 0), (8, 1, .s 1)])) (.cons (xln 8 (.sl 1)) (xbh 13 (.op (.p (.build [.slice none 0 0, .slice none 0 0, .slice none 0 0, .slice none 0 0, .slice none
  0 0, .slice none 0 0, .slice none 0 0, .slice none 0 0, .map none, .map none, .map none, .map none, .map none] [(8, 1, .s 0), (9, 1, .s 1), (10, 1, .s 2), (11, 1, .s 3), (12, 1,
  .s 4)])) (.cons (.op (.e (.mkmap)) .nil) (.cons (.op (.e (.mkmap)) .nil) (.cons (.op (.e (.mkmap)) .nil) (.cons (.op (.e (.mkmap)) .nil) (.op (.e (.mkmap)) .nil))))))))))]) (.seq
  (.seq (R 18 [1, 3, 4, 36, 37, 38] [.tmp 36 (.op (.e (.litH 9 1 [.nilFunc] [(0, 1, .s 0), (1, 1, .s 1), (2, 1, .s 2), (3, 1, .s 3), (4, 1, .s 4), (5, 1, .s 5), (6, 1, .s 6), (7, 1,
  .s 7), (8, 1, .s 8)])) (.cons (.op (.p (.mkfn (.func 56) [.s 0] [])) (.va 4)) (.cons (.op (.p (.mkfn (.func 57) [.s 0] [])) (.va 4))
  (.cons (.op (.p (.mkfn (.func 58) [.s 0] [])) (.va 4)) (.cons (.op (.p (.mkfn (.func 59) [.s 0] [])) (.va 4)) (.cons (.op (.p (.mkfn
  (.func 60) [.s 0] [])) (.va 4)) (.cons (.op (.p (.mkfn (.func 61) [.s 0] [])) (.va 4)) (.cons (.op (.p (.mkfn (.func
  62) [.s 0] [])) (.va 4)) (.cons (.op (.p (.mkfn (.func 63) [.s 0] [])) (.va 4)) (.op (.p (.mkfn (.func 64) [.s
  0] [])) (.va 4))))))))))), .tmp 37 (xlen (.sl 36)), .set 38 (xi 0)]) (.block 0 (.loop (.seq (R 39 [1, 3, 4, 36, 37, 38, 39] [.tmp 39 (xb .lss (.sl 38) (.sl 37))]) (.seq (.cond (.s
  39) .skip (.exit 0)) (.seq (.block 1 (.seq (R 40 [1, 3, 4, 6, 36, 37, 38] [.set 6 (xld (xia 1 (.sl 36) (.sl 38)))]) (.seq (R 42 [1, 3, 4, 7, 36, 37, 38] [.tmp 43 (xv0 (.va 6)),
  .at 7, .tmp 7 (xnl 7 [.int .i64 0, .int .i64 0, .int .i64 0]), .run (xst 3 (.sl 7) (.sl 43))]) (.seq (R 44 [1, 3, 4, 7, 36, 37, 38, 46] [.tmp 46 (xb .neq (xld (xfa 0 (.sl 7))) (xi
  0))]) (.cond (.s 46) (.seq (R 47 [2, 3] [.tmp 47 (xln 3 (.sl 7)), .set 2 (.cv (.pointer none)), .run (xst 3 (.sl 3) (.sl 47))]) .ret) .skip))))) (R 48 [1, 3, 4, 36, 37, 38] [.set
  38 (xb .add (.sl 38) (xi 1))]))))))) (.seq (.region [.mk (some 49) (.p (.mv (.s 4))) none, .mk (some 50) (.p (.nilck (.s 49))) none, .mk (some 51) (.p (.faddr 8 (.s 50))) none,
  .mk (some 52) (.r (.load none (.s 51))) none, .mk (some 53) (.r (.load (some 8) (.s 1))) none, .mk (some 54) (.e (.call 65 [.s 53])) none, .mk (some 55) (.p (.nilck
  (.s 52))) none, .mk (some 56) (.p (.faddr 0 (.s 55))) none, .mk none (.e (.store 8 (.s 56) (.s 54))) none] [3, 4] [(3, 6)]) (.seq (R 57 [2, 3] [.tmp 60 (xld (xfa 8 (xnk (.va
  4)))), .tmp 61 (.op (.p (.build [.int .i64 0, .int .i64 0, .int .i64 0] [])) .nil), .set 2 (.sl 60), .run (xst 3 (.sl 3) (.sl 61))]) .ret)))))
theorem fn_tables_New : (autoPrg Tryd.prog).fn 32 = some LF_tables_New := by kernel_rfl
def LF_tables_check_long : LFunc :=
  .mk 1 [.cell 2 (some 3)] (.seq (R 2 [0, 2] [.tmp 2 (xnl 2 [.int .i64 0, .int .i64 0, .int .i64 0])]) (.seq (.seq (R 7 [0, 2, 13] [.tmp 13 (xb .gtr (xlen (xld (xfa 0 (xfa 0 (xnk
  (.va 0)))))) (xi 64))]) (.cond (.s 13) (.seq (R 14 [2] [.run (xst 3 (.sl 2) (xc3 85 (xi 4) (xi 1) (xi 64)))]) .ret) .skip)) (.seq (.seq (R 15 [0, 2, 19, 20, 21]
  [.tmp 19 (xld (xfa 0 (xfa 0 (xnk (.va 0))))), .tmp 20 (xlen (.sl 19)), .set 21 (xi 0)]) (.block 0 (.loop (.seq (R 22 [0, 2, 19, 20, 21, 22] [.tmp 22 (xb .lss (.sl 21) (.sl 20))])
  (.seq (.cond (.s 22) .skip (.exit 0)) (.seq (.block 1 (.seq (R 23 [0, 2, 3, 4, 19, 20, 21] [.tmp 23 (.va 21), .tmp 25 (xln 2 (xia 2 (.sl 19) (.sl 21))), .at 4, .tmp 4 (xnl 4
  [.string ⟨#[]⟩, .slice none 0 0]), .set 3 (.sl 23), .run (xst 2 (.sl 4) (.sl 25))]) (.seq (R 26 [0, 2, 3, 19, 20, 21, 29] [.tmp 29 (xb .gtr (xlen (xld (xfa 1 (.sl 4)))) (xi
  1024))]) (.cond (.s 29) (.seq (R 30 [2] [.run (xst 3 (.sl 2) (xc3 85 (xi 4) (xi 1) (.va 3)))]) .ret) .skip)))) (R 32 [0, 2, 19, 20, 21] [.set 21 (xb .add (.sl 21)
  (xi 1))]))))))) (.seq (.seq (R 33 [2, 82, 83, 84] [.tmp 82 (.op (.e (.litH 7 3 [.int .i64 0, .int .i64 0, .int .i64 0] [(0, 3, .s 0), (3, 3, .s 1), (6, 3, .s 2), (9, 3, .s 3),
  (12, 3, .s 4), (15, 3, .s 5), (18, 3, .s 6)])) (.cons (.op (.p (.build [.int .i64 0, .int .i64 0, .int .i64 0] [(0, 1, .s 0), (1, 1, .s 1), (2, 1, .s 2)])) (.cons (xi 2) (.cons
  (xlen (xld (xfa 1 (xfa 0 (xnk (.va 0)))))) (xi 1024)))) (.cons (.op (.p (.build [.int .i64 0, .int .i64 0, .int .i64 0] [(0, 1, .s 0), (1, 1, .s 1), (2, 1, .s 2)])) (.cons (xi 3)
  (.cons (xlen (xld (xfa 2 (xfa 0 (xnk (.va 0)))))) (xi 512)))) (.cons (.op (.p (.build [.int .i64 0, .int .i64 0, .int .i64 0] [(0, 1, .s 0), (1, 1, .s 1), (2, 1, .s 2)])) (.cons
  (xi 4) (.cons (xlen (xld (xfa 3 (xfa 0 (xnk (.va 0)))))) (xi 4096)))) (.cons (.op (.p (.build [.int .i64 0, .int .i64 0, .int .i64 0] [(0, 1, .s 0), (1, 1, .s 1), (2, 1, .s 2)]))
  (.cons (xi 5) (.cons (xlen (xld (xfa 4 (xfa 0 (xnk (.va 0)))))) (xi 4096)))) (.cons (.op (.p (.build [.int .i64 0, .int .i64 0, .int .i64 0] [(0, 1, .s 0), (1, 1, .s 1), (2, 1, .s
  2)])) (.cons (xi 6) (.cons (xlen (xld (xfa 5 (xfa 0 (xnk (.va 0)))))) (xi 4096)))) (.cons (.op (.p (.build [.int .i64 0, .int .i64 0, .int .i64 0] [(0, 1, .s 0), (1, 1, .s 1), (2,
  1, .s 2)])) (.cons (xi 7) (.cons (xlen (xld (xfa 6 (xfa 0 (xnk (.va 0)))))) (xi 1024)))) (.op (.p (.build [.int .i64 0, .int .i64 0, .int .i64 0] [(0, 1, .s 0), (1, 1, .s 1), (2,
  1, .s 2)])) (.cons (xi 8) (.cons (xlen (xld (xfa 7 (xfa 0 (xnk (.va 0)))))) (xi 1024))))))))))), .tmp 83 (xlen (.sl 82)), .set 84 (xi 0)]) (.block 2 (.loop (.seq (R 85 [2, 82, 83,
  84, 85] [.tmp 85 (xb .lss (.sl 84) (.sl 83))]) (.seq (.cond (.s 85) .skip (.exit 2)) (.seq (.block 3 (.seq (R 86 [2, 6, 82, 83, 84] [.tmp 87 (xln 3 (xia 3 (.sl 82) (.sl 84))), .at
  6, .tmp 6 (xnl 6 [.int .i64 0, .int .i64 0, .int .i64 0]), .run (xst 3 (.sl 6) (.sl 87))]) (.seq (R 88 [2, 6, 82, 83, 84, 92] [.tmp 92 (xb .gtr (xld (xfa 1 (.sl 6))) (xld (xfa 2
  (.sl 6))))]) (.cond (.s 92) (.seq (R 93 [2] [.run (xst 3 (.sl 2) (xc3 85 (xi 4) (xld (xfa 0 (.sl 6))) (xld (xfa 2 (.sl 6)))))]) .ret) .skip)))) (R 98 [2, 82, 83, 84]
  [.set 84 (xb .add (.sl 84) (xi 1))]))))))) (.seq (R 99 [2] [.run (xst 3 (.sl 2) (.op (.p (.build [.int .i64 0, .int .i64 0, .int .i64 0] [])) .nil))]) .ret)))))
theorem fn_tables_check_long : (autoPrg Tryd.prog).fn 56 = some LF_tables_check_long := by kernel_rfl
def LF_tables_check_forms : LFunc :=
  .mk 1 [.cell 2 (some 3)] (.seq (R 2 [0, 2] [.tmp 2 (xnl 2 [.int .i64 0, .int .i64 0, .int .i64 0])]) (.seq (.seq (R 22 [0, 2, 26, 27, 28] [.tmp 26 (xld (xfa 0 (xfa 0 (xnk (.va
  0))))), .tmp 27 (xlen (.sl 26)), .set 28 (xi 0)]) (.block 0 (.loop (.seq (R 29 [0, 2, 26, 27, 28, 29] [.tmp 29 (xb .lss (.sl 28) (.sl 27))]) (.seq (.cond (.s 29) .skip (.exit 0))
  (.seq (.block 1 (.seq (R 30 [0, 2, 3, 4, 26, 27, 28] [.tmp 30 (.va 28), .tmp 32 (xln 2 (xia 2 (.sl 26) (.sl 28))), .at 4, .tmp 4 (xnl 4 [.string ⟨#[]⟩, .slice none 0 0]), .set 3
  (.sl 30), .run (xst 2 (.sl 4) (.sl 32))]) (.seq (.seq (R 33 [0, 2, 3, 4, 26, 27, 28, 36] [.tmp 36 (xu .not (xc1 86 (xld (xfa 0 (.sl 4)))))]) (.cond (.s 36) (.seq (R
  37 [2] [.run (xst 3 (.sl 2) (xc3 85 (xi 38) (xi 1) (.va 3)))]) .ret) .skip)) (.seq (R 40 [0, 2, 3, 6, 26, 27, 28] [.set 39 (xc1 87 (xld (xfa 1 (.sl
  4)))), .tmp 43 (xex 0 (.sl 39)), .tmp 44 (xex 1 (.sl 39)), .set 5 (.sl 43), .set 6 (.sl 44)]) (.seq (R 45 [0, 2, 3, 6, 26, 27, 28, 46] [.tmp 46 (xb .neq (.va 6) (xi 0))]) (.cond
  (.s 46) (.seq (R 47 [2] [.run (xst 3 (.sl 2) (xc3 85 (.va 6) (xi 1) (.va 3)))]) .ret) .skip)))))) (R 50 [0, 2, 26, 27, 28] [.set 28 (xb .add (.sl 28) (xi 1))])))))))
  (.seq (.seq (R 52 [0, 2, 7, 8] [.set 51 (xc1 87 (xld (xfa 1 (xfa 0 (xnk (.va 0)))))), .tmp 58 (xex 0 (.sl 51)), .tmp 59 (xex 1 (.sl 51)), .set 7 (.sl 58), .set 8 (.sl
  59)]) (.seq (R 60 [0, 2, 7, 8, 61] [.tmp 61 (xb .neq (.va 8) (xi 0))]) (.cond (.s 61) (.seq (R 62 [2] [.run (xst 3 (.sl 2) (xc3 85 (.va 8) (xi 2) (.va 7)))]) .ret)
  .skip))) (.seq (.seq (R 65 [0, 2, 69, 70, 71] [.tmp 69 (xld (xfa 2 (xfa 0 (xnk (.va 0))))), .tmp 70 (xlen (.sl 69)), .set 71 (xi 0)]) (.block 2 (.loop (.seq (R 72 [0, 2, 69, 70,
  71, 72] [.tmp 72 (xb .lss (.sl 71) (.sl 70))]) (.seq (.cond (.s 72) .skip (.exit 2)) (.seq (.block 3 (.seq (R 73 [0, 2, 9, 10, 69, 70, 71] [.tmp 73 (.va 71), .tmp 75 (xln 2 (xia 2
  (.sl 69) (.sl 71))), .at 10, .tmp 10 (xnl 10 [.int .i32 0, .int .i64 0]), .set 9 (.sl 73), .run (xst 2 (.sl 10) (.sl 75))]) (.block 4 (.seq (R 77 [0, 2, 9, 10, 69, 70, 71, 76]
  [.set 76 (xu .not (xc1 88 (xld (xfa 0 (.sl 10)))))]) (.cond (.s 76) (.seq (R 81 [2] [.run (xst 3 (.sl 2) (xc3 85 (xi 12) (xi 3) (.va 9)))]) .ret)
  (.seq (R 84 [0, 2, 9, 69, 70, 71, 83] [.set 83 (.or (xb .lss (xld (xfa 1 (.sl 10))) (xi 1)) (xb .gtr (xld (xfa 1 (.sl 10))) (xi 254)))]) (.cond (.s 83) (.seq (R 92 [2] [.run (xst
  3 (.sl 2) (xc3 85 (xi 30) (xi 3) (.va 9)))]) .ret) .skip))))))) (R 94 [0, 2, 69, 70, 71] [.set 71 (xb .add (.sl 71) (xi 1))]))))))) (.seq (.seq (R 95 [0, 2, 99, 100,
  101] [.tmp 99 (xld (xfa 3 (xfa 0 (xnk (.va 0))))), .tmp 100 (xlen (.sl 99)), .set 101 (xi 0)]) (.block 5 (.loop (.seq (R 102 [0, 2, 99, 100, 101, 102] [.tmp 102 (xb .lss (.sl 101)
  (.sl 100))]) (.seq (.cond (.s 102) .skip (.exit 5)) (.seq (.block 6 (.seq (R 103 [0, 2, 11, 12, 99, 100, 101] [.tmp 103 (.va 101), .tmp 105 (xln 3 (xia 3 (.sl 99) (.sl 101))), .at
  12, .tmp 12 (xnl 12 [.int .i32 0, .int .i32 0, .int .i32 0]), .set 11 (.sl 103), .run (xst 3 (.sl 12) (.sl 105))]) (.seq (R 106 [0, 2, 11, 99, 100, 101, 121] [.tmp 121 (.or (.or
  (xu .not (xc1 88 (xld (xfa 0 (.sl 12))))) (xu .not (xc1 88 (xld (xfa 1 (.sl 12)))))) (xu .not (xc1 88 (xld (xfa 2 (.sl 12))))))])
  (.cond (.s 121) (.seq (R 122 [2] [.run (xst 3 (.sl 2) (xc3 85 (xi 12) (xi 4) (.va 11)))]) .ret) .skip)))) (R 124 [0, 2, 99, 100, 101] [.set 101 (xb .add (.sl 101)
  (xi 1))]))))))) (.seq (.seq (R 125 [0, 2, 135, 136, 137] [.tmp 135 (.op (.e (.litH 2 1 [.slice none 0 0] [(0, 1, .s 0), (1, 1, .s 1)])) (.cons (xld (xfa 4 (xfa 0 (xnk (.va 0)))))
  (xld (xfa 5 (xfa 0 (xnk (.va 0))))))), .tmp 136 (xlen (.sl 135)), .set 137 (xi 0)]) (.block 7 (.loop (.seq (R 138 [0, 2, 135, 136, 137, 138] [.tmp 138 (xb .lss (.sl 137) (.sl
  136))]) (.seq (.cond (.s 138) .skip (.exit 7)) (.seq (.block 8 (.seq (R 139 [0, 2, 13, 14, 135, 136, 137] [.tmp 139 (.va 137), .tmp 141 (xld (xia 1 (.sl 135) (.sl 137))), .set 13
  (.sl 139), .set 14 (.sl 141)]) (.seq (R 142 [0, 2, 13, 135, 136, 137, 142, 143, 144] [.tmp 142 (.va 14), .tmp 143 (xlen (.sl 142)), .set 144 (xi 0)]) (.block 9 (.loop (.seq (R 145
  [0, 2, 13, 135, 136, 137, 142, 143, 144, 145] [.tmp 145 (xb .lss (.sl 144) (.sl 143))]) (.seq (.cond (.s 145) .skip (.exit 9)) (.seq (.block 10 (.seq (R 146 [0, 2, 13, 15, 16,
  135, 136, 137, 142, 143, 144] [.tmp 146 (.va 144), .tmp 148 (xln 2 (xia 2 (.sl 142) (.sl 144))), .at 16, .tmp 16 (xnl 16 [.int .i32 0, .string ⟨#[]⟩]), .set 15 (.sl 146), .run
  (xst 2 (.sl 16) (.sl 148))]) (.seq (R 149 [0, 2, 13, 15, 16, 17, 135, 136, 137, 142, 143, 144] [.set 17 (xc1 89 (xld (xfa 1 (.sl 16))))]) (.block 11 (.seq
  (R 153 [0, 2, 13, 15, 16, 17, 135, 136, 137, 142, 143, 144, 152] [.set 152 (xu .not (xc1 88 (xld (xfa 0 (.sl 16)))))]) (.cond (.s 152) (.seq (R 157 [2] [.run (xst
  3 (.sl 2) (xc3 85 (xi 12) (xb .add (xi 5) (.va 13)) (.va 15)))]) .ret) (.seq (R 162 [0, 2, 13, 15, 135, 136, 137, 142, 143, 144, 161] [.set 161 (.or (.or (xu .not
  (xc1 90 (xld (xfa 1 (.sl 16))))) (xb .lss (.va 17) (xi 1))) (xb .gtr (.va 17) (xi 4)))]) (.cond (.s 161) (.seq (R 174 [2] [.run (xst 3 (.sl 2) (xc3
  85 (xi 35) (xb .add (xi 5) (.va 13)) (.va 15)))]) .ret) .skip)))))))) (R 178 [0, 2, 13, 135, 136, 137, 142, 143, 144] [.set 144 (xb .add (.sl 144) (xi 1))])))))))))
  (R 179 [0, 2, 135, 136, 137] [.set 137 (xb .add (.sl 137) (xi 1))]))))))) (.seq (.seq (R 180 [2, 190, 191, 192] [.tmp 190 (.op (.e (.litH 2 1 [.slice none 0 0] [(0, 1, .s 0), (1,
  1, .s 1)])) (.cons (xld (xfa 6 (xfa 0 (xnk (.va 0))))) (xld (xfa 7 (xfa 0 (xnk (.va 0))))))), .tmp 191 (xlen (.sl 190)), .set 192 (xi 0)]) (.block 12 (.loop (.seq (R 193 [2, 190,
  191, 192, 193] [.tmp 193 (xb .lss (.sl 192) (.sl 191))]) (.seq (.cond (.s 193) .skip (.exit 12)) (.seq (.block 13 (.seq (R 194 [2, 18, 19, 190, 191, 192] [.tmp 194 (.va 192), .tmp
  196 (xld (xia 1 (.sl 190) (.sl 192))), .set 18 (.sl 194), .set 19 (.sl 196)]) (.seq (R 198 [2, 18, 20, 21, 190, 191, 192] [.set 197 (xc1 87 (.va 19)), .tmp 200 (xex 0
  (.sl 197)), .tmp 201 (xex 1 (.sl 197)), .set 20 (.sl 200), .set 21 (.sl 201)]) (.seq (R 202 [2, 18, 20, 21, 190, 191, 192, 203] [.tmp 203 (xb .neq (.va 21) (xi 0))]) (.cond (.s
  203) (.seq (R 204 [2] [.run (xst 3 (.sl 2) (xc3 85 (.va 21) (xb .add (xi 7) (.va 18)) (.va 20)))]) .ret) .skip))))) (R 209 [2, 190, 191, 192] [.set 192 (xb .add (.sl
  192) (xi 1))]))))))) (.seq (R 210 [2] [.run (xst 3 (.sl 2) (.op (.p (.build [.int .i64 0, .int .i64 0, .int .i64 0] [])) .nil))]) .ret))))))))
theorem fn_tables_check_forms : (autoPrg Tryd.prog).fn 57 = some LF_tables_check_forms := by kernel_rfl
def LF_tables_check_once : LFunc :=
  .mk 1 [.cell 2 (some 3)] (.seq (R 2 [0, 2] [.tmp 2 (xnl 2 [.int .i64 0, .int .i64 0, .int .i64 0])]) (.seq (R 21 [0, 2, 3] [.set 3 (.op (.e (.mkmap)) .nil)]) (.seq (.seq (R 22 [0,
  2, 3, 26, 27, 28] [.tmp 26 (xld (xfa 0 (xfa 0 (xnk (.va 0))))), .tmp 27 (xlen (.sl 26)), .set 28 (xi 0)]) (.block 0 (.loop (.seq (R 29 [0, 2, 3, 26, 27, 28, 29] [.tmp 29 (xb .lss
  (.sl 28) (.sl 27))]) (.seq (.cond (.s 29) .skip (.exit 0)) (.seq (.block 1 (.seq (R 30 [0, 2, 3, 4, 5, 26, 27, 28] [.tmp 30 (.va 28), .tmp 32 (xln 2 (xia 2 (.sl 26) (.sl 28))),
  .at 5, .tmp 5 (xnl 5 [.string ⟨#[]⟩, .slice none 0 0]), .set 4 (.sl 30), .run (xst 2 (.sl 5) (.sl 32))]) (.seq (.seq (R 33 [0, 2, 3, 4, 5, 26, 27, 28, 36] [.tmp 36 (.op (.r
  (.lookup (.one .string) (.bool false) false (.s 0) (.s 1))) (.cons (.va 3) (xld (xfa 0 (.sl 5)))))]) (.cond (.s 36) (.seq (R 37 [2] [.run (xst 3 (.sl 2) (xc3 85 (xi
  14) (xi 1) (.va 4)))]) .ret) .skip)) (R 39 [0, 2, 3, 26, 27, 28] [.run (.ef (.mapup (.one .string) (.s 0) (.s 1) (.s 2)) (.cons (.va 3) (.cons (xld (xfa 0 (.sl 5))) (.cv (.bool
  true)))))])))) (R 42 [0, 2, 3, 26, 27, 28] [.set 28 (xb .add (.sl 28) (xi 1))]))))))) (.seq (.seq (R 43 [0, 2, 47, 48, 49] [.tmp 47 (xld (xfa 2 (xfa 0 (xnk (.va 0))))), .tmp 48
  (xlen (.sl 47)), .set 49 (xi 0)]) (.block 2 (.loop (.seq (R 50 [0, 2, 47, 48, 49, 50] [.tmp 50 (xb .lss (.sl 49) (.sl 48))]) (.seq (.cond (.s 50) .skip (.exit 2)) (.seq (.block 3
  (.seq (R 51 [0, 2, 6, 7, 47, 48, 49] [.tmp 51 (.va 49), .tmp 53 (xln 2 (xia 2 (.sl 47) (.sl 49))), .at 7, .tmp 7 (xnl 7 [.int .i32 0, .int .i64 0]), .set 6 (.sl 51), .run (xst 2
  (.sl 7) (.sl 53))]) (.seq (.seq (R 54 [0, 2, 6, 7, 47, 48, 49, 64] [.tmp 64 (xb .neq (.op (.r (.lookup (.one .int) (.int .i64 0) false (.s 0) (.s 1))) (.cons (xld (xfa 8 (xnk (xld
  (xfa 8 (xnk (.va 0))))))) (xld (xfa 0 (.sl 7))))) (xi 0))]) (.cond (.s 64) (.seq (R 65 [2] [.run (xst 3 (.sl 2) (xc3 85 (xi 14) (xi 3) (.va 6)))]) .ret) .skip)) (R
  67 [0, 2, 47, 48, 49] [.run (.ef (.mapup (.one .int) (.s 0) (.s 1) (.s 2)) (.cons (xld (xfa 8 (xnk (xld (xfa 8 (xnk (.va 0))))))) (.cons (xld (xfa 0 (.sl 7))) (xld (xfa 1 (.sl
  7))))))])))) (R 78 [0, 2, 47, 48, 49] [.set 49 (xb .add (.sl 49) (xi 1))]))))))) (.seq (.seq (R 79 [0, 2, 83, 84, 85] [.tmp 83 (xld (xfa 3 (xfa 0 (xnk (.va 0))))), .tmp 84 (xlen
  (.sl 83)), .set 85 (xi 0)]) (.block 4 (.loop (.seq (R 86 [0, 2, 83, 84, 85, 86] [.tmp 86 (xb .lss (.sl 85) (.sl 84))]) (.seq (.cond (.s 86) .skip (.exit 4)) (.seq (.block 5 (.seq
  (R 87 [0, 2, 8, 9, 83, 84, 85] [.tmp 87 (.va 85), .tmp 89 (xln 3 (xia 3 (.sl 83) (.sl 85))), .at 9, .tmp 9 (xnl 9 [.int .i32 0, .int .i32 0, .int .i32 0]), .set 8 (.sl 87), .run
  (xst 3 (.sl 9) (.sl 89))]) (.seq (R 90 [0, 2, 8, 9, 10, 83, 84, 85] [.tmp 94 (.op (.p (.build [.int .i32 0, .int .i32 0] [(0, 1, .s 0), (1, 1, .s 1)])) (.cons (xld (xfa 1 (.sl
  9))) (xld (xfa 2 (.sl 9))))), .at 10, .tmp 10 (xnl 10 [.int .i32 0, .int .i32 0]), .run (xst 2 (.sl 10) (.sl 94))]) (.seq (.seq (.region [.mk (some 96) (.p (.mv (.s 0))) none, .mk
  (some 97) (.p (.nilck (.s 96))) none, .mk (some 98) (.p (.faddr 8 (.s 97))) none, .mk (some 99) (.r (.load none (.s 98))) none, .mk (some 100) (.p (.nilck (.s 99))) none, .mk
  (some 101) (.p (.faddr 9 (.s 100))) none, .mk (some 102) (.r (.load none (.s 101))) none, .mk (some 103) (.p (.faddr 0 (.s 9))) none, .mk (some 104) (.r (.load none (.s 103)))
  none, .mk (some 105) (.r (.lookup (.one .int) (.agg (Array.mk [.int .i32 0, .int .i32 0])) true (.s 102) (.s 104))) none, .mk (some 95) (.p (.mv (.s 105))) none, .mk (some 106)
  (.p (.ext 0 (.s 95))) none, .mk (some 107) (.p (.ext 1 (.s 95))) none, .mk (some 11) (.e (.newL 11 [.int .i32 0, .int .i32 0])) none, .mk none (.e (.store 2 (.s 11) (.s 106)))
  none, .mk (some 12) (.p (.mv (.s 107))) none] [0, 2, 8, 9, 10, 12, 83, 84, 85] [(3, 14), (6, 14), (8, 14), (9, 14)]) (.seq (R 108 [0, 2, 8, 9, 10, 83, 84, 85, 108] [.tmp 108 (.va
  12)]) (.cond (.s 108) (.seq (R 109 [2] [.run (xst 3 (.sl 2) (xc3 85 (xi 14) (xi 4) (.va 8)))]) .ret) .skip))) (.seq (.seq (R 112 [0, 2, 8, 9, 10, 14, 83, 84, 85]
  [.set 111 (.op (.r (.lookup (.agg [.int, .int]) (.int .i32 0) true (.s 0) (.s 1))) (.cons (xld (xfa 10 (xnk (xld (xfa 8 (xnk (.va 0))))))) (xln 2 (.sl 10)))), .tmp 121 (xex 0 (.sl
  111)), .tmp 122 (xex 1 (.sl 111)), .set 13 (.sl 121), .set 14 (.sl 122)]) (.seq (R 123 [0, 2, 8, 9, 10, 83, 84, 85, 123] [.tmp 123 (.va 14)]) (.cond (.s 123) (.seq (R 124 [2]
  [.run (xst 3 (.sl 2) (xc3 85 (xi 14) (xi 4) (.va 8)))]) .ret) .skip))) (.region [.mk (some 126) (.p (.mv (.s 0))) none, .mk (some 127) (.p (.nilck (.s 126))) none,
  .mk (some 128) (.p (.faddr 8 (.s 127))) none, .mk (some 129) (.r (.load none (.s 128))) none, .mk (some 130) (.p (.nilck (.s 129))) none, .mk (some 131) (.p (.faddr 9 (.s 130)))
  none, .mk (some 132) (.r (.load none (.s 131))) none, .mk (some 133) (.p (.faddr 0 (.s 9))) none, .mk (some 134) (.r (.load none (.s 133))) none, .mk (some 135) (.p (.mv (.s 0)))
  none, .mk (some 136) (.p (.nilck (.s 135))) none, .mk (some 137) (.p (.faddr 8 (.s 136))) none, .mk (some 138) (.r (.load none (.s 137))) none, .mk (some 139) (.p (.nilck (.s
  138))) none, .mk (some 140) (.p (.faddr 10 (.s 139))) none, .mk (some 141) (.r (.load none (.s 140))) none, .mk (some 142) (.r (.load (some 2) (.s 10))) none, .mk (some 143) (.r
  (.load (some 2) (.s 10))) none, .mk (some 144) (.p (.faddr 0 (.s 9))) none, .mk (some 145) (.r (.load none (.s 144))) none, .mk (some 146) (.e (.mapent (.one .int) (.agg (Array.mk
  [.int .i32 0, .int .i32 0])) (.s 132) (.s 134))) none, .mk (some 147) (.p (.ext 1 (.s 146))) none, .mk none (.e (.mapst (.s 132) (.s 147) (.s 143))) none, .mk (some 148) (.e
  (.mapent (.agg [.int, .int]) (.int .i32 0) (.s 141) (.s 142))) none, .mk (some 149) (.p (.ext 1 (.s 148))) none, .mk none (.e (.mapst (.s 141) (.s 149) (.s 145))) none] [0, 2, 83,
  84, 85] [(16, 21), (16, 23), (17, 21), (19, 21), (19, 23), (19, 24)])))))) (R 150 [0, 2, 83, 84, 85] [.set 85 (xb .add (.sl 85) (xi 1))]))))))) (.seq (.seq (R 151 [0, 2, 165, 166,
  167] [.tmp 165 (.op (.e (.litH 2 1 [.map none] [(0, 1, .s 0), (1, 1, .s 1)])) (.cons (xld (xfa 11 (xnk (xld (xfa 8 (xnk (.va 0))))))) (xld (xfa 12 (xnk (xld (xfa 8 (xnk (.va
  0))))))))), .tmp 166 (xlen (.sl 165)), .set 167 (xi 0)]) (.block 6 (.loop (.seq (R 168 [0, 2, 165, 166, 167, 168] [.tmp 168 (xb .lss (.sl 167) (.sl 166))]) (.seq (.cond (.s 168)
  .skip (.exit 6)) (.seq (.block 7 (.seq (R 169 [0, 2, 15, 16, 165, 166, 167] [.tmp 169 (.va 167), .tmp 171 (xld (xia 1 (.sl 165) (.sl 167))), .set 15 (.sl 169), .set 16 (.sl 171)])
  (.seq (R 172 [0, 2, 15, 16, 165, 166, 167, 185, 186, 187] [.tmp 185 (xld (xia 1 (.op (.e (.litH 2 1 [.slice none 0 0] [(0, 1, .s 0), (1, 1, .s 1)])) (.cons (xld (xfa 4 (xfa 0 (xnk
  (.va 0))))) (xld (xfa 5 (xfa 0 (xnk (.va 0))))))) (.va 15))), .tmp 186 (xlen (.sl 185)), .set 187 (xi 0)]) (.block 8 (.loop (.seq (R 188 [0, 2, 15, 16, 165, 166, 167, 185, 186,
  187, 188] [.tmp 188 (xb .lss (.sl 187) (.sl 186))]) (.seq (.cond (.s 188) .skip (.exit 8)) (.seq (.block 9 (.seq (R 189 [0, 2, 15, 16, 17, 18, 165, 166, 167, 185, 186, 187] [.tmp
  189 (.va 187), .tmp 191 (xln 2 (xia 2 (.sl 185) (.sl 187))), .at 18, .tmp 18 (xnl 18 [.int .i32 0, .string ⟨#[]⟩]), .set 17 (.sl 189), .run (xst 2 (.sl 18) (.sl 191))]) (.seq
  (.seq (R 193 [0, 2, 15, 16, 17, 18, 20, 165, 166, 167, 185, 186, 187] [.set 192 (.op (.r (.lookup (.one .int) (.string ⟨#[]⟩) true (.s 0) (.s 1))) (.cons (.va 16) (xld (xfa 0 (.sl
  18))))), .tmp 197 (xex 0 (.sl 192)), .tmp 198 (xex 1 (.sl 192)), .set 19 (.sl 197), .set 20 (.sl 198)]) (.seq (R 199 [0, 2, 15, 16, 17, 18, 165, 166, 167, 185, 186, 187, 199]
  [.tmp 199 (.va 20)]) (.cond (.s 199) (.seq (R 200 [2] [.run (xst 3 (.sl 2) (xc3 85 (xi 14) (xb .add (xi 5) (.va 15)) (.va 17)))]) .ret) .skip))) (R 204 [0, 2, 15,
  16, 165, 166, 167, 185, 186, 187] [.run (.ef (.mapup (.one .int) (.s 0) (.s 1) (.s 2)) (.cons (.va 16) (.cons (xld (xfa 0 (.sl 18))) (xld (xfa 1 (.sl 18))))))])))) (R 209 [0, 2,
  15, 16, 165, 166, 167, 185, 186, 187] [.set 187 (xb .add (.sl 187) (xi 1))]))))))))) (R 210 [0, 2, 165, 166, 167] [.set 167 (xb .add (.sl 167) (xi 1))]))))))) (.seq (R 211 [2]
  [.run (xst 3 (.sl 2) (.op (.p (.build [.int .i64 0, .int .i64 0, .int .i64 0] [])) .nil))]) .ret)))))))
theorem fn_tables_check_once : (autoPrg Tryd.prog).fn 58 = some LF_tables_check_once := by kernel_rfl
def LF_tables_check_pairs : LFunc :=
  .mk 1 [.cell 2 (some 3)] (.seq (R 2 [0, 2] [.tmp 2 (xnl 2 [.int .i64 0, .int .i64 0, .int .i64 0])]) (.seq (.seq (R 5 [0, 2, 9, 10, 11] [.tmp 9 (xld (xfa 3 (xfa 0 (xnk (.va
  0))))), .tmp 10 (xlen (.sl 9)), .set 11 (xi 0)]) (.block 0 (.loop (.seq (R 12 [0, 2, 9, 10, 11, 12] [.tmp 12 (xb .lss (.sl 11) (.sl 10))]) (.seq (.cond (.s 12) .skip (.exit 0))
  (.seq (.block 1 (.seq (R 13 [0, 2, 3, 4, 9, 10, 11] [.tmp 13 (.va 11), .tmp 15 (xln 3 (xia 3 (.sl 9) (.sl 11))), .at 4, .tmp 4 (xnl 4 [.int .i32 0, .int .i32 0, .int .i32 0]),
  .set 3 (.sl 13), .run (xst 3 (.sl 4) (.sl 15))]) (.seq (R 16 [0, 2, 3, 9, 10, 11, 52] [.tmp 52 (.or (.or (xb .neq (.op (.r (.lookup (.one .int) (.int .i64 0) false (.s 0) (.s 1)))
  (.cons (xld (xfa 8 (xnk (xld (xfa 8 (xnk (.va 0))))))) (xld (xfa 0 (.sl 4))))) (xi 0)) (xb .neq (.op (.r (.lookup (.one .int) (.int .i64 0) false (.s 0) (.s 1))) (.cons (xld (xfa
  8 (xnk (xld (xfa 8 (xnk (.va 0))))))) (xld (xfa 1 (.sl 4))))) (xi 0))) (xb .eql (.op (.r (.lookup (.one .int) (.int .i64 0) false (.s 0) (.s 1))) (.cons (xld (xfa 8 (xnk (xld (xfa
  8 (xnk (.va 0))))))) (xld (xfa 2 (.sl 4))))) (xi 0)))]) (.cond (.s 52) (.seq (R 53 [2] [.run (xst 3 (.sl 2) (xc3 85 (xi 32) (xi 4) (.va 3)))]) .ret) .skip)))) (R 55
  [0, 2, 9, 10, 11] [.set 11 (xb .add (.sl 11) (xi 1))]))))))) (.seq (R 56 [2] [.run (xst 3 (.sl 2) (.op (.p (.build [.int .i64 0, .int .i64 0, .int .i64 0] [])) .nil))]) .ret)))
theorem fn_tables_check_pairs : (autoPrg Tryd.prog).fn 59 = some LF_tables_check_pairs := by kernel_rfl
def LF_tables_check_chains : LFunc :=
  .mk 1 [.cell 2 (some 3)] (.seq (R 2 [0, 2] [.tmp 2 (xnl 2 [.int .i64 0, .int .i64 0, .int .i64 0])]) (.seq (.seq (R 9 [0, 2, 13, 14, 15] [.tmp 13 (xld (xfa 3 (xfa 0 (xnk (.va
  0))))), .tmp 14 (xlen (.sl 13)), .set 15 (xi 0)]) (.block 0 (.loop (.seq (R 16 [0, 2, 13, 14, 15, 16] [.tmp 16 (xb .lss (.sl 15) (.sl 14))]) (.seq (.cond (.s 16) .skip (.exit 0))
  (.seq (.block 1 (.seq (R 17 [0, 2, 3, 4, 13, 14, 15] [.tmp 17 (.va 15), .tmp 19 (xln 3 (xia 3 (.sl 13) (.sl 15))), .at 4, .tmp 4 (xnl 4 [.int .i32 0, .int .i32 0, .int .i32 0]),
  .set 3 (.sl 17), .run (xst 3 (.sl 4) (.sl 19))]) (.seq (R 20 [0, 2, 3, 5, 6, 13, 14, 15] [.tmp 21 (xld (xfa 1 (.sl 4))), .set 5 (xi 1), .set 6 (.sl 21)]) (.seq (.block 2 (.loop
  (.seq (.seq (R 22 [0, 2, 3, 5, 6, 13, 14, 15, 29] [.tmp 29 (xb .leq (.va 5) (xlen (xld (xfa 3 (xfa 0 (xnk (.va 0)))))))]) (.cond (.s 29) .skip (.exit 2))) (.seq (.block 3 (.seq (R
  33 [0, 2, 3, 5, 7, 8, 13, 14, 15] [.set 32 (.op (.r (.lookup (.one .int) (.agg (Array.mk [.int .i32 0, .int .i32 0])) true (.s 0) (.s 1))) (.cons (xld (xfa 9 (xnk (xld (xfa 8 (xnk
  (.va 0))))))) (.va 6))), .tmp 42 (xex 0 (.sl 32)), .tmp 43 (xex 1 (.sl 32)), .at 7, .tmp 7 (xnl 7 [.int .i32 0, .int .i32 0]), .run (xst 2 (.sl 7) (.sl 42)), .tmp 8 (.va 43)])
  (.seq (.seq (R 44 [0, 2, 3, 5, 7, 13, 14, 15, 45] [.tmp 45 (xu .not (.va 8))]) (.cond (.s 45) (.exit 2) .skip)) (R 46 [0, 2, 3, 5, 6, 13, 14, 15] [.set 6 (xld (.op (.p (.iaddrA 2
  1 (.s 0) (.s 1))) (.cons (.sl 7) (xi 0))))])))) (R 30 [0, 2, 3, 5, 6, 13, 14, 15] [.set 5 (xb .add (.va 5) (xi 1))]))))) (.block 4 (.seq (R 49 [0, 2, 3, 5, 13, 14, 15, 48] [.set
  48 (xb .gtr (.va 5) (xlen (xld (xfa 3 (xfa 0 (xnk (.va 0)))))))]) (.cond (.s 48) (.seq (R 57 [2] [.run (xst 3 (.sl 2) (xc3 85 (xi 33) (xi 4) (.va 3)))]) .ret) (.seq
  (R 60 [0, 2, 3, 13, 14, 15, 59] [.set 59 (xb .gtr (.va 5) (xi 4))]) (.cond (.s 59) (.seq (R 62 [2] [.run (xst 3 (.sl 2) (xc3 85 (xi 34) (xi 4) (.va 3)))]) .ret)
  .skip))))))))) (R 64 [0, 2, 13, 14, 15] [.set 15 (xb .add (.sl 15) (xi 1))]))))))) (.seq (R 65 [2] [.run (xst 3 (.sl 2) (.op (.p (.build [.int .i64 0, .int .i64 0, .int .i64 0]
  [])) .nil))]) .ret)))
theorem fn_tables_check_chains : (autoPrg Tryd.prog).fn 60 = some LF_tables_check_chains := by kernel_rfl
def LF_tables_check_drops : LFunc :=
  .mk 1 [.cell 2 (some 3)] (.seq (R 1 [1, 2] [.tmp 1 (xbh 1 (.sl 0)), .tmp 2 (xnl 2 [.int .i64 0, .int .i64 0, .int .i64 0])]) (.seq (R 12 [1, 2, 3] [.set 3 (.op (.p (.mkfn (.func
  91) [] [.s 0])) (.sl 1))]) (.seq (.seq (R 13 [1, 2, 3, 17, 18, 19] [.tmp 17 (xld (xfa 2 (xfa 0 (xnk (xld (.sl 1)))))), .tmp 18 (xlen (.sl 17)), .set 19
  (xi 0)]) (.block 0 (.loop (.seq (R 20 [1, 2, 3, 17, 18, 19, 20] [.tmp 20 (xb .lss (.sl 19) (.sl 18))]) (.seq (.cond (.s 20) .skip (.exit 0)) (.seq (.block 1 (.seq (R 21 [1, 2, 3,
  4, 5, 17, 18, 19] [.tmp 21 (.va 19), .tmp 23 (xln 2 (xia 2 (.sl 17) (.sl 19))), .at 5, .tmp 5 (xnl 5 [.int .i32 0, .int .i64 0]), .set 4 (.sl 21), .run (xst 2 (.sl 5) (.sl 23))])
  (.seq (R 24 [1, 2, 3, 4, 17, 18, 19, 28] [.tmp 28 (xv1 (.va 3) (.op (.e (.litH 1 1 [.int .i32 0] [(0, 1, .s 0)])) (xld (xfa 0 (.sl 5)))))]) (.cond (.s 28) (.seq (R 29 [2] [.run
  (xst 3 (.sl 2) (xc3 85 (xi 37) (xi 3) (.va 4)))]) .ret) .skip)))) (R 31 [1, 2, 3, 17, 18, 19] [.set 19 (xb .add (.sl 19) (xi 1))]))))))) (.seq (.seq (R 32 [1, 2, 3,
  36, 37, 38] [.tmp 36 (xld (xfa 3 (xfa 0 (xnk (xld (.sl 1)))))), .tmp 37 (xlen (.sl 36)), .set 38 (xi 0)]) (.block 2 (.loop (.seq (R 39 [1, 2, 3, 36, 37, 38, 39] [.tmp 39 (xb .lss
  (.sl 38) (.sl 37))]) (.seq (.cond (.s 39) .skip (.exit 2)) (.seq (.block 3 (.seq (R 40 [1, 2, 3, 6, 7, 36, 37, 38] [.tmp 40 (.va 38), .tmp 42 (xln 3 (xia 3 (.sl 36) (.sl 38))),
  .at 7, .tmp 7 (xnl 7 [.int .i32 0, .int .i32 0, .int .i32 0]), .set 6 (.sl 40), .run (xst 3 (.sl 7) (.sl 42))]) (.seq (R 43 [1, 2, 3, 6, 36, 37, 38, 51] [.tmp 51 (xv1 (.va 3) (.op
  (.e (.litH 3 1 [.int .i32 0] [(0, 1, .s 0), (1, 1, .s 1), (2, 1, .s 2)])) (.cons (xld (xfa 0 (.sl 7))) (.cons (xld (xfa 1 (.sl 7))) (xld (xfa 2 (.sl 7)))))))]) (.cond (.s 51)
  (.seq (R 52 [2] [.run (xst 3 (.sl 2) (xc3 85 (xi 37) (xi 4) (.va 6)))]) .ret) .skip)))) (R 54 [1, 2, 3, 36, 37, 38] [.set 38 (xb .add (.sl 38) (xi 1))]))))))) (.seq
  (.seq (R 55 [2, 3, 65, 66, 67] [.tmp 65 (.op (.e (.litH 2 1 [.slice none 0 0] [(0, 1, .s 0), (1, 1, .s 1)])) (.cons (xld (xfa 4 (xfa 0 (xnk (xld (.sl 1)))))) (xld (xfa 5 (xfa 0
  (xnk (xld (.sl 1)))))))), .tmp 66 (xlen (.sl 65)), .set 67 (xi 0)]) (.block 4 (.loop (.seq (R 68 [2, 3, 65, 66, 67, 68] [.tmp 68 (xb .lss (.sl 67) (.sl 66))]) (.seq (.cond (.s 68)
  .skip (.exit 4)) (.seq (.block 5 (.seq (R 69 [2, 3, 8, 9, 65, 66, 67] [.tmp 69 (.va 67), .tmp 71 (xld (xia 1 (.sl 65) (.sl 67))), .set 8 (.sl 69), .set 9 (.sl 71)]) (.seq (R 72
  [2, 3, 8, 65, 66, 67, 72, 73, 74] [.tmp 72 (.va 9), .tmp 73 (xlen (.sl 72)), .set 74 (xi 0)]) (.block 6 (.loop (.seq (R 75 [2, 3, 8, 65, 66, 67, 72, 73, 74, 75] [.tmp 75 (xb .lss
  (.sl 74) (.sl 73))]) (.seq (.cond (.s 75) .skip (.exit 6)) (.seq (.block 7 (.seq (R 76 [2, 3, 8, 10, 11, 65, 66, 67, 72, 73, 74] [.tmp 76 (.va 74), .tmp 78 (xln 2 (xia 2 (.sl 72)
  (.sl 74))), .at 11, .tmp 11 (xnl 11 [.int .i32 0, .string ⟨#[]⟩]), .set 10 (.sl 76), .run (xst 2 (.sl 11) (.sl 78))]) (.seq (R 79 [2, 3, 8, 10, 65, 66, 67, 72, 73, 74, 83] [.tmp
  83 (xv1 (.va 3) (.op (.e (.litH 1 1 [.int .i32 0] [(0, 1, .s 0)])) (xld (xfa 0 (.sl 11)))))]) (.cond (.s 83) (.seq (R 84 [2] [.run (xst 3 (.sl 2) (xc3 85 (xi 37) (xb
  .add (xi 5) (.va 8)) (.va 10)))]) .ret) .skip)))) (R 88 [2, 3, 8, 65, 66, 67, 72, 73, 74] [.set 74 (xb .add (.sl 74) (xi 1))]))))))))) (R 89 [2, 3, 65, 66, 67] [.set 67 (xb .add
  (.sl 67) (xi 1))]))))))) (.seq (R 90 [2] [.run (xst 3 (.sl 2) (.op (.p (.build [.int .i64 0, .int .i64 0, .int .i64 0] [])) .nil))]) .ret))))))
theorem fn_tables_check_drops : (autoPrg Tryd.prog).fn 61 = some LF_tables_check_drops := by kernel_rfl
def LF_tables_check_froms : LFunc :=
  .mk 1 [.cell 2 (some 3)] (.seq (R 2 [0, 2] [.tmp 2 (xnl 2 [.int .i64 0, .int .i64 0, .int .i64 0])]) (.seq (.seq (R 9 [0, 2, 19, 20, 21] [.tmp 19 (.op (.e (.litH 2 1 [.slice none
  0 0] [(0, 1, .s 0), (1, 1, .s 1)])) (.cons (xld (xfa 4 (xfa 0 (xnk (.va 0))))) (xld (xfa 5 (xfa 0 (xnk (.va 0))))))), .tmp 20 (xlen (.sl 19)), .set 21 (xi 0)]) (.block 0 (.loop
  (.seq (R 22 [0, 2, 19, 20, 21, 22] [.tmp 22 (xb .lss (.sl 21) (.sl 20))]) (.seq (.cond (.s 22) .skip (.exit 0)) (.seq (.block 1 (.seq (R 23 [0, 2, 3, 4, 19, 20, 21] [.tmp 23 (.va
  21), .tmp 25 (xld (xia 1 (.sl 19) (.sl 21))), .set 3 (.sl 23), .set 4 (.sl 25)]) (.seq (R 26 [0, 2, 3, 19, 20, 21, 26, 27, 28] [.tmp 26 (.va 4), .tmp 27 (xlen (.sl 26)), .set 28
  (xi 0)]) (.block 2 (.loop (.seq (R 29 [0, 2, 3, 19, 20, 21, 26, 27, 28, 29] [.tmp 29 (xb .lss (.sl 28) (.sl 27))]) (.seq (.cond (.s 29) .skip (.exit 2)) (.seq (.block 3 (.seq (R
  30 [0, 2, 3, 5, 6, 19, 20, 21, 26, 27, 28] [.tmp 30 (.va 28), .tmp 32 (xln 2 (xia 2 (.sl 26) (.sl 28))), .at 6, .tmp 6 (xnl 6 [.int .i32 0, .string ⟨#[]⟩]), .set 5 (.sl 30), .run
  (xst 2 (.sl 6) (.sl 32))]) (.seq (.region [.mk (some 34) (.p (.mv (.s 0))) none, .mk (some 35) (.p (.nilck (.s 34))) none, .mk (some 36) (.p (.faddr 8 (.s 35))) none, .mk (some
  37) (.r (.load none (.s 36))) none, .mk (some 38) (.p (.nilck (.s 37))) none, .mk (some 39) (.p (.faddr 9 (.s 38))) none, .mk (some 40) (.r (.load none (.s 39))) none, .mk (some
  41) (.p (.faddr 0 (.s 6))) none, .mk (some 42) (.r (.load none (.s 41))) none, .mk (some 43) (.r (.lookup (.one .int) (.agg (Array.mk [.int .i32 0, .int .i32 0])) true (.s 40) (.s
  42))) none, .mk (some 33) (.p (.mv (.s 43))) none, .mk (some 44) (.p (.ext 0 (.s 33))) none, .mk (some 45) (.p (.ext 1 (.s 33))) none, .mk (some 7) (.e (.newL 7 [.int .i32 0, .int
  .i32 0])) none, .mk none (.e (.store 2 (.s 7) (.s 44))) none, .mk (some 8) (.p (.mv (.s 45))) none] [0, 2, 3, 5, 6, 8, 19, 20, 21, 26, 27, 28] [(3, 14), (6, 14), (8, 14), (9,
  14)]) (.seq (R 46 [0, 2, 3, 5, 19, 20, 21, 26, 27, 28, 59] [.tmp 59 (.or (.va 8) (xb .neq (.op (.r (.lookup (.one .int) (.int .i64 0) false (.s 0) (.s 1))) (.cons (xld (xfa 8 (xnk
  (xld (xfa 8 (xnk (.va 0))))))) (xld (xfa 0 (.sl 6))))) (xi 0)))]) (.cond (.s 59) (.seq (R 60 [2] [.run (xst 3 (.sl 2) (xc3 85 (xi 31) (xb .add (xi 5) (.va 3)) (.va
  5)))]) .ret) .skip))))) (R 64 [0, 2, 3, 19, 20, 21, 26, 27, 28] [.set 28 (xb .add (.sl 28) (xi 1))]))))))))) (R 65 [0, 2, 19, 20, 21] [.set 21 (xb .add (.sl 21) (xi 1))])))))))
  (.seq (R 66 [2] [.run (xst 3 (.sl 2) (.op (.p (.build [.int .i64 0, .int .i64 0, .int .i64 0] [])) .nil))]) .ret)))
theorem fn_tables_check_froms : (autoPrg Tryd.prog).fn 62 = some LF_tables_check_froms := by kernel_rfl
def LF_tables_check_tos : LFunc :=
  .mk 1 [.cell 2 (some 3)] (.seq (R 2 [0, 2] [.tmp 2 (xnl 2 [.int .i64 0, .int .i64 0, .int .i64 0])]) (.seq (R 13 [0, 2] [.tmp 16 (xld (xfa 8 (xnk (.va 0)))), .tmp 21 (xld (xfa 6
  (xfa 0 (xnk (.va 0))))), .run (xst 1 (xfa 6 (xfa 0 (xnk (.sl 16)))) (.sl 21))]) (.seq (.seq (R 25 [0, 2, 29, 30, 31] [.tmp 29 (xld (xfa 4 (xfa 0 (xnk (.va 0))))), .tmp 30 (xlen
  (.sl 29)), .set 31 (xi 0)]) (.block 0 (.loop (.seq (R 32 [0, 2, 29, 30, 31, 32] [.tmp 32 (xb .lss (.sl 31) (.sl 30))]) (.seq (.cond (.s 32) .skip (.exit 0)) (.seq (.block 1 (.seq
  (R 33 [0, 2, 3, 4, 29, 30, 31] [.tmp 33 (.va 31), .tmp 35 (xln 2 (xia 2 (.sl 29) (.sl 31))), .at 4, .tmp 4 (xnl 4 [.int .i32 0, .string ⟨#[]⟩]), .set 3 (.sl 33), .run (xst 2 (.sl
  4) (.sl 35))]) (.seq (R 36 [0, 2, 3, 29, 30, 31, 38] [.tmp 38 (.op (.e (.rngS 38 (.s 0))) (xld (xfa 1 (.sl 4))))]) (.block 2 (.loop (.seq (R 39 [0, 2, 3, 29, 30, 31, 38, 39, 40]
  [.tmp 39 (.op (.e (.nxtS (.s 0))) (.sl 38)), .tmp 40 (xex 0 (.sl 39))]) (.seq (.cond (.s 40) .skip (.exit 2)) (.block 3 (.seq (R 41 [0, 2, 3, 6, 29, 30, 31, 38] [.set 6 (xex 2
  (.sl 39))]) (.seq (R 42 [0, 2, 3, 29, 30, 31, 38, 48] [.tmp 48 (xu .not (xc2 93 (xld (xfa 8 (xnk (.va 0)))) (.va 6)))]) (.cond (.s 48) (.seq (R 49 [2] [.run
  (xst 3 (.sl 2) (xc3 85 (xi 35) (xi 5) (.va 3)))]) .ret) .skip))))))))))) (R 51 [0, 2, 29, 30, 31] [.set 31 (xb .add (.sl 31) (xi 1))]))))))) (.seq (.seq (R 52 [0, 2,
  56, 57, 58] [.tmp 56 (xld (xfa 5 (xfa 0 (xnk (.va 0))))), .tmp 57 (xlen (.sl 56)), .set 58 (xi 0)]) (.block 4 (.loop (.seq (R 59 [0, 2, 56, 57, 58, 59] [.tmp 59 (xb .lss (.sl 58)
  (.sl 57))]) (.seq (.cond (.s 59) .skip (.exit 4)) (.seq (.block 5 (.seq (R 60 [0, 2, 7, 8, 56, 57, 58] [.tmp 60 (.va 58), .tmp 62 (xln 2 (xia 2 (.sl 56) (.sl 58))), .at 8, .tmp 8
  (xnl 8 [.int .i32 0, .string ⟨#[]⟩]), .set 7 (.sl 60), .run (xst 2 (.sl 8) (.sl 62))]) (.seq (R 63 [0, 2, 7, 56, 57, 58, 65] [.tmp 65 (.op (.e (.rngS 65 (.s 0))) (xld (xfa 1 (.sl
  8))))]) (.block 6 (.loop (.seq (R 66 [0, 2, 7, 56, 57, 58, 65, 66, 67] [.tmp 66 (.op (.e (.nxtS (.s 0))) (.sl 65)), .tmp 67 (xex 0 (.sl 66))]) (.seq (.cond (.s 67) .skip (.exit
  6)) (.block 7 (.seq (R 68 [0, 2, 7, 10, 56, 57, 58, 65] [.set 10 (xex 2 (.sl 66))]) (.seq (R 70 [0, 2, 7, 10, 12, 56, 57, 58, 65] [.set 69 (.op (.r (.lookup (.one .int) (.string
  ⟨#[]⟩) true (.s 0) (.s 1))) (.cons (xld (xfa 12 (xnk (xld (xfa 8 (xnk (.va 0))))))) (.va 10))), .tmp 79 (xex 0 (.sl 69)), .tmp 80 (xex 1 (.sl 69)), .set 11 (.sl 79), .set 12 (.sl
  80)]) (.seq (R 81 [0, 2, 7, 56, 57, 58, 65, 90] [.tmp 90 (.or (.va 12) (xu .not (xc2 93 (xld (xfa 8 (xnk (.va 0)))) (.va 10))))]) (.cond (.s 90) (.seq (R 91
  [2] [.run (xst 3 (.sl 2) (xc3 85 (xi 36) (xi 6) (.va 7)))]) .ret) .skip)))))))))))) (R 93 [0, 2, 56, 57, 58] [.set 58 (xb .add (.sl 58) (xi 1))]))))))) (.seq (R 94
  [2] [.run (xst 3 (.sl 2) (.op (.p (.build [.int .i64 0, .int .i64 0, .int .i64 0] [])) .nil))]) .ret)))))
theorem fn_tables_check_tos : (autoPrg Tryd.prog).fn 63 = some LF_tables_check_tos := by kernel_rfl
def LF_tables_check_house : LFunc :=
  .mk 1 [.cell 2 (some 3)] (.seq (R 2 [0, 2] [.tmp 2 (xnl 2 [.int .i64 0, .int .i64 0, .int .i64 0])]) (.seq (.seq (R 20 [0, 2, 20] [.tmp 20 (.op (.e (.rngS 20 (.s 0))) (.cv
  (.string ⟨#[45, 46, 48, 49, 50, 51, 52, 53, 54, 55, 56, 57]⟩)))]) (.block 0 (.loop (.seq (R 21 [0, 2, 20, 21, 22] [.tmp 21 (.op (.e (.nxtS (.s 0))) (.sl 20)), .tmp 22 (xex 0 (.sl
  21))]) (.seq (.cond (.s 22) .skip (.exit 0)) (.block 1 (.seq (R 23 [0, 2, 4, 20] [.set 4 (xex 2 (.sl 21))]) (.seq (R 24 [0, 2, 20, 31] [.tmp 31 (xu .not (xc2 92 (.va 4)
  (xld (xfa 1 (xfa 0 (xnk (.va 0)))))))]) (.cond (.s 31) (.seq (R 32 [2] [.run (xst 3 (.sl 2) (xc3 85 (xi 5) (xi 2) (xi 0)))]) .ret) .skip))))))))) (.seq (.seq (R 33
  [0, 2, 37, 38, 39] [.tmp 37 (xld (xfa 2 (xfa 0 (xnk (.va 0))))), .tmp 38 (xlen (.sl 37)), .set 39 (xi 0)]) (.block 2 (.loop (.seq (R 40 [0, 2, 37, 38, 39, 40] [.tmp 40 (xb .lss
  (.sl 39) (.sl 38))]) (.seq (.cond (.s 40) .skip (.exit 2)) (.seq (.block 3 (.seq (R 41 [0, 2, 5, 6, 37, 38, 39] [.tmp 41 (.va 39), .tmp 43 (xln 2 (xia 2 (.sl 37) (.sl 39))), .at
  6, .tmp 6 (xnl 6 [.int .i32 0, .int .i64 0]), .set 5 (.sl 41), .run (xst 2 (.sl 6) (.sl 43))]) (.seq (R 44 [0, 2, 5, 37, 38, 39, 46] [.tmp 46 (xc1 94 (xld (xfa 0 (.sl
  6))))]) (.cond (.s 46) (.seq (R 47 [2] [.run (xst 3 (.sl 2) (xc3 85 (xi 5) (xi 3) (.va 5)))]) .ret) .skip)))) (R 49 [0, 2, 37, 38, 39] [.set 39 (xb .add (.sl 39) (xi
  1))]))))))) (.seq (.seq (R 50 [0, 2, 54, 55, 56] [.tmp 54 (xld (xfa 3 (xfa 0 (xnk (.va 0))))), .tmp 55 (xlen (.sl 54)), .set 56 (xi 0)]) (.block 4 (.loop (.seq (R 57 [0, 2, 54,
  55, 56, 57] [.tmp 57 (xb .lss (.sl 56) (.sl 55))]) (.seq (.cond (.s 57) .skip (.exit 4)) (.seq (.block 5 (.seq (R 58 [0, 2, 7, 8, 54, 55, 56] [.tmp 58 (.va 56), .tmp 60 (xln 3
  (xia 3 (.sl 54) (.sl 56))), .at 8, .tmp 8 (xnl 8 [.int .i32 0, .int .i32 0, .int .i32 0]), .set 7 (.sl 58), .run (xst 3 (.sl 8) (.sl 60))]) (.seq (R 61 [0, 2, 7, 54, 55, 56, 63]
  [.tmp 63 (xc1 94 (xld (xfa 0 (.sl 8))))]) (.cond (.s 63) (.seq (R 64 [2] [.run (xst 3 (.sl 2) (xc3 85 (xi 5) (xi 4) (.va 7)))]) .ret) .skip)))) (R 66 [0,
  2, 54, 55, 56] [.set 56 (xb .add (.sl 56) (xi 1))]))))))) (.seq (.seq (R 67 [0, 2, 71, 72, 73] [.tmp 71 (xld (xfa 4 (xfa 0 (xnk (.va 0))))), .tmp 72 (xlen (.sl 71)), .set 73 (xi
  0)]) (.block 6 (.loop (.seq (R 74 [0, 2, 71, 72, 73, 74] [.tmp 74 (xb .lss (.sl 73) (.sl 72))]) (.seq (.cond (.s 74) .skip (.exit 6)) (.seq (.block 7 (.seq (R 75 [0, 2, 9, 10, 71,
  72, 73] [.tmp 75 (.va 73), .tmp 77 (xln 2 (xia 2 (.sl 71) (.sl 73))), .at 10, .tmp 10 (xnl 10 [.int .i32 0, .string ⟨#[]⟩]), .set 9 (.sl 75), .run (xst 2 (.sl 10) (.sl 77))])
  (.seq (R 78 [0, 2, 9, 71, 72, 73, 95] [.tmp 95 (.or (.and (xc1 94 (xld (xfa 0 (.sl 10)))) (.or (xb .lss (xld (xfa 0 (.sl 10))) (xr 65)) (xb .gtr (xld (xfa 0 (.sl 10)))
  (xr 90)))) (xc2 95 (xld (xfa 1 (.sl 10))) (.cv (.func (.func 96) (Array.mk []) (Array.mk [])))))]) (.cond (.s 95) (.seq (R 96 [2] [.run (xst 3
  (.sl 2) (xc3 85 (xi 5) (xi 5) (.va 9)))]) .ret) .skip)))) (R 98 [0, 2, 71, 72, 73] [.set 73 (xb .add (.sl 73) (xi 1))]))))))) (.seq (.seq (R 99 [0, 2, 103, 104, 105]
  [.tmp 103 (xld (xfa 5 (xfa 0 (xnk (.va 0))))), .tmp 104 (xlen (.sl 103)), .set 105 (xi 0)]) (.block 8 (.loop (.seq (R 106 [0, 2, 103, 104, 105, 106] [.tmp 106 (xb .lss (.sl 105)
  (.sl 104))]) (.seq (.cond (.s 106) .skip (.exit 8)) (.seq (.block 9 (.seq (R 107 [0, 2, 11, 12, 103, 104, 105] [.tmp 107 (.va 105), .tmp 109 (xln 2 (xia 2 (.sl 103) (.sl 105))),
  .at 12, .tmp 12 (xnl 12 [.int .i32 0, .string ⟨#[]⟩]), .set 11 (.sl 107), .run (xst 2 (.sl 12) (.sl 109))]) (.seq (R 110 [0, 2, 11, 103, 104, 105, 117] [.tmp 117 (.or (xc1
  96 (xld (xfa 0 (.sl 12)))) (xc2 95 (xld (xfa 1 (.sl 12))) (.cv (.func (.func 96) (Array.mk []) (Array.mk [])))))]) (.cond (.s
  117) (.seq (R 118 [2] [.run (xst 3 (.sl 2) (xc3 85 (xi 5) (xi 6) (.va 11)))]) .ret) .skip)))) (R 120 [0, 2, 103, 104, 105] [.set 105 (xb .add (.sl 105) (xi
  1))]))))))) (.seq (.seq (R 121 [0, 2, 125, 126, 127] [.tmp 125 (xld (xfa 6 (xfa 0 (xnk (.va 0))))), .tmp 126 (xlen (.sl 125)), .set 127 (xi 0)]) (.block 10 (.loop (.seq (R 128 [0,
  2, 125, 126, 127, 128] [.tmp 128 (xb .lss (.sl 127) (.sl 126))]) (.seq (.cond (.s 128) .skip (.exit 10)) (.seq (.block 11 (.seq (R 129 [0, 2, 13, 14, 125, 126, 127] [.tmp 129 (.va
  127), .tmp 131 (xln 2 (xia 2 (.sl 125) (.sl 127))), .at 14, .tmp 14 (xnl 14 [.int .i32 0, .int .i32 0]), .set 13 (.sl 129), .run (xst 2 (.sl 14) (.sl 131))]) (.seq (R 132 [0, 2,
  13, 125, 126, 127, 144] [.tmp 144 (.or (xb .lss (xld (xfa 0 (.sl 14))) (xr 128)) (.and (xb .leq (xld (xfa 0 (.sl 14))) (xr 65533)) (xb .geq (xld (xfa 1 (.sl 14))) (xr 65533))))])
  (.cond (.s 144) (.seq (R 145 [2] [.run (xst 3 (.sl 2) (xc3 85 (xi 5) (xi 7) (.va 13)))]) .ret) .skip)))) (R 147 [0, 2, 125, 126, 127] [.set 127 (xb .add (.sl 127)
  (xi 1))]))))))) (.seq (.seq (R 148 [0, 2, 152, 153, 154] [.tmp 152 (xld (xfa 7 (xfa 0 (xnk (.va 0))))), .tmp 153 (xlen (.sl 152)), .set 154 (xi 0)]) (.block 12 (.loop (.seq (R 155
  [0, 2, 152, 153, 154, 155] [.tmp 155 (xb .lss (.sl 154) (.sl 153))]) (.seq (.cond (.s 155) .skip (.exit 12)) (.seq (.block 13 (.seq (R 156 [0, 2, 15, 16, 152, 153, 154] [.tmp 156
  (.va 154), .tmp 158 (xln 2 (xia 2 (.sl 152) (.sl 154))), .at 16, .tmp 16 (xnl 16 [.int .i32 0, .int .i32 0]), .set 15 (.sl 156), .run (xst 2 (.sl 16) (.sl 158))]) (.seq (R 159 [0,
  2, 15, 16, 17, 152, 153, 154] [.set 17 (xld (xfa 0 (.sl 16)))]) (.block 14 (.loop (.seq (.seq (R 161 [0, 2, 15, 16, 17, 152, 153, 154, 165] [.tmp 165 (xb .leq (.va 17) (.op (.p
  (.mm false [.s 0, .s 1])) (.cons (xld (xfa 1 (.sl 16))) (xr 127))))]) (.cond (.s 165) .skip (.exit 14))) (.seq (.block 15 (.seq (R 168 [0, 2, 15, 16, 17, 152, 153, 154, 170] [.tmp
  170 (xu .not (xc2 97 (.cv (.string ⟨#[45, 48, 49, 50, 51, 52, 53, 54, 55, 56, 57, 97, 98, 99, 100, 101, 102, 103, 104, 105, 106, 107, 108, 109, 110, 111,
  112, 113, 114, 115, 116, 117, 118, 119, 120, 121, 122]⟩)) (.va 17)))]) (.cond (.s 170) (.seq (R 171 [2] [.run (xst 3 (.sl 2) (xc3 85 (xi 5) (xi 8) (.va 15)))]) .ret)
  .skip))) (R 166 [0, 2, 15, 16, 17, 152, 153, 154] [.set 17 (xb .add (.va 17) (xr 1))])))))))) (R 173 [0, 2, 152, 153, 154] [.set 154 (xb .add (.sl 154) (xi 1))]))))))) (.seq (.seq
  (R 174 [0, 2, 174] [.tmp 174 (.op (.e (.rngS 174 (.s 0))) (.cv (.string ⟨#[45, 48, 49, 50, 51, 52, 53, 54, 55, 56, 57, 97, 98, 99, 100, 101, 102, 103, 104, 105, 106, 107, 108,
  109, 110, 111, 112, 113, 114, 115, 116, 117, 118, 119, 120, 121, 122]⟩)))]) (.block 16 (.loop (.seq (R 175 [0, 2, 174, 175, 176] [.tmp 175 (.op (.e (.nxtS (.s 0))) (.sl 174)),
  .tmp 176 (xex 0 (.sl 175))]) (.seq (.cond (.s 176) .skip (.exit 16)) (.block 17 (.seq (R 177 [0, 2, 19, 174] [.set 19 (xex 2 (.sl 175))]) (.seq (R 178 [0, 2, 174, 185] [.tmp 185
  (xu .not (xc2 92 (.va 19) (xld (xfa 7 (xfa 0 (xnk (.va 0)))))))]) (.cond (.s 185) (.seq (R 186 [2] [.run (xst 3 (.sl 2) (xc3 85 (xi 5) (xi 8) (xi 0)))])
  .ret) .skip))))))))) (.seq (R 187 [2] [.run (xst 3 (.sl 2) (.op (.p (.build [.int .i64 0, .int .i64 0, .int .i64 0] [])) .nil))]) .ret))))))))))
theorem fn_tables_check_house : (autoPrg Tryd.prog).fn 64 = some LF_tables_check_house := by kernel_rfl
def LF_tables_copied : LFunc :=
  .mk 1 [.cell 2 (some 8)] (.seq (R 1 [1, 2] [.tmp 1 (xbl 1 8 (.sl 0)), .tmp 2 (xnl 2 [.slice none 0 0, .slice none 0 0, .slice none 0 0, .slice none 0 0, .slice none 0 0, .slice
  none 0 0, .slice none 0 0, .slice none 0 0])]) (.seq (R 5 [1, 2, 3] [.set 3 (xc1 98 (xc1 99 (xld (xfa
  0 (.sl 1)))))]) (.seq (.seq (R 9 [1, 2, 3, 10, 11] [.tmp 10 (xlen (.va 3)), .set 11 (xi 0)]) (.block 0 (.loop (.seq (R 12 [1, 2, 3, 10, 11, 12] [.tmp 12 (xb .lss (.sl 11) (.sl
  10))]) (.seq (.cond (.s 12) .skip (.exit 0)) (.seq (.block 1 (.seq (R 13 [1, 2, 3, 4, 10, 11] [.set 4 (.va 11)]) (R 14 [1, 2, 3, 10, 11] [.tmp 14 (.va 3), .tmp 15 (.va 4), .tmp 22
  (xc1 100 (xc1 101 (xld (xfa 1 (xia 2 (.va 3) (.va 4)))))), .run (xst 1 (xfa 1 (xia 2 (.sl 14) (.sl 15))) (.sl
  22))]))) (R 25 [1, 2, 3, 10, 11] [.set 11 (xb .add (.sl 11) (xi 1))]))))))) (.seq (.region [.mk (some 26) (.p (.mv (.s 3))) none, .mk (some 27) (.p (.faddr 1 (.s 1))) none, .mk
  (some 28) (.r (.load none (.s 27))) none, .mk (some 29) (.e (.call 101 [.s 28])) none, .mk (some 30) (.e (.call
  100 [.s 29])) none, .mk (some 31) (.p (.faddr 2 (.s 1))) none, .mk (some 32) (.r (.load none (.s 31))) none, .mk (some 33) (.e (.call
  103 [.s 32])) none, .mk (some 34) (.e (.call 102 [.s 33])) none, .mk (some 35) (.p (.faddr 3 (.s 1))) none, .mk
  (some 36) (.r (.load none (.s 35))) none, .mk (some 37) (.e (.call 105 [.s 36])) none, .mk (some 38) (.e (.call
  104 [.s 37])) none, .mk (some 39) (.p (.faddr 4 (.s 1))) none, .mk (some 40) (.r (.load none (.s 39))) none, .mk (some 41) (.e (.call
  107 [.s 40])) none, .mk (some 42) (.e (.call 106 [.s 41])) none, .mk (some 43) (.p (.faddr 5 (.s 1))) none, .mk
  (some 44) (.r (.load none (.s 43))) none, .mk (some 45) (.e (.call 107 [.s 44])) none, .mk (some 46) (.e (.call 106
  [.s 45])) none, .mk (some 47) (.p (.faddr 6 (.s 1))) none, .mk (some 48) (.r (.load none (.s 47))) none, .mk (some 49) (.e (.call 101 [.s 48]))
  none, .mk (some 50) (.e (.call 100 [.s 49])) none, .mk (some 51) (.p (.faddr 7 (.s 1))) none, .mk (some 52) (.r (.load none (.s 51))) none, .mk
  (some 53) (.e (.call 101 [.s 52])) none, .mk (some 54) (.e (.call 100 [.s 53])) none, .mk (some 55) (.p (.build
  [.slice none 0 0, .slice none 0 0, .slice none 0 0, .slice none 0 0, .slice none 0 0, .slice none 0 0, .slice none 0 0, .slice none 0 0] [(0, 1, .s 26), (1, 1, .s 30), (2, 1, .s
  34), (3, 1, .s 38), (4, 1, .s 42), (5, 1, .s 46), (6, 1, .s 50), (7, 1, .s 54)])) none, .mk none (.e (.store 8 (.s 2) (.s 55))) none] [2] [(6, 0), (6, 4), (10, 0), (10, 4), (10,
  5), (10, 8), (14, 0), (14, 4), (14, 5), (14, 8), (14, 9), (14, 12), (18, 0), (18, 4), (18, 5), (18, 8), (18, 9), (18, 12), (18, 13), (18, 16), (22, 0), (22, 4), (22, 5), (22, 8),
  (22, 9), (22, 12), (22, 13), (22, 16), (22, 17), (22, 20), (26, 0), (26, 4), (26, 5), (26, 8), (26, 9), (26, 12), (26, 13), (26, 16), (26, 17), (26, 20), (26, 21), (26, 24)])
  .ret))))
theorem fn_tables_copied : (autoPrg Tryd.prog).fn 65 = some LF_tables_copied := by kernel_rfl
def LF_tables_check_drops_1 : LFunc :=
  .mk 2 [.tmp 3] (.seq (R 999 [0, 1] [.set 3 (.cv (.bool false))]) (.seq (.seq (R 6 [1, 6, 7, 8] [.tmp 6 (.va 0), .tmp 7 (xlen (.sl 6)), .set 8 (xi 0)]) (.block 0 (.loop (.seq (R 9
  [1, 6, 7, 8, 9] [.tmp 9 (xb .lss (.sl 8) (.sl 7))]) (.seq (.cond (.s 9) .skip (.exit 0)) (.seq (.block 1 (.seq (R 10 [1, 5, 6, 7, 8] [.set 5 (xld (xia 1 (.sl 6) (.sl 8)))]) (.seq
  (R 12 [1, 6, 7, 8, 18] [.tmp 18 (xc2 92 (.va 5) (xld (xfa 6 (xfa 0 (xnk (xld (.sl 1)))))))]) (.cond (.s 18) (.seq (R 999 [3] [.set 3 (.cv (.bool true))]) .ret)
  .skip)))) (R 19 [1, 6, 7, 8] [.set 8 (xb .add (.sl 8) (xi 1))]))))))) (.seq (R 999 [3] [.set 3 (.cv (.bool false))]) .ret)))
theorem fn_tables_check_drops_1 : (autoPrg Tryd.prog).fn 91 = some LF_tables_check_drops_1 := by kernel_rfl
def LF_tables_Book_Plain : LFunc :=
  .mk 2 [.tmp 4] (.seq (R 999 [0, 1] [.set 4 (.cv (.bool false))]) (.seq (R 10 [0, 1, 6] [.set 9 (.op (.r (.lookup (.one .int) (.agg (Array.mk [.int .i32 0, .int .i32 0])) true (.s
  0) (.s 1))) (.cons (xld (xfa 9 (xnk (.va 0)))) (.va 1))), .tmp 16 (xex 0 (.sl 9)), .tmp 17 (xex 1 (.sl 9)), .at 5, .run (xst 2 (xnl 5 [.int .i32 0, .int .i32 0]) (.sl 16)), .tmp 6
  (.va 17)]) (.seq (R 19 [0, 1, 6, 8] [.set 18 (.op (.r (.lookup (.one .int) (.string ⟨#[]⟩) true (.s 0) (.s 1))) (.cons (xld (xfa 11 (xnk (.va 0)))) (.va 1))), .tmp 25 (xex 0 (.sl
  18)), .tmp 26 (xex 1 (.sl 18)), .set 7 (.sl 25), .set 8 (.sl 26)]) (.seq (R 27 [4] [.set 4 (.and (.and (.and (.and (xc1 88 (.va 1)) (xb .eql (.op (.r (.lookup
  (.one .int) (.int .i64 0) false (.s 0) (.s 1))) (.cons (xld (xfa 8 (xnk (.va 0)))) (.va 1))) (xi 0))) (xu .not (.va 6))) (xu .not (.va 8))) (xu .not (xc2
  75 (.va 0) (.va 1))))]) .ret))))
theorem fn_tables_Book_Plain : (autoPrg Tryd.prog).fn 93 = some LF_tables_Book_Plain := by kernel_rfl
def LF_tables_Book_Dropped : LFunc :=
  .mk 2 [.tmp 4] (.seq (R 999 [0, 1] [.set 4 (.cv (.bool false))]) (.seq (R 5 [4] [.set 4 (xc2 92 (.va 1) (xld (xfa 6 (xfa 0 (xnk (.va 0))))))]) .ret))
theorem fn_tables_Book_Dropped : (autoPrg Tryd.prog).fn 75 = some LF_tables_Book_Dropped := by kernel_rfl
def LF_slices_Clip_api_Script_api_Script : LFunc :=
  .mk 1 [.tmp 2] (.seq (R 999 [0] [.set 2 (.cv (.slice none 0 0))]) (.seq (R 3 [2] [.set 2 (.op (.p (.sl 2 (.s 0) none (some (.s 1)) (some (.s 2)))) (.cons (.va 0) (.cons (xlen (.va
  0)) (xlen (.va 0)))))]) .ret))
theorem fn_slices_Clip_api_Script_api_Script : (autoPrg Tryd.prog).fn 98 = some LF_slices_Clip_api_Script_api_Script := by kernel_rfl
def LF_slices_Clone_api_Script_api_Script : LFunc :=
  .mk 1 [.tmp 2] (.seq (R 999 [0] [.set 2 (.cv (.slice none 0 0))]) (.seq (.seq (R 3 [0, 4] [.tmp 4 (.op (.p (.eqk false .sl (.s 0) (.s 1))) (.cons (.va 0) (.cv (.slice none 0
  0))))]) (.cond (.s 4) (.seq (R 999 [2] [.set 2 (.cv (.slice none 0 0))]) .ret) .skip)) (.seq (R 5 [2] [.set 2 (xap 2 40 (.op (.e (.litH 0 2 [] [])) .nil) (.va 0))]) .ret)))
theorem fn_slices_Clone_api_Script_api_Script : (autoPrg Tryd.prog).fn 99 = some LF_slices_Clone_api_Script_api_Script := by kernel_rfl
def LF_slices_Clip_api_Span_api_Span : LFunc :=
  .mk 1 [.tmp 2] (.seq (R 999 [0] [.set 2 (.cv (.slice none 0 0))]) (.seq (R 3 [2] [.set 2 (.op (.p (.sl 2 (.s 0) none (some (.s 1)) (some (.s 2)))) (.cons (.va 0) (.cons (xlen (.va
  0)) (xlen (.va 0)))))]) .ret))
theorem fn_slices_Clip_api_Span_api_Span : (autoPrg Tryd.prog).fn 100 = some LF_slices_Clip_api_Span_api_Span := by kernel_rfl
def LF_slices_Clone_api_Span_api_Span : LFunc :=
  .mk 1 [.tmp 2] (.seq (R 999 [0] [.set 2 (.cv (.slice none 0 0))]) (.seq (.seq (R 3 [0, 4] [.tmp 4 (.op (.p (.eqk false .sl (.s 0) (.s 1))) (.cons (.va 0) (.cv (.slice none 0
  0))))]) (.cond (.s 4) (.seq (R 999 [2] [.set 2 (.cv (.slice none 0 0))]) .ret) .skip)) (.seq (R 5 [2] [.set 2 (xap 2 8 (.op (.e (.litH 0 2 [] [])) .nil) (.va 0))]) .ret)))
theorem fn_slices_Clone_api_Span_api_Span : (autoPrg Tryd.prog).fn 101 = some LF_slices_Clone_api_Span_api_Span := by kernel_rfl
def LF_slices_Clone_api_Mark_api_Mark : LFunc :=
  .mk 1 [.tmp 2] (.seq (R 999 [0] [.set 2 (.cv (.slice none 0 0))]) (.seq (.seq (R 3 [0, 4] [.tmp 4 (.op (.p (.eqk false .sl (.s 0) (.s 1))) (.cons (.va 0) (.cv (.slice none 0
  0))))]) (.cond (.s 4) (.seq (R 999 [2] [.set 2 (.cv (.slice none 0 0))]) .ret) .skip)) (.seq (R 5 [2] [.set 2 (xap 2 16 (.op (.e (.litH 0 2 [] [])) .nil) (.va 0))]) .ret)))
theorem fn_slices_Clone_api_Mark_api_Mark : (autoPrg Tryd.prog).fn 103 = some LF_slices_Clone_api_Mark_api_Mark := by kernel_rfl
def LF_slices_Clip_api_Mark_api_Mark : LFunc :=
  .mk 1 [.tmp 2] (.seq (R 999 [0] [.set 2 (.cv (.slice none 0 0))]) (.seq (R 3 [2] [.set 2 (.op (.p (.sl 2 (.s 0) none (some (.s 1)) (some (.s 2)))) (.cons (.va 0) (.cons (xlen (.va
  0)) (xlen (.va 0)))))]) .ret))
theorem fn_slices_Clip_api_Mark_api_Mark : (autoPrg Tryd.prog).fn 102 = some LF_slices_Clip_api_Mark_api_Mark := by kernel_rfl
def LF_slices_Clone_api_Pair_api_Pair : LFunc :=
  .mk 1 [.tmp 2] (.seq (R 999 [0] [.set 2 (.cv (.slice none 0 0))]) (.seq (.seq (R 3 [0, 4] [.tmp 4 (.op (.p (.eqk false .sl (.s 0) (.s 1))) (.cons (.va 0) (.cv (.slice none 0
  0))))]) (.cond (.s 4) (.seq (R 999 [2] [.set 2 (.cv (.slice none 0 0))]) .ret) .skip)) (.seq (R 5 [2] [.set 2 (xap 3 12 (.op (.e (.litH 0 3 [] [])) .nil) (.va 0))]) .ret)))
theorem fn_slices_Clone_api_Pair_api_Pair : (autoPrg Tryd.prog).fn 105 = some LF_slices_Clone_api_Pair_api_Pair := by kernel_rfl
def LF_slices_Clip_api_Pair_api_Pair : LFunc :=
  .mk 1 [.tmp 2] (.seq (R 999 [0] [.set 2 (.cv (.slice none 0 0))]) (.seq (R 3 [2] [.set 2 (.op (.p (.sl 3 (.s 0) none (some (.s 1)) (some (.s 2)))) (.cons (.va 0) (.cons (xlen (.va
  0)) (xlen (.va 0)))))]) .ret))
theorem fn_slices_Clip_api_Pair_api_Pair : (autoPrg Tryd.prog).fn 104 = some LF_slices_Clip_api_Pair_api_Pair := by kernel_rfl
def LF_slices_Clone_api_Map_api_Map : LFunc :=
  .mk 1 [.tmp 2] (.seq (R 999 [0] [.set 2 (.cv (.slice none 0 0))]) (.seq (.seq (R 3 [0, 4] [.tmp 4 (.op (.p (.eqk false .sl (.s 0) (.s 1))) (.cons (.va 0) (.cv (.slice none 0
  0))))]) (.cond (.s 4) (.seq (R 999 [2] [.set 2 (.cv (.slice none 0 0))]) .ret) .skip)) (.seq (R 5 [2] [.set 2 (xap 2 24 (.op (.e (.litH 0 2 [] [])) .nil) (.va 0))]) .ret)))
theorem fn_slices_Clone_api_Map_api_Map : (autoPrg Tryd.prog).fn 107 = some LF_slices_Clone_api_Map_api_Map := by kernel_rfl
def LF_slices_Clip_api_Map_api_Map : LFunc :=
  .mk 1 [.tmp 2] (.seq (R 999 [0] [.set 2 (.cv (.slice none 0 0))]) (.seq (R 3 [2] [.set 2 (.op (.p (.sl 2 (.s 0) none (some (.s 1)) (some (.s 2)))) (.cons (.va 0) (.cons (xlen (.va
  0)) (xlen (.va 0)))))]) .ret))
theorem fn_slices_Clip_api_Map_api_Map : (autoPrg Tryd.prog).fn 106 = some LF_slices_Clip_api_Map_api_Map := by kernel_rfl
end Go.Proofs.YtblmakgjdenpfaaDoor.AM
namespace Go.Proofs.YtblmakgjdenpfaaDoor.AM
open Go
def bV (d : Value) (B : Nat) : List Value := [.slice none 0 0, .slice none 0 0, .slice none 0 0, .slice none 0 0, .slice none 0 0, .slice none 0 0, d, .slice none 0 0, .map (some B), .map (some (B + 1)), .map (some (B + 2)), .map (some (B + 3)), .map (some (B + 4))]
def cV (S : TS) (B : Nat) : List Value := [S.s0.val 2, S.s1.val 2, S.s2.val 2, S.s3.val 3, S.s4.val 2, S.s5.val 2, S.s6.val 2, S.s7.val 2, .pointer (some ⟨B + 5, 0, none⟩)]
def mvC (x : Int × Int) : Value := .int .i64 x.2
def mvP (x : Int × Int × Int) : Value := kP (x.2.1, x.2.2)
def mvJ (x : Int × Int × Int) : Value := .int .i32 x.1
def mvF (x : Int × ByteArray) : Value := .string x.2
structure MpAt (h : AH) (B : Nat) (Lm : List (Int × Int)) (Lp : List (Int × Int × Int)) (Lf Ll : List (Int × ByteArray)) : Prop where
  m1 : h.get B = some (.map (Lm.map fun x => (kI x.1, mvC x)))
  m2 : h.get (B + 1) = some (.map (Lp.map fun x => (kI x.1, mvP x)))
  m3 : h.get (B + 2) = some (.map (Lp.map fun x => (kP (x.2.1, x.2.2), mvJ x)))
  m4 : h.get (B + 3) = some (.map (Lf.map fun x => (kI x.1, mvF x)))
  m5 : h.get (B + 4) = some (.map (Ll.map fun x => (kI x.1, mvF x)))
structure CAt (h : AH) (B : Nat) (S : TS) (T : Tab) (d : Value) : Prop where
  n : B + 7 ≤ h.n
  c : h.get (B + 6) = some (.cells false (cV S B))
  b : h.get (B + 5) = some (.cells false (bV d B))
  o : ∃ h0 : AH, h0.n ≤ B ∧ Kp h0 h ∧ TabAt h0 S T
theorem CAt.t {h : AH} {B : Nat} {S : TS} {T : Tab} {d : Value} (c : CAt h B S T d) : TabAt h S T := let ⟨_, _, k, t⟩ := c.o; t.kp k
theorem MpAt.kp {h h' : AH} {B : Nat} {Lm Lp Lf Ll} (m : MpAt h B Lm Lp Lf Ll) (k : Kp h h') : MpAt h' B Lm Lp Lf Ll := ⟨k.get m.m1, k.get m.m2, k.get m.m3, k.get m.m4, k.get m.m5⟩
theorem CAt.kp {h h' : AH} {B : Nat} {S : TS} {T : Tab} {d : Value} (m : CAt h B S T d) (k : Kp h h') : CAt h' B S T d := ⟨Nat.le_trans m.n k.1, k.get m.c, k.get m.b, let ⟨h0, e, k0, t⟩ := m.o; ⟨h0, e, k0.trans k, t⟩⟩
def KpM (B : Nat) (h h' : AH) : Prop := h.n ≤ h'.n ∧ ∀ b, b < h.n → ¬ (B ≤ b ∧ b < B + 5) → h'.get b = h.get b
theorem Kp.m {B : Nat} {h h' : AH} (k : Kp h h') : KpM B h h' := ⟨k.1, fun b hb _ => k.2 b hb⟩
theorem KpM.trans {B : Nat} {a b c : AH} (k : KpM B a b) (k' : KpM B b c) : KpM B a c := ⟨Nat.le_trans k.1 k'.1, fun i hi hn => (k'.2 i (Nat.lt_of_lt_of_le hi k.1) hn).trans (k.2 i hi hn)⟩
theorem KpM.set {B m : Nat} {h : AH} (o : AObj) (h1 : B ≤ m) (h2 : m < B + 5) : KpM B h (h.set m o) := ⟨Nat.le_refl _, fun b _ hn => AH.get_set_ne _ (by omega)⟩
theorem CAt.kpm {h h' : AH} {B : Nat} {S : TS} {T : Tab} {d : Value} (m : CAt h B S T d) (k : KpM B h h') : CAt h' B S T d :=
  have hn := m.n
  ⟨Nat.le_trans m.n k.1, by rw [k.2 _ (by omega) (by omega)]; exact m.c, by rw [k.2 _ (by omega) (by omega)]; exact m.b, by
    obtain ⟨h0, e, k0, t⟩ := m.o
    exact ⟨h0, e, ⟨Nat.le_trans k0.1 k.1, fun b hb => by rw [k.2 b (by omega) (by omega)]; exact k0.2 b hb⟩, t⟩⟩
theorem U8T.kpm {h h' : AH} {B : Nat} (u : U8T h) (hB : 2 ≤ B) (hg : 0 < 2 ∧ 1 < 2) (k : KpM B h h') : U8T h' :=
  ⟨by rw [k.2 _ (AH.get_lt u.f) (by omega)]; exact u.f, by rw [k.2 _ (AH.get_lt u.a) (by omega)]; exact u.a⟩
def cP (B : Nat) : Value := .pointer (some ⟨B + 6, 0, none⟩)
set_option maxHeartbeats 1000000 in
theorem cLong {h : AH} {B : Nat} {S : TS} {T : Tab} {d : Value} (c : CAt h B S T d) : WpC PX 56 [cP B] h fun v h' => v = wrV (longW T) ∧ Kp h h' := by
  have t := c.t
  have hc := c.c
  have f := t.fits
  have n0 := f.n0
  have hz := f.n0s
  rw [← t.zs] at hz n0
  rw [List.length_map] at n0
  have s0 := t.r0.len
  have s1 := t.r1.len; have n1 := f.n1
  have s2 := t.r2.len; have n2 := f.n2
  have s3 := t.r3.len; have n3 := f.n3
  have s4 := t.r4.len; have n4 := f.n4
  have s5 := t.r5.len; have n5 := f.n5
  have s6 := t.r6.len; have n6 := f.n6
  have s7 := t.r7.len; have n7 := f.n7
  have e1 := fun a b c h => wrong_eq a b c h
  simp only [wrV] at e1
  refine wpc_fn (px_ext rfl) (px_fn fn_tables_check_long) rfl ?_
  unfold LF_tables_check_long
  simp only [argFr]
  unfold longW cP
  unfold cV at hc
  rw [← t.zs, scanL_map, List.length_map]
  (refine W_x (Aj hc (Aj s0 e1)) ?_; (repeat' first | apply Cj.mk | exact Nl.nl) <;> intros)
  · rw [if_pos (by omega)]
    exact ⟨rfl, Kp.refl h⟩
  rw [if_neg (by omega)]
  refine wp_scanF 21 S.z (fun i z => if 1024 < z.1.2.length then W 4 1 i else none) (by intro n; simp only [setF, push_cast, Nat.reduceEqDiff, ↓reduceIte, reduceCtorEq, Nat.reduceAdd, Nat.reduceMul, Nat.reduceLeDiff]; rfl) rfl (fun i hi hit => ?_) fun fin => ?_
  · have g1 := fun lc => rd_map (lc := lc) t.r0 hi
    have hm := List.getElem_mem hi
    have sz := (t.rz _ hm).len
    have nz := (hz _ (List.mem_map_of_mem hm)).1
    generalize S.z[i] = z at g1 hit sz nz
    unfold scrV at g1
    (refine W_x (Aj s0 (Aj g1 (Aj sz e1))) ?_; (repeat' first | apply Cj.mk | exact Nl.nl) <;> intros)
    · rw [hit _ (if_pos (by omega))]
      exact ⟨rfl, Kp.refl h⟩
    · exact ⟨if_neg (by omega), rfl, rfl, rfl⟩
  · rw [fin, Option.none_or]
    (refine W_x (Aj hc (Aj s0 (Aj s1 (Aj s2 (Aj s3 (Aj s4 (Aj s5 (Aj s6 s7)))))))) ?_; (repeat' first | apply Cj.mk | exact Nl.nl) <;> intros)
    refine wp_unroll ?_
    (refine W_x e1 ?_; (repeat' first | apply Cj.mk | exact Nl.nl) <;> intros)
    · exact ⟨by simp (disch := omega) only [if_pos, if_neg]; rfl, (Kp.refl h).push _⟩
    refine wp_unroll ?_
    (refine W_x e1 ?_; (repeat' first | apply Cj.mk | exact Nl.nl) <;> intros)
    · exact ⟨by simp (disch := omega) only [if_pos, if_neg]; rfl, (Kp.refl h).push _⟩
    refine wp_unroll ?_
    (refine W_x e1 ?_; (repeat' first | apply Cj.mk | exact Nl.nl) <;> intros)
    · exact ⟨by simp (disch := omega) only [if_pos, if_neg]; rfl, (Kp.refl h).push _⟩
    refine wp_unroll ?_
    (refine W_x e1 ?_; (repeat' first | apply Cj.mk | exact Nl.nl) <;> intros)
    · exact ⟨by simp (disch := omega) only [if_pos, if_neg]; rfl, (Kp.refl h).push _⟩
    refine wp_unroll ?_
    (refine W_x e1 ?_; (repeat' first | apply Cj.mk | exact Nl.nl) <;> intros)
    · exact ⟨by simp (disch := omega) only [if_pos, if_neg]; rfl, (Kp.refl h).push _⟩
    refine wp_unroll ?_
    (refine W_x e1 ?_; (repeat' first | apply Cj.mk | exact Nl.nl) <;> intros)
    · exact ⟨by simp (disch := omega) only [if_pos, if_neg]; rfl, (Kp.refl h).push _⟩
    refine wp_unroll ?_
    (refine W_x e1 ?_; (repeat' first | apply Cj.mk | exact Nl.nl) <;> intros)
    · exact ⟨by simp (disch := omega) only [if_pos, if_neg]; rfl, (Kp.refl h).push _⟩
    refine wp_unroll ?_
    (refine W_x trivial ?_; (repeat' first | apply Cj.mk | exact Nl.nl) <;> intros)
    exact ⟨by simp (disch := omega) only [if_pos, if_neg]; rfl, (Kp.refl h).push _⟩
end Go.Proofs.YtblmakgjdenpfaaDoor.AM
namespace Go.Proofs.YtblmakgjdenpfaaDoor.AM
open Go
theorem scrE_eq (x : Scr) : scrE x = if nameB x.1.data.toList = false then some 38 else (spansE x.2).map (·.1) := rfl
set_option maxHeartbeats 4000000 in
theorem cForms {h : AH} {B : Nat} {S : TS} {T : Tab} {d : Value} (c : CAt h B S T d) (u : U8T h) : WpC PX 57 [cP B] h fun v h' => v = wrV (formsW T) ∧ Kp h h' := by
  have t := c.t
  have hc := c.c
  have hcn := c.n
  have f := t.fits
  have n0 := f.n0
  have hz := f.n0s
  rw [← t.zs] at hz n0
  rw [List.length_map] at n0
  have s0 := t.r0.len
  have s2 := t.r2.len; have n2 := f.n2
  have s3 := t.r3.len; have n3 := f.n3
  have s4 := t.r4.len; have n4 := f.n4
  have s5 := t.r5.len; have n5 := f.n5
  have ew := fun a b c h => wrong_eq a b c h
  simp only [wrV] at ew
  have er := validRune_eq
  have e1 := setsRight_eq t.r1 f.n1
  have ev := fun (s : ByteArray) (h' : AH) (k : Kp h h') (hs : s.size < 100000000) => validString_eq s h' (u.kp k) hs
  have en := fun (s : ByteArray) (h' : AH) (hs : s.size < 100000000) => runeCount_eq s h' hs
  refine wpc_fn (px_ext rfl) (px_fn fn_tables_check_forms) rfl ?_
  unfold LF_tables_check_forms
  simp only [argFr]
  unfold formsW cP
  unfold cV at hc
  rw [← t.zs, scanL_map]
  (refine W_x (Aj hc (Aj s0 ew)) ?_; (repeat' first | apply Cj.mk | exact Nl.nl) <;> intros)
  refine wp_scanF 28 S.z (fun i z => (scrE z.1).map fun e => ((e, 1, (i : Int)) : W3)) (by intro n; simp only [setF, push_cast, Nat.reduceEqDiff, ↓reduceIte, reduceCtorEq, Nat.reduceAdd, Nat.reduceMul, Nat.reduceLeDiff]; rfl) rfl (fun i hi hit => ?_) fun fin => ?_
  · have g1 := fun lc => rd_map (lc := lc) t.r0 hi
    have hm := List.getElem_mem hi
    have rz := t.rz _ hm
    have nz := hz _ (List.mem_map_of_mem hm)
    generalize S.z[i] = z at g1 hit rz nz
    have e3 := fun h => name_eq z.1.1 h nz.2
    have e4 := setsRight_eq rz nz.1
    rw [scrE_eq] at hit ⊢
    have hp : ∀ e i', spansE z.1.2 = some (e, i') → e ≠ 0 := fun e i' he => by
      unfold spansE at he
      obtain ⟨j, hj, hw⟩ := scanL_some he
      cases hx : spanE z.1.2 j z.1.2[j] with
      | none => rw [hx] at hw; cases hw
      | some e' => rw [hx] at hw; injection hw with hw; injection hw with hw; subst hw; exact spanE_pos hx
    unfold scrV at g1
    generalize nameB z.1.1.data.toList = b at e3 hit
    cases b
    · rw [hit _ (by rw [if_pos rfl]; rfl)]
      (refine W_x (Aj s0 (Aj g1 (Aj e3 ew))) ?_; (repeat' first | apply Cj.mk | exact Nl.nl) <;> intros)
      exact ⟨rfl, Kp.refl h⟩
    · simp only [Bool.true_eq_false, if_false] at hit ⊢
      generalize spansE z.1.2 = o at e4 hit hp
      match o, e4, hp with
      | none, e4, _ =>
        simp only at e4
        (refine W_x (Aj s0 (Aj g1 (Aj e3 (Aj e4 ew)))) ?_; (repeat' first | apply Cj.mk | exact Nl.nl) <;> intros)
        exact ⟨rfl, rfl, rfl, rfl⟩
      | some (e, i'), e4, hp =>
        have := hp e i' rfl
        simp only at e4
        rw [hit _ rfl]
        (refine W_x (Aj s0 (Aj g1 (Aj e3 (Aj e4 ew)))) ?_; (repeat' first | apply Cj.mk | exact Nl.nl) <;> intros)
        exact ⟨rfl, Kp.refl h⟩
  rw [fin, Option.none_or]
  have hp : ∀ (l : List Span) e i', spansE l = some (e, i') → e ≠ 0 := fun l e i' he => by
    unfold spansE at he
    obtain ⟨j, hj, hw⟩ := scanL_some he
    cases hx : spanE l j l[j] with
    | none => rw [hx] at hw; cases hw
    | some e' => rw [hx] at hw; injection hw with hw; injection hw with hw; subst hw; exact spanE_pos hx
  have hp1 := hp T.common
  unfold spansW
  generalize spansE T.common = o at e1 hp1
  match o, e1, hp1 with
  | some (e, i'), e1, hp1 =>
    have := hp1 e i' rfl
    simp only at e1
    (refine W_x (Aj hc (Aj s0 (Aj e1 ew))) ?_; (repeat' first | apply Cj.mk | exact Nl.nl) <;> intros)
    exact ⟨rfl, Kp.refl h⟩
  | none, e1, hp1 =>
  simp only at e1
  rw [Option.map_none, Option.none_or]
  (refine W_x (Aj hc (Aj s0 (Aj s2 (Aj e1 ew)))) ?_; (repeat' first | apply Cj.mk | exact Nl.nl) <;> intros)
  refine wp_scanF 71 T.marks (fun i x => if runeI x.1 = false then W 12 3 i else if x.2 < 1 ∨ 254 < x.2 then W 30 3 i else none) (by intro n; simp only [setF, push_cast, Nat.reduceEqDiff, ↓reduceIte, reduceCtorEq, Nat.reduceAdd, Nat.reduceMul, Nat.reduceLeDiff]; rfl) rfl (fun i hi hit => ?_) fun fin => ?_
  · have g0 := fun lc => rd_map (lc := lc) t.r2 hi
    generalize T.marks[i] = x at g0 hit
    unfold markV at g0
    have e3 := er x.1
    generalize runeI x.1 = b at e3 hit
    cases b
    · rw [hit _ (if_pos rfl)]
      (refine W_x (Aj s2 (Aj g0 (Aj e3 ew))) ?_; (repeat' first | apply Cj.mk | exact Nl.nl) <;> intros)
      exact ⟨rfl, Kp.refl h⟩
    · simp only [Bool.true_eq_false, if_false] at hit ⊢
      (refine W_x (Aj s2 (Aj g0 (Aj e3 ew))) ?_; (repeat' first | apply Cj.mk | exact Nl.nl) <;> intros)
      · rw [hit _ (if_pos (by omega))]
        exact ⟨rfl, Kp.refl h⟩
      · rw [hit _ (if_pos (by omega))]
        exact ⟨rfl, Kp.refl h⟩
      · exact ⟨if_neg (by omega), rfl, rfl, rfl⟩
  rw [fin, Option.none_or]
  (refine W_x (Aj hc (Aj s2 s3)) ?_; (repeat' first | apply Cj.mk | exact Nl.nl) <;> intros)
  refine wp_scanF 101 T.pairs (fun i x => if runeI x.1 = false ∨ runeI x.2.1 = false ∨ runeI x.2.2 = false then W 12 4 i else none) (by intro n; simp only [setF, push_cast, Nat.reduceEqDiff, ↓reduceIte, reduceCtorEq, Nat.reduceAdd, Nat.reduceMul, Nat.reduceLeDiff]; rfl) rfl (fun i hi hit => ?_) fun fin => ?_
  · have g0 := fun lc => rd_map (lc := lc) t.r3 hi
    generalize T.pairs[i] = x at g0 hit
    unfold tripV at g0
    have e3 := er x.1
    have e4 := er x.2.1
    have e5 := er x.2.2
    generalize runeI x.1 = b1 at e3 hit
    generalize runeI x.2.1 = b2 at e4 hit
    generalize runeI x.2.2 = b3 at e5 hit
    cases b1
    · rw [hit _ (if_pos (.inl rfl))]
      (refine W_x (Aj s3 (Aj g0 (Aj e3 ew))) ?_; (repeat' first | apply Cj.mk | exact Nl.nl) <;> intros)
      exact ⟨rfl, Kp.refl h⟩
    cases b2
    · rw [hit _ (if_pos (.inr (.inl rfl)))]
      (refine W_x (Aj s3 (Aj g0 (Aj e3 (Aj e4 ew)))) ?_; (repeat' first | apply Cj.mk | exact Nl.nl) <;> intros)
      exact ⟨rfl, Kp.refl h⟩
    cases b3
    · rw [hit _ (if_pos (.inr (.inr rfl)))]
      (refine W_x (Aj s3 (Aj g0 (Aj e3 (Aj e4 (Aj e5 ew))))) ?_; (repeat' first | apply Cj.mk | exact Nl.nl) <;> intros)
      exact ⟨rfl, Kp.refl h⟩
    · (refine W_x (Aj s3 (Aj g0 (Aj e3 (Aj e4 e5)))) ?_; (repeat' first | apply Cj.mk | exact Nl.nl) <;> intros)
      exact ⟨if_neg (by simp), rfl, rfl, rfl⟩
  rw [fin, Option.none_or]
  have k1 : Kp h (h.push (.cells false [S.s4.val 2, S.s5.val 2])) := (Kp.refl h).push _
  have t1 := t.kp k1
  (refine W_x (Aj hc s3) ?_; (repeat' first | apply Cj.mk | exact Nl.nl) <;> intros)
  refine wp_unroll ?_
  (refine W_x s4 ?_; (repeat' first | apply Cj.mk | exact Nl.nl) <;> intros)
  refine wp_scanF 144 T.folds (fun i x => if runeI x.1 = false then W 12 5 i else if toBad x.2 then W 35 5 i else none) (by intro n; simp only [setF, push_cast, Nat.reduceEqDiff, ↓reduceIte, reduceCtorEq, Nat.reduceAdd, Nat.reduceMul, Nat.reduceLeDiff]; rfl) rfl (fun i hi hit => ?_) fun fin => ?_
  · have g0 := fun lc => rd_map (lc := lc) t1.r4 hi
    have hx := f.v4 _ (List.getElem_mem hi)
    generalize T.folds[i] = x at g0 hit hx
    unfold mapV at g0
    have e3 := er x.1
    have e4 := fun h' => en x.2 h' hx.2
    have e5 := ev x.2 _ k1 hx.2
    have hsl := spots_len x.2.data.toList
    have hxs : x.2.data.toList.length = x.2.size := rfl
    have hb : toBad x.2 ↔ validB x.2.data.toList = false ∨ (spots x.2.data.toList).length < 1 ∨ 4 < (spots x.2.data.toList).length := by
      unfold toBad runesB
      rw [List.length_map]
    generalize runeI x.1 = b at e3 hit
    cases b
    · rw [show mapsW T.folds 5 = _ from hit _ (if_pos rfl)]
      (refine W_x (Aj s4 (Aj g0 (Aj e3 (Aj e4 ew)))) ?_; (repeat' first | apply Cj.mk | exact Nl.nl) <;> intros)
      exact ⟨rfl, k1⟩
    · simp only [Bool.true_eq_false, if_false] at hit ⊢
      generalize validB x.2.data.toList = b2 at e5 hb
      generalize (spots x.2.data.toList).length = ln at e4 hb hsl
      cases b2
      · rw [show mapsW T.folds 5 = _ from hit _ (if_pos (hb.2 (.inl rfl)))]
        (refine W_x (Aj s4 (Aj g0 (Aj e3 (Aj e4 (Aj e5 ew))))) ?_; (repeat' first | apply Cj.mk | exact Nl.nl) <;> intros)
        exact ⟨rfl, k1⟩
      · (refine W_x (Aj s4 (Aj g0 (Aj e3 (Aj e4 (Aj e5 ew))))) ?_; (repeat' first | apply Cj.mk | exact Nl.nl) <;> intros)
        · rw [show mapsW T.folds 5 = _ from hit _ (if_pos (hb.2 (.inr (by omega))))]
          exact ⟨rfl, k1⟩
        · rw [show mapsW T.folds 5 = _ from hit _ (if_pos (hb.2 (.inr (by omega))))]
          exact ⟨rfl, k1⟩
        · exact ⟨if_neg (fun q => (hb.1 q).elim (by simp) (fun q => by omega)), rfl, rfl, rfl⟩
  have fin : mapsW T.folds 5 = none := fin
  rw [fin, Option.none_or]
  (refine W_x s4 ?_; (repeat' first | apply Cj.mk | exact Nl.nl) <;> intros)
  refine wp_unroll ?_
  (refine W_x s5 ?_; (repeat' first | apply Cj.mk | exact Nl.nl) <;> intros)
  refine wp_scanF 144 T.looks (fun i x => if runeI x.1 = false then W 12 6 i else if toBad x.2 then W 35 6 i else none) (by intro n; simp only [setF, push_cast, Nat.reduceEqDiff, ↓reduceIte, reduceCtorEq, Nat.reduceAdd, Nat.reduceMul, Nat.reduceLeDiff]; rfl) rfl (fun i hi hit => ?_) fun fin => ?_
  · have g0 := fun lc => rd_map (lc := lc) t1.r5 hi
    have hx := f.v5 _ (List.getElem_mem hi)
    generalize T.looks[i] = x at g0 hit hx
    unfold mapV at g0
    have e3 := er x.1
    have e4 := fun h' => en x.2 h' hx.2
    have e5 := ev x.2 _ k1 hx.2
    have hsl := spots_len x.2.data.toList
    have hxs : x.2.data.toList.length = x.2.size := rfl
    have hb : toBad x.2 ↔ validB x.2.data.toList = false ∨ (spots x.2.data.toList).length < 1 ∨ 4 < (spots x.2.data.toList).length := by
      unfold toBad runesB
      rw [List.length_map]
    generalize runeI x.1 = b at e3 hit
    cases b
    · rw [show mapsW T.looks 6 = _ from hit _ (if_pos rfl)]
      (refine W_x (Aj s5 (Aj g0 (Aj e3 (Aj e4 ew)))) ?_; (repeat' first | apply Cj.mk | exact Nl.nl) <;> intros)
      exact ⟨rfl, k1⟩
    · simp only [Bool.true_eq_false, if_false] at hit ⊢
      generalize validB x.2.data.toList = b2 at e5 hb
      generalize (spots x.2.data.toList).length = ln at e4 hb hsl
      cases b2
      · rw [show mapsW T.looks 6 = _ from hit _ (if_pos (hb.2 (.inl rfl)))]
        (refine W_x (Aj s5 (Aj g0 (Aj e3 (Aj e4 (Aj e5 ew))))) ?_; (repeat' first | apply Cj.mk | exact Nl.nl) <;> intros)
        exact ⟨rfl, k1⟩
      · (refine W_x (Aj s5 (Aj g0 (Aj e3 (Aj e4 (Aj e5 ew))))) ?_; (repeat' first | apply Cj.mk | exact Nl.nl) <;> intros)
        · rw [show mapsW T.looks 6 = _ from hit _ (if_pos (hb.2 (.inr (by omega))))]
          exact ⟨rfl, k1⟩
        · rw [show mapsW T.looks 6 = _ from hit _ (if_pos (hb.2 (.inr (by omega))))]
          exact ⟨rfl, k1⟩
        · exact ⟨if_neg (fun q => (hb.1 q).elim (by simp) (fun q => by omega)), rfl, rfl, rfl⟩
  have fin : mapsW T.looks 6 = none := fin
  rw [fin, Option.none_or]
  (refine W_x s5 ?_; (repeat' first | apply Cj.mk | exact Nl.nl) <;> intros)
  refine wp_unroll ?_
  (refine W_x trivial ?_; (repeat' first | apply Cj.mk | exact Nl.nl) <;> intros)
  have k2 := k1.push (.cells false [S.s6.val 2, S.s7.val 2])
  have t2 := t.kp k2
  have e1 := setsRight_eq t2.r6 f.n6
  have e2 := setsRight_eq t2.r7 f.n7
  have hc2 := k1.get c.c
  unfold cV at hc2
  (refine W_x hc2 ?_; (repeat' first | apply Cj.mk | exact Nl.nl) <;> intros)
  refine wp_unroll ?_
  have hp1 := hp T.drops
  generalize spansE T.drops = o at e1 hp1
  match o, e1, hp1 with
  | some (e, i'), e1, hp1 =>
    have := hp1 e i' rfl
    simp only at e1
    (refine W_x (Aj e1 ew) ?_; (repeat' first | apply Cj.mk | exact Nl.nl) <;> intros)
    exact ⟨rfl, k2⟩
  | none, e1, hp1 =>
  simp only at e1
  rw [Option.map_none, Option.none_or]
  (refine W_x (Aj e1 ew) ?_; (repeat' first | apply Cj.mk | exact Nl.nl) <;> intros)
  refine wp_unroll ?_
  have hp1 := hp T.allowed
  generalize spansE T.allowed = o at e2 hp1
  match o, e2, hp1 with
  | some (e, i'), e2, hp1 =>
    have := hp1 e i' rfl
    simp only at e2
    (refine W_x (Aj e2 ew) ?_; (repeat' first | apply Cj.mk | exact Nl.nl) <;> intros)
    exact ⟨rfl, k2⟩
  | none, e2, hp1 =>
    simp only at e2
    (refine W_x (Aj e2 ew) ?_; (repeat' first | apply Cj.mk | exact Nl.nl) <;> intros)
    refine wp_unroll ?_
    (refine W_x trivial ?_; (repeat' first | apply Cj.mk | exact Nl.nl) <;> intros)
    exact ⟨rfl, k2⟩
end Go.Proofs.YtblmakgjdenpfaaDoor.AM
namespace Go.Proofs.YtblmakgjdenpfaaDoor.AM
open Go
theorem chkT_cons {ops : List LInstr} {c : Nat × Nat} {cs : List (Nat × Nat)} {tr : List (Fr × Mem)} (h1 : chk1 ops tr c = true) (h2 : chkT ops cs tr) : chkT ops (c :: cs) tr := by
  unfold chkT at *
  simp only [List.all_cons, h1, h2, Bool.and_self]
theorem chk1_of {ops : List LInstr} {tr : List (Fr × Mem)} {i j : Nat} {d : Option Nat} {o : ROp} {fr fr' : Fr} {m m' : Mem} {u v : Value} (h1 : ops[i]? = some ⟨d, .r o, none⟩) (h2 : tr[i]? = some (fr, m)) (h3 : tr[j]? = some (fr', m'))
    (h4 : o.ev fr m = some u) (h5 : o.ev fr m' = some v) (h6 : vsame u v = true) : chk1 ops tr (i, j) = true := by
  simp only [chk1, h1, h2, h3, wantedA, h4, h5, h6]
theorem vsame_aggs {xs ys : Array Value} : vsame (.agg xs) (.agg ys) = vsameL xs.toList ys.toList := rfl
attribute [push_cast] vsame_aggs
theorem fromO_lt {l : List (Int × ByteArray)} {i : Nat} (hi : i < l.length) : (ixI (fromO l (l[i]).1) < i) ↔ ∃ y ∈ l.take i, (l[i]).1 = y.1 := by
  cases h : fromO l (l[i]).1 with
  | none =>
    exfalso
    have := scanL_none h i hi
    rw [if_pos rfl] at this
    cases this
  | some j =>
    simp only [ixI]
    have hj : ∃ hj : j < l.length, (l[j]).1 = (l[i]).1 := by
      obtain ⟨k, hk, hw⟩ := scanL_some h
      split at hw
      · rename_i he
        injection hw with hw
        subst hw
        exact ⟨hk, he⟩
      · cases hw
    obtain ⟨hjl, hje⟩ := hj
    constructor
    · intro hlt
      have hlt : j < i := by omega
      refine ⟨l[j], ?_, hje.symm⟩
      rw [List.mem_take_iff_getElem]
      exact ⟨j, by omega, rfl⟩
    · rintro ⟨y, hy, he⟩
      rw [List.mem_take_iff_getElem] at hy
      obtain ⟨k, hk, rfl⟩ := hy
      rcases Nat.lt_or_ge j i with h1 | h1
      · omega
      · exfalso
        have hn : ∀ m, m < j → ∀ hm : m < l.length, (l[m]).1 ≠ (l[i]).1 := fun m hm hml he' => by
          have hs : fromO l (l[i]).1 ≠ some j := fun q => by
            unfold fromO scanL at q
            have hlow : ∃ m', m' < j ∧ m' < l.length ∧ (∀ q', q' < m' → ((l[q']?).bind fun x => if x.1 = (l[i]).1 then some q' else none) = none) ∧ ((l[m']?).bind fun x => if x.1 = (l[i]).1 then some m' else none) = some m' := by
              have : ∃ m', m' ≤ m ∧ ((l[m']?).bind fun x => if x.1 = (l[i]).1 then some m' else none) = some m' ∧ ∀ q', q' < m' → ((l[q']?).bind fun x => if x.1 = (l[i]).1 then some q' else none) = none := by
                clear q hm
                induction m using Nat.strongRecOn with
                | ind m ih =>
                  by_cases hex : ∃ q', q' < m ∧ ((l[q']?).bind fun x => if x.1 = (l[i]).1 then some q' else none) ≠ none
                  · obtain ⟨q', hq1, hq2⟩ := hex
                    have hql : q' < l.length := by omega
                    rw [List.getElem?_eq_getElem hql] at hq2
                    have hqe : (l[q']).1 = (l[i]).1 := by
                      by_cases hc : (l[q']).1 = (l[i]).1
                      · exact hc
                      · exact absurd (if_neg hc) hq2
                    obtain ⟨m', a, b, c⟩ := ih q' hq1 hql hqe
                    exact ⟨m', by omega, b, c⟩
                  · refine ⟨m, Nat.le_refl _, by rw [List.getElem?_eq_getElem hml]; exact if_pos he', fun q' hq => ?_⟩
                    by_cases hc : ((l[q']?).bind fun x => if x.1 = (l[i]).1 then some q' else none) = none
                    · exact hc
                    · exact absurd ⟨q', hq, hc⟩ hex
              obtain ⟨m', a, b, c⟩ := this
              exact ⟨m', by omega, by omega, c, b⟩
            obtain ⟨m', a, b, c, e⟩ := hlow
            rw [scan_hit c b e] at q
            injection q with q
            omega
          exact hs h
        exact hn k (by omega) (by omega) he.symm
theorem find_some {α : Type} {L : List α} {P : α → Prop} [DecidablePred P] : (L.find? fun x => decide (P x)).isSome = true ↔ ∃ y ∈ L, P y := by
  rw [List.find?_isSome]
  simp only [decide_eq_true_eq]
theorem find_true {α : Type} {L : List α} {P : α → Prop} [DecidablePred P] : ((L.find? fun x => decide (P x)).map fun _ => Value.bool true).getD (.bool false) = .bool (L.find? fun x => decide (P x)).isSome := by
  cases L.find? fun x => decide (P x) <;> rfl
end Go.Proofs.YtblmakgjdenpfaaDoor.AM
namespace Go.Proofs.YtblmakgjdenpfaaDoor.AM
open Go
theorem take_snoc {α : Type} {l : List α} {i : Nat} (hi : i < l.length) : l.take (i + 1) = l.take i ++ [l[i]] := List.take_succ_eq_append_getElem hi
set_option maxHeartbeats 8000000 in
theorem cOnce {h : AH} {B : Nat} {S : TS} {T : Tab} {d : Value} (c : CAt h B S T d) (mp : MpAt h B [] [] [] []) (hcl : ∀ x ∈ T.marks, x.2 ≠ 0) :
    WpC PX 58 [cP B] h fun v h' => v = wrV (twiceW T) ∧ KpM B h h' ∧ (twiceW T = none → MpAt h' B T.marks T.pairs T.folds T.looks) := by
  have t := c.t
  have hc := c.c
  have hb := c.b
  have hcn := c.n
  have f := t.fits
  have n0 := f.n0
  have hz := f.n0s
  rw [← t.zs] at hz n0
  rw [List.length_map] at n0
  have s0 := t.r0.len
  have s2 := t.r2.len; have n2 := f.n2
  have s3 := t.r3.len; have n3 := f.n3
  have s4 := t.r4.len; have n4 := f.n4
  have s5 := t.r5.len; have n5 := f.n5
  have ew := fun a b c h => wrong_eq a b c h
  simp only [wrV] at ew
  refine wpc_fn (px_ext rfl) (px_fn fn_tables_check_once) rfl ?_
  unfold LF_tables_check_once
  simp only [argFr]
  unfold twiceW cP
  unfold cV at hc
  unfold bV at hb
  rw [← t.zs, scanL_map]
  (refine W_x (Aj hc (Aj s0 ew)) ?_; (repeat' first | apply Cj.mk | exact Nl.nl) <;> intros)
  obtain ⟨Z, hZ⟩ : ∃ Z, Z = S.z.map (·.1) := ⟨_, rfl⟩
  have hZl : Z.length = S.z.length := by rw [hZ, List.length_map]
  have hZi : ∀ i (hi : i < S.z.length), Z[i]'(by omega) = (S.z[i]).1 := fun i hi => by simp only [hZ, List.getElem_map]
  rw [← hZ]
  refine wp_scanJ (fun i h1 => Kp h h1 ∧ h1.get h.n = some (.map ((Z.take i).map fun x => (kS x.1, .bool true)))) 28 S.z (fun i z => if ∃ y ∈ Z.take i, z.1.1 = y.1 then W 14 1 i else none) (by intro n; simp only [setF, push_cast, Nat.reduceEqDiff, ↓reduceIte, reduceCtorEq, Nat.reduceAdd, Nat.reduceMul, Nat.reduceLeDiff]; rfl) rfl
    ⟨(Kp.refl h).push _, by rw [List.take_zero]; exact AH.get_push_same h _⟩ (fun i hi h1 hj hit => ?_) fun h1 hj fin => ?_
  · obtain ⟨k1, hm⟩ := hj
    have g0 := fun lc => rd_map (lc := lc) (t.kp k1).r0 hi
    have hzi := hZi i hi
    have hsn := take_snoc (l := Z) (i := i) (by omega)
    rw [hzi] at hsn
    have hln := AH.get_lt hm
    generalize S.z[i] = z at g0 hit hsn
    unfold scrV at g0
    have lk := look_map (val := fun _ : Scr => Value.bool true) kS_ok hm (.bool false) z.1.1
    rw [find_true] at lk
    have fs := find_some (L := Z.take i) (P := fun y => z.1.1 = y.1)
    generalize (Z.take i).find? (fun y => decide (z.1.1 = y.1)) = o at lk fs
    unfold kS at lk
    cases hbo : o.isSome
    · rw [hbo] at lk fs
      have hno : ¬ ∃ y ∈ Z.take i, z.1.1 = y.1 := fun q => by have := fs.2 q; cases this
      have um := fun lc => up_map (val := fun _ : Scr => Value.bool true) kS_ok hm lc z.1 rfl (fun y hy e => hno ⟨y, hy, e⟩)
      unfold kS at um
      (refine W_x (Aj s0 (Aj g0 (Aj lk um))) ?_; (repeat' first | apply Cj.mk | exact Nl.nl) <;> intros)
      refine ⟨if_neg hno, rfl, rfl, ⟨by rw [AH.set_n]; exact k1.1, fun b hb => by rw [AH.get_set_ne _ (by omega)]; exact k1.2 b hb⟩, ?_⟩
      rw [AH.get_set_same _ hln, hsn]
      rfl
    · rw [hbo] at lk fs
      rw [hit _ (if_pos (fs.1 rfl))]
      (refine W_x (Aj s0 (Aj g0 (Aj lk ew))) ?_; (repeat' first | apply Cj.mk | exact Nl.nl) <;> intros)
      exact ⟨rfl, k1.m, fun q => by cases q⟩
  rw [fin, Option.none_or]
  obtain ⟨k1, _⟩ := hj
  have c1 := c.kp k1
  have mp := mp.kp k1
  clear fin hZi hZl
  have hc := c1.c
  have hb := c1.b
  unfold cV at hc
  unfold bV at hb
  have t := c1.t
  have hcn := c1.n
  (refine W_x (Aj hc (Aj hb (Aj s0 s2))) ?_; (repeat' first | apply Cj.mk | exact Nl.nl) <;> intros)
  refine wp_scanJ (fun i h2 => KpM B h1 h2 ∧ MpAt h2 B (T.marks.take i) [] [] []) 49 T.marks (fun i x => if ∃ y ∈ T.marks.take i, x.1 = y.1 then W 14 3 i else none) (by intro n; simp only [setF, push_cast, Nat.reduceEqDiff, ↓reduceIte, reduceCtorEq, Nat.reduceAdd, Nat.reduceMul, Nat.reduceLeDiff]; rfl) rfl
    ⟨(Kp.refl _).m, mp⟩ (fun i hi h2 hj hit => ?_) fun h2 hj fin => ?_
  · obtain ⟨k2, mp⟩ := hj
    have c2 := c1.kpm k2
    have hc := c2.c
    have hb := c2.b
    unfold cV at hc
    unfold bV at hb
    have hm := mp.m1
    have g0 := fun lc => rd_map (lc := lc) c2.t.r2 hi
    have hsn := take_snoc hi
    have hln := AH.get_lt hm
    have hx := fun y (hy : y ∈ T.marks.take i) => hcl y (List.mem_of_mem_take hy)
    generalize T.marks[i] = x at g0 hit hsn
    unfold markV at g0
    have lk := look_map (val := mvC) kI_ok hm (.int .i64 0) x.1
    have fs := find_some (L := T.marks.take i) (P := fun y => x.1 = y.1)
    have fx : ∀ y, (T.marks.take i).find? (fun y => decide (x.1 = y.1)) = some y → y.2 ≠ 0 := fun y hy => hx y (List.mem_of_find?_eq_some hy)
    generalize (T.marks.take i).find? (fun y => decide (x.1 = y.1)) = o at lk fs fx
    unfold kI at lk
    cases o with
    | none =>
      have hno : ¬ ∃ y ∈ T.marks.take i, x.1 = y.1 := fun q => by have := fs.2 q; cases this
      have um := fun lc => up_map (val := mvC) kI_ok hm lc x rfl (fun y hy e => hno ⟨y, hy, e⟩)
      unfold kI mvC at um
      simp only [Option.map_none, Option.getD_none] at lk
      (refine W_x (Aj hc (Aj hb (Aj s2 (Aj g0 (Aj lk um))))) ?_; (repeat' first | apply Cj.mk | exact Nl.nl) <;> intros)
      refine ⟨if_neg hno, rfl, rfl, k2.trans (KpM.set _ (Nat.le_refl _) (by omega)), ?_, by rw [AH.get_set_ne _ (by omega)]; exact mp.m2, by rw [AH.get_set_ne _ (by omega)]; exact mp.m3, by rw [AH.get_set_ne _ (by omega)]; exact mp.m4, by rw [AH.get_set_ne _ (by omega)]; exact mp.m5⟩
      rw [AH.get_set_same _ hln, hsn]
      rfl
    | some y =>
      have := fx y rfl
      simp only [Option.map_some, Option.getD_some, mvC] at lk
      rw [hit _ (if_pos (fs.1 rfl))]
      (refine W_x (Aj hc (Aj hb (Aj s2 (Aj g0 (Aj lk ew))))) ?_; (repeat' first | apply Cj.mk | exact Nl.nl) <;> intros)
      exact ⟨rfl, k1.m.trans k2, fun q => by cases q⟩
  rw [fin, Option.none_or]
  obtain ⟨k2, mp⟩ := hj
  rw [List.take_length] at mp
  have c2 := c1.kpm k2
  have k2 := k1.m.trans k2
  clear fin
  have hc := c2.c
  have hb := c2.b
  unfold cV at hc
  unfold bV at hb
  (refine W_x (Aj hc (Aj hb (Aj s2 s3))) ?_; (repeat' first | apply Cj.mk | exact Nl.nl) <;> intros)
  refine wp_scanJ (fun i h3 => KpM B h2 h3 ∧ MpAt h3 B T.marks (T.pairs.take i) [] []) 85 T.pairs (fun i x => if ∃ y ∈ T.pairs.take i, x.1 = y.1 ∨ (x.2.1 = y.2.1 ∧ x.2.2 = y.2.2) then W 14 4 i else none) (by intro n; simp only [setF, push_cast, Nat.reduceEqDiff, ↓reduceIte, reduceCtorEq, Nat.reduceAdd, Nat.reduceMul, Nat.reduceLeDiff]; rfl) rfl
    ⟨(Kp.refl _).m, mp⟩ (fun i hi h3 hj hit => ?_) fun h3 hj fin => ?_
  · obtain ⟨k3, mp⟩ := hj
    have c3 := c2.kpm k3
    have hcn := c3.n
    have hc := c3.c
    have hb := c3.b
    unfold cV at hc
    unfold bV at hb
    have g0 := fun lc => rd_map (lc := lc) c3.t.r3 hi
    have hsn := take_snoc hi
    generalize T.pairs[i] = x at g0 hit hsn
    unfold tripV at g0
    have lk := look_mapOk (val := mvP) kI_ok mp.m2 (.agg (Array.mk [.int .i32 0, .int .i32 0])) x.1
    have fs := find_some (L := T.pairs.take i) (P := fun y => x.1 = y.1)
    have lk2 := look_mapOk (key := fun x : Int × Int × Int => (x.2.1, x.2.2)) (val := mvJ) kP_ok mp.m3 (.int .i32 0) (x.2.1, x.2.2)
    have fs2 := find_some (L := T.pairs.take i) (P := fun y => (x.2.1, x.2.2) = (y.2.1, y.2.2))
    generalize (T.pairs.take i).find? (fun y => decide (x.1 = y.1)) = o at lk fs
    generalize (T.pairs.take i).find? (fun y => decide ((x.2.1, x.2.2) = (y.2.1, y.2.2))) = o2 at lk2 fs2
    unfold kI at lk
    unfold kP at lk2
    cases o with
    | some y =>
      simp only [Option.map_some, Option.getD_some, mvP, kP, Option.isSome_some] at lk
      obtain ⟨q, hq1, hq2⟩ := fs.1 rfl
      rw [hit _ (if_pos ⟨q, hq1, .inl hq2⟩)]
      (refine W_y (Aj hc (Aj hb (Aj s3 (Aj g0 (Aj lk ew))))) ?_; (repeat' first | apply Cj.mk | exact Nl.nl) <;> intros)
      exact ⟨rfl, k2.trans k3, fun q => by cases q⟩
    | none =>
      simp only [Option.map_none, Option.getD_none, Option.isSome_none] at lk
      have hno : ¬ ∃ y ∈ T.pairs.take i, x.1 = y.1 := fun q => by have := fs.2 q; cases this
      cases o2 with
      | some y =>
        simp only [Option.map_some, Option.getD_some, mvJ, Option.isSome_some] at lk2
        obtain ⟨q, hq1, hq2⟩ := fs2.1 rfl
        rw [hit _ (if_pos ⟨q, hq1, .inr (by simpa using hq2)⟩)]
        (refine W_y (Aj hc (Aj hb (Aj s3 (Aj g0 (Aj lk (Aj lk2 ew)))))) ?_; (repeat' first | apply Cj.mk | exact Nl.nl) <;> intros)
        exact ⟨rfl, k2.trans k3, fun q => by cases q⟩
      | none =>
        simp only [Option.map_none, Option.getD_none, Option.isSome_none] at lk2
        have hno2 : ¬ ∃ y ∈ T.pairs.take i, (x.2.1, x.2.2) = (y.2.1, y.2.2) := fun q => by have := fs2.2 q; cases this
        obtain ⟨L, hL⟩ : ∃ L, L = T.pairs.take i := ⟨_, rfl⟩
        rw [← hL] at hno hno2 hsn
        have m2 := mp.m2
        have m3 := mp.m3
        rw [← hL] at m2 m3
        have en1 := fun lc => ent_map (val := mvP) kI_ok m2 (.agg (Array.mk [.int .i32 0, .int .i32 0])) lc x.1 (fun y hy e => hno ⟨y, hy, e⟩)
        obtain ⟨hA, eA⟩ : ∃ hA, hA = h3.set (B + 1) (.map ((L.map fun x => (kI x.1, mvP x)) ++ [(kI x.1, .agg (Array.mk [.int .i32 0, .int .i32 0]))])) := ⟨_, rfl⟩
        have st1 := fun lc => st_map (h := hA) (m := B + 1) (ke := kI) (key := fun x : Int × Int × Int => x.1) (val := mvP) (L := L) (z := .agg (Array.mk [.int .i32 0, .int .i32 0])) lc x (by rw [eA, AH.get_set_same _ (by omega)]) rfl
        obtain ⟨hB, eB⟩ : ∃ hB, hB = hA.set (B + 1) (.map ((L ++ [x]).map fun x => (kI x.1, mvP x))) := ⟨_, rfl⟩
        have m3b : hB.get (B + 2) = some (.map (L.map fun x => (kP (x.2.1, x.2.2), mvJ x))) := by rw [eB, AH.get_set_ne _ (by omega), eA, AH.get_set_ne _ (by omega)]; exact m3
        have en2 := fun lc => ent_map (key := fun x : Int × Int × Int => (x.2.1, x.2.2)) (val := mvJ) kP_ok m3b (.int .i32 0) lc (x.2.1, x.2.2) (fun y hy e => hno2 ⟨y, hy, e⟩)
        obtain ⟨hC, eC⟩ : ∃ hC, hC = hB.set (B + 2) (.map ((L.map fun x => (kP (x.2.1, x.2.2), mvJ x)) ++ [(kP (x.2.1, x.2.2), .int .i32 0)])) := ⟨_, rfl⟩
        have nA : hA.n = h3.n := by rw [eA]; rfl
        have nB : hB.n = h3.n := by rw [eB]; exact nA
        have nC : hC.n = h3.n := by rw [eC]; exact nB
        have st2 := fun lc => st_map (h := hC) (m := B + 2) (ke := kP) (key := fun x : Int × Int × Int => (x.2.1, x.2.2)) (val := mvJ) (L := L) (z := .int .i32 0) lc x (by rw [eC, AH.get_set_same _ (by omega)]) rfl
        obtain ⟨hD, eD⟩ : ∃ hD, hD = hC.set (B + 2) (.map ((L ++ [x]).map fun x => (kP (x.2.1, x.2.2), mvJ x))) := ⟨_, rfl⟩
        have nD : hD.n = h3.n := by rw [eD]; exact nC
        rw [← eA] at en1
        rw [← eB] at st1
        rw [← eC] at en2
        rw [← eD] at st2
        have gD : ∀ b, b ≠ B + 1 → b ≠ B + 2 → hD.get b = h3.get b := fun b h1 h2 => by
          rw [eD, AH.get_set_ne _ h2, eC, AH.get_set_ne _ h2, eB, AH.get_set_ne _ h1, eA, AH.get_set_ne _ h1]
        simp only [kI] at en1
        simp only [mvP, kP] at st1
        simp only [kP] at en2
        simp only [mvJ] at st2
        (refine W_y (Aj hc (Aj hb (Aj s3 (Aj g0 (Aj lk (Aj lk2 (Aj ew (Aj en1 (Aj st1 (Aj en2 st2)))))))))) ?_; (repeat' first | apply Cj.mk | exact Nl.nl) <;> intros)
        refine ⟨if_neg ?_, rfl, rfl, k3.trans ⟨by rw [nD]; exact Nat.le_refl _, fun b _ hn => gD b (by omega) (by omega)⟩, ?_, ?_, ?_, ?_, ?_⟩
        · rintro ⟨y, hy, he⟩
          rw [← hL] at hy
          rcases he with he | he
          · exact hno ⟨y, hy, he⟩
          · exact hno2 ⟨y, hy, by rw [he.1, he.2]⟩
        · rw [gD _ (by omega) (by omega)]; exact mp.m1
        · rw [eD, AH.get_set_ne _ (by omega), eC, AH.get_set_ne _ (by omega), eB, AH.get_set_same _ (by omega), hsn]
        · rw [eD, AH.get_set_same _ (by omega), hsn]
        · rw [gD _ (by omega) (by omega)]; exact mp.m4
        · rw [gD _ (by omega) (by omega)]; exact mp.m5
  rw [fin, Option.none_or]
  obtain ⟨k3, mp⟩ := hj
  rw [List.take_length] at mp
  have c3 := c2.kpm k3
  have k3 := k2.trans k3
  clear fin
  have hcn := c3.n
  have hc := c3.c
  have hb := c3.b
  unfold cV at hc
  unfold bV at hb
  (refine W_x (Aj hc (Aj hb s3)) ?_; (repeat' first | apply Cj.mk | exact Nl.nl) <;> intros)
  refine wp_unroll ?_
  (refine W_x (Aj hc (Aj hb s4)) ?_; (repeat' first | apply Cj.mk | exact Nl.nl) <;> intros)
  refine wp_scanJ (fun i h4 => KpM B h3 h4 ∧ h4.get h3.n = some (.cells false [.map (some (B + 3)), .map (some (B + 4))]) ∧ MpAt h4 B T.marks T.pairs (T.folds.take i) []) 187 T.folds (fun i x => if ixI (fromO T.folds x.1) < i then W 14 5 i else none) (by intro n; simp only [setF, push_cast, Nat.reduceEqDiff, ↓reduceIte, reduceCtorEq, Nat.reduceAdd, Nat.reduceMul, Nat.reduceLeDiff]; rfl) rfl
    ⟨(((Kp.refl _).push _).push _).m, by rw [AH.get_push_ne _ (by rw [AH.push_n]; omega)]; exact AH.get_push_same h3 _, mp.kp (((Kp.refl _).push _).push _)⟩ (fun i hi h4 hj hit => ?_) fun h4 hj fin => ?_
  · obtain ⟨k4, hx, mp⟩ := hj
    have c4 := c3.kpm k4
    have hcn := c4.n
    have g0 := fun lc => rd_map (lc := lc) c4.t.r4 hi
    have hsn := take_snoc hi
    have hlt := fromO_lt hi
    generalize T.folds[i] = x at g0 hit hsn hlt
    unfold mapV at g0
    have hm := mp.m4
    have lk := look_mapOk (val := mvF) kI_ok hm (.string ⟨#[]⟩) x.1
    have fs := find_some (L := T.folds.take i) (P := fun y => x.1 = y.1)
    cases ho : (T.folds.take i).find? (fun y => decide (x.1 = y.1)) with
    | none =>
      rw [ho] at lk fs
      have hno : ¬ ∃ y ∈ T.folds.take i, x.1 = y.1 := fun q => by have := fs.2 q; cases this
      have um := fun lc => up_map (val := mvF) kI_ok hm lc x rfl (fun y hy e => hno ⟨y, hy, e⟩)
      unfold kI mvF at um
      unfold kI at lk
      simp only [Option.map_none, Option.getD_none, Option.isSome_none] at lk
      (refine W_x (Aj hx (Aj s4 (Aj g0 (Aj lk um)))) ?_; (repeat' first | apply Cj.mk | exact Nl.nl) <;> intros)
      refine ⟨if_neg (fun q => hno (hlt.1 q)), rfl, rfl, k4.trans (KpM.set _ (by omega) (by omega)), by rw [AH.get_set_ne _ (by omega)]; exact hx, by rw [AH.get_set_ne _ (by omega)]; exact mp.m1, by rw [AH.get_set_ne _ (by omega)]; exact mp.m2, by rw [AH.get_set_ne _ (by omega)]; exact mp.m3, ?_, by rw [AH.get_set_ne _ (by omega)]; exact mp.m5⟩
      rw [AH.get_set_same _ (by omega), hsn]
      rfl
    | some y =>
      rw [ho] at lk fs
      unfold kI at lk
      simp only [Option.map_some, Option.getD_some, Option.isSome_some, mvF] at lk
      rw [hit _ (if_pos (hlt.2 (fs.1 rfl)))]
      (refine W_x (Aj hx (Aj s4 (Aj g0 (Aj lk ew)))) ?_; (repeat' first | apply Cj.mk | exact Nl.nl) <;> intros)
      exact ⟨rfl, k3.trans k4, fun q => by cases q⟩
  rw [fin, Option.none_or]
  obtain ⟨k4, hx, mp⟩ := hj
  rw [List.take_length] at mp
  have c4 := c3.kpm k4
  have k3 := k3.trans k4
  clear fin
  have hcn := c4.n
  have hc := c4.c
  have hb := c4.b
  unfold cV at hc
  unfold bV at hb
  (refine W_x (Aj hc (Aj hb (Aj hx s4))) ?_; (repeat' first | apply Cj.mk | exact Nl.nl) <;> intros)
  refine wp_unroll ?_
  (refine W_x (Aj hc (Aj hb (Aj hx s5))) ?_; (repeat' first | apply Cj.mk | exact Nl.nl) <;> intros)
  refine wp_scanJ (fun i h5 => KpM B h4 h5 ∧ h5.get h3.n = some (.cells false [.map (some (B + 3)), .map (some (B + 4))]) ∧ MpAt h5 B T.marks T.pairs T.folds (T.looks.take i)) 187 T.looks (fun i x => if ixI (fromO T.looks x.1) < i then W 14 6 i else none) (by intro n; simp only [setF, push_cast, Nat.reduceEqDiff, ↓reduceIte, reduceCtorEq, Nat.reduceAdd, Nat.reduceMul, Nat.reduceLeDiff]; rfl) rfl
    ⟨(((Kp.refl _).push _)).m, by rw [AH.get_push_ne _ (by have := AH.get_lt hx; omega)]; exact hx, mp.kp ((Kp.refl _).push _)⟩ (fun i hi h5 hj hit => ?_) fun h5 hj fin => ?_
  · obtain ⟨k5, hx, mp⟩ := hj
    have c4 := c4.kpm k5
    have hcn := c4.n
    have g0 := fun lc => rd_map (lc := lc) c4.t.r5 hi
    have hsn := take_snoc hi
    have hlt := fromO_lt hi
    generalize T.looks[i] = x at g0 hit hsn hlt
    unfold mapV at g0
    have hm := mp.m5
    have lk := look_mapOk (val := mvF) kI_ok hm (.string ⟨#[]⟩) x.1
    have fs := find_some (L := T.looks.take i) (P := fun y => x.1 = y.1)
    cases ho : (T.looks.take i).find? (fun y => decide (x.1 = y.1)) with
    | none =>
      rw [ho] at lk fs
      have hno : ¬ ∃ y ∈ T.looks.take i, x.1 = y.1 := fun q => by have := fs.2 q; cases this
      have um := fun lc => up_map (val := mvF) kI_ok hm lc x rfl (fun y hy e => hno ⟨y, hy, e⟩)
      unfold kI mvF at um
      unfold kI at lk
      simp only [Option.map_none, Option.getD_none, Option.isSome_none] at lk
      (refine W_x (Aj hx (Aj s5 (Aj g0 (Aj lk um)))) ?_; (repeat' first | apply Cj.mk | exact Nl.nl) <;> intros)
      refine ⟨if_neg (fun q => hno (hlt.1 q)), rfl, rfl, k5.trans (KpM.set _ (by omega) (by omega)), by rw [AH.get_set_ne _ (by omega)]; exact hx, by rw [AH.get_set_ne _ (by omega)]; exact mp.m1, by rw [AH.get_set_ne _ (by omega)]; exact mp.m2, by rw [AH.get_set_ne _ (by omega)]; exact mp.m3, by rw [AH.get_set_ne _ (by omega)]; exact mp.m4, ?_⟩
      rw [AH.get_set_same _ (by omega), hsn]
      rfl
    | some y =>
      rw [ho] at lk fs
      unfold kI at lk
      simp only [Option.map_some, Option.getD_some, Option.isSome_some, mvF] at lk
      rw [hit _ (if_pos (hlt.2 (fs.1 rfl)))]
      (refine W_x (Aj hx (Aj s5 (Aj g0 (Aj lk ew)))) ?_; (repeat' first | apply Cj.mk | exact Nl.nl) <;> intros)
      exact ⟨rfl, k3.trans k5, fun q => by cases q⟩
  rw [fin]
  obtain ⟨k5, hx, mp⟩ := hj
  rw [List.take_length] at mp
  have c4 := c4.kpm k5
  have k3 := k3.trans k5
  clear fin
  have hcn := c4.n
  have hc := c4.c
  have hb := c4.b
  unfold cV at hc
  unfold bV at hb
  (refine W_x (Aj hc (Aj hb (Aj hx s5))) ?_; (repeat' first | apply Cj.mk | exact Nl.nl) <;> intros)
  refine wp_unroll ?_
  (refine W_x hx ?_; (repeat' first | apply Cj.mk | exact Nl.nl) <;> intros)
  exact ⟨rfl, k3, fun _ => mp⟩
end Go.Proofs.YtblmakgjdenpfaaDoor.AM
namespace Go.Proofs.YtblmakgjdenpfaaDoor.AM
open Go
theorem scanL_ix {α : Type} {L : List α} {P : α → Prop} [DecidablePred P] (d : α) : (L.find? fun x => decide (P x)) = (scanL L fun i x => if P x then some i else none).map fun j => L.getD j d := by
  cases h : scanL L fun i x => if P x then some i else none with
  | none =>
    rw [Option.map_none, List.find?_eq_none]
    intro x hx
    obtain ⟨i, hi, rfl⟩ := List.mem_iff_getElem.1 hx
    have := scanL_none h i hi
    intro hp
    rw [if_pos (of_decide_eq_true hp)] at this
    cases this
  | some j =>
    rw [Option.map_some]
    cases hf : L.find? fun x => decide (P x) with
    | none =>
      exfalso
      obtain ⟨k, hk, hw⟩ := scanL_some h
      have := List.find?_eq_none.1 hf _ (List.getElem_mem hk)
      rw [if_neg (by simpa using this)] at hw
      cases hw
    | some x =>
      obtain ⟨hp, ps, bs, rfl, hn⟩ := List.find?_eq_some_iff_append.1 hf
      have : (scanL (ps ++ x :: bs) fun i x => if P x then some i else none) = some ps.length := by
        refine scan_hit (i := ps.length) (fun j hj => ?_) (by simp) ?_
        · rw [List.getElem?_append_left hj, List.getElem?_eq_getElem hj]
          have := hn _ (List.getElem_mem hj)
          exact if_neg (by simpa using this)
        · rw [List.getElem?_append_right (Nat.le_refl _), Nat.sub_self]
          exact if_pos (of_decide_eq_true hp)
      rw [this] at h
      injection h with h
      subst h
      simp
theorem find_comm {α : Type} {L : List α} {f : α → Int} {r : Int} : (L.find? fun x => decide (r = f x)) = L.find? fun x => decide (f x = r) := by
  congr 1
  funext x
  exact decide_eq_decide.2 eq_comm
abbrev rowP (T : Tab) (j : Nat) : Int × Int × Int := T.pairs.getD j (0, 0, 0)
theorem whole_find (T : Tab) (r : Int) : (T.pairs.find? fun x => decide (r = x.1)) = (wholeO T r).map (rowP T) := by rw [find_comm]; exact scanL_ix _
theorem from_find (l : List (Int × ByteArray)) (r : Int) : (l.find? fun x => decide (r = x.1)) = (fromO l r).map fun j => l.getD j (0, ⟨#[]⟩) := by rw [find_comm]; exact scanL_ix _
theorem class_find (T : Tab) (r : Int) : classI T r = ((T.marks.find? fun x => decide (r = x.1)).map (·.2)).getD 0 := by
  unfold classI
  rw [find_comm, ← scanL_find (P := fun x : Int × Int => x.1 = r) (val := fun x => x.2)]
theorem isMark_find (T : Tab) (r : Int) : isMark T r = (T.marks.find? fun x => decide (r = x.1)).isSome := by
  unfold isMark
  rw [find_comm, Bool.eq_iff_iff, List.find?_isSome, List.any_eq_true]
theorem class_zero {T : Tab} (hcl : ∀ x ∈ T.marks, x.2 ≠ 0) (r : Int) : classI T r = 0 ↔ isMark T r = false := by
  rw [class_find, isMark_find]
  cases h : T.marks.find? fun x => decide (r = x.1) with
  | none => simp
  | some x =>
    have := hcl x (List.mem_of_find?_eq_some h)
    simp [this]
section
variable {h : AH} {B : Nat} {T : Tab}
theorem m_mark (m : MpAt h B T.marks T.pairs T.folds T.looks) (r : Int) : lookV (.one .int) (.int .i64 0) false h (.map (some B)) (.int .i32 r) = some (.int .i64 (classI T r)) := by
  have := look_map kI_ok m.m1 (.int .i64 0) r
  unfold kI at this
  rw [this, class_find]
  cases T.marks.find? fun x => decide (r = x.1) <;> rfl
theorem m_whole (m : MpAt h B T.marks T.pairs T.folds T.looks) (r : Int) : lookV (.one .int) (.agg (Array.mk [.int .i32 0, .int .i32 0])) true h (.map (some (B + 1))) (.int .i32 r) =
    some (.tuple (List.toArray [((wholeO T r).map fun j => kP (rowP T j).2).getD (.agg (Array.mk [.int .i32 0, .int .i32 0])), .bool (wholeO T r).isSome])) := by
  have := look_mapOk kI_ok m.m2 (.agg (Array.mk [.int .i32 0, .int .i32 0])) r
  rw [whole_find, Option.map_map, Option.isSome_map] at this
  exact this
theorem m_fold (m : MpAt h B T.marks T.pairs T.folds T.looks) (r : Int) : lookV (.one .int) (.string ⟨#[]⟩) true h (.map (some (B + 3))) (.int .i32 r) =
    some (.tuple (List.toArray [.string (((fromO T.folds r).map fun j => (T.folds.getD j (0, ⟨#[]⟩)).2).getD ⟨#[]⟩), .bool (fromO T.folds r).isSome])) := by
  have := look_mapOk (val := mvF) kI_ok m.m4 (.string ⟨#[]⟩) r
  rw [from_find, Option.map_map, Option.isSome_map] at this
  unfold kI at this
  rw [this]
  cases fromO T.folds r <;> rfl
theorem m_looks (m : MpAt h B T.marks T.pairs T.folds T.looks) (r : Int) : lookV (.one .int) (.string ⟨#[]⟩) true h (.map (some (B + 4))) (.int .i32 r) =
    some (.tuple (List.toArray [.string (((fromO T.looks r).map fun j => (T.looks.getD j (0, ⟨#[]⟩)).2).getD ⟨#[]⟩), .bool (fromO T.looks r).isSome])) := by
  have := look_mapOk (val := mvF) kI_ok m.m5 (.string ⟨#[]⟩) r
  rw [from_find, Option.map_map, Option.isSome_map] at this
  unfold kI at this
  rw [this]
  cases fromO T.looks r <;> rfl
end
set_option maxHeartbeats 4000000 in
theorem cPairs {h : AH} {B : Nat} {S : TS} {T : Tab} {d : Value} (c : CAt h B S T d) (mp : MpAt h B T.marks T.pairs T.folds T.looks) (hcl : ∀ x ∈ T.marks, x.2 ≠ 0) :
    WpC PX 59 [cP B] h fun v h' => v = wrV (pairsW T) ∧ Kp h h' := by
  have t := c.t
  have hc := c.c
  have hb := c.b
  have f := t.fits
  have s3 := t.r3.len; have n3 := f.n3
  have ew := fun a b c h => wrong_eq a b c h
  simp only [wrV] at ew
  have cz := fun r => class_zero hcl r
  have cn : ∀ r, ¬ classI T r = 0 → isMark T r = true := fun r q => by cases e : isMark T r with | true => rfl | false => exact absurd ((cz r).2 e) q
  have mm := fun r => m_mark mp r
  refine wpc_fn (px_ext rfl) (px_fn fn_tables_check_pairs) rfl ?_
  unfold LF_tables_check_pairs
  simp only [argFr]
  unfold pairsW cP
  unfold cV at hc
  unfold bV at hb
  (refine W_x (Aj hc s3) ?_; (repeat' first | apply Cj.mk | exact Nl.nl) <;> intros)
  refine wp_scanF 11 T.pairs (fun i x => if isMark T x.1 = true ∨ isMark T x.2.1 = true ∨ isMark T x.2.2 = false then W 32 4 i else none) (by intro n; simp only [setF, push_cast, Nat.reduceEqDiff, ↓reduceIte, reduceCtorEq, Nat.reduceAdd, Nat.reduceMul, Nat.reduceLeDiff]; rfl) rfl (fun i hi hit => ?_) fun fin => ?_
  · have g0 := fun lc => rd_map (lc := lc) t.r3 hi
    generalize T.pairs[i] = x at g0 hit
    unfold tripV at g0
    have z1 := cz x.1
    have z2 := cz x.2.1
    have z3 := cz x.2.2
    (refine W_x (Aj hc (Aj hb (Aj s3 (Aj g0 (Aj mm ew))))) ?_; (repeat' first | apply Cj.mk | exact Nl.nl) <;> intros)
    · rename_i q
      rw [hit _ (if_pos (.inr (.inr (z3.1 q))))]
      exact ⟨rfl, Kp.refl h⟩
    · rename_i q1 q2 q3
      refine ⟨if_neg ?_, rfl, rfl, rfl⟩
      rintro (q | q | q)
      · rw [z1.1 q1] at q; cases q
      · rw [z2.1 q2] at q; cases q
      · exact q3 (z3.2 q)
    · rename_i q
      rw [hit _ (if_pos (.inr (.inl (cn _ q))))]
      exact ⟨rfl, Kp.refl h⟩
    · rename_i q
      rw [hit _ (if_pos (.inl (cn _ q)))]
      exact ⟨rfl, Kp.refl h⟩
  · rw [fin]
    (refine W_x trivial ?_; (repeat' first | apply Cj.mk | exact Nl.nl) <;> intros)
    exact ⟨rfl, Kp.refl h⟩
end Go.Proofs.YtblmakgjdenpfaaDoor.AM
namespace Go.Proofs.YtblmakgjdenpfaaDoor.AM
open Go
set_option maxHeartbeats 4000000 in
theorem cChains {h : AH} {B : Nat} {S : TS} {T : Tab} {d : Value} (c : CAt h B S T d) (mp : MpAt h B T.marks T.pairs T.folds T.looks) :
    WpC PX 60 [cP B] h fun v h' => v = wrV (chainsW T) ∧ Kp h h' := by
  have t := c.t
  have hc := c.c
  have hb := c.b
  have f := t.fits
  have s3 := t.r3.len; have n3 := f.n3
  have ew := fun a b c h => wrong_eq a b c h
  simp only [wrV] at ew
  have mw := fun r => m_whole mp r
  refine wpc_fn (px_ext rfl) (px_fn fn_tables_check_chains) rfl ?_
  unfold LF_tables_check_chains
  simp only [argFr]
  unfold chainsW cP
  unfold cV at hc
  unfold bV at hb
  (refine W_x (Aj hc s3) ?_; (repeat' first | apply Cj.mk | exact Nl.nl) <;> intros)
  refine wp_scanF 15 T.pairs (fun i x => if chainN T T.pairs.length 1 x.2.1 < 0 then W 33 4 i else if 4 < chainN T T.pairs.length 1 x.2.1 then W 34 4 i else none) (by intro n; simp only [setF, push_cast, Nat.reduceEqDiff, ↓reduceIte, reduceCtorEq, Nat.reduceAdd, Nat.reduceMul, Nat.reduceLeDiff]; rfl) rfl (fun i hi hit => ?_) fun fin => ?_
  · have g0 := fun lc => rd_map (lc := lc) t.r3 hi
    generalize T.pairs[i] = x at g0 hit
    unfold tripV at g0
    (refine W_x (Aj hc (Aj hb (Aj s3 g0))) ?_; (repeat' first | apply Cj.mk | exact Nl.nl) <;> intros)
    refine wp_loop (fun w fr lc h1 => ∃ (n : Nat) (b : Int), w = T.pairs.length + 1 - n ∧ 1 ≤ n ∧ n ≤ T.pairs.length + 1 ∧ chainN T T.pairs.length 1 x.2.1 = chainN T (T.pairs.length + 1 - n) n b ∧ h1 = h ∧
      fr = [(0, .pointer (some ⟨B + 6, 0, none⟩)), (2, .pointer (some ⟨4, 0, some 1⟩)), (3, .int .i64 i), (5, .int .i64 n), (6, .int .i32 b), (13, S.s3.val 3), (14, .int .i64 T.pairs.length), (15, .int .i64 i)] ∧ lc = [(4, .cells false [.int .i64 0, .int .i64 0, .int .i64 0])]) T.pairs.length
      ⟨1, x.2.1, by omega, Nat.le_refl _, by omega, by rw [Nat.add_sub_cancel], rfl, rfl, rfl⟩ ?_
    rintro w fr lc h1 ⟨n, b, rfl, hn1, hn2, he, rfl, rfl, rfl⟩
    rcases Nat.lt_or_ge T.pairs.length n with hn | hn
    · rw [show T.pairs.length + 1 - n = 0 by omega] at he
      simp only [chainN] at he
      rw [he, if_pos (by omega)] at hit
      (refine W_x (Aj hc (Aj hb (Aj s3 ew))) ?_; (repeat' first | apply Cj.mk | exact Nl.nl) <;> intros)
      rw [hit _ rfl]
      exact ⟨rfl, Kp.refl _⟩
    · obtain ⟨k, hk⟩ : ∃ k, T.pairs.length + 1 - n = k + 1 := ⟨T.pairs.length - n, by omega⟩
      rw [hk] at he
      simp only [chainN] at he
      have mb := mw b
      generalize wholeO T b = o at mb he
      cases o with
      | none =>
        simp only at he
        simp only [Option.map_none, Option.getD_none, Option.isSome_none] at mb
        (refine W_x (Aj hc (Aj hb (Aj s3 (Aj mb ew)))) ?_; (repeat' first | apply Cj.mk | exact Nl.nl) <;> intros)
        · rw [he, if_neg (by omega), if_pos (by omega)] at hit
          rw [hit _ rfl]
          exact ⟨rfl, Kp.refl _⟩
        · exact ⟨by rw [he, if_neg (by omega), if_neg (by omega)], rfl, rfl, rfl⟩
      | some m =>
        simp only at he
        simp only [Option.map_some, Option.getD_some, Option.isSome_some, kP] at mb
        (refine W_x (Aj hc (Aj hb (Aj s3 (Aj mb ew)))) ?_; (repeat' first | apply Cj.mk | exact Nl.nl) <;> intros)
        exact ⟨_, by omega, n + 1, (rowP T m).2.1, rfl, by omega, by omega, by rw [he, show T.pairs.length + 1 - (n + 1) = k by omega], rfl, by simp only [Int.natCast_add]; rfl, rfl⟩
  · rw [fin]
    (refine W_x trivial ?_; (repeat' first | apply Cj.mk | exact Nl.nl) <;> intros)
    exact ⟨rfl, Kp.refl h⟩
end Go.Proofs.YtblmakgjdenpfaaDoor.AM
namespace Go.Proofs.YtblmakgjdenpfaaDoor.AM
open Go
theorem drops1_eq {h : AH} {B b : Nat} {S : TS} {T : Tab} {d : Value} (c : CAt h B S T d) (ok : SpOk T.drops) (hx : h.get b = some (.cells false [cP B])) {s : Sl} {l : List Int} (rd : Reads h 1 s (l.map fun r => [.int .i32 r])) (hl : l.length < 100000000) :
    callO PX 91 [s.val 1, .pointer (some ⟨b, 0, none⟩)] h = some (.bool (l.any fun r => ofI r T.drops), h) := by
  have hs := rd.len
  have hc := c.c
  have e1 := fun r => of_eq c.t.r6 c.t.fits.n6 ok r
  have ha : (l.any fun r => ofI r T.drops) = (scanL l fun _ r => if ofI r T.drops = true then some () else none).isSome := by
    rw [scanL_find (P := fun r => ofI r T.drops = true) (val := fun _ => ()), Option.isSome_map, Bool.eq_iff_iff, List.find?_isSome, List.any_eq_true]
    simp only [decide_eq_true_eq]
  rw [ha]
  apply WpC.eqn
  refine wpc_fn (px_ext rfl) (px_fn fn_tables_check_drops_1) rfl ?_
  unfold LF_tables_check_drops_1
  simp only [argFr]
  unfold cP at hx
  unfold cV at hc
  (refine W_x hs ?_; (repeat' first | apply Cj.mk | exact Nl.nl) <;> intros)
  refine wp_scanF 8 l (fun _ r => if ofI r T.drops = true then some () else none) (by intro n; simp only [setF, push_cast, Nat.reduceEqDiff, ↓reduceIte, reduceCtorEq, Nat.reduceAdd, Nat.reduceMul, Nat.reduceLeDiff]; rfl) rfl (fun i hi hit => ?_) fun fin => ?_
  · have g0 := fun lc => rd_map (lc := lc) rd hi
    generalize l[i] = r at g0 hit
    have e2 := e1 r
    cases ho : ofI r T.drops
    · rw [ho] at e2
      (refine W_x (Aj hs (Aj g0 (Aj hx (Aj hc e2)))) ?_; (repeat' first | apply Cj.mk | exact Nl.nl) <;> intros)
      exact ⟨if_neg (by decide), rfl, rfl, rfl⟩
    · rw [ho] at e2
      (refine W_x (Aj hs (Aj g0 (Aj hx (Aj hc e2)))) ?_; (repeat' first | apply Cj.mk | exact Nl.nl) <;> intros)
      rw [hit _ (if_pos ho)]
      exact ⟨rfl, rfl⟩
  · rw [fin]
    (refine W_x trivial ?_; (repeat' first | apply Cj.mk | exact Nl.nl) <;> intros)
    exact ⟨rfl, rfl⟩
theorem reads_lit {h : AH} {l : List Int} : Reads (h.push (.cells false (l.map fun r => Value.int .i32 r))) 1 (.at h.n 0 l.length) (l.map fun r => [Value.int .i32 r]) :=
  ⟨by simp [Sl.len], fun x hx => by obtain ⟨r, _, rfl⟩ := List.mem_map.1 hx; rfl, .inr ⟨false, [], [], by
    rw [AH.get_push_same, List.nil_append, List.append_nil]
    congr 2
    induction l with
    | nil => rfl
    | cons a l ih => rw [List.map_cons, List.map_cons, List.flatten_cons, ← ih]; rfl, rfl⟩⟩
set_option maxHeartbeats 4000000 in
theorem cDrops {h : AH} {B : Nat} {S : TS} {T : Tab} {d : Value} (c : CAt h B S T d) (ok : SpOk T.drops) :
    WpC PX 61 [cP B] h fun v h' => v = wrV (dropsW T) ∧ Kp h h' := by
  have t := c.t
  have hc := c.c
  have hb := c.b
  have f := t.fits
  have s2 := t.r2.len; have n2 := f.n2
  have s3 := t.r3.len; have n3 := f.n3
  have s4 := t.r4.len; have n4 := f.n4
  have s5 := t.r5.len; have n5 := f.n5
  have ew := fun a b c h => wrong_eq a b c h
  simp only [wrV] at ew
  have kx := (Kp.refl h).push (.cells false [cP B])
  have hx0 := AH.get_push_same h (.cells false [cP B])
  have e1 : ∀ h1, Kp (h.push (.cells false [cP B])) h1 → ∀ r, callO PX 91 [.slice (some ⟨h1.n, 0, none⟩) 1 1, .pointer (some ⟨h.n, 0, none⟩)] (h1.push (.cells false [.int .i32 r])) = some (.bool (ofI r T.drops), h1.push (.cells false [.int .i32 r])) := fun h1 k r => by
    have := drops1_eq (c.kp (kx.trans (k.push (.cells false [.int .i32 r])))) ok ((k.push (.cells false [.int .i32 r])).get hx0) (reads_lit (l := [r])) (by simp)
    simpa [Sl.val] using this
  have e3 : ∀ h1, Kp (h.push (.cells false [cP B])) h1 → ∀ r q p, callO PX 91 [.slice (some ⟨h1.n, 0, none⟩) 3 1, .pointer (some ⟨h.n, 0, none⟩)] (h1.push (.cells false [.int .i32 r, .int .i32 q, .int .i32 p])) = some (.bool (ofI r T.drops || (ofI q T.drops || ofI p T.drops)), h1.push (.cells false [.int .i32 r, .int .i32 q, .int .i32 p])) := fun h1 k r q p => by
    have := drops1_eq (c.kp (kx.trans (k.push (.cells false [.int .i32 r, .int .i32 q, .int .i32 p])))) ok ((k.push (.cells false [.int .i32 r, .int .i32 q, .int .i32 p])).get hx0) (reads_lit (l := [r, q, p])) (by simp)
    simpa [Sl.val] using this
  refine wpc_fn (px_ext rfl) (px_fn fn_tables_check_drops) rfl ?_
  unfold LF_tables_check_drops
  simp only [argFr]
  unfold dropsW
  obtain ⟨hX, eX⟩ : ∃ hX, hX = h.push (.cells false [cP B]) := ⟨_, rfl⟩
  rw [← eX] at kx hx0 e1 e3
  have cX := c.kp kx
  unfold cP at eX hx0
  unfold cP
  have hc := cX.c
  unfold cV at hc
  have bx := AH.get_lt hx0
  (refine W_x (Aj eX.symm (Aj hx0 (Aj hc s2))) ?_; (repeat' first | apply Cj.mk | exact Nl.nl) <;> intros)
  refine wp_scanJ (fun _ h1 => Kp hX h1) 19 T.marks (fun i x => if ofI x.1 T.drops = true then W 37 3 i else none) (by intro n; simp only [setF, push_cast, Nat.reduceEqDiff, ↓reduceIte, reduceCtorEq, Nat.reduceAdd, Nat.reduceMul, Nat.reduceLeDiff]; rfl) rfl (Kp.refl _) (fun i hi h1 k1 hit => ?_) fun h2 k1 fin => ?_
  · have c1 := cX.kp k1
    have hx := k1.get hx0
    have hlt := k1.1
    have g0 := fun lc => rd_map (lc := lc) c1.t.r2 hi
    generalize T.marks[i] = x at g0 hit
    unfold markV at g0
    have e := e1 h1 k1 x.1
    cases ho : ofI x.1 T.drops
    · rw [ho] at e
      (refine W_x (Aj hx (Aj s2 (Aj g0 e))) ?_; (repeat' first | apply Cj.mk | exact Nl.nl) <;> intros)
      exact ⟨if_neg (by decide), rfl, rfl, k1.push _⟩
    · rw [ho] at e
      (refine W_x (Aj hx (Aj s2 (Aj g0 (Aj e ew)))) ?_; (repeat' first | apply Cj.mk | exact Nl.nl) <;> intros)
      rw [hit _ (if_pos ho)]
      exact ⟨rfl, kx.trans (k1.push _)⟩
  rw [fin, Option.none_or]
  clear fin
  have c1 := cX.kp k1
  have hx := k1.get hx0
  have hlt := k1.1
  have hc := c1.c
  unfold cV at hc
  (refine W_x (Aj hx (Aj hc s3)) ?_; (repeat' first | apply Cj.mk | exact Nl.nl) <;> intros)
  refine wp_scanJ (fun _ h1 => Kp hX h1) 38 T.pairs (fun i x => if ofI x.1 T.drops = true ∨ ofI x.2.1 T.drops = true ∨ ofI x.2.2 T.drops = true then W 37 4 i else none) (by intro n; simp only [setF, push_cast, Nat.reduceEqDiff, ↓reduceIte, reduceCtorEq, Nat.reduceAdd, Nat.reduceMul, Nat.reduceLeDiff]; rfl) rfl k1 (fun i hi h1 k1 hit => ?_) fun h3 k1 fin => ?_
  · have c1 := cX.kp k1
    have hx := k1.get hx0
    have hlt := k1.1
    have g0 := fun lc => rd_map (lc := lc) c1.t.r3 hi
    generalize T.pairs[i] = x at g0 hit
    unfold tripV at g0
    have e := e3 h1 k1 x.1 x.2.1 x.2.2
    cases ho : (ofI x.1 T.drops || (ofI x.2.1 T.drops || ofI x.2.2 T.drops))
    · rw [ho] at e
      (refine W_x (Aj hx (Aj s3 (Aj g0 e))) ?_; (repeat' first | apply Cj.mk | exact Nl.nl) <;> intros)
      refine ⟨if_neg fun q => ?_, rfl, rfl, k1.push _⟩
      simp only [← Bool.or_eq_true, ho] at q
      cases q
    · rw [ho] at e
      (refine W_x (Aj hx (Aj s3 (Aj g0 (Aj e ew)))) ?_; (repeat' first | apply Cj.mk | exact Nl.nl) <;> intros)
      rw [hit _ (if_pos (by simp only [← Bool.or_eq_true]; exact ho))]
      exact ⟨rfl, kx.trans (k1.push _)⟩
  rw [fin, Option.none_or]
  clear fin
  have c1 := cX.kp k1
  have hx := k1.get hx0
  have hlt := k1.1
  have hc := c1.c
  unfold cV at hc
  obtain ⟨O, eO⟩ : ∃ O, O = AObj.cells false [S.s4.val 2, S.s5.val 2] := ⟨_, rfl⟩
  have kO := k1.push O
  have hO := AH.get_push_same h3 O
  obtain ⟨hY, eY⟩ : ∃ hY, hY = h3.push O := ⟨_, rfl⟩
  rw [← eY] at kO hO
  subst eO
  have hOn := AH.get_lt hO
  (refine W_x (Aj hx (Aj hc eY.symm)) ?_; (repeat' first | apply Cj.mk | exact Nl.nl) <;> intros)
  refine wp_unroll ?_
  (refine W_x (Aj hO s4) ?_; (repeat' first | apply Cj.mk | exact Nl.nl) <;> intros)
  refine wp_scanJ (fun _ h1 => Kp hX h1 ∧ h1.get h3.n = some (.cells false [S.s4.val 2, S.s5.val 2])) 74 T.folds (fun i x => if ofI x.1 T.drops = true then W 37 5 i else none) (by intro n; simp only [setF, push_cast, Nat.reduceEqDiff, ↓reduceIte, reduceCtorEq, Nat.reduceAdd, Nat.reduceMul, Nat.reduceLeDiff]; rfl) rfl ⟨kO, hO⟩ (fun i hi h1 hj hit => ?_) fun h4 hj fin => ?_
  · obtain ⟨k1, hO⟩ := hj
    have c1 := cX.kp k1
    have hx := k1.get hx0
    have hlt := k1.1
    have g0 := fun lc => rd_map (lc := lc) c1.t.r4 hi
    generalize T.folds[i] = x at g0 hit
    unfold mapV at g0
    have e := e1 h1 k1 x.1
    cases ho : ofI x.1 T.drops
    · rw [ho] at e
      (refine W_x (Aj hx (Aj s4 (Aj g0 e))) ?_; (repeat' first | apply Cj.mk | exact Nl.nl) <;> intros)
      exact ⟨if_neg (by decide), rfl, rfl, k1.push _, by rw [AH.get_push_ne _ (by have := AH.get_lt hO; omega)]; exact hO⟩
    · rw [ho] at e
      (refine W_x (Aj hx (Aj s4 (Aj g0 (Aj e ew)))) ?_; (repeat' first | apply Cj.mk | exact Nl.nl) <;> intros)
      rw [hit _ (if_pos ho)]
      exact ⟨rfl, kx.trans (k1.push _)⟩
  rw [fin, Option.none_or]
  clear fin
  obtain ⟨k1, hO⟩ := hj
  (refine W_x trivial ?_; (repeat' first | apply Cj.mk | exact Nl.nl) <;> intros)
  refine wp_unroll ?_
  (refine W_x (Aj hO s5) ?_; (repeat' first | apply Cj.mk | exact Nl.nl) <;> intros)
  refine wp_scanJ (fun _ h1 => Kp hX h1 ∧ h1.get h3.n = some (.cells false [S.s4.val 2, S.s5.val 2])) 74 T.looks (fun i x => if ofI x.1 T.drops = true then W 37 6 i else none) (by intro n; simp only [setF, push_cast, Nat.reduceEqDiff, ↓reduceIte, reduceCtorEq, Nat.reduceAdd, Nat.reduceMul, Nat.reduceLeDiff]; rfl) rfl ⟨k1, hO⟩ (fun i hi h1 hj hit => ?_) fun h5 hj fin => ?_
  · obtain ⟨k1, hO⟩ := hj
    have c1 := cX.kp k1
    have hx := k1.get hx0
    have hlt := k1.1
    have g0 := fun lc => rd_map (lc := lc) c1.t.r5 hi
    generalize T.looks[i] = x at g0 hit
    unfold mapV at g0
    have e := e1 h1 k1 x.1
    cases ho : ofI x.1 T.drops
    · rw [ho] at e
      (refine W_x (Aj hx (Aj s5 (Aj g0 e))) ?_; (repeat' first | apply Cj.mk | exact Nl.nl) <;> intros)
      exact ⟨if_neg (by decide), rfl, rfl, k1.push _, by rw [AH.get_push_ne _ (by have := AH.get_lt hO; omega)]; exact hO⟩
    · rw [ho] at e
      (refine W_x (Aj hx (Aj s5 (Aj g0 (Aj e ew)))) ?_; (repeat' first | apply Cj.mk | exact Nl.nl) <;> intros)
      rw [hit _ (if_pos ho)]
      exact ⟨rfl, kx.trans (k1.push _)⟩
  rw [fin]
  clear fin
  obtain ⟨k1, hO⟩ := hj
  (refine W_x trivial ?_; (repeat' first | apply Cj.mk | exact Nl.nl) <;> intros)
  refine wp_unroll ?_
  (refine W_x trivial ?_; (repeat' first | apply Cj.mk | exact Nl.nl) <;> intros)
  exact ⟨rfl, kx.trans k1⟩
end Go.Proofs.YtblmakgjdenpfaaDoor.AM
namespace Go.Proofs.YtblmakgjdenpfaaDoor.AM
open Go
set_option maxHeartbeats 4000000 in
theorem cFroms {h : AH} {B : Nat} {S : TS} {T : Tab} {d : Value} (c : CAt h B S T d) (mp : MpAt h B T.marks T.pairs T.folds T.looks) (hcl : ∀ x ∈ T.marks, x.2 ≠ 0) :
    WpC PX 62 [cP B] h fun v h' => v = wrV (fromsW T) ∧ Kp h h' := by
  have t := c.t
  have hc := c.c
  have hb := c.b
  have f := t.fits
  have s4 := t.r4.len; have n4 := f.n4
  have s5 := t.r5.len; have n5 := f.n5
  have ew := fun a b c h => wrong_eq a b c h
  simp only [wrV] at ew
  have cz := fun r => class_zero hcl r
  have cn : ∀ r, ¬ classI T r = 0 → isMark T r = true := fun r q => by cases e : isMark T r with | true => rfl | false => exact absurd ((cz r).2 e) q
  refine wpc_fn (px_ext rfl) (px_fn fn_tables_check_froms) rfl ?_
  unfold LF_tables_check_froms
  simp only [argFr]
  unfold fromsW cP
  unfold cV at hc
  (refine W_x hc ?_; (repeat' first | apply Cj.mk | exact Nl.nl) <;> intros)
  obtain ⟨O, eO⟩ : ∃ O, O = AObj.cells false [S.s4.val 2, S.s5.val 2] := ⟨_, rfl⟩
  have kO := (Kp.refl h).push O
  have hO := AH.get_push_same h O
  obtain ⟨hY, eY⟩ : ∃ hY, hY = h.push O := ⟨_, rfl⟩
  rw [← eY] at kO hO
  subst eO
  rw [← eY]
  have c := c.kp kO
  have mp := mp.kp kO
  have hc := c.c
  have hb := c.b
  unfold cV at hc
  unfold bV at hb
  have mm := fun r => m_mark mp r
  have mw := fun r => m_whole mp r
  refine wp_unroll ?_
  (refine W_x (Aj hO s4) ?_; (repeat' first | apply Cj.mk | exact Nl.nl) <;> intros)
  refine wp_scanF 28 T.folds (fun i x => if isMark T x.1 = true ∨ (wholeO T x.1).isSome = true then W 31 5 i else none) (by intro n; simp only [setF, push_cast, Nat.reduceEqDiff, ↓reduceIte, reduceCtorEq, Nat.reduceAdd, Nat.reduceMul, Nat.reduceLeDiff]; rfl) rfl (fun i hi hit => ?_) fun fin => ?_
  · have g0 := fun lc => rd_map (lc := lc) c.t.r4 hi
    generalize T.folds[i] = x at g0 hit
    unfold mapV at g0
    have m1 := mm x.1
    have m2 := mw x.1
    have z := cz x.1
    have z' := cn x.1
    have fv : ∃ a b : Int, ((wholeO T x.1).map fun j => kP (rowP T j).2).getD (.agg (Array.mk [.int .i32 0, .int .i32 0])) = .agg (List.toArray [.int .i32 a, .int .i32 b]) := by
      cases wholeO T x.1 with
      | none => exact ⟨0, 0, rfl⟩
      | some j => exact ⟨_, _, rfl⟩
    obtain ⟨a, b, hab⟩ := fv
    rw [hab] at m2
    generalize (wholeO T x.1).isSome = o at m2 hit
    cases o
    · (refine W_y (Aj hc (Aj hb (Aj s4 (Aj g0 (Aj m1 (Aj m2 ew)))))) ?_; (repeat' first | apply Cj.mk | exact Nl.nl) <;> intros)
      · rename_i q
        refine ⟨if_neg ?_, rfl, rfl, rfl⟩
        rw [z.1 q]
        simp
      · rename_i q
        rw [hit _ (if_pos (.inl (z' q)))]
        exact ⟨rfl, kO⟩
    · (refine W_y (Aj hc (Aj hb (Aj s4 (Aj g0 (Aj m1 (Aj m2 ew)))))) ?_; (repeat' first | apply Cj.mk | exact Nl.nl) <;> intros)
      rw [hit _ (if_pos (.inr rfl))]
      exact ⟨rfl, kO⟩
  rw [fin, Option.none_or]
  clear fin
  (refine W_x trivial ?_; (repeat' first | apply Cj.mk | exact Nl.nl) <;> intros)
  refine wp_unroll ?_
  (refine W_x (Aj hO s5) ?_; (repeat' first | apply Cj.mk | exact Nl.nl) <;> intros)
  refine wp_scanF 28 T.looks (fun i x => if isMark T x.1 = true ∨ (wholeO T x.1).isSome = true then W 31 6 i else none) (by intro n; simp only [setF, push_cast, Nat.reduceEqDiff, ↓reduceIte, reduceCtorEq, Nat.reduceAdd, Nat.reduceMul, Nat.reduceLeDiff]; rfl) rfl (fun i hi hit => ?_) fun fin => ?_
  · have g0 := fun lc => rd_map (lc := lc) c.t.r5 hi
    generalize T.looks[i] = x at g0 hit
    unfold mapV at g0
    have m1 := mm x.1
    have m2 := mw x.1
    have z := cz x.1
    have z' := cn x.1
    have fv : ∃ a b : Int, ((wholeO T x.1).map fun j => kP (rowP T j).2).getD (.agg (Array.mk [.int .i32 0, .int .i32 0])) = .agg (List.toArray [.int .i32 a, .int .i32 b]) := by
      cases wholeO T x.1 with
      | none => exact ⟨0, 0, rfl⟩
      | some j => exact ⟨_, _, rfl⟩
    obtain ⟨a, b, hab⟩ := fv
    rw [hab] at m2
    generalize (wholeO T x.1).isSome = o at m2 hit
    cases o
    · (refine W_y (Aj hc (Aj hb (Aj s5 (Aj g0 (Aj m1 (Aj m2 ew)))))) ?_; (repeat' first | apply Cj.mk | exact Nl.nl) <;> intros)
      · rename_i q
        refine ⟨if_neg ?_, rfl, rfl, rfl⟩
        rw [z.1 q]
        simp
      · rename_i q
        rw [hit _ (if_pos (.inl (z' q)))]
        exact ⟨rfl, kO⟩
    · (refine W_y (Aj hc (Aj hb (Aj s5 (Aj g0 (Aj m1 (Aj m2 ew)))))) ?_; (repeat' first | apply Cj.mk | exact Nl.nl) <;> intros)
      rw [hit _ (if_pos (.inr rfl))]
      exact ⟨rfl, kO⟩
  rw [fin]
  clear fin
  (refine W_x trivial ?_; (repeat' first | apply Cj.mk | exact Nl.nl) <;> intros)
  refine wp_unroll ?_
  (refine W_x trivial ?_; (repeat' first | apply Cj.mk | exact Nl.nl) <;> intros)
  exact ⟨rfl, kO⟩
end Go.Proofs.YtblmakgjdenpfaaDoor.AM
namespace Go.Proofs.YtblmakgjdenpfaaDoor.AM
open Go
structure BkAt (h : AH) (k B : Nat) (s6 : Sl) (T : Tab) : Prop where
  b : ∃ x0 x1 x2 x3 x4 x5 x7 : Value, h.get k = some (.cells false [x0, x1, x2, x3, x4, x5, s6.val 2, x7, .map (some B), .map (some (B + 1)), .map (some (B + 2)), .map (some (B + 3)), .map (some (B + 4))])
  mp : MpAt h B T.marks T.pairs T.folds T.looks
  r6 : Reads h 2 s6 (T.drops.map pairV)
  n6 : T.drops.length < 100000000
  ok : SpOk T.drops
  cl : ∀ x ∈ T.marks, x.2 ≠ 0
theorem BkAt.kp {h h' : AH} {k B : Nat} {s6 : Sl} {T : Tab} (b : BkAt h k B s6 T) (q : Kp h h') : BkAt h' k B s6 T :=
  ⟨let ⟨x0, x1, x2, x3, x4, x5, x7, e⟩ := b.b; ⟨x0, x1, x2, x3, x4, x5, x7, q.get e⟩, b.mp.kp q, b.r6.kp q, b.n6, b.ok, b.cl⟩
theorem dropped_eq {h : AH} {k B : Nat} {s6 : Sl} {T : Tab} (bk : BkAt h k B s6 T) (r : Int) : callO PX 75 [.pointer (some ⟨k, 0, none⟩), .int .i32 r] h = some (.bool (ofI r T.drops), h) := by
  obtain ⟨x0, x1, x2, x3, x4, x5, x7, hb⟩ := bk.b
  have e1 := of_eq bk.r6 bk.n6 bk.ok r
  apply WpC.eqn
  refine wpc_fn (px_ext rfl) (px_fn fn_tables_Book_Dropped) rfl ?_
  unfold LF_tables_Book_Dropped
  simp only [argFr]
  (refine W_x (Aj hb e1) ?_; (repeat' first | apply Cj.mk | exact Nl.nl) <;> intros)
  exact ⟨rfl, rfl⟩
theorem plain_eq {h : AH} {k B : Nat} {s6 : Sl} {T : Tab} (bk : BkAt h k B s6 T) (r : Int) : callO PX 93 [.pointer (some ⟨k, 0, none⟩), .int .i32 r] h = some (.bool (plainI T r), h) := by
  have e1 := dropped_eq bk r
  obtain ⟨x0, x1, x2, x3, x4, x5, x7, hb⟩ := bk.b
  have e2 := validRune_eq r
  have m1 := m_mark bk.mp r
  have m2 := m_whole bk.mp r
  have m3 := m_fold bk.mp r
  have z := class_zero bk.cl r
  have fv : ∃ a b : Int, ((wholeO T r).map fun j => kP (rowP T j).2).getD (.agg (Array.mk [.int .i32 0, .int .i32 0])) = .agg (List.toArray [.int .i32 a, .int .i32 b]) := by
    cases wholeO T r with
    | none => exact ⟨0, 0, rfl⟩
    | some j => exact ⟨_, _, rfl⟩
  obtain ⟨a, b, hab⟩ := fv
  rw [hab] at m2
  apply WpC.eqn
  refine wpc_fn (px_ext rfl) (px_fn fn_tables_Book_Plain) rfl ?_
  unfold LF_tables_Book_Plain
  simp only [argFr]
  unfold plainI
  rw [← Option.not_isSome, ← Option.not_isSome]
  generalize (wholeO T r).isSome = o at m2 ⊢
  generalize (fromO T.folds r).isSome = o2 at m3 ⊢
  generalize runeI r = o3 at e2 ⊢
  generalize ofI r T.drops = o4 at e1 ⊢
  cases o3
  · (refine W_x (Aj hb (Aj e1 (Aj e2 (Aj m1 (Aj m2 m3))))) ?_; (repeat' first | apply Cj.mk | exact Nl.nl) <;> intros)
    exact ⟨by simp, rfl⟩
  cases hm : isMark T r
  · have hz := z.2 hm
    rw [hz] at m1
    cases o
    · cases o2
      · cases o4
        · (refine W_x (Aj hb (Aj e1 (Aj e2 (Aj m1 (Aj m2 m3))))) ?_; (repeat' first | apply Cj.mk | exact Nl.nl) <;> intros)
          exact ⟨by simp, rfl⟩
        · (refine W_x (Aj hb (Aj e1 (Aj e2 (Aj m1 (Aj m2 m3))))) ?_; (repeat' first | apply Cj.mk | exact Nl.nl) <;> intros)
          exact ⟨by simp, rfl⟩
      · (refine W_x (Aj hb (Aj e1 (Aj e2 (Aj m1 (Aj m2 m3))))) ?_; (repeat' first | apply Cj.mk | exact Nl.nl) <;> intros)
        exact ⟨by simp, rfl⟩
    · (refine W_x (Aj hb (Aj e1 (Aj e2 (Aj m1 (Aj m2 m3))))) ?_; (repeat' first | apply Cj.mk | exact Nl.nl) <;> intros)
      exact ⟨by simp, rfl⟩
  · have hz : ¬ classI T r = 0 := fun q => by rw [z.1 q] at hm; cases hm
    (refine W_x (Aj hb (Aj e1 (Aj e2 (Aj m1 (Aj m2 m3))))) ?_; (repeat' first | apply Cj.mk | exact Nl.nl) <;> intros)
    exact ⟨by simp, rfl⟩
theorem rnO_any {s : ByteArray} {l : Bytes} (hl : l = s.data.toList) (hv : validB l = true) {P : Nat → Prop} {Q : Nat → Bool} (hPQ : ∀ c, P c ↔ Q c = true) :
    (∃ c ∈ (rnO s).getD [], P c) ↔ (scanL (spots l) fun i x => if Q x.1 = true then some i else none).isSome = true := by
  unfold rnO
  rw [← any_runes, ← hl, if_pos hv, Option.getD_some, List.any_eq_true]
  exact ⟨fun ⟨c, h1, h2⟩ => ⟨c, h1, (hPQ c).1 h2⟩, fun ⟨c, h1, h2⟩ => ⟨c, h1, (hPQ c).2 h2⟩⟩
set_option maxHeartbeats 8000000 in
theorem cTos {h : AH} {B : Nat} {S : TS} {T : Tab} {d : Value} (c : CAt h B S T d) (mp : MpAt h B T.marks T.pairs T.folds T.looks) (hcl : ∀ x ∈ T.marks, x.2 ≠ 0) (ok : SpOk T.drops)
    (hv4 : ∀ x ∈ T.folds, validB x.2.data.toList = true) (hv5 : ∀ x ∈ T.looks, validB x.2.data.toList = true) :
    WpC PX 63 [cP B] h fun v h' => v = wrV (tosW T) ∧ Kp (h.set (B + 5) (.cells false (bV (S.s6.val 2) B))) h' := by
  have t := c.t
  have hc := c.c
  have hb := c.b
  have hcn := c.n
  have f := t.fits
  have s4 := t.r4.len; have n4 := f.n4
  have s5 := t.r5.len; have n5 := f.n5
  have ew := fun a b c h => wrong_eq a b c h
  simp only [wrV] at ew
  obtain ⟨hY, eY⟩ : ∃ hY, hY = h.set (B + 5) (.cells false (bV (S.s6.val 2) B)) := ⟨_, rfl⟩
  have gY : ∀ b, b ≠ B + 5 → hY.get b = h.get b := fun b q => by rw [eY]; exact AH.get_set_ne _ q
  have hbY : hY.get (B + 5) = some (.cells false (bV (S.s6.val 2) B)) := by rw [eY]; exact AH.get_set_same _ (by omega)
  have nY : hY.n = h.n := by rw [eY]; rfl
  have mp : MpAt hY B T.marks T.pairs T.folds T.looks := ⟨by rw [gY _ (by omega)]; exact mp.m1, by rw [gY _ (by omega)]; exact mp.m2, by rw [gY _ (by omega)]; exact mp.m3, by rw [gY _ (by omega)]; exact mp.m4, by rw [gY _ (by omega)]; exact mp.m5⟩
  have cY : CAt hY B S T (S.s6.val 2) := ⟨by rw [nY]; exact hcn, by rw [gY _ (by omega)]; exact c.c, hbY, by
    obtain ⟨h0, e, k0, t⟩ := c.o
    exact ⟨h0, e, ⟨by rw [nY]; exact k0.1, fun b hb => by rw [gY _ (by omega)]; exact k0.2 b hb⟩, t⟩⟩
  have bk : BkAt hY (B + 5) B S.s6 T := ⟨⟨_, _, _, _, _, _, _, hbY⟩, mp, cY.t.r6, f.n6, ok, hcl⟩
  have e1 := plain_eq bk
  have mf := m_looks mp
  have hc' := cY.c
  rw [← eY]
  refine wpc_fn (px_ext rfl) (px_fn fn_tables_check_tos) rfl ?_
  unfold LF_tables_check_tos
  simp only [argFr]
  unfold tosW cP
  unfold cV at hc hc'
  unfold bV at hb hbY eY
  (refine W_x (Aj hc (Aj hb eY.symm)) ?_; (repeat' first | apply Cj.mk | exact Nl.nl) <;> intros)
  have hc := hc'
  (refine W_x (Aj hc s4) ?_; (repeat' first | apply Cj.mk | exact Nl.nl) <;> intros)
  refine wp_scanF 31 T.folds (fun i x => if ∃ c ∈ (rnO x.2).getD [], plainI T (c : Nat) = false then W 35 5 i else none) (by intro n; simp only [setF, push_cast, Nat.reduceEqDiff, ↓reduceIte, reduceCtorEq, Nat.reduceAdd, Nat.reduceMul, Nat.reduceLeDiff]; rfl) rfl (fun i hi hit => ?_) fun fin => ?_
  · have g0 := fun lc => rd_map (lc := lc) cY.t.r4 hi
    have hv := hv4 _ (List.getElem_mem hi)
    generalize T.folds[i] = x at g0 hit hv
    unfold mapV at g0
    obtain ⟨l, hl⟩ : ∃ l, l = x.2.data.toList := ⟨_, rfl⟩
    have ra := rnO_any (P := fun c => plainI T (c : Nat) = false) (Q := fun c => !plainI T (c : Nat)) hl (hl ▸ hv) (fun c => by cases plainI T (c : Nat) <;> simp)
    (refine W_x (Aj hc (Aj hbY (Aj s4 (Aj g0 @ev_rngS)))) ?_; (repeat' first | apply Cj.mk | exact Nl.nl) <;> intros)
    refine wp_spots none 76 x.2 l (fun h' => h' = hY) (fun i x => if (!plainI T (x.1 : Nat)) = true then some i else none) hl (fun _ => rfl) (by repeat' first | exact True.intro | refine And.intro rfl ?_) (fun _ => rfl) (by intro n; simp only [setL, push_cast, Nat.reduceEqDiff, ↓reduceIte, reduceCtorEq, Nat.reduceAdd, Nat.reduceMul, Nat.reduceLeDiff]; rfl) rfl rfl (fun j hj h1 hh jit => ?_) fun h1 hh fin => ?_
    · subst hh
      (refine W_x trivial ?_; (repeat' first | apply Cj.mk | exact Nl.nl) <;> intros)
      refine wo_next hl rfl hj ?_
      generalize (spots l)[j] = y at jit
      have e2 := e1 (y.1 : Nat)
      cases ho : plainI T (y.1 : Nat)
      · rw [ho] at e2
        rw [hit _ (if_pos (ra.2 (by rw [jit j (if_pos (by rw [ho]; rfl))]; rfl)))]
        (refine W_x (Aj hc (Aj e2 ew)) ?_; (repeat' first | apply Cj.mk | exact Nl.nl) <;> intros)
        exact ⟨rfl, Kp.refl _⟩
      · rw [ho] at e2
        (refine W_x (Aj hc e2) ?_; (repeat' first | apply Cj.mk | exact Nl.nl) <;> intros)
        exact ⟨if_neg (by simp), (by repeat' first | exact True.intro | refine And.intro rfl ?_), rfl, rfl⟩
    · subst hh
      (refine W_x trivial ?_; (repeat' first | apply Cj.mk | exact Nl.nl) <;> intros)
      refine wo_nextE hl rfl ?_
      (refine W_x trivial ?_; (repeat' first | apply Cj.mk | exact Nl.nl) <;> intros)
      exact ⟨if_neg (fun q => by have := ra.1 q; rw [fin] at this; cases this), rfl, rfl, rfl⟩
  rw [fin, Option.none_or]
  (refine W_x (Aj hc s5) ?_; (repeat' first | apply Cj.mk | exact Nl.nl) <;> intros)
  refine wp_scanF 58 T.looks (fun i x => if ∃ c ∈ (rnO x.2).getD [], plainI T (c : Nat) = false ∨ (fromO T.looks (c : Nat)).isSome = true then W 36 6 i else none) (by intro n; simp only [setF, push_cast, Nat.reduceEqDiff, ↓reduceIte, reduceCtorEq, Nat.reduceAdd, Nat.reduceMul, Nat.reduceLeDiff]; rfl) rfl (fun i hi hit => ?_) fun fin => ?_
  · have g0 := fun lc => rd_map (lc := lc) cY.t.r5 hi
    have hv := hv5 _ (List.getElem_mem hi)
    generalize T.looks[i] = x at g0 hit hv
    unfold mapV at g0
    obtain ⟨l, hl⟩ : ∃ l, l = x.2.data.toList := ⟨_, rfl⟩
    have ra := rnO_any (P := fun c => plainI T (c : Nat) = false ∨ (fromO T.looks (c : Nat)).isSome = true) (Q := fun c => !plainI T (c : Nat) || (fromO T.looks (c : Nat)).isSome) hl (hl ▸ hv) (fun c => by simp)
    (refine W_x (Aj hc (Aj hbY (Aj s5 (Aj g0 @ev_rngS)))) ?_; (repeat' first | apply Cj.mk | exact Nl.nl) <;> intros)
    refine wp_spots none 130 x.2 l (fun h' => h' = hY) (fun i x => if (!plainI T (x.1 : Nat) || (fromO T.looks (x.1 : Nat)).isSome) = true then some i else none) hl (fun _ => rfl) (by repeat' first | exact True.intro | refine And.intro rfl ?_) (fun _ => rfl) (by intro n; simp only [setL, push_cast, Nat.reduceEqDiff, ↓reduceIte, reduceCtorEq, Nat.reduceAdd, Nat.reduceMul, Nat.reduceLeDiff]; rfl) rfl rfl (fun j hj h1 hh jit => ?_) fun h1 hh fin => ?_
    · subst hh
      (refine W_x trivial ?_; (repeat' first | apply Cj.mk | exact Nl.nl) <;> intros)
      refine wo_next hl rfl hj ?_
      generalize (spots l)[j] = y at jit
      have e2 := e1 (y.1 : Nat)
      have m5 := mf (y.1 : Nat)
      cases ho2 : (fromO T.looks (y.1 : Nat)).isSome
      · rw [ho2] at m5
        cases ho : plainI T (y.1 : Nat)
        · rw [ho] at e2
          rw [hit _ (if_pos (ra.2 (by rw [jit j (if_pos (by rw [ho]; rfl))]; rfl)))]
          (refine W_x (Aj hc (Aj hbY (Aj m5 (Aj e2 ew)))) ?_; (repeat' first | apply Cj.mk | exact Nl.nl) <;> intros)
          exact ⟨rfl, Kp.refl _⟩
        · rw [ho] at e2
          (refine W_x (Aj hc (Aj hbY (Aj m5 e2))) ?_; (repeat' first | apply Cj.mk | exact Nl.nl) <;> intros)
          exact ⟨if_neg (by simp), (by repeat' first | exact True.intro | refine And.intro rfl ?_), rfl, rfl⟩
      · rw [ho2] at m5
        rw [hit _ (if_pos (ra.2 (by rw [jit j (if_pos (by rw [ho2]; simp))]; rfl)))]
        (refine W_x (Aj hc (Aj hbY (Aj m5 ew))) ?_; (repeat' first | apply Cj.mk | exact Nl.nl) <;> intros)
        exact ⟨rfl, Kp.refl _⟩
    · subst hh
      (refine W_x trivial ?_; (repeat' first | apply Cj.mk | exact Nl.nl) <;> intros)
      refine wo_nextE hl rfl ?_
      (refine W_x trivial ?_; (repeat' first | apply Cj.mk | exact Nl.nl) <;> intros)
      exact ⟨if_neg (fun q => by have := ra.1 q; rw [fin] at this; cases this), rfl, rfl, rfl⟩
  rw [fin]
  (refine W_x trivial ?_; (repeat' first | apply Cj.mk | exact Nl.nl) <;> intros)
  exact ⟨rfl, Kp.refl _⟩
end Go.Proofs.YtblmakgjdenpfaaDoor.AM
namespace Go.Proofs.YtblmakgjdenpfaaDoor.AM
open Go
theorem scanL_const {α β : Type} {l : List α} {P : α → Prop} [DecidablePred P] {c : β} : (scanL l fun _ x => if P x then some c else none) = if ∃ x ∈ l, P x then some c else none := by
  rw [scanL_find (P := P) (val := fun _ => c)]
  have := find_some (L := l) (P := P)
  cases h : l.find? fun x => decide (P x) with
  | none =>
    rw [h] at this
    rw [if_neg fun q => by have := this.2 q; cases this]; rfl
  | some x =>
    rw [h] at this
    rw [if_pos (this.1 rfl)]; rfl
theorem scan_const {β : Type} {n : Nat} {P : Nat → Prop} [DecidablePred P] {c : β} : (scan n fun i => if P i then some c else none) = if ∃ i, i < n ∧ P i then some c else none := by
  by_cases h : ∃ i, i < n ∧ P i
  · rw [if_pos h]
    cases hs : scan n fun i => if P i then some c else none with
    | none =>
      obtain ⟨i, hi, hp⟩ := h
      have := scan_none hs i hi
      rw [if_pos hp] at this
      cases this
    | some w =>
      obtain ⟨i, hi, hw⟩ := scan_some hs
      split at hw
      · exact hw.symm
      · cases hw
  · rw [if_neg h]
    exact scan_end fun j hj => if_neg fun q => h ⟨j, hj, q⟩
def digS : ByteArray := ⟨#[45, 46, 48, 49, 50, 51, 52, 53, 54, 55, 56, 57]⟩
set_option maxRecDepth 100000 in
theorem spots_dig : (spots digS.data.toList).map (·.1) = ((List.range 13).filter fun i => decide (i ≠ 2)).map (45 + ·) := by decide
set_option maxRecDepth 100000 in
theorem spots_lett : (spots lettS.data.toList).map (·.1) = ((List.range 78).filter fun i => lettI ((45 + i : Nat) : Int)).map (45 + ·) := by decide
theorem ex_dig {P : Nat → Prop} : (∃ x ∈ spots digS.data.toList, P x.1) ↔ ∃ i, i < 13 ∧ i ≠ 2 ∧ P (45 + i) := by
  have : (∃ x ∈ spots digS.data.toList, P x.1) ↔ ∃ r ∈ (spots digS.data.toList).map (·.1), P r := by simp
  rw [this, spots_dig]
  simp only [List.mem_map, List.mem_filter, List.mem_range, decide_eq_true_eq]
  exact ⟨fun ⟨r, ⟨a, ⟨h1, h2⟩, e⟩, h3⟩ => ⟨a, h1, h2, by rw [e]; exact h3⟩, fun ⟨a, h1, h2, h3⟩ => ⟨_, ⟨a, ⟨h1, h2⟩, rfl⟩, h3⟩⟩
theorem ex_lett {P : Nat → Prop} : (∃ x ∈ spots lettS.data.toList, P x.1) ↔ ∃ i, i < 78 ∧ lettI ((45 + i : Nat) : Int) = true ∧ P (45 + i) := by
  have : (∃ x ∈ spots lettS.data.toList, P x.1) ↔ ∃ r ∈ (spots lettS.data.toList).map (·.1), P r := by simp
  rw [this, spots_lett]
  simp only [List.mem_map, List.mem_filter, List.mem_range, decide_eq_true_eq]
  exact ⟨fun ⟨r, ⟨a, ⟨h1, h2⟩, e⟩, h3⟩ => ⟨a, h1, h2, by rw [e]; exact h3⟩, fun ⟨a, h1, h2, h3⟩ => ⟨_, ⟨a, ⟨h1, h2⟩, rfl⟩, h3⟩⟩
theorem fixB_sets {s : ByteArray} (hv : validB s.data.toList = true) : fixB s = setsB s := by
  unfold fixB setsB rnO
  rw [if_pos hv, Option.getD_some]
set_option maxHeartbeats 8000000 in
theorem cHouse {h : AH} {B : Nat} {S : TS} {T : Tab} {d : Value} (c : CAt h B S T d) (ok1 : SpOk T.common) (ok7 : SpOk T.allowed)
    (hv4 : ∀ x ∈ T.folds, validB x.2.data.toList = true) (hv5 : ∀ x ∈ T.looks, validB x.2.data.toList = true) :
    WpC PX 64 [cP B] h fun v h' => v = wrV (houseW T) ∧ Kp h h' := by
  have t := c.t
  have hc := c.c
  have f := t.fits
  have s2 := t.r2.len; have n2 := f.n2
  have s3 := t.r3.len; have n3 := f.n3
  have s4 := t.r4.len; have n4 := f.n4
  have s5 := t.r5.len; have n5 := f.n5
  have s6 := t.r6.len; have n6 := f.n6
  have s7 := t.r7.len; have n7 := f.n7
  have ew := fun a b c h => wrong_eq a b c h
  simp only [wrV] at ew
  have e0 := fun r => of_eq t.r1 f.n1 ok1 r
  have e7 := fun r => of_eq t.r7 f.n7 ok7 r
  have e1 := low_eq
  have e2 := fixed_eq
  refine wpc_fn (px_ext rfl) (px_fn fn_tables_check_house) rfl ?_
  unfold LF_tables_check_house
  simp only [argFr]
  unfold houseW rowsW cP
  unfold cV at hc
  (refine W_x @ev_rngS ?_; (repeat' first | apply Cj.mk | exact Nl.nl) <;> intros)
  refine wp_spots none 40 digS digS.data.toList (fun h' => h' = h) (fun _ x => if ofI (x.1 : Nat) T.common = false then W 5 2 0 else none) rfl (fun _ => rfl) (by repeat' first | exact True.intro | refine And.intro rfl ?_) (fun _ => rfl) (by intro n; simp only [setL, push_cast, Nat.reduceEqDiff, ↓reduceIte, reduceCtorEq, Nat.reduceAdd, Nat.reduceMul, Nat.reduceLeDiff]; rfl) rfl rfl (fun j hj h1 hh jit => ?_) fun h1 hh fin => ?_
  · subst hh
    (refine W_x trivial ?_; (repeat' first | apply Cj.mk | exact Nl.nl) <;> intros)
    refine wo_next rfl rfl hj ?_
    have hm := List.getElem_mem hj
    generalize (spots digS.data.toList)[j] = y at jit hm
    have e3 := e0 (y.1 : Nat)
    cases ho : ofI (y.1 : Nat) T.common
    · rw [ho] at e3
      have hr : (scan 13 fun i => if i ≠ 2 ∧ ofI ((45 + i : Nat) : Int) T.common = false then W 5 2 0 else none) = W 5 2 0 := by
        rw [scan_const]
        exact if_pos ((ex_dig (P := fun n => ofI (n : Nat) T.common = false)).1 ⟨y, hm, ho⟩)
      rw [hr]
      (refine W_x (Aj hc (Aj e3 ew)) ?_; (repeat' first | apply Cj.mk | exact Nl.nl) <;> intros)
      exact ⟨rfl, Kp.refl _⟩
    · rw [ho] at e3
      (refine W_x (Aj hc e3) ?_; (repeat' first | apply Cj.mk | exact Nl.nl) <;> intros)
      exact ⟨if_neg (by simp), (by repeat' first | exact True.intro | refine And.intro rfl ?_), rfl, rfl⟩
  subst hh
  have hr : (scan 13 fun i => if i ≠ 2 ∧ ofI ((45 + i : Nat) : Int) T.common = false then W 5 2 0 else none) = none := by
    rw [scanL_const] at fin
    rw [scan_const]
    exact if_neg fun q => by rw [if_pos ((ex_dig (P := fun n => ofI (n : Nat) T.common = false)).2 q)] at fin; cases fin
  rw [hr, Option.none_or]
  clear fin hr
  (refine W_x (Aj hc s2) ?_; (repeat' first | apply Cj.mk | exact Nl.nl) <;> intros)
  refine wp_scanF 39 T.marks (fun i x => if lowI x.1 = true then W 5 3 i else none) (by intro n; simp only [setF, push_cast, Nat.reduceEqDiff, ↓reduceIte, reduceCtorEq, Nat.reduceAdd, Nat.reduceMul, Nat.reduceLeDiff]; rfl) rfl (fun i hi hit => ?_) fun fin => ?_
  · have g0 := fun lc => rd_map (lc := lc) t.r2 hi
    generalize T.marks[i] = x at g0 hit
    unfold markV at g0
    have e3 := e1 x.1
    generalize lowI x.1 = b at e3 hit
    cases b
    · (refine W_x (Aj s2 (Aj g0 e3)) ?_; (repeat' first | apply Cj.mk | exact Nl.nl) <;> intros)
      exact ⟨rfl, rfl, rfl, rfl⟩
    · rw [hit _ (if_pos rfl)]
      (refine W_x (Aj s2 (Aj g0 (Aj e3 ew))) ?_; (repeat' first | apply Cj.mk | exact Nl.nl) <;> intros)
      exact ⟨rfl, Kp.refl _⟩
  rw [fin, Option.none_or]
  (refine W_x (Aj hc s3) ?_; (repeat' first | apply Cj.mk | exact Nl.nl) <;> intros)
  refine wp_scanF 56 T.pairs (fun i x => if lowI x.1 = true then W 5 4 i else none) (by intro n; simp only [setF, push_cast, Nat.reduceEqDiff, ↓reduceIte, reduceCtorEq, Nat.reduceAdd, Nat.reduceMul, Nat.reduceLeDiff]; rfl) rfl (fun i hi hit => ?_) fun fin => ?_
  · have g0 := fun lc => rd_map (lc := lc) t.r3 hi
    generalize T.pairs[i] = x at g0 hit
    unfold tripV at g0
    have e3 := e1 x.1
    generalize lowI x.1 = b at e3 hit
    cases b
    · (refine W_x (Aj s3 (Aj g0 e3)) ?_; (repeat' first | apply Cj.mk | exact Nl.nl) <;> intros)
      exact ⟨rfl, rfl, rfl, rfl⟩
    · rw [hit _ (if_pos rfl)]
      (refine W_x (Aj s3 (Aj g0 (Aj e3 ew))) ?_; (repeat' first | apply Cj.mk | exact Nl.nl) <;> intros)
      exact ⟨rfl, Kp.refl _⟩
  rw [fin, Option.none_or]
  (refine W_x (Aj hc s4) ?_; (repeat' first | apply Cj.mk | exact Nl.nl) <;> intros)
  refine wp_scanF 73 T.folds (fun i x => if (lowI x.1 = true ∧ (x.1 < 65 ∨ 90 < x.1)) ∨ setsB x.2 = true then W 5 5 i else none) (by intro n; simp only [setF, push_cast, Nat.reduceEqDiff, ↓reduceIte, reduceCtorEq, Nat.reduceAdd, Nat.reduceMul, Nat.reduceLeDiff]; rfl) rfl (fun i hi hit => ?_) fun fin => ?_
  · have g0 := fun lc => rd_map (lc := lc) t.r4 hi
    have hx := f.v4 _ (List.getElem_mem hi)
    have hv := hv4 _ (List.getElem_mem hi)
    generalize T.folds[i] = x at g0 hit hx hv
    unfold mapV at g0
    have e4 := containsFixed_eq x.2 h1 hx.2
    rw [fixB_sets hv] at e4
    have e3 := e1 x.1
    generalize lowI x.1 = b at e3 hit
    generalize setsB x.2 = b2 at e4 hit
    cases b
    · cases b2
      · (refine W_x (Aj s4 (Aj g0 (Aj e3 e4))) ?_; (repeat' first | apply Cj.mk | exact Nl.nl) <;> intros)
        exact ⟨if_neg (by simp), rfl, rfl, rfl⟩
      · rw [hit _ (if_pos (.inr rfl))]
        (refine W_x (Aj s4 (Aj g0 (Aj e3 (Aj e4 ew)))) ?_; (repeat' first | apply Cj.mk | exact Nl.nl) <;> intros)
        exact ⟨rfl, Kp.refl _⟩
    · cases b2
      · (refine W_x (Aj s4 (Aj g0 (Aj e3 (Aj e4 ew)))) ?_; (repeat' first | apply Cj.mk | exact Nl.nl) <;> intros)
        · rw [hit _ (if_pos (.inl ⟨rfl, by omega⟩))]
          exact ⟨rfl, Kp.refl _⟩
        · rw [hit _ (if_pos (.inl ⟨rfl, by omega⟩))]
          exact ⟨rfl, Kp.refl _⟩
        · exact ⟨if_neg (by simp; omega), rfl, rfl, rfl⟩
      · rw [hit _ (if_pos (.inr rfl))]
        (refine W_x (Aj s4 (Aj g0 (Aj e3 (Aj e4 ew)))) ?_; (repeat' first | apply Cj.mk | exact Nl.nl) <;> intros)
        all_goals exact ⟨rfl, Kp.refl _⟩
  rw [fin, Option.none_or]
  (refine W_x (Aj hc s5) ?_; (repeat' first | apply Cj.mk | exact Nl.nl) <;> intros)
  refine wp_scanF 105 T.looks (fun i x => if setI x.1 = true ∨ setsB x.2 = true then W 5 6 i else none) (by intro n; simp only [setF, push_cast, Nat.reduceEqDiff, ↓reduceIte, reduceCtorEq, Nat.reduceAdd, Nat.reduceMul, Nat.reduceLeDiff]; rfl) rfl (fun i hi hit => ?_) fun fin => ?_
  · have g0 := fun lc => rd_map (lc := lc) t.r5 hi
    have hx := f.v5 _ (List.getElem_mem hi)
    have hv := hv5 _ (List.getElem_mem hi)
    generalize T.looks[i] = x at g0 hit hx hv
    unfold mapV at g0
    have e4 := containsFixed_eq x.2 h1 hx.2
    rw [fixB_sets hv] at e4
    have e3 := e2 x.1
    generalize setI x.1 = b at e3 hit
    generalize setsB x.2 = b2 at e4 hit
    cases b
    · cases b2
      · (refine W_x (Aj s5 (Aj g0 (Aj e3 e4))) ?_; (repeat' first | apply Cj.mk | exact Nl.nl) <;> intros)
        exact ⟨if_neg (by simp), rfl, rfl, rfl⟩
      · rw [hit _ (if_pos (.inr rfl))]
        (refine W_x (Aj s5 (Aj g0 (Aj e3 (Aj e4 ew)))) ?_; (repeat' first | apply Cj.mk | exact Nl.nl) <;> intros)
        exact ⟨rfl, Kp.refl _⟩
    · rw [hit _ (if_pos (.inl rfl))]
      (refine W_x (Aj s5 (Aj g0 (Aj e3 ew))) ?_; (repeat' first | apply Cj.mk | exact Nl.nl) <;> intros)
      exact ⟨rfl, Kp.refl _⟩
  rw [fin, Option.none_or]
  (refine W_x (Aj hc s6) ?_; (repeat' first | apply Cj.mk | exact Nl.nl) <;> intros)
  refine wp_scanF 127 T.drops (fun i x => if x.1 < 128 ∨ (x.1 ≤ 65533 ∧ 65533 ≤ x.2) then W 5 7 i else none) (by intro n; simp only [setF, push_cast, Nat.reduceEqDiff, ↓reduceIte, reduceCtorEq, Nat.reduceAdd, Nat.reduceMul, Nat.reduceLeDiff]; rfl) rfl (fun i hi hit => ?_) fun fin => ?_
  · have g0 := fun lc => rd_map (lc := lc) t.r6 hi
    generalize T.drops[i] = x at g0 hit
    unfold pairV at g0
    (refine W_x (Aj s6 (Aj g0 ew)) ?_; (repeat' first | apply Cj.mk | exact Nl.nl) <;> intros)
    · rw [hit _ (if_pos (by omega))]
      exact ⟨rfl, Kp.refl _⟩
    · rw [hit _ (if_pos (by omega))]
      exact ⟨rfl, Kp.refl _⟩
    all_goals exact ⟨if_neg (by omega), rfl, rfl, rfl⟩
  rw [fin, Option.none_or]
  (refine W_x (Aj hc s7) ?_; (repeat' first | apply Cj.mk | exact Nl.nl) <;> intros)
  refine wp_scanF 154 T.allowed (fun i x => if oddA x = true then W 5 8 i else none) (by intro n; simp only [setF, push_cast, Nat.reduceEqDiff, ↓reduceIte, reduceCtorEq, Nat.reduceAdd, Nat.reduceMul, Nat.reduceLeDiff]; rfl) rfl (fun i hi hit => ?_) fun fin => ?_
  · have g0 := fun lc => rd_map (lc := lc) t.r7 hi
    have hx := ok7.rune _ (List.getElem_mem hi)
    generalize T.allowed[i] = x at g0 hit hx
    have hx := (of_decide_eq_true hx.1).1
    unfold pairV at g0
    (refine W_x (Aj s7 g0) ?_; (repeat' first | apply Cj.mk | exact Nl.nl) <;> intros)
    refine wp_loop (fun w fr lc h2 => ∃ r : Int, w = (128 - r).toNat ∧ x.1 ≤ r ∧ (∀ c : Int, x.1 ≤ c → c < r → c ≤ x.2 ∧ c < 128 → lettI c = true) ∧ h2 = h1 ∧ lc = [(4, .cells false [.int .i64 0, .int .i64 0, .int .i64 0]), (32, .cells false [.int .i32 x.1, .int .i32 x.2])] ∧
      fr = [(0, .pointer (some ⟨B + 6, 0, none⟩)), (2, .pointer (some ⟨4, 0, some 1⟩)), (15, .int .i64 i), (16, .pointer (some ⟨32, 0, some 1⟩)), (17, .int .i32 r), (152, S.s7.val 2), (153, .int .i64 T.allowed.length), (154, .int .i64 i)]) (128 - x.1).toNat ⟨x.1, rfl, Int.le_refl _, fun c h1 h2 => by omega, rfl, rfl, rfl⟩ ?_
    rintro w fr lc h2 ⟨r, rfl, hr, hall, rfl, rfl, rfl⟩
    by_cases hin : r ≤ x.2 ∧ r < 128
    · have e5 := containsLett_eq r h2 (by omega) (by omega)
      unfold lettS at e5
      by_cases hl : lettI r = true
      · rw [hl] at e5
        (refine W_x (Aj s7 e5) ?_; (repeat' first | apply Cj.mk | exact Nl.nl) <;> intros)
        all_goals exact ⟨_, by omega, r + 1, rfl, by omega, fun c h3 h4 h5 => by
          by_cases h6 : c < r
          · exact hall c h3 h6 h5
          · rw [show c = r by omega]; exact hl, rfl, rfl, rfl⟩
      · rw [Bool.eq_false_iff.2 hl] at e5
        rw [hit _ (if_pos (odd_some hr hin.1 (by omega) hin.2 (Bool.eq_false_iff.2 hl)))]
        (refine W_x (Aj s7 (Aj e5 ew)) ?_; (repeat' first | apply Cj.mk | exact Nl.nl) <;> intros)
        all_goals exact ⟨rfl, Kp.refl _⟩
    · have ho : oddA x = false := odd_none fun c h1 h2 h3 h4 => hall c h1 (by omega) ⟨h2, h4⟩
      (refine W_x s7 ?_; (repeat' first | apply Cj.mk | exact Nl.nl) <;> intros)
      all_goals exact ⟨if_neg (by rw [ho]; decide), rfl, rfl, rfl⟩
  rw [fin, Option.none_or]
  (refine W_x @ev_rngS ?_; (repeat' first | apply Cj.mk | exact Nl.nl) <;> intros)
  refine wp_spots none 348 lettS lettS.data.toList (fun h' => h' = h1) (fun _ x => if ofI (x.1 : Nat) T.allowed = false then W 5 8 0 else none) rfl (fun _ => rfl) (by repeat' first | exact True.intro | refine And.intro rfl ?_) (fun _ => rfl) (by intro n; simp only [setL, push_cast, Nat.reduceEqDiff, ↓reduceIte, reduceCtorEq, Nat.reduceAdd, Nat.reduceMul, Nat.reduceLeDiff]; rfl) rfl rfl (fun j hj h2 hh jit => ?_) fun h2 hh fin => ?_
  · subst hh
    (refine W_x trivial ?_; (repeat' first | apply Cj.mk | exact Nl.nl) <;> intros)
    refine wo_next rfl rfl hj ?_
    have hm := List.getElem_mem hj
    generalize (spots lettS.data.toList)[j] = y at jit hm
    have e3 := e7 (y.1 : Nat)
    cases ho : ofI (y.1 : Nat) T.allowed
    · rw [ho] at e3
      have hr : (scan 78 fun i => if lettI ((45 + i : Nat) : Int) = true ∧ ofI ((45 + i : Nat) : Int) T.allowed = false then W 5 8 0 else none) = W 5 8 0 := by
        rw [scan_const]
        exact if_pos ((ex_lett (P := fun n => ofI (n : Nat) T.allowed = false)).1 ⟨y, hm, ho⟩)
      rw [hr]
      (refine W_x (Aj hc (Aj e3 ew)) ?_; (repeat' first | apply Cj.mk | exact Nl.nl) <;> intros)
      exact ⟨rfl, Kp.refl _⟩
    · rw [ho] at e3
      (refine W_x (Aj hc e3) ?_; (repeat' first | apply Cj.mk | exact Nl.nl) <;> intros)
      exact ⟨if_neg (by simp), (by repeat' first | exact True.intro | refine And.intro rfl ?_), rfl, rfl⟩
  subst hh
  have hr : (scan 78 fun i => if lettI ((45 + i : Nat) : Int) = true ∧ ofI ((45 + i : Nat) : Int) T.allowed = false then W 5 8 0 else none) = none := by
    rw [scanL_const] at fin
    rw [scan_const]
    exact if_neg fun q => by rw [if_pos ((ex_lett (P := fun n => ofI (n : Nat) T.allowed = false)).2 q)] at fin; cases fin
  rw [hr]
  (refine W_x trivial ?_; (repeat' first | apply Cj.mk | exact Nl.nl) <;> intros)
  exact ⟨rfl, Kp.refl _⟩
end Go.Proofs.YtblmakgjdenpfaaDoor.AM
namespace Go.Proofs.YtblmakgjdenpfaaDoor.AM
open Go
def slFull (e : Nat) (v w u : Value) : Option Value := (POp.sl e (.c v) none (some (.c w)) (some (.c u))).ev []
theorem ev_slFull {fr : Fr} {e : Nat} {x c d : Opd} : (POp.sl e x none (some c) (some d)).ev fr = slFull e (opd fr x) (opd fr c) (opd fr d) := rfl
theorem slFull_val {e : Nat} {s : Sl} {j i : Int} (h1 : j = s.len) (h2 : i = s.len) : slFull e (s.val e) (.int .i64 j) (.int .i64 i) = some (s.val e) := by
  subst h1 h2
  cases s with
  | nil => rfl
  | «at» b o n => simp [slFull, POp.ev, opd, Sl.val, Sl.len, optInt, asNat, ptrOff]
attribute [push_cast] ev_slFull slFull_val
def LFclone (e y : Nat) : LFunc := .mk 1 [.tmp 2] (.seq (R 999 [0] [.set 2 (.cv (.slice none 0 0))]) (.seq (.seq (R 3 [0, 4] [.tmp 4 (.op (.p (.eqk false .sl (.s 0) (.s 1))) (.cons (.va 0) (.cv (.slice none 0 0))))]) (.cond (.s 4) (.seq (R 999 [2] [.set 2 (.cv (.slice none 0 0))]) .ret) .skip)) (.seq (R 5 [2] [.set 2 (xap e y (.op (.e (.litH 0 e [] [])) .nil) (.va 0))]) .ret)))
def LFclip (e : Nat) : LFunc := .mk 1 [.tmp 2] (.seq (R 999 [0] [.set 2 (.cv (.slice none 0 0))]) (.seq (R 3 [2] [.set 2 (.op (.p (.sl e (.s 0) none (some (.s 1)) (some (.s 2)))) (.cons (.va 0) (.cons (xlen (.va 0)) (xlen (.va 0)))))]) .ret))
theorem clip_eq {f : FuncId} {e : Nat} (hx : PX.ext f = none) (hf : PX.fn f = some (LFclip e)) (s : Sl) (h : AH) : callO PX f [s.val e] h = some (s.val e, h) := by
  apply WpC.eqn
  refine wpc_fn hx hf rfl ?_
  unfold LFclip
  simp only [argFr]
  (refine W_x trivial ?_; (repeat' first | apply Cj.mk | exact Nl.nl) <;> intros)
  exact ⟨rfl, rfl⟩
theorem clone_spec {f : FuncId} {e y : Nat} (hx : PX.ext f = none) (hf : PX.fn f = some (LFclone e y)) (he : 0 < e) (hy : 0 < y) {h : AH} {s : Sl} {xss : List (List Value)} (rd : Reads h e s xss) (hn : xss.length * y ≤ 140737488355328) :
    WpC PX f [s.val e] h fun v h' => ∃ s', v = s'.val e ∧ FOwn h h' e s' xss := by
  refine wpc_fn hx hf rfl ?_
  unfold LFclone
  simp only [argFr]
  cases s with
  | nil =>
    have hz : xss = [] := List.eq_nil_of_length_eq_zero rd.1.symm
    subst hz
    (repeat' first
    | (show WpE _ _ _ _ _ _
       first
       | refine we_and ?_
       | refine we_or ?_
       | refine we_op (o := .e _) ?_
       | refine we_ef ?_
       | ((apply we_pure); focus ((try simp (disch := first | omega | (simp only [AH.nn_push, AH.nn_set, AH.nn_kill]; omega) | (simp only [AH.nn_push, AH.nn_set, AH.nn_kill]; done) | fail) only [push_cast, Nat.reduceEqDiff, ↓reduceIte, reduceCtorEq, Nat.reduceAdd, Nat.reduceMul, Nat.reduceLeDiff, Int.reduceAdd, Int.reduceSub, Int.reduceMul, Int.reduceToNat, AH.get_push_eq, AH.get_push_ne, AH.get_set_eq, AH.get_set_ne, AH.push_n, AH.set_n,  Sl.val]); rfl))
       | refine we_op ?_
       | refine we_cons ?_
       | fail)
    | (show WpO _ _ _ _ _ _
       first
       | ((first | apply wo_p | apply wo_r | apply wo_callA | apply wo_callvA | apply wo_e); focus ((try simp (disch := first | omega | (simp only [AH.nn_push, AH.nn_set, AH.nn_kill]; omega) | (simp only [AH.nn_push, AH.nn_set, AH.nn_kill]; done) | fail) only [push_cast, Nat.reduceEqDiff, ↓reduceIte, reduceCtorEq, Nat.reduceAdd, Nat.reduceMul, Nat.reduceLeDiff, Int.reduceAdd, Int.reduceSub, Int.reduceMul, Int.reduceToNat, AH.get_push_eq, AH.get_push_ne, AH.get_set_eq, AH.get_set_ne, AH.push_n, AH.set_n,  Sl.val]); rfl))
       | fail)
    | (show WpS _ _ _ _ _ _ _
       first
       | refine ws_set ?_
       | refine ws_tmp ?_
       | refine ws_run ?_
       | refine ws_at ?_
       | (apply ws_end; focus ((try simp (disch := first | omega | (simp only [AH.nn_push, AH.nn_set, AH.nn_kill]; omega) | (simp only [AH.nn_push, AH.nn_set, AH.nn_kill]; done) | fail) only [push_cast, Nat.reduceEqDiff, ↓reduceIte, reduceCtorEq, Nat.reduceAdd, Nat.reduceMul, Nat.reduceLeDiff, Int.reduceAdd, Int.reduceSub, Int.reduceMul, Int.reduceToNat, AH.get_push_eq, AH.get_push_ne, AH.get_set_eq, AH.get_set_ne, AH.push_n, AH.set_n,  Sl.val]); rfl))
       | fail)
    | (show Wp _ _ _ _ _ _
       first
       | refine wp_seq ?_
       | refine wp_R rfl ?_
       | refine wp_cond_t rfl ?_
       | refine wp_cond_f rfl ?_
       | refine wp_ret ?_
       | refine wp_skip ?_
       | refine wp_exit ?_
       | refine wp_block ?_
       | fail)
    | refine thenQ_norm ?_
    | (refine setK_fork (fun _ => ?_) (fun _ => ?_) <;> try (exfalso; omega))
    | (refine setK_forkN (fun _ => ?_) (fun _ => ?_) <;> try (exfalso; omega))
    | refine setK_one ?_
    | refine opK_one ?_
    | refine efK_one ?_
    | refine consK_one ?_
    | refine andK_t ?_
    | refine andK_f ?_
    | refine orK_t ?_
    | refine orK_f ?_
    | (refine andK_fork (fun _ => ?_) (fun _ => ?_) <;> try (exfalso; omega))
    | (refine andK_forkN (fun _ => ?_) (fun _ => ?_) <;> try (exfalso; omega))
    | (refine orK_fork (fun _ => ?_) (fun _ => ?_) <;> try (exfalso; omega))
    | (refine orK_forkN (fun _ => ?_) (fun _ => ?_) <;> try (exfalso; omega))
    | (refine oneK_fork (fun _ => ?_) (fun _ => ?_) <;> try (exfalso; omega))
    | (refine oneK_forkN (fun _ => ?_) (fun _ => ?_) <;> try (exfalso; omega))
    | refine oneK_one ?_
    | refine thenQ_ret ?_
    | refine thenQ_exit ?_
    | refine blockQ_norm ?_
    | refine blockQ_ret ?_
    | refine blockQ_same ?_
    | refine blockQ_ne rfl ?_
    | refine loopQ_norm ?_
    | refine loopQ_ret ?_
    | refine loopQ_exit ?_
    | ((first | apply retQ_ret | apply retQ_norm | apply wpc_of); focus ((try simp (disch := first | omega | (simp only [AH.nn_push, AH.nn_set, AH.nn_kill]; omega) | (simp only [AH.nn_push, AH.nn_set, AH.nn_kill]; done) | fail) only [push_cast, Nat.reduceEqDiff, ↓reduceIte, reduceCtorEq, Nat.reduceAdd, Nat.reduceMul, Nat.reduceLeDiff, Int.reduceAdd, Int.reduceSub, Int.reduceMul, Int.reduceToNat, AH.get_push_eq, AH.get_push_ne, AH.get_set_eq, AH.get_set_ne, AH.push_n, AH.set_n,  Sl.val]); rfl))
    | fail)
    exact ⟨.nil, rfl, FOwn.nil (Kp.refl h)⟩
  | «at» b o n =>
    have e0 : eqNil .sl ((Sl.at b o n).val e) (.slice none 0 0) = some false := rfl
    (refine W_x e0 ?_; (repeat' first | apply Cj.mk | exact Nl.nl) <;> intros)
    refine wo_appL (s := .at h.n 0 0) (t := .at b o n) (xss := []) (yss := xss) (FOwn.make (n := 0) (z := List.replicate e undef) (Kp.refl h) (by simp)) (rd.kp ((Kp.refl h).push _)) he hy (by simpa using hn) fun s' h' f => ?_
    (refine W_x trivial ?_; (repeat' first | apply Cj.mk | exact Nl.nl) <;> intros)
    exact ⟨s', rfl, f⟩
end Go.Proofs.YtblmakgjdenpfaaDoor.AM
namespace Go.Proofs.YtblmakgjdenpfaaDoor.AM
open Go
theorem Reads.same {h h' : AH} {e : Nat} {s : Sl} {xss : List (List Value)} (r : Reads h e s xss) (hs : ∀ b, s.blk = some b → h'.get b = h.get b) : Reads h' e s xss := by
  refine ⟨r.1, r.2.1, ?_⟩
  have := r.2.2
  cases s with
  | nil => trivial
  | «at» b o n => exact this.imp id fun ⟨ro, pre, post, h1, h2⟩ => ⟨ro, pre, post, (hs b rfl).trans h1, h2⟩
theorem Own.same {h h' : AH} {e : Nat} {s : Sl} {xss : List (List Value)} (r : Own h e s xss) (hs : ∀ b, s.blk = some b → h'.get b = h.get b) : Own h' e s xss := by
  refine ⟨r.1, r.2.1, ?_⟩
  have := r.2.2
  cases s with
  | nil => trivial
  | «at» b o n => exact let ⟨pre, h1, h2⟩ := this; ⟨pre, (hs b rfl).trans h1, h2⟩
set_option maxHeartbeats 4000000 in
theorem copied_spec {h : AH} {S : TS} {T : Tab} (t : TabAt h S T) : WpC PX 65 [.agg S.vs.toArray] h fun v h' => ∃ S', v = .agg S'.vs.toArray ∧ (∀ h2 : AH, (∀ b, h.n ≤ b → b < h'.n → h2.get b = h'.get b) → TabAt h2 S' T) ∧ Kp h h' := by
  have f := t.fits
  have n0 := f.n0
  have hz := f.n0s
  rw [← t.zs] at hz n0
  rw [List.length_map] at n0
  obtain ⟨_, g, e0, s0, rfl, f0⟩ := clone_spec (px_ext rfl) (px_fn fn_slices_Clone_api_Script_api_Script) (by decide) (by decide) t.r0 (by rw [List.length_map]; omega)
  have e0' := clip_eq (px_ext rfl) (px_fn fn_slices_Clip_api_Script_api_Script) s0 g
  have s0l := f0.own.1
  rw [List.length_map] at s0l
  refine wpc_fn (px_ext rfl) (px_fn fn_tables_copied) rfl ?_
  unfold LF_tables_copied
  simp only [argFr]
  unfold TS.vs
  (refine W_x (Aj e0 (Aj e0' s0l)) ?_; (repeat' first | apply Cj.mk | exact Nl.nl) <;> intros)
  have n1 := f.n1; have n2 := f.n2; have n3 := f.n3; have n4 := f.n4; have n5 := f.n5; have n6 := f.n6; have n7 := f.n7
  refine wp_scanJ (fun i g => ∃ Z' : List (Scr × Sl), Z'.length = i ∧ Z'.map (·.1) = (S.z.take i).map (·.1) ∧ (∀ z, z ∈ Z' → Reads g 2 z.2 (z.1.2.map pairV) ∧ ∀ b, z.2.blk = some b → s0.blk ≠ some b ∧ h.n ≤ b) ∧ FOwn h g 2 s0 ((Z' ++ S.z.drop i).map scrV)) 11 S.z (fun _ _ => (none : Option Unit)) (by intro n; simp only [setF, push_cast, Nat.reduceEqDiff, ↓reduceIte, reduceCtorEq, Nat.reduceAdd, Nat.reduceMul, Nat.reduceLeDiff]; rfl) rfl
    ⟨[], rfl, rfl, fun z hz => (List.not_mem_nil hz).elim, by simpa using f0⟩ (fun i hi g hj hit => ?_) fun g hj fin => ?_
  · obtain ⟨Z', hl, he, hr, fo⟩ := hj
    have hL : (Z' ++ S.z.drop i).length = S.z.length := by rw [List.length_append, List.length_drop]; omega
    have hLi : (Z' ++ S.z.drop i)[i]'(by omega) = S.z[i] := by
      rw [List.getElem_append_right (by omega), List.getElem_drop]
      congr 1
      omega
    have hcons : S.z.drop i = S.z[i] :: S.z.drop (i + 1) := List.drop_eq_getElem_cons hi
    have g1 := fun lc => rd_mapc (lc := lc) fo.reads (i := i) (by omega) (k := 1) (by decide)
    have hz := (hz _ (List.mem_map_of_mem (List.getElem_mem hi))).1
    have rz := (t.rz _ (List.getElem_mem hi)).kp fo.kp
    have hsn := take_snoc hi
    simp only [hLi] at g1
    generalize S.z[i] = z at g1 hz rz hcons hsn
    unfold scrV at g1
    obtain ⟨_, g2, e2, s', rfl, f2⟩ := clone_spec (px_ext rfl) (px_fn fn_slices_Clone_api_Span_api_Span) (by decide) (by decide) rz (by rw [List.length_map]; omega)
    have e2' := clip_eq (px_ext rfl) (px_fn fn_slices_Clip_api_Span_api_Span) s' g2
    have hs0 := fun b (hb : s0.blk = some b) => fo.own.lt hb
    have ow : Own g2 2 s0 ((Z' ++ S.z.drop i).map scrV) := fo.own.same fun b hb => f2.kp.2 b (hs0 b hb)
    obtain ⟨g3, hw, ow3, n3, hk3⟩ := own_set1 ow (i := i) (k := 1) (by rw [List.length_map]; omega) (by decide) (s'.val 2)
    (refine W_x (Aj s0l (Aj g1 (Aj e2 (Aj e2' hw)))) ?_; (repeat' first | apply Cj.mk | exact Nl.nl) <;> intros)
    refine ⟨rfl, rfl, rfl, Z' ++ [(z.1, s')], by rw [List.length_append, hl]; rfl, by rw [List.map_append, he, hsn, List.map_append]; rfl, fun x hx => ?_, ?_⟩
    · rcases List.mem_append.1 hx with hx | hx
      · exact ⟨((hr x hx).1.kp f2.kp).same fun b hb => hk3 b ((hr x hx).2 b hb).1, (hr x hx).2⟩
      · rw [List.mem_singleton.1 hx]
        have hne : ∀ b, s'.blk = some b → s0.blk ≠ some b ∧ h.n ≤ b := fun b hb => by
          have h1 := f2.new b hb
          have h3 := fo.kp.1
          exact ⟨fun q => by have h2 := hs0 b q; omega, by omega⟩
        exact ⟨f2.reads.same fun b hb => hk3 b (hne b hb).1, hne⟩
    · have hlist : ((Z' ++ S.z.drop i).map scrV).set i ((((Z' ++ S.z.drop i).map scrV)[i]'(by rw [List.length_map]; omega)).set 1 (s'.val 2)) = ((Z' ++ [(z.1, s')]) ++ S.z.drop (i + 1)).map scrV := by
        rw [List.getElem_map]
        simp only [hcons, List.map_append, List.map_cons, List.map_nil, List.append_assoc, List.singleton_append]
        rw [List.set_append_right _ _ (by rw [List.length_map]; omega)]
        congr 1
        rw [List.length_map, hl, Nat.sub_self, List.set_cons_zero]
        congr 1
        rw [List.getElem_append_right (by omega)]
        simp only [hl, Nat.sub_self, List.getElem_cons_zero]
        rfl
      rw [hlist] at ow3
      exact ⟨ow3, ⟨by rw [n3]; exact Nat.le_trans fo.kp.1 f2.kp.1, fun b hb => by
        rw [hk3 b (fun q => by have := fo.new b q; omega), f2.kp.2 b (Nat.lt_of_lt_of_le hb fo.kp.1), fo.kp.2 b hb]⟩, fo.new⟩
  clear fin
  obtain ⟨Z', hl, he, hr, fo⟩ := hj
  rw [List.take_length, t.zs] at he
  rw [List.drop_length, List.append_nil] at fo
  have k := fo.kp
  obtain ⟨_, g1, a1, c1, rfl, f1⟩ := clone_spec (px_ext rfl) (px_fn fn_slices_Clone_api_Span_api_Span) (by decide) (by decide) (t.kp k).r1 (by rw [List.length_map]; omega)
  have b1 := clip_eq (px_ext rfl) (px_fn fn_slices_Clip_api_Span_api_Span) c1 g1
  have k1 := k.trans f1.kp
  obtain ⟨_, g2, a2, c2, rfl, f2⟩ := clone_spec (px_ext rfl) (px_fn fn_slices_Clone_api_Mark_api_Mark) (by decide) (by decide) (t.kp k1).r2 (by rw [List.length_map]; omega)
  have b2 := clip_eq (px_ext rfl) (px_fn fn_slices_Clip_api_Mark_api_Mark) c2 g2
  have k2 := k1.trans f2.kp
  obtain ⟨_, g3, a3, c3, rfl, f3⟩ := clone_spec (px_ext rfl) (px_fn fn_slices_Clone_api_Pair_api_Pair) (by decide) (by decide) (t.kp k2).r3 (by rw [List.length_map]; omega)
  have b3 := clip_eq (px_ext rfl) (px_fn fn_slices_Clip_api_Pair_api_Pair) c3 g3
  have k3 := k2.trans f3.kp
  obtain ⟨_, g4, a4, c4, rfl, f4⟩ := clone_spec (px_ext rfl) (px_fn fn_slices_Clone_api_Map_api_Map) (by decide) (by decide) (t.kp k3).r4 (by rw [List.length_map]; omega)
  have b4 := clip_eq (px_ext rfl) (px_fn fn_slices_Clip_api_Map_api_Map) c4 g4
  have k4 := k3.trans f4.kp
  obtain ⟨_, g5, a5, c5, rfl, f5⟩ := clone_spec (px_ext rfl) (px_fn fn_slices_Clone_api_Map_api_Map) (by decide) (by decide) (t.kp k4).r5 (by rw [List.length_map]; omega)
  have b5 := clip_eq (px_ext rfl) (px_fn fn_slices_Clip_api_Map_api_Map) c5 g5
  have k5 := k4.trans f5.kp
  obtain ⟨_, g6, a6, c6, rfl, f6⟩ := clone_spec (px_ext rfl) (px_fn fn_slices_Clone_api_Span_api_Span) (by decide) (by decide) (t.kp k5).r6 (by rw [List.length_map]; omega)
  have b6 := clip_eq (px_ext rfl) (px_fn fn_slices_Clip_api_Span_api_Span) c6 g6
  have k6 := k5.trans f6.kp
  obtain ⟨_, g7, a7, c7, rfl, f7⟩ := clone_spec (px_ext rfl) (px_fn fn_slices_Clone_api_Span_api_Span) (by decide) (by decide) (t.kp k6).r7 (by rw [List.length_map]; omega)
  have b7 := clip_eq (px_ext rfl) (px_fn fn_slices_Clip_api_Span_api_Span) c7 g7
  have k7 := k6.trans f7.kp
  have q6 := f7.kp
  have q5 := f6.kp.trans q6
  have q4 := f5.kp.trans q5
  have q3 := f4.kp.trans q4
  have q2 := f3.kp.trans q3
  have q1 := f2.kp.trans q2
  have q0 := f1.kp.trans q1
  (refine W_x s0l ?_; (repeat' first | apply Cj.mk | exact Nl.nl) <;> intros)
  (refine W_y (Aj a1 (Aj b1 (Aj a2 (Aj b2 (Aj a3 (Aj b3 (Aj a4 (Aj b4 (Aj a5 (Aj b5 (Aj a6 (Aj b6 (Aj a7 b7))))))))))))) ?_; (repeat' first | apply Cj.mk | exact Nl.nl) <;> intros)
  refine ⟨⟨s0, c1, c2, c3, c4, c5, c6, c7, Z'⟩, rfl, fun h2 hs => ?_, k7⟩
  have key : ∀ {e : Nat} {s : Sl} {xss : List (List Value)} {gn : AH}, Reads gn e s xss → Kp gn g7 → (∀ b, s.blk = some b → h.n ≤ b ∧ b < gn.n) → Reads h2 e s xss := fun r q hb =>
    (r.kp q).same fun b e => hs b (hb b e).1 (Nat.lt_of_lt_of_le (hb b e).2 q.1)
  have kn : ∀ {e : Nat} {s : Sl} {xss : List (List Value)} {ga gb : AH}, FOwn ga gb e s xss → Kp h ga → ∀ b, s.blk = some b → h.n ≤ b ∧ b < gb.n := fun f k b e => ⟨Nat.le_trans k.1 (f.new b e), f.own.lt e⟩
  have kz : ∀ {s : Sl} {xss : List (List Value)}, Reads g 2 s xss → (∀ b, s.blk = some b → h.n ≤ b) → Reads h2 2 s xss := fun {s xss} r hb => by
    refine ⟨r.1, r.2.1, ?_⟩
    have := (r.kp q0).2.2
    cases s with
    | nil => trivial
    | «at» b o n => exact this.imp id fun ⟨ro, pre, post, h1, h3⟩ => ⟨ro, pre, post, (hs b (hb b rfl) (AH.get_lt h1)).trans h1, h3⟩
  exact ⟨f, key fo.reads q0 (kn fo (Kp.refl h)), he, fun z hz => kz (hr z hz).1 fun b e => ((hr z hz).2 b e).2,
    key f1.reads q1 (kn f1 k), key f2.reads q2 (kn f2 k1), key f3.reads q3 (kn f3 k2), key f4.reads q4 (kn f4 k3), key f5.reads q5 (kn f5 k4), key f6.reads q6 (kn f6 k5), key f7.reads (Kp.refl g7) (kn f7 k6)⟩
end Go.Proofs.YtblmakgjdenpfaaDoor.AM
