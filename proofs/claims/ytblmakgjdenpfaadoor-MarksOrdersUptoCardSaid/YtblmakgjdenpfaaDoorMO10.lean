/- Parts of the proof of MarksOrders: its lemmas, joined. -/
import Derived.Test.YtblmakgjdenpfaaDoorMO9
import Derived.Deep.DeepHandedRow
import Derived.OpenShut
import Derived.LaidLaws
set_option linter.unusedVariables false
set_option linter.unusedSimpArgs false
set_option linter.unusedSectionVars false
namespace Go.Proofs.YtblmakgjdenpfaaDoor.AM
open Go
structure U8T (h : AH) : Prop where
  f : h.get 0 = some (.cells true firstV)
  a : h.get 1 = some (.cells true acceptV)
theorem U8T.kp {h h' : AH} (t : U8T h) (k : Kp h h') : U8T h' := ⟨k.get t.f, k.get t.a⟩
def fstN (x : Nat) : Nat := Go.Pinned.utf8FirstZ.getD x 0
set_option maxRecDepth 100000 in
theorem fst_len : Go.Pinned.utf8FirstZ.length = 256 := by decide
set_option maxRecDepth 100000 in
theorem fst_cls : ∀ x : Fin 256, 128 ≤ x.val → (194 ≤ x.val ∧ x.val ≤ 223 ∧ fstN x.val = 2) ∨ (x.val = 224 ∧ fstN x.val = 19) ∨ (x.val = 237 ∧ fstN x.val = 35) ∨ (225 ≤ x.val ∧ x.val ≤ 239 ∧ x.val ≠ 237 ∧ fstN x.val = 3) ∨ (x.val = 240 ∧ fstN x.val = 52) ∨ (x.val = 244 ∧ fstN x.val = 68) ∨
    (241 ≤ x.val ∧ x.val ≤ 243 ∧ fstN x.val = 4) ∨ ((x.val < 194 ∨ 244 < x.val) ∧ fstN x.val = 241) := by decide
theorem rd_first {h : AH} (t : U8T h) (lc : Lc) {x : Nat} (hx : x < 256) : Mem.rd ⟨lc, h⟩ ⟨0, x, none⟩ 1 = some [.int .u8 (fstN x)] := by
  have hl : firstV.length = 256 := by unfold firstV; rw [List.length_map, fst_len]
  rw [rd_heap, t.f]
  simp only [hl]
  rw [if_pos (by omega)]
  congr 1
  rw [List.drop_eq_getElem_cons (by omega), List.take_succ_cons, List.take_zero]
  unfold firstV fstN
  rw [List.getElem_map, List.getD_eq_getElem?_getD, List.getElem?_eq_getElem (by rw [fst_len]; exact hx), Option.getD_some]
theorem rd_accept {h : AH} (t : U8T h) (lc : Lc) (j : Fin 16) : Mem.rd ⟨lc, h⟩ ⟨1, 2 * j.val, none⟩ 2 = some [.int .u8 (acceptZ.getD j.val (0, 0)).1, .int .u8 (acceptZ.getD j.val (0, 0)).2] := by
  rw [rd_heap, t.a]
  obtain ⟨j, hj⟩ := j
  rcases (show j = 0 ∨ j = 1 ∨ j = 2 ∨ j = 3 ∨ j = 4 ∨ j = 5 ∨ j = 6 ∨ j = 7 ∨ j = 8 ∨ j = 9 ∨ j = 10 ∨ j = 11 ∨ j = 12 ∨ j = 13 ∨ j = 14 ∨ j = 15 by omega) with rfl | rfl | rfl | rfl | rfl | rfl | rfl | rfl | rfl | rfl | rfl | rfl | rfl | rfl | rfl | rfl <;> rfl
theorem rn_some {l : Bytes} : (rnB l).isSome = validB l := by
  unfold rnB
  split
  · rename_i h; rw [h]; rfl
  · rename_i h; rw [Bool.eq_false_iff.2 h]; rfl
theorem rn_skip : ∀ (k : Nat) {l : Bytes}, k ≤ l.length → (∀ i, i < k → bat l i < 128) → (rnB l).isSome = (rnB (l.drop k)).isSome
  | 0, l, _, _ => by rw [List.drop_zero]
  | k + 1, l, hk, h => by
    have hne : l ≠ [] := fun e => by rw [e] at hk; simp at hk
    have h0 := h 0 (by omega)
    have e : (rnB l).isSome = (rnB (l.drop 1)).isSome := by
      rcases seq1 hne with ⟨_, e⟩ | ⟨a, _⟩ | ⟨a, _⟩ | ⟨a, _⟩ | ⟨_, hh, _⟩
      · rw [e]; simp
      all_goals omega
    rw [e, rn_skip k (by rw [List.length_drop]; omega) (fun i hi => by rw [bat_drop]; exact h (1 + i) (by omega)), List.drop_drop]
    congr 3
    omega
theorem ext_drop (s : ByteArray) (i : Nat) (hi : i ≤ s.size) : (s.extract i s.size).data.toList = s.data.toList.drop i ∧ (s.extract i s.size).size = s.size - i := by
  have e := ba_extract s i s.size (Nat.le_refl _)
  have hz : s.size = s.data.toList.length := rfl
  rw [List.take_of_length_le (by rw [List.length_drop]; omega)] at e
  refine ⟨e, ?_⟩
  show (s.extract i s.size).data.size = _
  rw [← Array.length_toList, e, List.length_drop]
  omega
theorem u8a (z r : Int) (h : (z, r) ∈ [((2 : Int), (2 : Int)), (19, 3), (35, 3), (3, 3), (52, 4), (68, 4), (4, 4), (241, 1)]) : binA .and (.int .u8 z) (.int .u8 7) = some (.int .u8 r) := by
  simp only [List.mem_cons, List.mem_nil_iff, or_false, Prod.mk.injEq] at h
  rcases h with ⟨rfl, rfl⟩ | ⟨rfl, rfl⟩ | ⟨rfl, rfl⟩ | ⟨rfl, rfl⟩ | ⟨rfl, rfl⟩ | ⟨rfl, rfl⟩ | ⟨rfl, rfl⟩ | ⟨rfl, rfl⟩ <;> rfl
theorem u8s (z r : Int) (h : (z, r) ∈ [((2 : Int), (0 : Int)), (19, 1), (35, 2), (3, 0), (52, 3), (68, 4), (4, 0), (241, 15)]) : binA .shr (.int .u8 z) (.int .u64 4) = some (.int .u8 r) := by
  simp only [List.mem_cons, List.mem_nil_iff, or_false, Prod.mk.injEq] at h
  rcases h with ⟨rfl, rfl⟩ | ⟨rfl, rfl⟩ | ⟨rfl, rfl⟩ | ⟨rfl, rfl⟩ | ⟨rfl, rfl⟩ | ⟨rfl, rfl⟩ | ⟨rfl, rfl⟩ | ⟨rfl, rfl⟩ <;> rfl
set_option maxHeartbeats 4000000 in
theorem validString_eq (s : ByteArray) (h : AH) (hT : U8T h) (hsz : s.size < 100000000) : callO PX 90 [.string s] h = some (.bool (validB s.data.toList), h) := by
  apply WpC.eqn
  rw [← rn_some]
  obtain ⟨V, hV⟩ : ∃ V, V = (rnB s.data.toList).isSome := ⟨_, rfl⟩
  rw [← hV]
  refine wpc_fn (px_ext rfl) (px_fn fn_utf8_ValidString) rfl ?_
  unfold LF_utf8_ValidString
  simp only [argFr]
  (refine W_x trivial ?_; (repeat' first | apply Cj.mk | exact Nl.nl) <;> intros)
  refine wp_loopB (fun w fr lc h1 => ∃ t : ByteArray, w = t.size ∧ t.size < 100000000 ∧ V = (rnB t.data.toList).isSome ∧ h1 = h ∧ fr = [(0, .string t)] ∧ lc = []) s.size [(0, .string s)] (by repeat' first | exact True.intro | refine And.intro rfl ?_) ⟨s, rfl, hsz, hV, rfl, rfl, rfl⟩ (by rintro _ _ _ _ ⟨t, _, _, _, _, rfl, _⟩; rfl) ?_
  rintro w fr lc h1 ⟨t, rfl, htz, hV, rfl, rfl, rfl⟩
  obtain ⟨l, hl⟩ : ∃ l, l = t.data.toList := ⟨_, rfl⟩
  have hll : l.length = t.size := by rw [hl]; rfl
  rw [← hl] at hV
  rcases Nat.eq_zero_or_pos t.size with h0 | h0
  · have hn : l = [] := List.eq_nil_of_length_eq_zero (by omega)
    rw [hn, rnB_nil] at hV
    (refine W_x trivial ?_; (repeat' first | apply Cj.mk | exact Nl.nl) <;> intros)
    exact ⟨by rw [hV]; rfl, rfl⟩
  have hne : l ≠ [] := fun e => by rw [e] at hll; simp at hll; omega
  have cut : ∀ k : Nat, k ≤ t.size → ∃ u : ByteArray, t.extract k t.size = u ∧ u.data.toList = l.drop k ∧ u.size = t.size - k := fun k hk => by
    obtain ⟨a, b⟩ := ext_drop t k hk
    exact ⟨_, rfl, by rw [a, hl], b⟩
  obtain ⟨x0, q0⟩ : ∃ x, bat l 0 = x := ⟨_, rfl⟩
  have c0 := bat_lt l 0
  rw [q0] at c0
  by_cases hx : x0 < 128
  · obtain ⟨u, hu, ul, uz⟩ := cut 1 (by omega)
    have hV1 : V = (rnB u.data.toList).isSome := by rw [hV, ul]; exact rn_skip 1 (by omega) (fun i hi => by rw [show i = 0 by omega, q0]; exact hx)
    have hlt : u.size < t.size := by omega
    clear hV cut
    have ec : ((hiC : Nat) : Int) = 9259542123273814144 := rfl
    have fin : ∀ (w : ByteArray) (f : Fr), V = (rnB w.data.toList).isSome → w.size < t.size → AgF [(0, Value.string w)] f → ∃ n', n' < t.size ∧ ∃ f1 : Fr, AgF f1 f ∧ ∃ t1 : ByteArray, n' = t1.size ∧ t1.size < 100000000 ∧ V = (rnB t1.data.toList).isSome ∧ h1 = h1 ∧ f1 = [(0, .string t1)] ∧ ([] : Lc) = [] := fun w f a b c => ⟨_, b, _, c, w, rfl, by omega, a, rfl, rfl, rfl⟩
    have skip : ∀ (w : ByteArray) (k : Nat), V = (rnB w.data.toList).isSome → w.size < t.size → k ≤ w.size → (∀ i, i < k → bat w.data.toList i < 128) → ∃ w', w.extract k w.size = w' ∧ V = (rnB w'.data.toList).isSome ∧ w'.size < t.size ∧ w'.size = w.size - k := fun w k a b c d => by
      obtain ⟨e1, e2⟩ := ext_drop w k c
      exact ⟨_, rfl, by rw [e1, a]; exact rn_skip k (by rw [Array.length_toList]; exact c) d, by omega, e2⟩
    by_cases c8 : 8 < u.size
    · obtain ⟨w1, v1⟩ := word_eq u h1 (by omega)
      have ec1 := and64 v1 (show hiC < 18446744073709551616 by decide)
      rw [ec] at ec1
      by_cases z1 : wordN u.data.toList &&& hiC = 0
      · rw [z1] at ec1
        obtain ⟨u2, hu2, hV2, lt2, uz2⟩ := skip u 8 hV1 hlt (by omega) (word_low z1)
        by_cases c16 : 16 < u2.size
        · obtain ⟨w2, v2⟩ := word_eq u2 h1 (by omega)
          obtain ⟨d3, d3z⟩ := ext_drop u2 8 (by omega)
          obtain ⟨w3, v3⟩ := word_eq (u2.extract 8 u2.size) h1 (by omega)
          obtain ⟨o1, o2⟩ := or64 v2 v3
          have ec2 := and64 o2 (show hiC < 18446744073709551616 by decide)
          rw [ec] at ec2
          by_cases z2 : (wordN u2.data.toList ||| wordN (u2.extract 8 u2.size).data.toList) &&& hiC = 0
          · rw [z2] at ec2
            obtain ⟨y1, y2⟩ := or_zero z2
            have y1 := word_low y1
            have y2 := word_low y2
            obtain ⟨u3, hu3, hV3, lt3, uz3⟩ := skip u2 16 hV2 lt2 (by omega) (fun i hi => by
              rcases Nat.lt_or_ge i 8 with h8 | h8
              · exact y1 i h8
              · have := y2 (i - 8) (by omega)
                rw [d3, bat_drop, show 8 + (i - 8) = i by omega] at this
                exact this)
            (refine W_x (Aj hl.symm (Aj q0 (Aj hu (Aj w1 (Aj ec1 (Aj hu2 (Aj w2 (Aj w3 (Aj o1 (Aj ec2 hu3)))))))))) ?_; (repeat' first | apply Cj.mk | exact Nl.nl) <;> intros)
            clear hV1 hV2 w1 w2 w3 o1 o2 ec1 ec2 hu hu2 hu3 d3 d3z v1 v2 v3 z1 z2 y1 y2 c8 c16 uz uz2 uz3 ul hlt lt2
            refine wp_loopB (fun w fr lc h2 => ∃ t1 : ByteArray, w = t1.size ∧ V = (rnB t1.data.toList).isSome ∧ t1.size < t.size ∧ h2 = h1 ∧ fr = [(0, .string t1)] ∧ lc = []) u3.size [(0, .string u3)] (by repeat' first | exact True.intro | refine And.intro rfl ?_) ⟨u3, rfl, hV3, lt3, rfl, rfl, rfl⟩ (by rintro _ _ _ _ ⟨t, _, _, _, _, rfl, _⟩; rfl) ?_
            rintro w fr lc h2 ⟨t1, rfl, hV4, lt4, rfl, rfl, rfl⟩
            by_cases c32 : 32 < t1.size
            · obtain ⟨w1, v1⟩ := word_eq t1 h2 (by omega)
              obtain ⟨d2, d2z⟩ := ext_drop t1 8 (by omega)
              obtain ⟨w2, v2⟩ := word_eq (t1.extract 8 t1.size) h2 (by omega)
              obtain ⟨d3, d3z⟩ := ext_drop t1 16 (by omega)
              obtain ⟨w3, v3⟩ := word_eq (t1.extract 16 t1.size) h2 (by omega)
              obtain ⟨d4, d4z⟩ := ext_drop t1 24 (by omega)
              obtain ⟨w4, v4⟩ := word_eq (t1.extract 24 t1.size) h2 (by omega)
              obtain ⟨o1, o2⟩ := or64 v1 v2
              obtain ⟨o3, o4⟩ := or64 v3 v4
              obtain ⟨o5, o6⟩ := or64 o2 o4
              have ec2 := and64 o6 (show hiC < 18446744073709551616 by decide)
              rw [ec] at ec2
              by_cases z2 : ((wordN t1.data.toList ||| wordN (t1.extract 8 t1.size).data.toList) ||| (wordN (t1.extract 16 t1.size).data.toList ||| wordN (t1.extract 24 t1.size).data.toList)) &&& hiC = 0
              · rw [z2] at ec2
                obtain ⟨y12, y34⟩ := or_zero z2
                obtain ⟨y1, y2⟩ := or_zero y12
                obtain ⟨y3, y4⟩ := or_zero y34
                have y1 := word_low y1
                have y2 := word_low y2
                have y3 := word_low y3
                have y4 := word_low y4
                obtain ⟨u4, hu4, hV5, lt5, uz5⟩ := skip t1 32 hV4 lt4 (by omega) (fun i hi => by
                  rcases Nat.lt_or_ge i 8 with h8 | h8
                  · exact y1 i h8
                  rcases Nat.lt_or_ge i 16 with h16 | h16
                  · have := y2 (i - 8) (by omega)
                    rw [d2, bat_drop, show 8 + (i - 8) = i by omega] at this
                    exact this
                  rcases Nat.lt_or_ge i 24 with h24 | h24
                  · have := y3 (i - 16) (by omega)
                    rw [d3, bat_drop, show 16 + (i - 16) = i by omega] at this
                    exact this
                  · have := y4 (i - 24) (by omega)
                    rw [d4, bat_drop, show 24 + (i - 24) = i by omega] at this
                    exact this)
                (refine W_x (Aj w1 (Aj w2 (Aj w3 (Aj w4 (Aj o1 (Aj o3 (Aj o5 (Aj ec2 hu4)))))))) ?_; (repeat' first | apply Cj.mk | exact Nl.nl) <;> intros)
                exact ⟨_, by omega, _, (by repeat' first | exact True.intro | refine And.intro rfl ?_), u4, rfl, hV5, lt5, rfl, rfl, rfl⟩
              · generalize ((wordN t1.data.toList ||| wordN (t1.extract 8 t1.size).data.toList) ||| (wordN (t1.extract 16 t1.size).data.toList ||| wordN (t1.extract 24 t1.size).data.toList)) &&& hiC = zz at ec2 z2
                (refine W_x (Aj w1 (Aj w2 (Aj w3 (Aj w4 (Aj o1 (Aj o3 (Aj o5 ec2))))))) ?_; (repeat' first | apply Cj.mk | exact Nl.nl) <;> intros)
                exact fin t1 _ hV4 lt4 (by repeat' first | exact True.intro | refine And.intro rfl ?_)
            · (refine W_x trivial ?_; (repeat' first | apply Cj.mk | exact Nl.nl) <;> intros)
              exact fin t1 _ hV4 lt4 (by repeat' first | exact True.intro | refine And.intro rfl ?_)
          · generalize (wordN u2.data.toList ||| wordN (u2.extract 8 u2.size).data.toList) &&& hiC = zz at ec2 z2
            (refine W_x (Aj hl.symm (Aj q0 (Aj hu (Aj w1 (Aj ec1 (Aj hu2 (Aj w2 (Aj w3 (Aj o1 ec2))))))))) ?_; (repeat' first | apply Cj.mk | exact Nl.nl) <;> intros)
            exact fin u2 _ hV2 lt2 (by repeat' first | exact True.intro | refine And.intro rfl ?_)
        · (refine W_x (Aj hl.symm (Aj q0 (Aj hu (Aj w1 (Aj ec1 hu2))))) ?_; (repeat' first | apply Cj.mk | exact Nl.nl) <;> intros)
          exact fin u2 _ hV2 lt2 (by repeat' first | exact True.intro | refine And.intro rfl ?_)
      · generalize wordN u.data.toList &&& hiC = zz at ec1 z1
        (refine W_x (Aj hl.symm (Aj q0 (Aj hu (Aj w1 ec1)))) ?_; (repeat' first | apply Cj.mk | exact Nl.nl) <;> intros)
        exact fin u _ hV1 hlt (by repeat' first | exact True.intro | refine And.intro rfl ?_)
    · (refine W_x (Aj hl.symm (Aj q0 hu)) ?_; (repeat' first | apply Cj.mk | exact Nl.nl) <;> intros)
      exact fin u _ hV1 hlt (by repeat' first | exact True.intro | refine And.intro rfl ?_)
  ·
    obtain ⟨x1, q1⟩ : ∃ x, bat l 1 = x := ⟨_, rfl⟩
    obtain ⟨x2, q2⟩ : ∃ x, bat l 2 = x := ⟨_, rfl⟩
    obtain ⟨x3, q3⟩ : ∃ x, bat l 3 = x := ⟨_, rfl⟩
    have c1 := bat_lt l 1
    have c2 := bat_lt l 2
    have c3 := bat_lt l 3
    rw [q1] at c1
    rw [q2] at c2
    rw [q3] at c3
    have rf := fun lc => rd_first hT lc c0
    have ra := fun j lc => rd_accept hT lc j
    have fin : ∀ (k : Nat) (c : Nat) (f : Fr), 0 < k → k ≤ t.size → rnB l = (rnB (l.drop k)).map (c :: ·) → AgF [(0, Value.string (t.extract k t.size))] f → ∃ n', n' < t.size ∧ ∃ f1 : Fr, AgF f1 f ∧ ∃ t1 : ByteArray, n' = t1.size ∧ t1.size < 100000000 ∧ V = (rnB t1.data.toList).isSome ∧ h1 = h1 ∧ f1 = [(0, .string t1)] ∧ ([] : Lc) = [] := fun k c f h0 hk e ha => by
      obtain ⟨u, hu, ul, uz⟩ := cut k hk
      rw [hu] at ha
      exact ⟨_, by omega, _, ha, u, rfl, by omega, by rw [hV, e, ul]; simp, rfl, rfl, rfl⟩
    have badV : rnB l = none → V = false := fun e => by rw [hV, e]; rfl
    have g2 := seq1 hne
    clear hV cut
    simp only [acceptZ] at ra
    rcases fst_cls ⟨x0, c0⟩ (by simp only; omega) with ⟨a1, a2, hz⟩ | ⟨a1, hz⟩ | ⟨a1, hz⟩ | ⟨a1, a2, a3, hz⟩ | ⟨a1, hz⟩ | ⟨a1, hz⟩ | ⟨a1, a2, hz⟩ | ⟨a1, hz⟩
    all_goals simp only at hz
    · have rf : ∀ lc, Mem.rd ⟨lc, h1⟩ ⟨0, x0, none⟩ 1 = some [.int .u8 2] := fun lc => by rw [rf lc, hz]; rfl
      have e1 := u8a 2 2 (by simp)
      have e2 := u8s 2 0 (by simp)
      have r0 : ∀ lc, Mem.rd ⟨lc, h1⟩ ⟨1, 0, none⟩ 2 = some [.int .u8 128, .int .u8 191] := fun lc => ra 0 lc
      simp only at a1 a2
      rcases g2 with ⟨a, e⟩ | ⟨a, b, n, d1, r, e⟩ | ⟨a, b, n, d1, d2, r, v, e⟩ | ⟨a, b, n, d1, d2, d3, r, v, e⟩ | ⟨e, hh, b2, b3, b4⟩
      · rw [q0] at a; omega
      · simp only [q0, q1] at a b d1 r e
        (refine W_x (Aj hl.symm (Aj q0 (Aj q1 (Aj q2 (Aj q3 (Aj rf (Aj e1 (Aj e2 r0)))))))) ?_; (repeat' first | apply Cj.mk | exact Nl.nl) <;> intros)
        exact fin 2 _ _ (by decide) (by omega) e (by repeat' first | exact True.intro | refine And.intro rfl ?_)
      · simp only [q0, q1, q2] at a b d1 d2 r v e
        omega
      · simp only [q0, q1, q2, q3] at a b d1 d2 d3 r v e
        omega
      · have hVf := badV e
        simp only [q0, q1, q2, q3] at hh b2 b3 b4
        unfold RuneN at b3 b4
        (refine W_x (Aj hl.symm (Aj q0 (Aj q1 (Aj q2 (Aj q3 (Aj rf (Aj e1 (Aj e2 r0)))))))) ?_; (repeat' first | apply Cj.mk | exact Nl.nl) <;> intros)
        all_goals exact ⟨by rw [hVf], rfl⟩
    · have rf : ∀ lc, Mem.rd ⟨lc, h1⟩ ⟨0, x0, none⟩ 1 = some [.int .u8 19] := fun lc => by rw [rf lc, hz]; rfl
      have e1 := u8a 19 3 (by simp)
      have e2 := u8s 19 1 (by simp)
      have r0 : ∀ lc, Mem.rd ⟨lc, h1⟩ ⟨1, 2, none⟩ 2 = some [.int .u8 160, .int .u8 191] := fun lc => ra 1 lc
      simp only at a1
      rcases g2 with ⟨a, e⟩ | ⟨a, b, n, d1, r, e⟩ | ⟨a, b, n, d1, d2, r, v, e⟩ | ⟨a, b, n, d1, d2, d3, r, v, e⟩ | ⟨e, hh, b2, b3, b4⟩
      · rw [q0] at a; omega
      · simp only [q0, q1] at a b d1 r e
        omega
      · simp only [q0, q1, q2] at a b d1 d2 r v e
        unfold RuneN at v
        (refine W_x (Aj hl.symm (Aj q0 (Aj q1 (Aj q2 (Aj q3 (Aj rf (Aj e1 (Aj e2 r0)))))))) ?_; (repeat' first | apply Cj.mk | exact Nl.nl) <;> intros)
        exact fin 3 _ _ (by decide) (by omega) e (by repeat' first | exact True.intro | refine And.intro rfl ?_)
      · simp only [q0, q1, q2, q3] at a b d1 d2 d3 r v e
        omega
      · have hVf := badV e
        simp only [q0, q1, q2, q3] at hh b2 b3 b4
        unfold RuneN at b3 b4
        (refine W_x (Aj hl.symm (Aj q0 (Aj q1 (Aj q2 (Aj q3 (Aj rf (Aj e1 (Aj e2 r0)))))))) ?_; (repeat' first | apply Cj.mk | exact Nl.nl) <;> intros)
        all_goals exact ⟨by rw [hVf], rfl⟩
    · have rf : ∀ lc, Mem.rd ⟨lc, h1⟩ ⟨0, x0, none⟩ 1 = some [.int .u8 35] := fun lc => by rw [rf lc, hz]; rfl
      have e1 := u8a 35 3 (by simp)
      have e2 := u8s 35 2 (by simp)
      have r0 : ∀ lc, Mem.rd ⟨lc, h1⟩ ⟨1, 4, none⟩ 2 = some [.int .u8 128, .int .u8 159] := fun lc => ra 2 lc
      simp only at a1
      rcases g2 with ⟨a, e⟩ | ⟨a, b, n, d1, r, e⟩ | ⟨a, b, n, d1, d2, r, v, e⟩ | ⟨a, b, n, d1, d2, d3, r, v, e⟩ | ⟨e, hh, b2, b3, b4⟩
      · rw [q0] at a; omega
      · simp only [q0, q1] at a b d1 r e
        omega
      · simp only [q0, q1, q2] at a b d1 d2 r v e
        unfold RuneN at v
        (refine W_x (Aj hl.symm (Aj q0 (Aj q1 (Aj q2 (Aj q3 (Aj rf (Aj e1 (Aj e2 r0)))))))) ?_; (repeat' first | apply Cj.mk | exact Nl.nl) <;> intros)
        exact fin 3 _ _ (by decide) (by omega) e (by repeat' first | exact True.intro | refine And.intro rfl ?_)
      · simp only [q0, q1, q2, q3] at a b d1 d2 d3 r v e
        omega
      · have hVf := badV e
        simp only [q0, q1, q2, q3] at hh b2 b3 b4
        unfold RuneN at b3 b4
        (refine W_x (Aj hl.symm (Aj q0 (Aj q1 (Aj q2 (Aj q3 (Aj rf (Aj e1 (Aj e2 r0)))))))) ?_; (repeat' first | apply Cj.mk | exact Nl.nl) <;> intros)
        all_goals exact ⟨by rw [hVf], rfl⟩
    · have rf : ∀ lc, Mem.rd ⟨lc, h1⟩ ⟨0, x0, none⟩ 1 = some [.int .u8 3] := fun lc => by rw [rf lc, hz]; rfl
      have e1 := u8a 3 3 (by simp)
      have e2 := u8s 3 0 (by simp)
      have r0 : ∀ lc, Mem.rd ⟨lc, h1⟩ ⟨1, 0, none⟩ 2 = some [.int .u8 128, .int .u8 191] := fun lc => ra 0 lc
      simp only at a1 a2 a3
      rcases g2 with ⟨a, e⟩ | ⟨a, b, n, d1, r, e⟩ | ⟨a, b, n, d1, d2, r, v, e⟩ | ⟨a, b, n, d1, d2, d3, r, v, e⟩ | ⟨e, hh, b2, b3, b4⟩
      · rw [q0] at a; omega
      · simp only [q0, q1] at a b d1 r e
        omega
      · simp only [q0, q1, q2] at a b d1 d2 r v e
        unfold RuneN at v
        (refine W_x (Aj hl.symm (Aj q0 (Aj q1 (Aj q2 (Aj q3 (Aj rf (Aj e1 (Aj e2 r0)))))))) ?_; (repeat' first | apply Cj.mk | exact Nl.nl) <;> intros)
        exact fin 3 _ _ (by decide) (by omega) e (by repeat' first | exact True.intro | refine And.intro rfl ?_)
      · simp only [q0, q1, q2, q3] at a b d1 d2 d3 r v e
        omega
      · have hVf := badV e
        simp only [q0, q1, q2, q3] at hh b2 b3 b4
        unfold RuneN at b3 b4
        (refine W_x (Aj hl.symm (Aj q0 (Aj q1 (Aj q2 (Aj q3 (Aj rf (Aj e1 (Aj e2 r0)))))))) ?_; (repeat' first | apply Cj.mk | exact Nl.nl) <;> intros)
        all_goals exact ⟨by rw [hVf], rfl⟩
    · have rf : ∀ lc, Mem.rd ⟨lc, h1⟩ ⟨0, x0, none⟩ 1 = some [.int .u8 52] := fun lc => by rw [rf lc, hz]; rfl
      have e1 := u8a 52 4 (by simp)
      have e2 := u8s 52 3 (by simp)
      have r0 : ∀ lc, Mem.rd ⟨lc, h1⟩ ⟨1, 6, none⟩ 2 = some [.int .u8 144, .int .u8 191] := fun lc => ra 3 lc
      simp only at a1
      rcases g2 with ⟨a, e⟩ | ⟨a, b, n, d1, r, e⟩ | ⟨a, b, n, d1, d2, r, v, e⟩ | ⟨a, b, n, d1, d2, d3, r, v, e⟩ | ⟨e, hh, b2, b3, b4⟩
      · rw [q0] at a; omega
      · simp only [q0, q1] at a b d1 r e
        omega
      · simp only [q0, q1, q2] at a b d1 d2 r v e
        omega
      · simp only [q0, q1, q2, q3] at a b d1 d2 d3 r v e
        unfold RuneN at v
        (refine W_x (Aj hl.symm (Aj q0 (Aj q1 (Aj q2 (Aj q3 (Aj rf (Aj e1 (Aj e2 r0)))))))) ?_; (repeat' first | apply Cj.mk | exact Nl.nl) <;> intros)
        exact fin 4 _ _ (by decide) (by omega) e (by repeat' first | exact True.intro | refine And.intro rfl ?_)
      · have hVf := badV e
        simp only [q0, q1, q2, q3] at hh b2 b3 b4
        unfold RuneN at b3 b4
        (refine W_x (Aj hl.symm (Aj q0 (Aj q1 (Aj q2 (Aj q3 (Aj rf (Aj e1 (Aj e2 r0)))))))) ?_; (repeat' first | apply Cj.mk | exact Nl.nl) <;> intros)
        all_goals exact ⟨by rw [hVf], rfl⟩
    · have rf : ∀ lc, Mem.rd ⟨lc, h1⟩ ⟨0, x0, none⟩ 1 = some [.int .u8 68] := fun lc => by rw [rf lc, hz]; rfl
      have e1 := u8a 68 4 (by simp)
      have e2 := u8s 68 4 (by simp)
      have r0 : ∀ lc, Mem.rd ⟨lc, h1⟩ ⟨1, 8, none⟩ 2 = some [.int .u8 128, .int .u8 143] := fun lc => ra 4 lc
      simp only at a1
      rcases g2 with ⟨a, e⟩ | ⟨a, b, n, d1, r, e⟩ | ⟨a, b, n, d1, d2, r, v, e⟩ | ⟨a, b, n, d1, d2, d3, r, v, e⟩ | ⟨e, hh, b2, b3, b4⟩
      · rw [q0] at a; omega
      · simp only [q0, q1] at a b d1 r e
        omega
      · simp only [q0, q1, q2] at a b d1 d2 r v e
        omega
      · simp only [q0, q1, q2, q3] at a b d1 d2 d3 r v e
        unfold RuneN at v
        (refine W_x (Aj hl.symm (Aj q0 (Aj q1 (Aj q2 (Aj q3 (Aj rf (Aj e1 (Aj e2 r0)))))))) ?_; (repeat' first | apply Cj.mk | exact Nl.nl) <;> intros)
        exact fin 4 _ _ (by decide) (by omega) e (by repeat' first | exact True.intro | refine And.intro rfl ?_)
      · have hVf := badV e
        simp only [q0, q1, q2, q3] at hh b2 b3 b4
        unfold RuneN at b3 b4
        (refine W_x (Aj hl.symm (Aj q0 (Aj q1 (Aj q2 (Aj q3 (Aj rf (Aj e1 (Aj e2 r0)))))))) ?_; (repeat' first | apply Cj.mk | exact Nl.nl) <;> intros)
        all_goals exact ⟨by rw [hVf], rfl⟩
    · have rf : ∀ lc, Mem.rd ⟨lc, h1⟩ ⟨0, x0, none⟩ 1 = some [.int .u8 4] := fun lc => by rw [rf lc, hz]; rfl
      have e1 := u8a 4 4 (by simp)
      have e2 := u8s 4 0 (by simp)
      have r0 : ∀ lc, Mem.rd ⟨lc, h1⟩ ⟨1, 0, none⟩ 2 = some [.int .u8 128, .int .u8 191] := fun lc => ra 0 lc
      simp only at a1 a2
      rcases g2 with ⟨a, e⟩ | ⟨a, b, n, d1, r, e⟩ | ⟨a, b, n, d1, d2, r, v, e⟩ | ⟨a, b, n, d1, d2, d3, r, v, e⟩ | ⟨e, hh, b2, b3, b4⟩
      · rw [q0] at a; omega
      · simp only [q0, q1] at a b d1 r e
        omega
      · simp only [q0, q1, q2] at a b d1 d2 r v e
        omega
      · simp only [q0, q1, q2, q3] at a b d1 d2 d3 r v e
        unfold RuneN at v
        (refine W_x (Aj hl.symm (Aj q0 (Aj q1 (Aj q2 (Aj q3 (Aj rf (Aj e1 (Aj e2 r0)))))))) ?_; (repeat' first | apply Cj.mk | exact Nl.nl) <;> intros)
        exact fin 4 _ _ (by decide) (by omega) e (by repeat' first | exact True.intro | refine And.intro rfl ?_)
      · have hVf := badV e
        simp only [q0, q1, q2, q3] at hh b2 b3 b4
        unfold RuneN at b3 b4
        (refine W_x (Aj hl.symm (Aj q0 (Aj q1 (Aj q2 (Aj q3 (Aj rf (Aj e1 (Aj e2 r0)))))))) ?_; (repeat' first | apply Cj.mk | exact Nl.nl) <;> intros)
        all_goals exact ⟨by rw [hVf], rfl⟩
    · have rf : ∀ lc, Mem.rd ⟨lc, h1⟩ ⟨0, x0, none⟩ 1 = some [.int .u8 241] := fun lc => by rw [rf lc, hz]; rfl
      have e1 := u8a 241 1 (by simp)
      have e2 := u8s 241 15 (by simp)
      have r0 : ∀ lc, Mem.rd ⟨lc, h1⟩ ⟨1, 30, none⟩ 2 = some [.int .u8 0, .int .u8 0] := fun lc => ra 15 lc
      simp only at a1
      rcases g2 with ⟨a, e⟩ | ⟨a, b, n, d1, r, e⟩ | ⟨a, b, n, d1, d2, r, v, e⟩ | ⟨a, b, n, d1, d2, d3, r, v, e⟩ | ⟨e, hh, b2, b3, b4⟩
      · rw [q0] at a; omega
      · simp only [q0, q1] at a b d1 r e
        omega
      · simp only [q0, q1, q2] at a b d1 d2 r v e
        omega
      · simp only [q0, q1, q2, q3] at a b d1 d2 d3 r v e
        unfold RuneN at v; omega
      · have hVf := badV e
        simp only [q0, q1, q2, q3] at hh b2 b3 b4
        unfold RuneN at b3 b4
        (refine W_x (Aj hl.symm (Aj q0 (Aj q1 (Aj q2 (Aj q3 (Aj rf (Aj e1 (Aj e2 r0)))))))) ?_; (repeat' first | apply Cj.mk | exact Nl.nl) <;> intros)
        all_goals exact ⟨by rw [hVf], rfl⟩
end Go.Proofs.YtblmakgjdenpfaaDoor.AM
namespace Go.Proofs.YtblmakgjdenpfaaDoor.AM
open Go Go.ChangeShapes Go.WideShapes Go.ChangeAt Go.RowKit
theorem px_ok (B : Nat) : PrgOk Tryd.prog B PX where
  fn := fun f lf h => by
    unfold PX at h
    rw [withExt_fn] at h
    exact (autoPrg_ok Tryd.prog B).fn f lf h
  ext := fun f g h => by
    unfold PX at h
    rw [withExt_ext] at h
    cases h
abbrev laidL : List (String × DataW Unit) := [("unicode/utf8.acceptRanges", Rows.laid_unicode_utf8_acceptRanges), ("unicode/utf8.first", Rows.laid_unicode_utf8_first)]
def laidV : List (Nat × List Value) := [(0, firstV), (1, acceptV)]
theorem g_first : Tryd.prog.globalNamed "unicode/utf8.first" = some 0 := by kernel_rfl
theorem g_accept : Tryd.prog.globalNamed "unicode/utf8.acceptRanges" = some 1 := by kernel_rfl
set_option maxRecDepth 100000 in
theorem laid_start {W : World} (hL : laidMetH Tryd.prog laidL W) : HRel Tryd.prog W.heap.size (laidR Tryd.prog laidV) (laidH Tryd.prog laidV) W ∧ RO (laidH Tryd.prog laidV) ∧ U8T (laidH Tryd.prog laidV) ∧ 2 ≤ (laidH Tryd.prog laidV).n := by
  have hm : laidMet Tryd.prog laidL W := hL
  have gs : Tryd.prog.globals.size = 3 := by kernel_rfl
  have v1 : VarIs W 0 firstV := first_is (Lib.laidMet.reads hm (n := "unicode/utf8.first") (d := Rows.laid_unicode_utf8_first) (by simp [laidL])) g_first (t := 173) (e := 5) (by kernel_rfl) Tryd.underlying173 Tryd.underlying5 (by kernel_rfl) (by kernel_rfl)
  have v2 : VarIs W 1 acceptV := accept_is (Lib.laidMet.reads hm (n := "unicode/utf8.acceptRanges") (d := Rows.laid_unicode_utf8_acceptRanges) (by simp [laidL])) g_accept (t := 176) (e := 175) (by kernel_rfl) Tryd.underlying176 Tryd.underlying175 ⟨Tryd.underlying5, rfl, by kernel_rfl⟩ ⟨Tryd.underlying5, rfl, by kernel_rfl⟩ (by kernel_rfl) (by kernel_rfl)
  have hg : ∀ x ∈ laidV, x.1 < Tryd.prog.globals.size := fun x hx => by
    rw [gs]
    simp only [laidV, List.mem_cons, List.mem_nil_iff, or_false] at hx
    rcases hx with rfl | rfl <;> decide
  have hl := hrel_laid (P := Tryd.prog) (L := laidV) (w := W) hg (fun x hx => by
    simp only [laidV, List.mem_cons, List.mem_nil_iff, or_false] at hx
    rcases hx with rfl | rfl <;> decide) (fun x hx => by
    simp only [laidV, List.mem_cons, List.mem_nil_iff, or_false] at hx
    rcases hx with rfl | rfl
    · exact v1
    · exact v2)
  have hn := laidH_n Tryd.prog laidV
  rw [gs] at hn
  refine ⟨hl.1, hl.2, ⟨?_, ?_⟩, by omega⟩
  · simp only [laidH, laidV, List.foldr_cons, List.foldr_nil]
    exact AH.get_set_same _ (by rw [AH.set_n, gs]; decide)
  · simp only [laidH, laidV, List.foldr_cons, List.foldr_nil]
    rw [AH.get_set_ne _ (by decide)]
    exact AH.get_set_same _ (by rw [gs]; decide)
end Go.Proofs.YtblmakgjdenpfaaDoor.AM
namespace Go.Proofs.YtblmakgjdenpfaaDoor.AM
open Go Go.ChangeShapes Go.WideShapes Go.ChangeAt Go.RowKit
theorem own : ownKnob Tryd.prog.godebug = none := by kernel_rfl
theorem mixed : Tryd.prog.follows .mixedOrders = true := by kernel_rfl
theorem laidOut : laidOutB Tryd.prog = true := by kernel_rfl
def setO (xs : List Value) : Obj → Obj
  | .cells _ t frozen => .cells xs.toArray t frozen
  | o => o
noncomputable def laidWorld (os : Os) : World :=
  { World.holding Tryd.prog os ⟨#[], #[], []⟩ with heap := ((World.holding Tryd.prog os ⟨#[], #[], []⟩).heap.modify 0 (setO firstV)).modify 1 (setO acceptV) }
set_option maxRecDepth 100000 in
theorem laid_met (os : Os) (args : Array Value) : laidMet Tryd.prog laidL ((laidWorld os).forCall (fun _ _ => 0) ⟨#[], args, []⟩).memory :=
  laidMet_of_run' 8 (by kernel_rfl) (by kernel_rfl)
end Go.Proofs.YtblmakgjdenpfaaDoor.AM
namespace Go.Proofs.YtblmakgjdenpfaaDoor.AM
open Go
theorem vsameL_val {s : Sl} {e : Nat} {r r' : List Value} : vsameL (s.val e :: r) (s.val e :: r') = vsameL r r' := by cases s <;> simp [vsameL, vsame0, Sl.val]
theorem vsameL_str {s : ByteArray} {r r' : List Value} : vsameL (.string s :: r) (.string s :: r') = vsameL r r' := by simp [vsameL, vsame0, bytes_beq_self]
theorem vsameL_bool {b : Bool} {r r' : List Value} : vsameL (.bool b :: r) (.bool b :: r') = vsameL r r' := by simp [vsameL, vsame0]
theorem vsameL_ptr {b : Option Addr} {r r' : List Value} : vsameL (.pointer b :: r) (.pointer b :: r') = vsameL r r' := by simp [vsameL, vsame0]
attribute [push_cast] vsameL_val vsameL_str vsameL_bool vsameL_ptr
def bs (l : Bytes) : ByteArray := ⟨l.toArray⟩
theorem bs_l (l : Bytes) : (bs l).data.toList = l := by simp [bs]
theorem bs_size (l : Bytes) : (bs l).size = l.length := by simp [ba_size, bs_l]
theorem runesFrom_eq {s : ByteArray} {l : Bytes} (hl : l = s.data.toList) : ∀ (n i : Nat) (acc : Array Value), i ≤ (spots l).length → (spots l).length ≤ i + n →
    (Conv.runesFrom s n (posn l i) acc).toList = acc.toList ++ ((spots l).drop i).map fun x => .int .i32 x.1
  | 0, i, acc, h1, h2 => by
    rw [List.drop_of_length_le (by omega)]
    simp [Conv.runesFrom]
  | n + 1, i, acc, h1, h2 => by
    have hz : l.length = s.size := by rw [hl]; rfl
    unfold Conv.runesFrom
    by_cases hi : i < (spots l).length
    · obtain ⟨p1, p2, p3⟩ := posn_lt hi
      rw [if_pos (by omega)]
      have hd : Utf8.decode s (posn l i) = (spots l)[i] := by rw [decode_list s _ (by omega), ← hl, p2]
      rw [hd]
      simp only
      rw [← posn_succ hi, runesFrom_eq hl n (i + 1) _ (by omega) (by omega), List.drop_eq_getElem_cons hi, List.map_cons, Array.toList_push, List.append_assoc]
      rfl
    · have : i = (spots l).length := by omega
      subst this
      rw [posn_all, if_neg (by omega), List.drop_length]
      simp
theorem runesFrom_all (s : ByteArray) : (Conv.runesFrom s s.size 0 #[]).toList = (runesB s.data.toList).map fun c : Nat => Value.int .i32 c := by
  have hz : s.data.toList.length = s.size := rfl
  have := runesFrom_eq (s := s) rfl s.size 0 #[] (Nat.zero_le _) (by have := spots_len s.data.toList; omega)
  rw [posn_zero] at this
  rw [this]
  simp [runesB]
theorem flat_rnV (L : List Nat) : (L.map rnV).flatten = L.map fun c : Nat => Value.int .i32 c := by
  induction L with
  | nil => rfl
  | cons c L ih => simp only [List.map_cons, List.flatten_cons, ih]; rfl
theorem wo_s2r {p : Prg} {lc : Lc} {h h0 : AH} {H : Value → Lc → AH → Prop} {s : ByteArray} (k : Kp h0 h) (hs : s.size ≤ 70368744177664)
    (hq : ∀ sl h', FOwn h0 h' 1 sl ((runesB s.data.toList).map rnV) → H (sl.val 1) lc h') : WpO p (.e (.s2r (.s 0))) [.string s] lc h H := by
  have hr := runesFrom_all s
  have hsz : (Conv.runesFrom s s.size 0 #[]).size = (runesB s.data.toList).length := by rw [← Array.length_toList, hr, List.length_map]
  refine wo_e (v := (Sl.at h.n 0 (runesB s.data.toList).length).val 1) (lc' := lc) (h' := h.push (.cells false (((runesB s.data.toList).map rnV).flatten))) ?_ (hq (.at h.n 0 (runesB s.data.toList).length) _ ?_)
  · simp only [EOp.ev, opd_s, fg0]
    rw [if_pos hs, hr, hsz, flat_rnV]
    rfl
  · exact ⟨⟨by simp [Sl.len], fun x hx => by obtain ⟨c, _, rfl⟩ := List.mem_map.1 hx; rfl, [], by rw [List.nil_append]; exact AH.get_push_same h _, rfl⟩, k.push _, fun b hb => by injection hb with hb; have := k.1; omega⟩
theorem Own.rd {lc : Lc} {h : AH} {e b o n : Nat} {xss : List (List Value)} (r : Own h e (.at b o n) xss) : Mem.rd ⟨lc, h⟩ ⟨b, o, none⟩ (n * e) = some xss.flatten := by
  have hl : n = xss.length := r.1
  obtain ⟨pre, h3, h4⟩ := r.2.2
  have hf := flatten_len r.2.1
  rw [rd_heap, h3]
  simp only [List.length_append, hf, h4]
  rw [if_pos (by rw [hl]; omega), ← h4, List.drop_left, hl, ← hf, List.take_length]
def r2sP (m : Mem) (v : Value) : Option Value := (ROp.r2s (.c v)).ev [] m
theorem ev_r2sP {fr : Fr} {m : Mem} {x : Opd} : (ROp.r2s x).ev fr m = r2sP m (opd fr x) := rfl
theorem runesOf_map : ∀ B : List Nat, runesOf ((B.map rnV).flatten) = some (B.map fun n : Nat => (n : Int))
  | [] => rfl
  | c :: r => by
    have ih := runesOf_map r
    have e : ((c :: r).map rnV).flatten = .int .i32 c :: (r.map rnV).flatten := rfl
    rw [e]
    simp only [runesOf, ih, Option.map_some, List.map_cons]
theorem encAll_nat : ∀ (B : List Nat) (acc : ByteArray), (∀ c ∈ B, RuneN c) → (encAll (B.map fun n : Nat => (n : Int)) acc).data.toList = acc.data.toList ++ encs B
  | [], acc, _ => by simp [encAll, encs]
  | c :: r, acc, h => by
    have ih := encAll_nat r (acc ++ Utf8.encode c) (fun x hx => h x (by simp [hx]))
    simp only [List.map_cons, encAll]
    rw [ih, encs_cons, ByteArray.data_append, Array.toList_append, encode_eq (h c (by simp)), List.append_assoc]
theorem r2s_own {h : AH} {lc : Lc} {s : Sl} {B : List Nat} (r : Own h 1 s (B.map rnV)) (hB : ∀ c ∈ B, RuneN c) : r2sP ⟨lc, h⟩ (s.val 1) = some (.string (bs (encs B))) := by
  cases s with
  | nil =>
    have : B = [] := by have := r.1; simp [Sl.len] at this; exact List.eq_nil_of_length_eq_zero this.symm
    subst this
    rfl
  | «at» b o n =>
    have e := r.rd (lc := lc)
    rw [Nat.mul_one] at e
    simp only [r2sP, ROp.ev, opd, Sl.val, e, runesOf_map, Option.map_some]
    congr 2
    apply ba_ext
    rw [encAll_nat _ _ hB, bs_l]
    simp
def byteV (c : UInt8) : List Value := [.int .u8 c.toNat]
def b2sP (m : Mem) (v : Value) : Option Value := (ROp.b2s (.c v)).ev [] m
theorem ev_b2sP {fr : Fr} {m : Mem} {x : Opd} : (ROp.b2s x).ev fr m = b2sP m (opd fr x) := rfl
theorem bytesOf_map : ∀ B : Bytes, bytesOf ((B.map byteV).flatten) = some B
  | [] => rfl
  | c :: r => by
    have ih := bytesOf_map r
    have e : ((c :: r).map byteV).flatten = .int .u8 c.toNat :: (r.map byteV).flatten := rfl
    rw [e]
    simp only [bytesOf, ih, Option.map_some, Int.toNat_natCast]
    rw [u8_eq rfl]
theorem b2s_own {h : AH} {lc : Lc} {s : Sl} {B : Bytes} (r : Own h 1 s (B.map byteV)) : b2sP ⟨lc, h⟩ (s.val 1) = some (.string (bs B)) := by
  cases s with
  | nil =>
    have : B = [] := by have := r.1; simp [Sl.len] at this; exact List.eq_nil_of_length_eq_zero this.symm
    subst this
    rfl
  | «at» b o n =>
    have e := r.rd (lc := lc)
    rw [Nat.mul_one] at e
    simp only [b2sP, ROp.ev, opd, Sl.val, e, bytesOf_map, Option.map_some]
    rfl
theorem enc_bs {c : Nat} (h : RuneN c) : Utf8.encode (c : Int) = bs (encN c) := ba_ext (by rw [encode_eq h, bs_l])
attribute [push_cast] ev_r2sP ev_b2sP
end Go.Proofs.YtblmakgjdenpfaaDoor.AM
namespace Go.Proofs.YtblmakgjdenpfaaDoor.AM
open Go
def LF_guiselaw8_known : LFunc :=
  .mk 0 [.tmp 0] (.seq (R 999 [] [.set 0 (.cv (.bool false))]) (.seq (R 5 [1, 2, 3] [.set 4 (xc1 9 (xc0 29)), .tmp 7 (xex 0 (.sl 4)), .tmp 8 (xex 1
  (.sl 4)), .tmp 9 (xex 2 (.sl 4)), .set 1 (.sl 7), .set 2 (.sl 8), .set 3 (.sl 9)]) (.seq (.seq (R 10 [1, 15] [.tmp 15 (.or (xu .not (.va 2)) (xu .not (.va 3)))]) (.cond (.s 15)
  (.seq (R 999 [0] [.set 0 (.cv (.bool false))]) .ret) .skip)) (.seq (R 16 [0] [.set 0 (.and (xb .eql (xc2 25 (.va 1) (.cv (.string ⟨#[97, 204, 129, 204, 163]⟩))) (.cv
  (.string ⟨#[97, 204, 163, 204, 129]⟩))) (xb .eql (xc2 25 (.va 1) (.cv (.string ⟨#[255]⟩))) (.cv (.string ⟨#[239, 191, 189]⟩))))]) .ret))))
theorem fn_guiselaw8_known : (autoPrg Tryd.prog).fn 21 = some LF_guiselaw8_known := by kernel_rfl
def LF_guiselaw8_few : LFunc :=
  .mk 2 [.tmp 4] (.seq (R 999 [0, 1] [.set 4 (.cv (.string ⟨#[]⟩))]) (.seq (.seq (R 5 [0, 1, 8] [.tmp 8 (xb .gtr (xsl (.va 0)) (.va 1))]) (.cond (.s 8) (.seq (R 9 [4] [.set 4 (.op
  (.p (.slS (.s 0) none (some (.s 1)))) (.cons (.va 0) (.va 1)))]) .ret) .skip)) (.seq (R 12 [4] [.set 4 (.va 0)]) .ret)))
theorem fn_guiselaw8_few : (autoPrg Tryd.prog).fn 23 = some LF_guiselaw8_few := by kernel_rfl
def LF_guiselaw8_house : LFunc :=
  .mk 0 [.cell 0 (some 8)] (.seq (R 0 [0] [.tmp 0 (xnl 0 [.slice none 0 0, .slice none 0 0, .slice none 0 0, .slice none 0 0, .slice none 0 0, .slice none 0 0, .slice none 0 0,
  .slice none 0 0])]) (.seq (R 1 [0] [.run (xst 8 (.sl 0) (xc0 34))]) .ret))
theorem fn_guiselaw8_house : (autoPrg Tryd.prog).fn 29 = some LF_guiselaw8_house := by kernel_rfl
def LF_marks_Order : LFunc :=
  .mk 2 [.tmp 4] (.seq (R 2 [1, 2] [.tmp 2 (xbh 1 (.sl 0)), .set 4 (.cv (.string ⟨#[]⟩))]) (.seq (.seq (R 8 [1, 2, 9] [.tmp 9 (.op (.p (.eqk false .ptr (.s 0) (.s 1))) (.cons (xld
  (.sl 2)) (.cv (.pointer none))))]) (.cond (.s 9) (.seq (R 999 [4] [.set 4 (.cv (.string ⟨#[]⟩))]) .ret) .skip)) (.seq (R 10 [2, 5] [.set 5 (.op (.e (.s2r (.s 0))) (.va 1))]) (.seq
  (.seq (R 999 [2, 5, 6] [.set 6 (xi 0)]) (.block 0 (.loop (.seq (.seq (R 12 [2, 5, 6, 15] [.tmp 15 (xb .lss (.va 6) (xlen (.va 5)))]) (.cond (.s 15) .skip (.exit 0))) (.block 1
  (.seq (R 16 [2, 5, 6, 7] [.set 7 (xb .add (.va 6) (xi 1))]) (.seq (.seq (R 18 [2, 5, 6, 7, 24] [.tmp 24 (xb .gtr (xc2 24 (xld (.sl 2)) (xld (xia 1 (.va 5)
  (.va 6)))) (xi 0))]) (.cond (.s 24) (.seq (.block 2 (.loop (.seq (.seq (R 25 [2, 5, 6, 7, 37] [.tmp 37 (.and (xb .lss (.va 7) (xlen (.va 5))) (xb .gtr (xc2
  24 (xld (.sl 2)) (xld (xia 1 (.va 5) (.va 7)))) (xi 0)))]) (.cond (.s 37) .skip (.exit 2))) (.block 3 (R 38 [2, 5, 6, 7] [.set 7 (xb .add (.va 7) (xi
  1))]))))) (R 40 [2, 5, 7] [.tmp 46 (xc2 47 (.op (.p (.sl 1 (.s 0) (some (.s 1)) (some (.s 2)) (some (.s 3)))) (.cons (.va 5) (.cons (.va 6)
  (.cons (.va 7) (.va 7))))) (.op (.p (.mkfn (.func 48) [] [.s 0])) (.sl 2)))])) .skip)) (R 47 [2, 5, 6] [.set 6 (.va 7)])))))))) (.seq (R 48 [4] [.set 4 (.op (.r
  (.r2s (.s 0))) (.va 5))]) .ret)))))
theorem fn_marks_Order : (autoPrg Tryd.prog).fn 25 = some LF_marks_Order := by kernel_rfl
def LF_marks_Order_1 : LFunc :=
  .mk 3 [.tmp 5] (.seq (R 999 [0, 1, 2] [.set 5 (xi 0)]) (.seq (.region [.mk (some 6) (.r (.load none (.s 2))) none, .mk (some 7) (.p (.mv (.s 0))) none, .mk (some 8) (.e (.call
  24 [.s 6, .s 7])) none, .mk (some 9) (.r (.load none (.s 2))) none, .mk (some 10) (.p (.mv (.s 1))) none, .mk (some 11) (.e (.call 24
  [.s 9, .s 10])) none, .mk (some 12) (.e (.call 49 [.s 8, .s 11])) none, .mk (some 5) (.p (.mv (.s 12))) none] [5] [(3, 0)]) .ret))
theorem fn_marks_Order_1 : (autoPrg Tryd.prog).fn 48 = some LF_marks_Order_1 := by kernel_rfl
def LF_marks_First : LFunc :=
  .mk 2 [.cell 4 (some 2), .tmp 5] (.seq (R 4 [0, 1, 4] [.tmp 4 (xnl 4 [.int .i64 0, .int .i64 0]), .set 5 (.cv (.bool false))]) (.seq (.seq (R 11 [0, 1, 4, 12] [.tmp 12 (.op (.p
  (.eqk false .ptr (.s 0) (.s 1))) (.cons (.va 0) (.cv (.pointer none))))]) (.cond (.s 12) (.seq (R 13 [4, 5] [.run (xst 2 (.sl 4) (.op (.p (.build [.int .i64 0, .int .i64 0] []))
  .nil)), .set 5 (.cv (.bool false))]) .ret) .skip)) (.seq (R 999 [0, 1, 4, 6, 7] [.set 6 (xi 0), .set 7 (xi 0)]) (.seq (.seq (R 14 [0, 4, 6, 7, 15] [.tmp 15 (.op (.e (.rngS 15 (.s
  0))) (.va 1))]) (.block 0 (.loop (.seq (R 16 [0, 4, 6, 7, 15, 16, 17] [.tmp 16 (.op (.e (.nxtS (.s 0))) (.sl 15)), .tmp 17 (xex 0 (.sl 16))]) (.seq (.cond (.s 17) .skip (.exit 0))
  (.block 1 (.seq (R 18 [0, 4, 6, 7, 8, 9, 15] [.tmp 18 (xex 1 (.sl 16)), .tmp 19 (xex 2 (.sl 16)), .set 8 (.sl 18), .set 9 (.sl 19)]) (.seq (R 20 [0, 4, 6, 7, 8, 10, 15] [.set 10
  (xc2 24 (.va 0) (.va 9))]) (.seq (.seq (R 23 [0, 4, 7, 8, 10, 15, 29] [.tmp 29 (.and (xb .gtr (.va 10) (xi 0)) (xb .lss (.va 10) (.va 6)))]) (.cond (.s 29)
  (.seq (R 30 [4, 5] [.run (xst 2 (.sl 4) (.op (.p (.build [.int .i64 0, .int .i64 0] [(0, 1, .s 0), (1, 1, .s 1)])) (.cons (.va 8) (.va 7)))), .set 5 (.cv (.bool true))]) .ret)
  .skip)) (.seq (R 33 [0, 4, 6, 7, 15] [.set 6 (.va 10)]) (R 34 [0, 4, 6, 7, 15] [.set 7 (xb .add (.va 7) (xi 1))]))))))))))) (.seq (R 36 [4, 5] [.run (xst 2 (.sl 4) (.op (.p
  (.build [.int .i64 0, .int .i64 0] [])) .nil)), .set 5 (.cv (.bool false))]) .ret)))))
theorem fn_marks_First : (autoPrg Tryd.prog).fn 26 = some LF_marks_First := by kernel_rfl
def LF_guiseref8_First : LFunc :=
  .mk 2 [.cell 4 (some 2), .tmp 5] (.seq (R 2 [1, 2, 4] [.tmp 2 (xbl 2 8 (.sl 0)), .at 4, .tmp 4 (xnl 4 [.int .i64 0, .int .i64 0]), .set 5 (.cv (.bool false))]) (.seq (R 999 [1, 2,
  4, 6] [.set 6 (xi 0)]) (.seq (R 999 [1, 2, 4, 6, 7] [.set 7 (xi 0)]) (.seq (.seq (R 11 [2, 4, 6, 7, 12] [.tmp 12 (.op (.e (.rngS 12 (.s 0))) (.va 1))]) (.block 0 (.loop (.seq (R
  13 [2, 4, 6, 7, 12, 13, 14] [.tmp 13 (.op (.e (.nxtS (.s 0))) (.sl 12)), .tmp 14 (xex 0 (.sl 13))]) (.seq (.cond (.s 14) .skip (.exit 0)) (.block 1 (.seq (R 15 [2, 4, 6, 7, 8, 9,
  12] [.tmp 15 (xex 1 (.sl 13)), .tmp 16 (xex 2 (.sl 13)), .set 8 (.sl 15), .set 9 (.sl 16)]) (.seq (R 17 [2, 4, 6, 7, 8, 10, 12] [.set 10 (xc2 50 (xln 8 (.sl 2))
  (.va 9))]) (.seq (.seq (R 20 [2, 4, 7, 8, 10, 12, 26] [.tmp 26 (.and (xb .gtr (.va 10) (xi 0)) (xb .lss (.va 10) (.va 6)))]) (.cond (.s 26) (.seq (R 27 [4, 5] [.run (xst 2 (.sl 4)
  (.op (.p (.build [.int .i64 0, .int .i64 0] [(0, 1, .s 0), (1, 1, .s 1)])) (.cons (.va 8) (.va 7)))), .set 5 (.cv (.bool true))]) .ret) .skip)) (.seq (R 30 [2, 4, 6, 7, 12] [.set
  6 (.va 10)]) (R 31 [2, 4, 6, 7, 12] [.set 7 (xb .add (.va 7) (xi 1))]))))))))))) (.seq (R 33 [4, 5] [.run (xst 2 (.sl 4) (.op (.p (.build [.int .i64 0, .int .i64 0] [])) .nil)),
  .set 5 (.cv (.bool false))]) .ret)))))
theorem fn_guiseref8_First : (autoPrg Tryd.prog).fn 27 = some LF_guiseref8_First := by kernel_rfl
def LF_guiseref8_Order : LFunc :=
  .mk 2 [.tmp 4] (.seq (R 2 [1, 2] [.tmp 2 (xbl 2 8 (.sl 0)), .set 4 (.cv (.string ⟨#[]⟩))]) (.seq (.region [.mk (some 5) (.r (.load (some 8) (.s 2))) none, .mk (some 6) (.p (.mv
  (.s 1))) none, .mk (some 7) (.e (.call 53 [.s 6])) none, .mk (some 8) (.e (.call 52 [.s 5, .s 7])) none, .mk (some 9) (.e (.call
  51 [.s 8])) none, .mk (some 4) (.p (.mv (.s 9))) none] [4] [(0, 3)]) .ret))
theorem fn_guiseref8_Order : (autoPrg Tryd.prog).fn 28 = some LF_guiseref8_Order := by kernel_rfl
def LF_guiseref8_Text : LFunc :=
  .mk 1 [.tmp 2] (.seq (R 999 [0] [.set 2 (.cv (.string ⟨#[]⟩))]) (.seq (R 999 [0, 3] [.set 3 (.cv (.slice none 0 0))]) (.seq (.seq (R 999 [0, 3, 4] [.set 4 (xi 0)]) (.block 0
  (.loop (.seq (.seq (R 5 [0, 3, 4, 8] [.tmp 8 (xb .lss (.va 4) (xlen (.va 0)))]) (.cond (.s 8) .skip (.exit 0))) (.seq (.block 1 (R 11 [0, 3, 4] [.set 3 (xap 1 1 (.va 3) (.op (.p
  (.i2s (.s 0))) (xld (xia 1 (.va 0) (.va 4)))))])) (R 9 [0, 3, 4] [.set 4 (xb .add (.va 4) (xi 1))])))))) (.seq (R 18 [2] [.set 2 (.op (.r (.b2s (.s 0))) (.va 3))]) .ret))))
theorem fn_guiseref8_Text : (autoPrg Tryd.prog).fn 51 = some LF_guiseref8_Text := by kernel_rfl
def LF_guiseref8_Sorted : LFunc :=
  .mk 2 [.tmp 4] (.seq (R 2 [1, 2] [.tmp 2 (xbl 2 8 (.sl 0)), .set 4 (.cv (.slice none 0 0))]) (.seq (R 11 [2, 5] [.set 5 (xap 1 4 (.op (.e (.litH 0 1 [] [])) .nil) (.va 1))]) (.seq
  (.seq (R 999 [2, 5, 6] [.set 6 (.cv (.bool true))]) (.block 0 (.loop (.seq (.seq (R 14 [2, 5, 14] [.tmp 14 (.va 6)]) (.cond (.s 14) .skip (.exit 0))) (.block 1 (.seq (R 999 [2, 5,
  6] [.set 6 (.cv (.bool false))]) (.seq (R 999 [2, 5, 6, 7] [.set 7 (xi 1)]) (.block 2 (.loop (.seq (.seq (R 15 [2, 5, 6, 7, 18] [.tmp 18 (xb .lss (.va 7) (xlen (.va 5)))]) (.cond
  (.s 18) .skip (.exit 2))) (.seq (.block 3 (.seq (R 21 [2, 5, 6, 7, 8] [.set 8 (xc2 50 (xln 8 (.sl 2)) (xld (xia 1 (.va 5) (xb .sub (.va 7) (xi 1)))))]) (.seq (R
  28 [2, 5, 6, 7, 8, 9] [.set 9 (xc2 50 (xln 8 (.sl 2)) (xld (xia 1 (.va 5) (.va 7))))]) (.seq (R 34 [2, 5, 6, 7, 40] [.tmp 40 (.and (xb .gtr (.va 9) (xi 0)) (xb
  .lss (.va 9) (.va 8)))]) (.cond (.s 40) (.seq (R 41 [2, 5, 7, 10] [.set 10 (xld (xia 1 (.va 5) (.va 7)))]) (.seq (R 45 [2, 5, 7, 10] [.tmp 45 (.va 5), .tmp 46 (.va 7), .tmp 51
  (xld (xia 1 (.va 5) (xb .sub (.va 7) (xi 1)))), .run (xst 1 (xia 1 (.sl 45) (.sl 46)) (.sl 51))]) (.seq (R 53 [2, 5, 7] [.tmp 53 (.va 5), .tmp 55 (xb .sub (.va 7) (xi 1)), .tmp 56
  (.va 10), .run (xst 1 (xia 1 (.sl 53) (.sl 55)) (.sl 56))]) (R 999 [2, 5, 6, 7] [.set 6 (.cv (.bool true))])))) .skip))))) (R 19 [2, 5, 6, 7] [.set 7 (xb .add (.va 7) (xi
  1))])))))))))))) (.seq (R 58 [4] [.set 4 (.va 5)]) .ret))))
theorem fn_guiseref8_Sorted : (autoPrg Tryd.prog).fn 52 = some LF_guiseref8_Sorted := by kernel_rfl
def LF_guiseref8_Runes : LFunc :=
  .mk 1 [.tmp 2] (.seq (R 999 [0] [.set 2 (.cv (.slice none 0 0))]) (.seq (R 999 [0, 3] [.set 3 (.cv (.slice none 0 0))]) (.seq (.seq (R 6 [3, 7] [.tmp 7 (.op (.e (.rngS 7 (.s 0)))
  (.va 0))]) (.block 0 (.loop (.seq (R 8 [3, 7, 8, 9] [.tmp 8 (.op (.e (.nxtS (.s 0))) (.sl 7)), .tmp 9 (xex 0 (.sl 8))]) (.seq (.cond (.s 9) .skip (.exit 0)) (.block 1 (.seq (R 10
  [3, 5, 7] [.set 5 (xex 2 (.sl 8))]) (R 11 [3, 7] [.set 3 (xap 1 4 (.va 3) (.op (.e (.litL 13 1 1 [.int .i32 0] [(0, 1, .s 0)])) (.va 5)))])))))))) (.seq (R 15 [2] [.set 2 (.va
  3)]) .ret))))
theorem fn_guiseref8_Runes : (autoPrg Tryd.prog).fn 53 = some LF_guiseref8_Runes := by kernel_rfl
def LF_guiseref6_Class : LFunc :=
  .mk 2 [.tmp 4] (.seq (R 2 [1, 2] [.tmp 2 (xbl 2 8 (.sl 0)), .set 4 (xi 0)]) (.seq (.seq (R 999 [1, 2, 5] [.set 5 (xi 0)]) (.block 0 (.loop (.seq (.seq (R 6 [1, 2, 5, 10] [.tmp 10
  (xb .lss (.va 5) (xlen (xld (xfa 2 (.sl 2)))))]) (.cond (.s 10) .skip (.exit 0))) (.seq (.block 1 (.seq (R 13 [1, 2, 5, 20] [.tmp 20 (xb .eql (xld (xfa 0 (xia 2 (xld (xfa 2 (.sl
  2))) (.va 5)))) (.va 1))]) (.cond (.s 20) (.seq (R 21 [4] [.set 4 (xld (xfa 1 (xia 2 (xld (xfa 2 (.sl 2))) (.va 5))))]) .ret) .skip))) (R 11 [1, 2, 5] [.set 5 (xb .add (.va 5) (xi
  1))])))))) (.seq (R 999 [4] [.set 4 (xi 0)]) .ret)))
theorem fn_guiseref6_Class : (autoPrg Tryd.prog).fn 50 = some LF_guiseref6_Class := by kernel_rfl
def LF_tables_Book_Class : LFunc :=
  .mk 2 [.tmp 4] (.seq (R 999 [0, 1] [.set 4 (xi 0)]) (.seq (R 5 [4] [.set 4 (.op (.r (.lookup (.one .int) (.int .i64 0) false (.s 0) (.s 1))) (.cons (xld (xfa 8 (xnk (.va 0))))
  (.va 1)))]) .ret))
theorem fn_tables_Book_Class : (autoPrg Tryd.prog).fn 24 = some LF_tables_Book_Class := by kernel_rfl
def LF_guisebook_House : LFunc :=
  .mk 0 [.cell 0 (some 8)] (.seq (R 0 [0] [.tmp 0 (xnl 0 [.slice none 0 0, .slice none 0 0, .slice none 0 0, .slice none 0 0, .slice none 0 0, .slice none 0 0, .slice none 0 0,
  .slice none 0 0])]) (.seq (R 1 [0] [.run (xst 8 (.sl 0) (.op (.p (.build [.slice none 0 0, .slice none 0 0, .slice none 0 0, .slice none 0 0, .slice none 0 0, .slice none 0 0,
  .slice none 0 0, .slice none 0 0] [(0, 1, .s 0), (1, 1, .s 1), (2, 1, .s 2), (3, 1, .s 3), (4, 1, .s 4), (5, 1, .s 5), (6, 1, .s 6), (7, 1, .s 7)])) (.cons (.op (.e (.litH 3 2
  [.string ⟨#[]⟩, .slice none 0 0] [(0, 2, .s 0), (2, 2, .s 1), (4, 2, .s 2)])) (.cons (.op (.p (.build [.string ⟨#[]⟩, .slice none 0 0] [(0, 1, .s 0), (1, 1, .s 1)])) (.cons (.cv
  (.string ⟨#[108, 97, 116, 105, 110]⟩)) (.op (.e (.litH 4 2 [.int .i32 0, .int .i32 0] [(0, 2, .s 0), (2, 2, .s 1), (4, 2, .s 2), (6, 2, .s 3)])) (.cons (.op (.p (.build [.int .i32
  0, .int .i32 0] [(0, 1, .s 0), (1, 1, .s 1)])) (.cons (xr 65) (xr 90))) (.cons (.op (.p (.build [.int .i32 0, .int .i32 0] [(0, 1, .s 0), (1, 1, .s 1)])) (.cons (xr 97) (xr 122)))
  (.cons (.op (.p (.build [.int .i32 0, .int .i32 0] [(0, 1, .s 0), (1, 1, .s 1)])) (.cons (xr 232) (xr 234))) (.op (.p (.build [.int .i32 0, .int .i32 0] [(0, 1, .s 0), (1, 1, .s
  1)])) (.cons (xr 7865) (xr 7871))))))))) (.cons (.op (.p (.build [.string ⟨#[]⟩, .slice none 0 0] [(0, 1, .s 0), (1, 1, .s 1)])) (.cons (.cv (.string ⟨#[103, 114, 101, 101,
  107]⟩)) (.op (.e (.litH 1 2 [.int .i32 0, .int .i32 0] [(0, 2, .s 0)])) (.op (.p (.build [.int .i32 0, .int .i32 0] [(0, 1, .s 0), (1, 1, .s 1)])) (.cons (xr 945) (xr 969))))))
  (.op (.p (.build [.string ⟨#[]⟩, .slice none 0 0] [(0, 1, .s 0), (1, 1, .s 1)])) (.cons (.cv (.string ⟨#[99, 121, 114, 105, 108, 108, 105, 99]⟩)) (.op (.e (.litH 1 2 [.int .i32 0,
  .int .i32 0] [(0, 2, .s 0)])) (.op (.p (.build [.int .i32 0, .int .i32 0] [(0, 1, .s 0), (1, 1, .s 1)])) (.cons (xr 1072) (xr 1103))))))))) (.cons (.op (.e (.litH 1 2 [.int .i32
  0, .int .i32 0] [(0, 2, .s 0)])) (.op (.p (.build [.int .i32 0, .int .i32 0] [(0, 1, .s 0), (1, 1, .s 1)])) (.cons (xr 45) (xr 57)))) (.cons (.op (.e (.litH 3 2 [.int .i32 0, .int
  .i64 0] [(0, 2, .s 0), (2, 2, .s 1), (4, 2, .s 2)])) (.cons (.op (.p (.build [.int .i32 0, .int .i64 0] [(0, 1, .s 0), (1, 1, .s 1)])) (.cons (xr 769) (xi 230))) (.cons (.op (.p
  (.build [.int .i32 0, .int .i64 0] [(0, 1, .s 0), (1, 1, .s 1)])) (.cons (xr 770) (xi 230))) (.op (.p (.build [.int .i32 0, .int .i64 0] [(0, 1, .s 0), (1, 1, .s 1)])) (.cons (xr
  803) (xi 220)))))) (.cons (.op (.e (.litH 4 3 [.int .i32 0, .int .i32 0, .int .i32 0] [(0, 3, .s 0), (3, 3, .s 1), (6, 3, .s 2), (9, 3, .s 3)])) (.cons (.op (.p (.build [.int .i32
  0, .int .i32 0, .int .i32 0] [(0, 1, .s 0), (1, 1, .s 1), (2, 1, .s 2)])) (.cons (xr 233) (.cons (xr 101) (xr 769)))) (.cons (.op (.p (.build [.int .i32 0, .int .i32 0, .int .i32
  0] [(0, 1, .s 0), (1, 1, .s 1), (2, 1, .s 2)])) (.cons (xr 234) (.cons (xr 101) (xr 770)))) (.cons (.op (.p (.build [.int .i32 0, .int .i32 0, .int .i32 0] [(0, 1, .s 0), (1, 1,
  .s 1), (2, 1, .s 2)])) (.cons (xr 7865) (.cons (xr 101) (xr 803)))) (.op (.p (.build [.int .i32 0, .int .i32 0, .int .i32 0] [(0, 1, .s 0), (1, 1, .s 1), (2, 1, .s 2)])) (.cons
  (xr 7871) (.cons (xr 234) (xr 769)))))))) (.cons (.op (.e (.litH 2 2 [.int .i32 0, .string ⟨#[]⟩] [(0, 2, .s 0), (2, 2, .s 1)])) (.cons (.op (.p (.build [.int .i32 0, .string
  ⟨#[]⟩] [(0, 1, .s 0), (1, 1, .s 1)])) (.cons (xr 65) (.cv (.string ⟨#[97]⟩)))) (.op (.p (.build [.int .i32 0, .string ⟨#[]⟩] [(0, 1, .s 0), (1, 1, .s 1)])) (.cons (xr 69) (.cv
  (.string ⟨#[101]⟩)))))) (.cons (.op (.e (.litH 3 2 [.int .i32 0, .string ⟨#[]⟩] [(0, 2, .s 0), (2, 2, .s 1), (4, 2, .s 2)])) (.cons (.op (.p (.build [.int .i32 0, .string ⟨#[]⟩]
  [(0, 1, .s 0), (1, 1, .s 1)])) (.cons (xr 1072) (.cv (.string ⟨#[97]⟩)))) (.cons (.op (.p (.build [.int .i32 0, .string ⟨#[]⟩] [(0, 1, .s 0), (1, 1, .s 1)])) (.cons (xr 49) (.cv
  (.string ⟨#[108]⟩)))) (.op (.p (.build [.int .i32 0, .string ⟨#[]⟩] [(0, 1, .s 0), (1, 1, .s 1)])) (.cons (xr 109) (.cv (.string ⟨#[114, 110]⟩))))))) (.cons (.op (.e (.litH 1 2
  [.int .i32 0, .int .i32 0] [(0, 2, .s 0)])) (.op (.p (.build [.int .i32 0, .int .i32 0] [(0, 1, .s 0), (1, 1, .s 1)])) (.cons (xr 8205) (xr 8205)))) (.op (.e (.litH 9 2 [.int .i32
  0, .int .i32 0] [(0, 2, .s 0), (2, 2, .s 1), (4, 2, .s 2), (6, 2, .s 3), (8, 2, .s 4), (10, 2, .s 5), (12, 2, .s 6), (14, 2, .s 7), (16, 2, .s 8)])) (.cons (.op (.p (.build [.int
  .i32 0, .int .i32 0] [(0, 1, .s 0), (1, 1, .s 1)])) (.cons (xr 45) (xr 45))) (.cons (.op (.p (.build [.int .i32 0, .int .i32 0] [(0, 1, .s 0), (1, 1, .s 1)])) (.cons (xr 48) (xr
  57))) (.cons (.op (.p (.build [.int .i32 0, .int .i32 0] [(0, 1, .s 0), (1, 1, .s 1)])) (.cons (xr 97) (xr 122))) (.cons (.op (.p (.build [.int .i32 0, .int .i32 0] [(0, 1, .s 0),
  (1, 1, .s 1)])) (.cons (xr 232) (xr 234))) (.cons (.op (.p (.build [.int .i32 0, .int .i32 0] [(0, 1, .s 0), (1, 1, .s 1)])) (.cons (xr 769) (xr 770))) (.cons (.op (.p (.build
  [.int .i32 0, .int .i32 0] [(0, 1, .s 0), (1, 1, .s 1)])) (.cons (xr 803) (xr 803))) (.cons (.op (.p (.build [.int .i32 0, .int .i32 0] [(0, 1, .s 0), (1, 1, .s 1)])) (.cons (xr
  945) (xr 969))) (.cons (.op (.p (.build [.int .i32 0, .int .i32 0] [(0, 1, .s 0), (1, 1, .s 1)])) (.cons (xr 1072) (xr 1103))) (.op (.p (.build [.int .i32 0, .int .i32 0] [(0, 1,
  .s 0), (1, 1, .s 1)])) (.cons (xr 7865) (xr 7871)))))))))))))))))))))]) .ret))
theorem fn_guisebook_House : (autoPrg Tryd.prog).fn 34 = some LF_guisebook_House := by kernel_rfl
def LF_cmp_Compare_int : LFunc :=
  .mk 2 [.tmp 4] (.seq (R 999 [0, 1] [.set 4 (xi 0)]) (.seq (R 7 [0, 1, 5] [.set 5 (xc1 81 (.va 0))]) (.seq (R 9 [0, 1, 5, 6] [.set 6 (xc1 81 (.va
  1))]) (.seq (.seq (R 11 [0, 1, 6, 11] [.tmp 11 (.va 5)]) (.cond (.s 11) (.seq (.seq (R 12 [12] [.tmp 12 (.va 6)]) (.cond (.s 12) (.seq (R 999 [4] [.set 4 (xi 0)]) .ret) .skip))
  (.seq (R 999 [4] [.set 4 (xi (-1))]) .ret)) .skip)) (.seq (.seq (R 13 [0, 1, 13] [.tmp 13 (.va 6)]) (.cond (.s 13) (.seq (R 999 [4] [.set 4 (xi 1)]) .ret) .skip)) (.seq (.seq (R
  14 [0, 1, 16] [.tmp 16 (xb .lss (.va 0) (.va 1))]) (.cond (.s 16) (.seq (R 999 [4] [.set 4 (xi (-1))]) .ret) .skip)) (.seq (.seq (R 17 [19] [.tmp 19 (xb .gtr (.va 0) (.va 1))])
  (.cond (.s 19) (.seq (R 999 [4] [.set 4 (xi 1)]) .ret) .skip)) (.seq (R 999 [4] [.set 4 (xi 0)]) .ret))))))))
theorem fn_cmp_Compare_int : (autoPrg Tryd.prog).fn 49 = some LF_cmp_Compare_int := by kernel_rfl
def LF_cmp_isNaN_int : LFunc :=
  .mk 1 [.tmp 2] (.seq (R 999 [0] [.set 2 (.cv (.bool false))]) (.seq (R 3 [2] [.set 2 (xb .neq (.va 0) (.va 0))]) .ret))
theorem fn_cmp_isNaN_int : (autoPrg Tryd.prog).fn 81 = some LF_cmp_isNaN_int := by kernel_rfl
end Go.Proofs.YtblmakgjdenpfaaDoor.AM
namespace Go.Proofs.YtblmakgjdenpfaaDoor.AM
open Go
def houseT : Tab where
  scripts := [(⟨#[108, 97, 116, 105, 110]⟩, [(65, 90), (97, 122), (232, 234), (7865, 7871)]), (⟨#[103, 114, 101, 101, 107]⟩, [(945, 969)]), (⟨#[99, 121, 114, 105, 108, 108, 105, 99]⟩, [(1072, 1103)])]
  common := [(45, 57)]
  marks := [(769, 230), (770, 230), (803, 220)]
  pairs := [(233, 101, 769), (234, 101, 770), (7865, 101, 803), (7871, 234, 769)]
  folds := [(65, ⟨#[97]⟩), (69, ⟨#[101]⟩)]
  looks := [(1072, ⟨#[97]⟩), (49, ⟨#[108]⟩), (109, ⟨#[114, 110]⟩)]
  drops := [(8205, 8205)]
  allowed := [(45, 45), (48, 57), (97, 122), (232, 234), (769, 770), (803, 803), (945, 969), (1072, 1103), (7865, 7871)]
instance (r : Int) : Decidable (r32 r) := by unfold r32; infer_instance
instance (r : Int) : Decidable (r64 r) := by unfold r64; infer_instance
theorem house_fits : Tab.Fits houseT :=
  ⟨by decide, by decide, by decide, by decide, by decide, by decide, by decide, by decide, by decide, by decide, by decide, by decide, by decide, by decide, by decide, by decide, by decide⟩
theorem reads_cells {h : AH} {b e n : Nat} {xss : List (List Value)} (hb : h.get b = some (.cells false xss.flatten)) (hn : n = xss.length) (he : ∀ x ∈ xss, x.length = e) : Reads h e (.at b 0 n) xss :=
  ⟨hn, he, .inr ⟨false, [], [], by rw [List.nil_append, List.append_nil]; exact hb, rfl⟩⟩
set_option maxHeartbeats 4000000 in
theorem house_spec (h : AH) : WpC PX 34 [] h fun v h' => ∃ S, v = .agg S.vs.toArray ∧ TabAt h' S houseT ∧ Kp h h' := by
  refine wpc_fn (px_ext rfl) (px_fn fn_guisebook_House) rfl ?_
  unfold LF_guisebook_House
  simp only [argFr]
  (refine W_x trivial ?_; (repeat' first | apply Cj.mk | exact Nl.nl) <;> intros)
  simp only [Nat.add_assoc, Nat.reduceAdd]
  refine ⟨⟨.at (h.n + 3) 0 3, .at (h.n + 4) 0 1, .at (h.n + 5) 0 3, .at (h.n + 6) 0 4, .at (h.n + 7) 0 2, .at (h.n + 8) 0 3, .at (h.n + 9) 0 1, .at (h.n + 10) 0 9,
    [((⟨#[108, 97, 116, 105, 110]⟩, [(65, 90), (97, 122), (232, 234), (7865, 7871)]), .at h.n 0 4), ((⟨#[103, 114, 101, 101, 107]⟩, [(945, 969)]), .at (h.n + 1) 0 1), ((⟨#[99, 121, 114, 105, 108, 108, 105, 99]⟩, [(1072, 1103)]), .at (h.n + 2) 0 1)]⟩, rfl,
    ⟨house_fits, reads_cells (by simp (disch := first | omega | (simp only [AH.nn_push, AH.nn_set, AH.nn_kill]; omega) | (simp only [AH.nn_push, AH.nn_set, AH.nn_kill]; done) | fail) only [AH.get_push_eq, AH.get_push_ne, AH.get_set_eq, AH.get_set_ne, AH.push_n]; rfl) rfl (by simp [houseT, scrV]), rfl, fun z hz => ?_, reads_cells (by simp (disch := first | omega | (simp only [AH.nn_push, AH.nn_set, AH.nn_kill]; omega) | (simp only [AH.nn_push, AH.nn_set, AH.nn_kill]; done) | fail) only [AH.get_push_eq, AH.get_push_ne, AH.get_set_eq, AH.get_set_ne, AH.push_n]; rfl) rfl (by simp [houseT, pairV]), reads_cells (by simp (disch := first | omega | (simp only [AH.nn_push, AH.nn_set, AH.nn_kill]; omega) | (simp only [AH.nn_push, AH.nn_set, AH.nn_kill]; done) | fail) only [AH.get_push_eq, AH.get_push_ne, AH.get_set_eq, AH.get_set_ne, AH.push_n]; rfl) rfl (by simp [houseT, markV]),
    reads_cells (by simp (disch := first | omega | (simp only [AH.nn_push, AH.nn_set, AH.nn_kill]; omega) | (simp only [AH.nn_push, AH.nn_set, AH.nn_kill]; done) | fail) only [AH.get_push_eq, AH.get_push_ne, AH.get_set_eq, AH.get_set_ne, AH.push_n]; rfl) rfl (by simp [houseT, tripV]), reads_cells (by simp (disch := first | omega | (simp only [AH.nn_push, AH.nn_set, AH.nn_kill]; omega) | (simp only [AH.nn_push, AH.nn_set, AH.nn_kill]; done) | fail) only [AH.get_push_eq, AH.get_push_ne, AH.get_set_eq, AH.get_set_ne, AH.push_n]; rfl) rfl (by simp [houseT, mapV]), reads_cells (by simp (disch := first | omega | (simp only [AH.nn_push, AH.nn_set, AH.nn_kill]; omega) | (simp only [AH.nn_push, AH.nn_set, AH.nn_kill]; done) | fail) only [AH.get_push_eq, AH.get_push_ne, AH.get_set_eq, AH.get_set_ne, AH.push_n]; rfl) rfl (by simp [houseT, mapV]),
    reads_cells (by simp (disch := first | omega | (simp only [AH.nn_push, AH.nn_set, AH.nn_kill]; omega) | (simp only [AH.nn_push, AH.nn_set, AH.nn_kill]; done) | fail) only [AH.get_push_eq, AH.get_push_ne, AH.get_set_eq, AH.get_set_ne, AH.push_n]; rfl) rfl (by simp [houseT, pairV]), reads_cells (by simp (disch := first | omega | (simp only [AH.nn_push, AH.nn_set, AH.nn_kill]; omega) | (simp only [AH.nn_push, AH.nn_set, AH.nn_kill]; done) | fail) only [AH.get_push_eq, AH.get_push_ne, AH.get_set_eq, AH.get_set_ne, AH.push_n]; rfl) rfl (by simp [houseT, pairV])⟩, ?_⟩
  · simp only [List.mem_cons, List.mem_nil_iff, or_false] at hz
    rcases hz with rfl | rfl | rfl
    · exact reads_cells (by simp (disch := first | omega | (simp only [AH.nn_push, AH.nn_set, AH.nn_kill]; omega) | (simp only [AH.nn_push, AH.nn_set, AH.nn_kill]; done) | fail) only [AH.get_push_eq, AH.get_push_ne, AH.get_set_eq, AH.get_set_ne, AH.push_n]; rfl) rfl (by simp [houseT, pairV])
    · exact reads_cells (by simp (disch := first | omega | (simp only [AH.nn_push, AH.nn_set, AH.nn_kill]; omega) | (simp only [AH.nn_push, AH.nn_set, AH.nn_kill]; done) | fail) only [AH.get_push_eq, AH.get_push_ne, AH.get_set_eq, AH.get_set_ne, AH.push_n]; rfl) rfl (by simp [houseT, pairV])
    · exact reads_cells (by simp (disch := first | omega | (simp only [AH.nn_push, AH.nn_set, AH.nn_kill]; omega) | (simp only [AH.nn_push, AH.nn_set, AH.nn_kill]; done) | fail) only [AH.get_push_eq, AH.get_push_ne, AH.get_set_eq, AH.get_set_ne, AH.push_n]; rfl) rfl (by simp [houseT, pairV])
  · exact (((((((((((Kp.refl h).push _).push _).push _).push _).push _).push _).push _).push _).push _).push _).push _
end Go.Proofs.YtblmakgjdenpfaaDoor.AM
