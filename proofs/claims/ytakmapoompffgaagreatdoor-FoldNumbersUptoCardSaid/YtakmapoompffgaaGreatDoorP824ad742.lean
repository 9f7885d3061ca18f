/- Parts of proofs: lemmas, joined. -/
import Derived.Test.YtakmapoompffgaaGreatDoorP12afa111
set_option linter.unusedVariables false
set_option linter.unusedSimpArgs false
set_option linter.unusedSectionVars false
namespace Go.Proofs.YtakmapoompffgaaGreatDoor.AM
open Go
def rnV (c : Nat) : List Value := [.int .i32 c]
def rnB (l : Bytes) : Option (List Nat) := if validB l then some (runesB l) else none
theorem rnB_nil : rnB [] = some [] := rfl
theorem rnB_enc {c : Nat} (hc : RuneN c) (rest : Bytes) : rnB (encN c ++ rest) = (rnB rest).map (c :: ·) := by
  unfold rnB
  rw [validB_enc hc, runesB_enc hc]
  split <;> rfl
theorem rnB_bad {l : Bytes} (hl : l ≠ []) (hd : dec1 l = (0xFFFD, 1)) : rnB l = none := by
  unfold rnB
  rw [validB_bad hl hd]
  rfl
inductive Seq1 (l : Bytes) : Prop
  | one (h : bat l 0 < 128) (e : rnB l = (rnB (l.drop 1)).map (bat l 0 :: ·))
  | two (a : 192 ≤ bat l 0) (b : bat l 0 < 224) (n : 1 < l.length) (c1 : 128 ≤ bat l 1 ∧ bat l 1 < 192) (r : 128 ≤ (bat l 0 - 192) * 64 + (bat l 1 - 128)) (e : rnB l = (rnB (l.drop 2)).map (((bat l 0 - 192) * 64 + (bat l 1 - 128)) :: ·))
  | three (a : 224 ≤ bat l 0) (b : bat l 0 < 240) (n : 2 < l.length) (c1 : 128 ≤ bat l 1 ∧ bat l 1 < 192) (c2 : 128 ≤ bat l 2 ∧ bat l 2 < 192) (r : 2048 ≤ ((bat l 0 - 224) * 64 + (bat l 1 - 128)) * 64 + (bat l 2 - 128))
      (v : RuneN (((bat l 0 - 224) * 64 + (bat l 1 - 128)) * 64 + (bat l 2 - 128))) (e : rnB l = (rnB (l.drop 3)).map ((((bat l 0 - 224) * 64 + (bat l 1 - 128)) * 64 + (bat l 2 - 128)) :: ·))
  | four (a : 240 ≤ bat l 0) (b : bat l 0 < 248) (n : 3 < l.length) (c1 : 128 ≤ bat l 1 ∧ bat l 1 < 192) (c2 : 128 ≤ bat l 2 ∧ bat l 2 < 192) (c3 : 128 ≤ bat l 3 ∧ bat l 3 < 192)
      (r : 65536 ≤ (((bat l 0 - 240) * 64 + (bat l 1 - 128)) * 64 + (bat l 2 - 128)) * 64 + (bat l 3 - 128)) (v : RuneN ((((bat l 0 - 240) * 64 + (bat l 1 - 128)) * 64 + (bat l 2 - 128)) * 64 + (bat l 3 - 128)))
      (e : rnB l = (rnB (l.drop 4)).map (((((bat l 0 - 240) * 64 + (bat l 1 - 128)) * 64 + (bat l 2 - 128)) * 64 + (bat l 3 - 128)) :: ·))
  | bad (e : rnB l = none) (h : 128 ≤ bat l 0)
      (h2 : 192 ≤ bat l 0 → bat l 0 < 224 → 1 < l.length → 128 ≤ bat l 1 → bat l 1 < 192 → (bat l 0 - 192) * 64 + (bat l 1 - 128) < 128)
      (h3 : 224 ≤ bat l 0 → bat l 0 < 240 → 2 < l.length → 128 ≤ bat l 1 → bat l 1 < 192 → 128 ≤ bat l 2 → bat l 2 < 192 → ((bat l 0 - 224) * 64 + (bat l 1 - 128)) * 64 + (bat l 2 - 128) < 2048 ∨ ¬ RuneN (((bat l 0 - 224) * 64 + (bat l 1 - 128)) * 64 + (bat l 2 - 128)))
      (h4 : 240 ≤ bat l 0 → bat l 0 < 248 → 3 < l.length → 128 ≤ bat l 1 → bat l 1 < 192 → 128 ≤ bat l 2 → bat l 2 < 192 → 128 ≤ bat l 3 → bat l 3 < 192 →
        (((bat l 0 - 240) * 64 + (bat l 1 - 128)) * 64 + (bat l 2 - 128)) * 64 + (bat l 3 - 128) < 65536 ∨ ¬ RuneN ((((bat l 0 - 240) * 64 + (bat l 1 - 128)) * 64 + (bat l 2 - 128)) * 64 + (bat l 3 - 128)))
theorem bat_lt (l : Bytes) (k : Nat) : bat l k < 256 := u8_lt _
theorem bcont_iff {l : Bytes} {k : Nat} : bcont l k = true ↔ k < l.length ∧ 128 ≤ bat l k ∧ bat l k < 192 := by
  unfold bcont
  have := bat_lt l k
  simp only [Bool.and_eq_true, decide_eq_true_eq, beq_iff_eq]
  omega
theorem good_of {l : Bytes} {c w : Nat} (hl : l ≠ []) (hd : dec1 l = (c, w)) (hne : ¬ (c = 0xFFFD ∧ w = 1)) : RuneN c ∧ rnB l = (rnB (l.drop w)).map (c :: ·) := by
  rcases dec_cases hl with ⟨c', rest, hc, e, hd'⟩ | ⟨hb, _⟩
  · rw [hd] at hd'
    injection hd' with h1 h2
    subst h1 h2
    refine ⟨hc, ?_⟩
    conv => lhs; rw [e]
    rw [rnB_enc hc, e, List.drop_left]
  · rw [hd] at hb
    injection hb with h1 h2
    exact absurd ⟨h1, h2⟩ hne
theorem seq1 {l : Bytes} (hl : l ≠ []) : Seq1 l := by
  have h0 := bat_lt l 0
  have h1 := bat_lt l 1
  have h2 := bat_lt l 2
  have h3 := bat_lt l 3
  have g1 := bcont_iff (l := l) (k := 1)
  have g2 := bcont_iff (l := l) (k := 2)
  have g3 := bcont_iff (l := l) (k := 3)
  have good := fun c w => good_of (c := c) (w := w) hl
  have bad := fun h => rnB_bad hl h
  have val := fun c => valid_iff c
  unfold dec1 at good bad
  by_cases c0 : bat l 0 < 128
  · exact .one c0 (good _ _ (if_pos c0) (by omega)).2
  simp only [if_neg c0] at good bad
  by_cases c1 : (bat l 0 / 32 == 6 && bcont l 1) = true
  · simp only [if_pos c1] at good bad
    simp only [Bool.and_eq_true, beq_iff_eq, g1] at c1
    by_cases c2 : bat l 0 % 32 * 64 + bat l 1 % 64 ≥ 128
    · simp only [if_pos c2] at good
      have := (good _ _ rfl (by omega)).2
      rw [show bat l 0 % 32 * 64 + bat l 1 % 64 = (bat l 0 - 192) * 64 + (bat l 1 - 128) by omega] at this
      exact .two (by omega) (by omega) (by omega) (by omega) (by omega) this
    · simp only [if_neg c2] at bad
      exact .bad (bad trivial) (by omega) (fun _ _ _ _ _ => by omega) (fun _ _ => by omega) (fun _ _ => by omega)
  simp only [if_neg c1] at good bad
  simp only [Bool.and_eq_true, beq_iff_eq, g1] at c1
  by_cases c2 : (bat l 0 / 16 == 14 && bcont l 1 && bcont l 2) = true
  · simp only [if_pos c2] at good bad
    simp only [Bool.and_eq_true, beq_iff_eq, g1, g2] at c2
    have e : bat l 0 % 16 * 4096 + bat l 1 % 64 * 64 + bat l 2 % 64 = ((bat l 0 - 224) * 64 + (bat l 1 - 128)) * 64 + (bat l 2 - 128) := by omega
    rw [e] at good bad
    by_cases c3 : (decide (((bat l 0 - 224) * 64 + (bat l 1 - 128)) * 64 + (bat l 2 - 128) ≥ 2048) && Utf8.valid ((((bat l 0 - 224) * 64 + (bat l 1 - 128)) * 64 + (bat l 2 - 128) : Nat))) = true
    · simp only [if_pos c3] at good
      obtain ⟨a1, a2⟩ := good _ _ rfl (by omega)
      simp only [Bool.and_eq_true, decide_eq_true_eq] at c3
      exact .three (by omega) (by omega) (by omega) (by omega) (by omega) (by omega) a1 a2
    · simp only [if_neg c3] at bad
      simp only [Bool.and_eq_true, decide_eq_true_eq, val] at c3
      exact .bad (bad trivial) (by omega) (fun _ _ => by omega) (fun _ _ _ _ _ _ _ => by
        by_cases hr : RuneN (((bat l 0 - 224) * 64 + (bat l 1 - 128)) * 64 + (bat l 2 - 128))
        · exact .inl (Nat.lt_of_not_le fun h => c3 ⟨h, hr⟩)
        · exact .inr hr) (fun _ _ => by omega)
  simp only [if_neg c2] at good bad
  simp only [Bool.and_eq_true, beq_iff_eq, g1, g2] at c2
  by_cases c3 : (bat l 0 / 8 == 30 && bcont l 1 && bcont l 2 && bcont l 3) = true
  · simp only [if_pos c3] at good bad
    simp only [Bool.and_eq_true, beq_iff_eq, g1, g2, g3] at c3
    have e : bat l 0 % 8 * 262144 + bat l 1 % 64 * 4096 + bat l 2 % 64 * 64 + bat l 3 % 64 = (((bat l 0 - 240) * 64 + (bat l 1 - 128)) * 64 + (bat l 2 - 128)) * 64 + (bat l 3 - 128) := by omega
    rw [e] at good bad
    by_cases c4 : (decide ((((bat l 0 - 240) * 64 + (bat l 1 - 128)) * 64 + (bat l 2 - 128)) * 64 + (bat l 3 - 128) ≥ 65536) && Utf8.valid (((((bat l 0 - 240) * 64 + (bat l 1 - 128)) * 64 + (bat l 2 - 128)) * 64 + (bat l 3 - 128) : Nat))) = true
    · simp only [if_pos c4] at good
      obtain ⟨a1, a2⟩ := good _ _ rfl (by omega)
      simp only [Bool.and_eq_true, decide_eq_true_eq] at c4
      exact .four (by omega) (by omega) (by omega) (by omega) (by omega) (by omega) (by omega) a1 a2
    · simp only [if_neg c4] at bad
      simp only [Bool.and_eq_true, decide_eq_true_eq, val] at c4
      exact .bad (bad trivial) (by omega) (fun _ _ => by omega) (fun _ _ => by omega) (fun _ _ _ _ _ _ _ _ _ => by
        by_cases hr : RuneN ((((bat l 0 - 240) * 64 + (bat l 1 - 128)) * 64 + (bat l 2 - 128)) * 64 + (bat l 3 - 128))
        · exact .inl (Nat.lt_of_not_le fun h => c4 ⟨h, hr⟩)
        · exact .inr hr)
  simp only [if_neg c3] at good bad
  simp only [Bool.and_eq_true, beq_iff_eq, g1, g2, g3] at c3
  exact .bad (bad trivial) (by omega) (fun _ _ _ _ _ => by omega) (fun _ _ _ _ _ _ _ => by omega) (fun _ _ _ _ _ _ _ _ _ => by omega)
instance (c : Nat) : Decidable (RuneN c) := by unfold RuneN; infer_instance
theorem runeI_nat (c : Nat) : runeI c = decide (RuneN c) := by
  unfold runeI RuneN
  exact decide_eq_decide.2 (by omega)
theorem bat_drop (l : Bytes) (i k : Nat) : bat (l.drop i) k = bat l (i + k) := by
  unfold bat
  rw [List.getD_eq_getElem?_getD, List.getD_eq_getElem?_getD, List.getElem?_drop]
set_option maxHeartbeats 1000000 in
theorem runes6_spec (s : ByteArray) (h : AH) (hsz : s.size < 100000000) :
    WpC PX 84 [.string s] h fun v h' => ∃ s', v = .tuple (List.toArray [s'.val 1, .bool (rnO s).isSome]) ∧ FOwn h h' 1 s' (((rnO s).getD []).map rnV) := by
  obtain ⟨l, hl⟩ : ∃ l, l = s.data.toList := ⟨_, rfl⟩
  have hll : l.length = s.size := by rw [hl]; rfl
  have hr : rnO s = rnB l := by rw [hl]; rfl
  rw [hr]
  refine wpc_fn (px_ext rfl) (px_fn fn_guiseref6_Runes) rfl ?_
  unfold LF_guiseref6_Runes
  simp only [argFr]
  (refine W_x trivial ?_; (repeat' first | apply Cj.mk | exact Nl.nl) <;> intros)
  refine wp_loop (fun n fr lc h1 => ∃ (i : Nat) (R : List Nat) (sl : Sl), n = l.length - i ∧ i ≤ l.length ∧ R.length ≤ i ∧ rnB l = (rnB (l.drop i)).map (R ++ ·) ∧ FOwn h h1 1 sl (R.map rnV) ∧ fr = [(0, .string s), (4, sl.val 1), (5, .int .i64 i)] ∧ lc = []) l.length
    ⟨0, [], .nil, rfl, Nat.zero_le _, Nat.zero_le _, by simp, FOwn.nil (Kp.refl h), rfl, rfl⟩ ?_
  rintro n fr lc h1 ⟨i, R, sl, rfl, hi, hRi, hR, fo, rfl, rfl⟩
  have hst : ∀ c w, 0 < w → i + w ≤ l.length → rnB (l.drop i) = (rnB ((l.drop i).drop w)).map (c :: ·) → ∀ s2 h2 d, FOwn h h2 1 s2 (R.map rnV ++ [d]) → d = rnV c →
      ∃ n', n' < l.length - i ∧ ∃ (i' : Nat) (R' : List Nat) (sl' : Sl), n' = l.length - i' ∧ i' ≤ l.length ∧ R'.length ≤ i' ∧ rnB l = (rnB (l.drop i')).map (R' ++ ·) ∧ FOwn h h2 1 sl' (R'.map rnV) ∧ s2 = sl' ∧ i' = i + w := fun c w hw hle he s2 h2 d f2 hd =>
    ⟨l.length - (i + w), by omega, i + w, R ++ [c], s2, rfl, hle, by simp only [List.length_append, List.length_singleton]; omega, by
      rw [hR, he, List.drop_drop, Option.map_map]
      congr 1
      funext x
      simp, by rw [List.map_append, List.map_singleton, ← hd]; exact f2, rfl, rfl⟩
  rcases Nat.lt_or_ge i l.length with hil | hil
  · have hne : l.drop i ≠ [] := fun e => by have := congrArg List.length e; rw [List.length_drop, List.length_nil] at this; omega
    have t1 : ((i : Int) + 1).toNat = i + 1 := by omega
    have t2 : ((i : Int) + 2).toNat = i + 2 := by omega
    have t3 : ((i : Int) + 3).toNat = i + 3 := by omega
    have b0 := bat_lt l i
    have b1 := bat_lt l (i + 1)
    have b2 := bat_lt l (i + 2)
    have b3 := bat_lt l (i + 3)
    have e6 := fun c : Nat => rune6_eq (c : Int)
    have sq := seq1 hne
    generalize hB : rnB (l.drop i) = B at sq hR hst
    have dl : (l.drop i).length = l.length - i := List.length_drop
    have r6 := fun z h => rune6_eq z h
    obtain ⟨x0, q0⟩ : ∃ x, bat l i = x := ⟨_, rfl⟩
    obtain ⟨x1, q1⟩ : ∃ x, bat l (i + 1) = x := ⟨_, rfl⟩
    obtain ⟨x2, q2⟩ : ∃ x, bat l (i + 2) = x := ⟨_, rfl⟩
    obtain ⟨x3, q3⟩ : ∃ x, bat l (i + 3) = x := ⟨_, rfl⟩
    rw [q0] at b0
    rw [q1] at b1
    rw [q2] at b2
    rw [q3] at b3
    rcases sq with ⟨hh, e⟩ | ⟨a, b, n, c1, r, e⟩ | ⟨a, b, n, c1, c2, r, v, e⟩ | ⟨a, b, n, c1, c2, c3, r, v, e⟩ | ⟨e, hh, g2, g3, g4⟩
    all_goals rw [hB] at e
    · simp only [bat_drop, Nat.add_zero, q0] at hh e
      (refine W_x (Aj hl.symm q0) ?_; (repeat' first | apply Cj.mk | exact Nl.nl) <;> intros)
      refine wo_app1 fo rfl rfl (by decide) (by decide) (by rw [List.length_map]; omega) fun s2 h2 f2 => ?_
      (refine W_x trivial ?_; (repeat' first | apply Cj.mk | exact Nl.nl) <;> intros)
      obtain ⟨n', g1, i', R', sl', g2, g3, g4, g5, g6, rfl, rfl⟩ := hst _ 1 (by decide) (by omega) e s2 h2 _ f2 rfl
      exact ⟨n', g1, _, R', s2, g2, g3, g4, g5, g6, by simp only [Int.natCast_add]; rfl, rfl⟩
    · simp only [bat_drop, Nat.add_zero, q0, q1] at a b c1 r e
      have hv : runeI (((x0 : Int) - 192) * 64 + ((x1 : Int) - 128)) = true := by unfold runeI; exact decide_eq_true (by omega)
      (refine W_x (Aj hl.symm q0) ?_; (repeat' first | apply Cj.mk | exact Nl.nl) <;> intros)
      refine wp_unroll ?_
      (refine W_x (Aj hl.symm (Aj t1 q1)) ?_; (repeat' first | apply Cj.mk | exact Nl.nl) <;> intros)
      refine wp_unroll ?_
      (refine W_x (Aj hl.symm (Aj r6 hv)) ?_; (repeat' first | apply Cj.mk | exact Nl.nl) <;> intros)
      refine wo_app1 fo rfl rfl (by decide) (by decide) (by rw [List.length_map]; omega) fun s2 h2 f2 => ?_
      (refine W_x trivial ?_; (repeat' first | apply Cj.mk | exact Nl.nl) <;> intros)
      obtain ⟨n', g1, i', R', sl', g2, g3, g4, g5, g6, rfl, rfl⟩ := hst _ 2 (by decide) (by omega) e s2 h2 _ f2 (by unfold rnV; congr 2; omega)
      exact ⟨n', g1, _, R', s2, g2, g3, g4, g5, g6, by simp only [Int.natCast_add]; rfl, rfl⟩
    · simp only [bat_drop, Nat.add_zero, q0, q1, q2] at a b c1 c2 r v e
      unfold RuneN at v
      have hv : runeI ((((x0 : Int) - 224) * 64 + ((x1 : Int) - 128)) * 64 + ((x2 : Int) - 128)) = true := by unfold runeI; exact decide_eq_true (by omega)
      (refine W_x (Aj hl.symm q0) ?_; (repeat' first | apply Cj.mk | exact Nl.nl) <;> intros)
      refine wp_unroll ?_
      (refine W_x (Aj hl.symm (Aj t1 q1)) ?_; (repeat' first | apply Cj.mk | exact Nl.nl) <;> intros)
      refine wp_unroll ?_
      (refine W_x (Aj hl.symm (Aj t2 q2)) ?_; (repeat' first | apply Cj.mk | exact Nl.nl) <;> intros)
      refine wp_unroll ?_
      (refine W_x (Aj hl.symm (Aj r6 hv)) ?_; (repeat' first | apply Cj.mk | exact Nl.nl) <;> intros)
      refine wo_app1 fo rfl rfl (by decide) (by decide) (by rw [List.length_map]; omega) fun s2 h2 f2 => ?_
      (refine W_x trivial ?_; (repeat' first | apply Cj.mk | exact Nl.nl) <;> intros)
      obtain ⟨n', g1, i', R', sl', g2, g3, g4, g5, g6, rfl, rfl⟩ := hst _ 3 (by decide) (by omega) e s2 h2 _ f2 (by unfold rnV; congr 2; omega)
      exact ⟨n', g1, _, R', s2, g2, g3, g4, g5, g6, by simp only [Int.natCast_add]; rfl, rfl⟩
    · simp only [bat_drop, Nat.add_zero, q0, q1, q2, q3] at a b c1 c2 c3 r v e
      unfold RuneN at v
      have hv : runeI (((((x0 : Int) - 240) * 64 + ((x1 : Int) - 128)) * 64 + ((x2 : Int) - 128)) * 64 + ((x3 : Int) - 128)) = true := by unfold runeI; exact decide_eq_true (by omega)
      (refine W_x (Aj hl.symm q0) ?_; (repeat' first | apply Cj.mk | exact Nl.nl) <;> intros)
      refine wp_unroll ?_
      (refine W_x (Aj hl.symm (Aj t1 q1)) ?_; (repeat' first | apply Cj.mk | exact Nl.nl) <;> intros)
      refine wp_unroll ?_
      (refine W_x (Aj hl.symm (Aj t2 q2)) ?_; (repeat' first | apply Cj.mk | exact Nl.nl) <;> intros)
      refine wp_unroll ?_
      (refine W_x (Aj hl.symm (Aj t3 q3)) ?_; (repeat' first | apply Cj.mk | exact Nl.nl) <;> intros)
      refine wp_unroll ?_
      (refine W_x (Aj hl.symm (Aj r6 hv)) ?_; (repeat' first | apply Cj.mk | exact Nl.nl) <;> intros)
      refine wo_app1 fo rfl rfl (by decide) (by decide) (by rw [List.length_map]; omega) fun s2 h2 f2 => ?_
      (refine W_x trivial ?_; (repeat' first | apply Cj.mk | exact Nl.nl) <;> intros)
      obtain ⟨n', g1, i', R', sl', g2, g3, g4, g5, g6, rfl, rfl⟩ := hst _ 4 (by decide) (by omega) e s2 h2 _ f2 (by unfold rnV; congr 2; omega)
      exact ⟨n', g1, _, R', s2, g2, g3, g4, g5, g6, by simp only [Int.natCast_add]; rfl, rfl⟩
    · simp only [bat_drop, Nat.add_zero, q0, q1, q2, q3, dl] at hh g2 g3 g4
      unfold RuneN at g3 g4
      rw [e, Option.map_none] at hR
      have fo0 := FOwn.nil (e := 1) fo.kp
      rw [hR]
      by_cases c1 : x0 < 192
      · (refine W_x (Aj hl.symm q0) ?_; (repeat' first | apply Cj.mk | exact Nl.nl) <;> intros)
        exact ⟨.nil, rfl, fo0⟩
      by_cases c2 : x0 < 224
      · (refine W_x (Aj hl.symm q0) ?_; (repeat' first | apply Cj.mk | exact Nl.nl) <;> intros)
        refine wp_unroll ?_
        (refine W_x (Aj hl.symm (Aj t1 q1)) ?_; (repeat' first | apply Cj.mk | exact Nl.nl) <;> intros)
        · exact ⟨.nil, rfl, fo0⟩
        · exact ⟨.nil, rfl, fo0⟩
        · exact ⟨.nil, rfl, fo0⟩
        · refine wp_unroll ?_
          (refine W_x (Aj hl.symm r6) ?_; (repeat' first | apply Cj.mk | exact Nl.nl) <;> intros)
          exact ⟨.nil, rfl, fo0⟩
      by_cases c3 : x0 < 240
      · (refine W_x (Aj hl.symm q0) ?_; (repeat' first | apply Cj.mk | exact Nl.nl) <;> intros)
        refine wp_unroll ?_
        (refine W_x (Aj hl.symm (Aj t1 q1)) ?_; (repeat' first | apply Cj.mk | exact Nl.nl) <;> intros)
        · exact ⟨.nil, rfl, fo0⟩
        · exact ⟨.nil, rfl, fo0⟩
        · exact ⟨.nil, rfl, fo0⟩
        · refine wp_unroll ?_
          (refine W_x (Aj hl.symm (Aj t2 q2)) ?_; (repeat' first | apply Cj.mk | exact Nl.nl) <;> intros)
          · exact ⟨.nil, rfl, fo0⟩
          · exact ⟨.nil, rfl, fo0⟩
          · exact ⟨.nil, rfl, fo0⟩
          · refine wp_unroll ?_
            (refine W_x (Aj hl.symm r6) ?_; (repeat' first | apply Cj.mk | exact Nl.nl) <;> intros)
            · exact ⟨.nil, rfl, fo0⟩
            · have hv : runeI ((((x0 : Int) - 224) * 64 + ((x1 : Int) - 128)) * 64 + ((x2 : Int) - 128)) = false := by unfold runeI; exact decide_eq_false (by omega)
              (refine W_x hv ?_; (repeat' first | apply Cj.mk | exact Nl.nl) <;> intros)
              exact ⟨.nil, rfl, fo0⟩
      by_cases c4 : x0 < 248
      · (refine W_x (Aj hl.symm q0) ?_; (repeat' first | apply Cj.mk | exact Nl.nl) <;> intros)
        refine wp_unroll ?_
        (refine W_x (Aj hl.symm (Aj t1 q1)) ?_; (repeat' first | apply Cj.mk | exact Nl.nl) <;> intros)
        · exact ⟨.nil, rfl, fo0⟩
        · exact ⟨.nil, rfl, fo0⟩
        · exact ⟨.nil, rfl, fo0⟩
        · refine wp_unroll ?_
          (refine W_x (Aj hl.symm (Aj t2 q2)) ?_; (repeat' first | apply Cj.mk | exact Nl.nl) <;> intros)
          · exact ⟨.nil, rfl, fo0⟩
          · exact ⟨.nil, rfl, fo0⟩
          · exact ⟨.nil, rfl, fo0⟩
          · refine wp_unroll ?_
            (refine W_x (Aj hl.symm (Aj t3 q3)) ?_; (repeat' first | apply Cj.mk | exact Nl.nl) <;> intros)
            · exact ⟨.nil, rfl, fo0⟩
            · exact ⟨.nil, rfl, fo0⟩
            · exact ⟨.nil, rfl, fo0⟩
            · refine wp_unroll ?_
              (refine W_x (Aj hl.symm r6) ?_; (repeat' first | apply Cj.mk | exact Nl.nl) <;> intros)
              · exact ⟨.nil, rfl, fo0⟩
              · have hv : runeI (((((x0 : Int) - 240) * 64 + ((x1 : Int) - 128)) * 64 + ((x2 : Int) - 128)) * 64 + ((x3 : Int) - 128)) = false := by unfold runeI; exact decide_eq_false (by omega)
                (refine W_x hv ?_; (repeat' first | apply Cj.mk | exact Nl.nl) <;> intros)
                exact ⟨.nil, rfl, fo0⟩
      · (refine W_x (Aj hl.symm q0) ?_; (repeat' first | apply Cj.mk | exact Nl.nl) <;> intros)
        exact ⟨.nil, rfl, fo0⟩
  · have hie : i = l.length := by omega
    subst hie
    rw [List.drop_length, rnB_nil] at hR
    simp only [Option.map_some, List.append_nil] at hR
    (refine W_x trivial ?_; (repeat' first | apply Cj.mk | exact Nl.nl) <;> intros)
    rw [hR]
    exact ⟨sl, rfl, fo⟩
end Go.Proofs.YtakmapoompffgaaGreatDoor.AM
namespace Go.Proofs.YtakmapoompffgaaGreatDoor.AM
open Go
theorem span6_eq {s : Sl} {l : List Span} {h : AH} (rd : Reads h 2 s (l.map pairV)) (hl : l.length < 100000000) (i : Nat) (hi : i < l.length) :
    callO PX 141 [s.val 2, .int .i64 i] h = some (.int .i64 ((spanE l i l[i]).getD 0), h) := by
  have hs := rd.len
  have e1 := rune6_eq
  have g0 := fun lc => rd_mapc (lc := lc) rd hi (k := 0) (by decide)
  have g1 := fun lc => rd_mapc (lc := lc) rd hi (k := 1) (by decide)
  have gp : 0 < i → ∀ lc, Mem.rd ⟨lc, h⟩ (ptrOff (s.adr 2 (i - 1)) 1) 1 = some [.int .i32 (l.getD (i - 1) (0, 0)).2] := fun h0 lc => by
    have := rd_mapc (lc := lc) rd (i := i - 1) (by omega) (k := 1) (by decide)
    rw [this, List.getD_eq_getElem?_getD, List.getElem?_eq_getElem (by omega : i - 1 < l.length), Option.getD_some]
    rfl
  have t1 : ((i : Int) - 1).toNat = i - 1 := by omega
  apply WpC.eqn
  refine wpc_fn (px_ext rfl) (px_fn fn_guiseref6_span) rfl ?_
  unfold LF_guiseref6_span
  simp only [argFr]
  unfold spanE
  generalize l.getD (i - 1) (0, 0) = y at gp
  generalize l[i] = x at g0 g1
  unfold pairV at g0 g1
  have e2 := e1 x.1
  have e3 := e1 x.2
  generalize runeI x.1 = b1 at e2
  generalize runeI x.2 = b2 at e3
  cases b1
  · (refine W_x (Aj hs (Aj g0 e2)) ?_; (repeat' first | apply Cj.mk | exact Nl.nl) <;> intros)
    rw [if_pos (.inl rfl)]
    exact ⟨rfl, rfl⟩
  cases b2
  · (refine W_x (Aj hs (Aj g0 (Aj g1 (Aj e2 e3)))) ?_; (repeat' first | apply Cj.mk | exact Nl.nl) <;> intros)
    rw [if_pos (.inr rfl)]
    exact ⟨rfl, rfl⟩
  rw [if_neg (by simp)]
  by_cases h0 : 0 < i
  · have gp := gp h0
    (refine W_x (Aj hs (Aj g0 (Aj g1 (Aj e2 (Aj e3 (Aj gp t1)))))) ?_; (repeat' first | apply Cj.mk | exact Nl.nl) <;> intros)
    · rw [if_pos (by omega)]; exact ⟨rfl, rfl⟩
    · rw [if_neg (by omega), if_pos (by omega)]; exact ⟨rfl, rfl⟩
    · rw [if_neg (by omega), if_neg (by omega)]; exact ⟨rfl, rfl⟩
  · (refine W_x (Aj hs (Aj g0 (Aj g1 (Aj e2 e3)))) ?_; (repeat' first | apply Cj.mk | exact Nl.nl) <;> intros)
    · rw [if_pos (by omega)]; exact ⟨rfl, rfl⟩
    · rw [if_neg (by omega), if_neg (by omega)]; exact ⟨rfl, rfl⟩
theorem spanE_pos {l : List Span} {i : Nat} {x : Span} {e : Int} (h : spanE l i x = some e) : e ≠ 0 := by
  unfold spanE at h
  repeat' split at h
  all_goals first | (injection h with h; omega) | cases h
theorem spans6_eq {s : Sl} {l : List Span} {h : AH} (rd : Reads h 2 s (l.map pairV)) (hl : l.length < 100000000) (n : Int) :
    callO PX 116 [s.val 2, .int .i64 n] h = some (wrV (spansW l n), h) := by
  have hs := rd.len
  have e1 := span6_eq rd hl
  apply WpC.eqn
  refine wpc_fn (px_ext rfl) (px_fn fn_guiseref6_spans) rfl ?_
  unfold LF_guiseref6_spans
  simp only [argFr]
  unfold spansW spansE
  (refine W_x trivial ?_; (repeat' first | apply Cj.mk | exact Nl.nl) <;> intros)
  refine wp_scanF 5 l (fun i x => (spanE l i x).map fun e => (e, i)) (by intro n; simp only [setF, push_cast, Nat.reduceEqDiff, ↓reduceIte, reduceCtorEq, Nat.reduceAdd, Nat.reduceMul, Nat.reduceLeDiff]; rfl) rfl (fun i hi hit => ?_) fun fin => ?_
  · have e2 := e1 i hi
    have hp := fun e => spanE_pos (l := l) (i := i) (x := l[i]) (e := e)
    generalize spanE l i l[i] = o at e2 hit hp
    cases o with
    | none =>
      simp only [Option.getD_none] at e2
      (refine W_x (Aj hs e2) ?_; (repeat' first | apply Cj.mk | exact Nl.nl) <;> intros)
      exact ⟨rfl, rfl, rfl, rfl⟩
    | some e =>
      have := hp e rfl
      simp only [Option.getD_some] at e2
      rw [hit (e, i) rfl]
      (refine W_x (Aj hs e2) ?_; (repeat' first | apply Cj.mk | exact Nl.nl) <;> intros)
      exact ⟨rfl, rfl⟩
  · rw [fin]
    (refine W_x hs ?_; (repeat' first | apply Cj.mk | exact Nl.nl) <;> intros)
    exact ⟨rfl, rfl⟩
theorem script6_eq {z : Scr × Sl} {h : AH} (rd : Reads h 2 z.2 (z.1.2.map pairV)) (hl : z.1.2.length < 100000000) (hsz : z.1.1.size < 100000000) :
    callO PX 115 [.agg (scrV z).toArray] h = some (.int .i64 ((scrE z.1).getD 0), h) := by
  have e1 := fun h => name6_eq z.1.1 h hsz
  have e2 := spans6_eq rd hl 1
  apply WpC.eqn
  refine wpc_fn (px_ext rfl) (px_fn fn_guiseref6_script) rfl ?_
  unfold LF_guiseref6_script
  simp only [argFr]
  unfold scrE scrV
  unfold spansW at e2
  generalize nameB z.1.1.data.toList = b at e1
  cases b
  · (refine W_x e1 ?_; (repeat' first | apply Cj.mk | exact Nl.nl) <;> intros)
    exact ⟨rfl, rfl⟩
  · rw [if_neg (by simp)]
    cases hs : spansE z.1.2 with
    | none =>
      rw [hs] at e2
      simp only [Option.map_none, wrV] at e2
      (refine W_x (Aj e1 e2) ?_; (repeat' first | apply Cj.mk | exact Nl.nl) <;> intros)
      exact ⟨rfl, rfl⟩
    | some e =>
      rw [hs] at e2
      simp only [Option.map_some, wrV] at e2
      (refine W_x (Aj e1 e2) ?_; (repeat' first | apply Cj.mk | exact Nl.nl) <;> intros)
      exact ⟨rfl, rfl⟩
theorem maps6_spec {s : Sl} {l : List (Int × ByteArray)} {h : AH} (rd : Reads h 2 s (l.map mapV)) (hl : l.length < 100000000) (hz : ∀ y ∈ l, r32 y.1 ∧ y.2.size < 100000000) (n : Int) :
    WpC PX 118 [s.val 2, .int .i64 n] h fun v h' => v = wrV (mapsW l n) ∧ Kp h h' := by
  have hs := rd.len
  have e1 := rune6_eq
  refine wpc_fn (px_ext rfl) (px_fn fn_guiseref6_maps) rfl ?_
  unfold LF_guiseref6_maps
  simp only [argFr]
  unfold mapsW
  (refine W_x trivial ?_; (repeat' first | apply Cj.mk | exact Nl.nl) <;> intros)
  refine wp_scanH (Kp h) 5 l (fun i x => if runeI x.1 = false then W 12 n i else if toBad x.2 then W 35 n i else none) (by intro n; simp only [setF, push_cast, Nat.reduceEqDiff, ↓reduceIte, reduceCtorEq, Nat.reduceAdd, Nat.reduceMul, Nat.reduceLeDiff]; rfl) rfl (Kp.refl h) (fun i hi h1 kp hit => ?_) fun h1 kp fin => ?_
  · have hs1 := hs
    have g0 := fun lc => rd_mapc (lc := lc) (rd.kp kp) hi (k := 0) (by decide)
    have g1 := fun lc => rd_mapc (lc := lc) (rd.kp kp) hi (k := 1) (by decide)
    have hx := hz l[i] (List.getElem_mem hi)
    generalize l[i] = x at g0 g1 hit hx
    unfold mapV at g0 g1
    have e2 := e1 x.1
    generalize runeI x.1 = b1 at e2 hit
    cases b1
    · rw [hit _ (if_pos rfl)]
      (refine W_x (Aj hs (Aj g0 e2)) ?_; (repeat' first | apply Cj.mk | exact Nl.nl) <;> intros)
      exact ⟨rfl, kp⟩
    · obtain ⟨v, h2, e3, sr, rfl, fo⟩ := runes6_spec x.2 h1 hx.2
      have hsr : sr.len = ((rnO x.2).getD []).length := by rw [fo.own.1, List.length_map]
      have hlr : ((rnO x.2).getD []).length ≤ x.2.size := by
        unfold rnO
        split
        · exact (List.length_map ..).symm ▸ spots_len _
        · exact Nat.zero_le _
      have hb : toBad x.2 ↔ rnO x.2 = none ∨ ((rnO x.2).getD []).length < 1 ∨ 4 < ((rnO x.2).getD []).length := by
        unfold toBad rnO
        cases validB x.2.data.toList <;> simp
      simp only [Bool.true_eq_false, if_false] at hit ⊢
      cases ho : rnO x.2 with
      | none =>
        rw [ho] at e3 hb
        simp only [Option.isSome_none] at e3
        rw [hit _ (if_pos (hb.2 (.inl rfl)))]
        (refine W_x (Aj hs (Aj g0 (Aj g1 (Aj e2 e3)))) ?_; (repeat' first | apply Cj.mk | exact Nl.nl) <;> intros)
        exact ⟨rfl, kp.trans fo.kp⟩
      | some R =>
        rw [ho] at e3 hb hsr hlr
        simp only [Option.isSome_some, Option.getD_some] at e3 hsr hlr hb
        (refine W_x (Aj hs (Aj g0 (Aj g1 (Aj e2 (Aj e3 hsr))))) ?_; (repeat' first | apply Cj.mk | exact Nl.nl) <;> intros)
        · rw [hit _ (if_pos (hb.2 (.inr (.inl (by omega)))))]
          exact ⟨rfl, kp.trans fo.kp⟩
        · rw [hit _ (if_pos (hb.2 (.inr (.inr (by omega)))))]
          exact ⟨rfl, kp.trans fo.kp⟩
        · exact ⟨if_neg (fun q => by rcases hb.1 q with h | h | h; cases h; omega; omega), rfl, rfl, kp.trans fo.kp⟩
  · rw [fin]
    (refine W_x hs ?_; (repeat' first | apply Cj.mk | exact Nl.nl) <;> intros)
    exact ⟨rfl, kp⟩
theorem sets6_spec (x : ByteArray) (h : AH) (hz : x.size < 100000000) : WpC PX 143 [.string x] h fun v h' => v = .bool (setsB x) ∧ Kp h h' := by
  obtain ⟨v, h2, e3, sr, rfl, fo⟩ := runes6_spec x h hz
  have e4 := set6_eq
  refine wpc_fn (px_ext rfl) (px_fn fn_guiseref6_sets) rfl ?_
  unfold LF_guiseref6_sets
  simp only [argFr]
  have hlr : ((rnO x).getD []).length ≤ x.size := by
    unfold rnO
    split
    · exact (List.length_map ..).symm ▸ spots_len _
    · exact Nat.zero_le _
  unfold setsB
  generalize (rnO x).getD [] = R at fo hlr
  have hs := fo.reads.len
  have ha := any_scan (l := R) (P := fun c => setI (c : Nat) = true)
  simp only [Bool.decide_eq_true] at ha
  rw [ha]
  (refine W_x e3 ?_; (repeat' first | apply Cj.mk | exact Nl.nl) <;> intros)
  refine wp_scanF 5 R (fun _ c => if setI (c : Nat) = true then some () else none) (by intro n; simp only [setF, push_cast, Nat.reduceEqDiff, ↓reduceIte, reduceCtorEq, Nat.reduceAdd, Nat.reduceMul, Nat.reduceLeDiff]; rfl) rfl (fun i hi hit => ?_) fun fin => ?_
  · have g0 := fun lc => rd_map (lc := lc) fo.reads hi
    generalize R[i] = c at g0 hit
    unfold rnV at g0
    have e5 := e4 (c : Nat)
    generalize setI (c : Nat) = b at e5 hit
    cases b
    · (refine W_x (Aj hs (Aj g0 e5)) ?_; (repeat' first | apply Cj.mk | exact Nl.nl) <;> intros)
      exact ⟨rfl, rfl, rfl, rfl⟩
    · rw [hit () rfl]
      (refine W_x (Aj hs (Aj g0 e5)) ?_; (repeat' first | apply Cj.mk | exact Nl.nl) <;> intros)
      exact ⟨rfl, fo.kp⟩
  · rw [fin]
    (refine W_x hs ?_; (repeat' first | apply Cj.mk | exact Nl.nl) <;> intros)
    exact ⟨rfl, fo.kp⟩
end Go.Proofs.YtakmapoompffgaaGreatDoor.AM
namespace Go.Proofs.YtakmapoompffgaaGreatDoor.AM
open Go
theorem long6_spec {S : TS} {T : Tab} {h : AH} (t : TabAt h S T) : WpC PX 66 [.agg S.vs.toArray] h fun v h' => v = wrV (longW T) ∧ Kp h h' := by
  have f := t.fits
  have n0 := f.n0
  have hz := f.n0s
  rw [← t.zs] at hz n0
  rw [List.length_map] at n0
  have s0 := t.r0.len
  have s1 := t.r1.len; have n1 := f.n1
  have s2 := t.r2.len; have n2 := f.n2
  have s3 := t.r3.len; have n3 := f.n3
  have s4 := t.r4.len; have n4 := f.n4
  have s5 := t.r5.len; have n5 := f.n5
  have s6 := t.r6.len; have n6 := f.n6
  have s7 := t.r7.len; have n7 := f.n7
  refine wpc_fn (px_ext rfl) (px_fn fn_guiseref6_long) rfl ?_
  unfold LF_guiseref6_long
  simp only [argFr]
  unfold longW TS.vs
  rw [← t.zs, scanL_map, List.length_map]
  (refine W_x s0 ?_; (repeat' first | apply Cj.mk | exact Nl.nl) <;> intros)
  · rw [if_pos (by omega)]
    exact ⟨rfl, Kp.refl h⟩
  rw [if_neg (by omega)]
  refine wp_scanF 3 S.z (fun i z => if 1024 < z.1.2.length then W 4 1 i else none) (by intro n; simp only [setF, push_cast, Nat.reduceEqDiff, ↓reduceIte, reduceCtorEq, Nat.reduceAdd, Nat.reduceMul, Nat.reduceLeDiff]; rfl) rfl (fun i hi hit => ?_) fun fin => ?_
  · have g1 := fun lc => rd_mapc (lc := lc) t.r0 hi (k := 1) (by decide)
    have hm := List.getElem_mem hi
    have sz := (t.rz _ hm).len
    have nz := (hz _ (List.mem_map_of_mem hm)).1
    generalize S.z[i] = z at g1 hit sz nz
    unfold scrV at g1
    (refine W_x (Aj s0 (Aj g1 sz)) ?_; (repeat' first | apply Cj.mk | exact Nl.nl) <;> intros)
    · rw [hit _ (if_pos (by omega))]
      exact ⟨rfl, Kp.refl h⟩
    · exact ⟨if_neg (by omega), rfl, rfl, rfl⟩
  · rw [fin, Option.none_or]
    have hk : Kp h ((h.push (.cells false [.int .i64 T.common.length, .int .i64 T.marks.length, .int .i64 T.pairs.length, .int .i64 T.folds.length, .int .i64 T.looks.length, .int .i64 T.drops.length, .int .i64 T.allowed.length])).push
      (.cells false [.int .i64 1024, .int .i64 512, .int .i64 4096, .int .i64 4096, .int .i64 4096, .int .i64 1024, .int .i64 1024])) := ((Kp.refl h).push _).push _
    (refine W_x (Aj s0 (Aj s1 (Aj s2 (Aj s3 (Aj s4 (Aj s5 (Aj s6 s7))))))) ?_; (repeat' first | apply Cj.mk | exact Nl.nl) <;> intros)
    refine wp_unroll ?_
    (refine W_x trivial ?_; (repeat' first | apply Cj.mk | exact Nl.nl) <;> intros)
    · exact ⟨by simp (disch := omega) only [if_pos, if_neg]; rfl, hk⟩
    refine wp_unroll ?_
    (refine W_x trivial ?_; (repeat' first | apply Cj.mk | exact Nl.nl) <;> intros)
    · exact ⟨by simp (disch := omega) only [if_pos, if_neg]; rfl, hk⟩
    refine wp_unroll ?_
    (refine W_x trivial ?_; (repeat' first | apply Cj.mk | exact Nl.nl) <;> intros)
    · exact ⟨by simp (disch := omega) only [if_pos, if_neg]; rfl, hk⟩
    refine wp_unroll ?_
    (refine W_x trivial ?_; (repeat' first | apply Cj.mk | exact Nl.nl) <;> intros)
    · exact ⟨by simp (disch := omega) only [if_pos, if_neg]; rfl, hk⟩
    refine wp_unroll ?_
    (refine W_x trivial ?_; (repeat' first | apply Cj.mk | exact Nl.nl) <;> intros)
    · exact ⟨by simp (disch := omega) only [if_pos, if_neg]; rfl, hk⟩
    refine wp_unroll ?_
    (refine W_x trivial ?_; (repeat' first | apply Cj.mk | exact Nl.nl) <;> intros)
    · exact ⟨by simp (disch := omega) only [if_pos, if_neg]; rfl, hk⟩
    refine wp_unroll ?_
    (refine W_x trivial ?_; (repeat' first | apply Cj.mk | exact Nl.nl) <;> intros)
    · exact ⟨by simp (disch := omega) only [if_pos, if_neg]; rfl, hk⟩
    refine wp_unroll ?_
    (refine W_x trivial ?_; (repeat' first | apply Cj.mk | exact Nl.nl) <;> intros)
    exact ⟨by simp (disch := omega) only [if_pos, if_neg]; rfl, hk⟩
end Go.Proofs.YtakmapoompffgaaGreatDoor.AM
namespace Go.Proofs.YtakmapoompffgaaGreatDoor.AM
open Go
theorem scrE_pos {x : Scr} {e : Int} (h : scrE x = some e) : e ≠ 0 := by
  unfold scrE at h
  split at h
  · injection h with h; omega
  · unfold spansE at h
    cases hs : scanL x.2 (fun i y => (spanE x.2 i y).map fun e => (e, i)) with
    | none => rw [hs] at h; cases h
    | some w =>
      rw [hs] at h
      obtain ⟨i, hi, hw⟩ := scanL_some hs
      cases he : spanE x.2 i x.2[i] with
      | none => rw [he] at hw; cases hw
      | some e' =>
        rw [he] at hw
        simp only [Option.map_some, Option.some.injEq] at h hw
        subst hw
        have := spanE_pos he
        simp only at h
        omega
theorem spansW_pos {l : List Span} {n a b c : Int} (h : spansW l n = some (a, b, c)) : a ≠ 0 := by
  unfold spansW spansE at h
  cases hs : scanL l (fun i x => (spanE l i x).map fun e => (e, i)) with
  | none => rw [hs] at h; cases h
  | some w =>
    rw [hs] at h
    obtain ⟨i, hi, hw⟩ := scanL_some hs
    cases he : spanE l i l[i] with
    | none => rw [he] at hw; cases hw
    | some e' =>
      rw [he] at hw
      simp only [Option.map_some, Option.some.injEq, Prod.mk.injEq] at h hw
      subst hw
      have := spanE_pos he
      simp only at h
      omega
theorem mapsW_pos {l : List (Int × ByteArray)} {n a b c : Int} (h : mapsW l n = some (a, b, c)) : a ≠ 0 := by
  unfold mapsW at h
  obtain ⟨i, hi, hw⟩ := scanL_some h
  split at hw
  · injection hw with hw; injection hw with hw; omega
  · split at hw
    · injection hw with hw; injection hw with hw; omega
    · cases hw
set_option maxHeartbeats 1000000 in
theorem forms6_spec {S : TS} {T : Tab} {h : AH} (t : TabAt h S T) : WpC PX 67 [.agg S.vs.toArray] h fun v h' => v = wrV (formsW T) ∧ Kp h h' := by
  have f := t.fits
  have n0 := f.n0
  have hz := f.n0s
  rw [← t.zs] at hz n0
  rw [List.length_map] at n0
  have s0 := t.r0.len
  have s2 := t.r2.len; have n2 := f.n2
  have s3 := t.r3.len; have n3 := f.n3
  have e1 := rune6_eq
  have e2 := spans6_eq t.r1 f.n1 2
  refine wpc_fn (px_ext rfl) (px_fn fn_guiseref6_forms) rfl ?_
  unfold LF_guiseref6_forms
  simp only [argFr]
  unfold formsW TS.vs
  rw [← t.zs, scanL_map]
  (refine W_x s0 ?_; (repeat' first | apply Cj.mk | exact Nl.nl) <;> intros)
  refine wp_scanF 3 S.z (fun i z => (scrE z.1).map fun e => ((e, 1, (i : Int)) : W3)) (by intro n; simp only [setF, push_cast, Nat.reduceEqDiff, ↓reduceIte, reduceCtorEq, Nat.reduceAdd, Nat.reduceMul, Nat.reduceLeDiff]; rfl) rfl (fun i hi hit => ?_) fun fin => ?_
  · have g1 := fun lc => rd_map (lc := lc) t.r0 hi
    have hm := List.getElem_mem hi
    have rz := t.rz _ hm
    have nz := hz _ (List.mem_map_of_mem hm)
    generalize S.z[i] = z at g1 hit rz nz
    have e3 := script6_eq rz nz.1 nz.2
    have hp := fun e => scrE_pos (x := z.1) (e := e)
    unfold scrV at g1 e3
    generalize scrE z.1 = o at e3 hit hp
    cases o with
    | none =>
      simp only [Option.getD_none] at e3
      (refine W_x (Aj s0 (Aj g1 e3)) ?_; (repeat' first | apply Cj.mk | exact Nl.nl) <;> intros)
      exact ⟨rfl, rfl, rfl, rfl⟩
    | some e =>
      have := hp e rfl
      simp only [Option.getD_some] at e3
      rw [hit _ rfl]
      (refine W_x (Aj s0 (Aj g1 e3)) ?_; (repeat' first | apply Cj.mk | exact Nl.nl) <;> intros)
      exact ⟨rfl, Kp.refl h⟩
  rw [fin, Option.none_or]
  have hp := fun a b c => spansW_pos (l := T.common) (n := 2) (a := a) (b := b) (c := c)
  generalize spansW T.common 2 = o at e2 hp
  match o, e2, hp with
  | some (a, b, c), e2, hp =>
    have := hp a b c rfl
    simp only [wrV] at e2
    (refine W_x (Aj s0 e2) ?_; (repeat' first | apply Cj.mk | exact Nl.nl) <;> intros)
    exact ⟨rfl, Kp.refl h⟩
  | none, e2, hp =>
  simp only [wrV] at e2
  rw [Option.none_or]
  (refine W_x (Aj s0 e2) ?_; (repeat' first | apply Cj.mk | exact Nl.nl) <;> intros)
  refine wp_scanF 6 T.marks (fun i x => if runeI x.1 = false then W 12 3 i else if x.2 < 1 ∨ 254 < x.2 then W 30 3 i else none) (by intro n; simp only [setF, push_cast, Nat.reduceEqDiff, ↓reduceIte, reduceCtorEq, Nat.reduceAdd, Nat.reduceMul, Nat.reduceLeDiff]; rfl) rfl (fun i hi hit => ?_) fun fin => ?_
  · have g0 := fun lc => rd_mapc (lc := lc) t.r2 hi (k := 0) (by decide)
    have g1 := fun lc => rd_mapc (lc := lc) t.r2 hi (k := 1) (by decide)
    generalize T.marks[i] = x at g0 g1 hit
    unfold markV at g0 g1
    have e3 := e1 x.1
    generalize runeI x.1 = b at e3 hit
    cases b
    · rw [hit _ (if_pos rfl)]
      (refine W_x (Aj s2 (Aj g0 e3)) ?_; (repeat' first | apply Cj.mk | exact Nl.nl) <;> intros)
      exact ⟨rfl, Kp.refl h⟩
    · simp only [Bool.true_eq_false, if_false] at hit ⊢
      (refine W_x (Aj s2 (Aj g0 (Aj g1 e3))) ?_; (repeat' first | apply Cj.mk | exact Nl.nl) <;> intros)
      · rw [hit _ (if_pos (by omega))]
        exact ⟨rfl, Kp.refl h⟩
      · rw [hit _ (if_pos (by omega))]
        exact ⟨rfl, Kp.refl h⟩
      · exact ⟨if_neg (by omega), rfl, rfl, rfl⟩
  rw [fin, Option.none_or]
  (refine W_x s2 ?_; (repeat' first | apply Cj.mk | exact Nl.nl) <;> intros)
  refine wp_scanF 7 T.pairs (fun i x => if runeI x.1 = false ∨ runeI x.2.1 = false ∨ runeI x.2.2 = false then W 12 4 i else none) (by intro n; simp only [setF, push_cast, Nat.reduceEqDiff, ↓reduceIte, reduceCtorEq, Nat.reduceAdd, Nat.reduceMul, Nat.reduceLeDiff]; rfl) rfl (fun i hi hit => ?_) fun fin => ?_
  · have g0 := fun lc => rd_mapc (lc := lc) t.r3 hi (k := 0) (by decide)
    have g1 := fun lc => rd_mapc (lc := lc) t.r3 hi (k := 1) (by decide)
    have g2 := fun lc => rd_mapc (lc := lc) t.r3 hi (k := 2) (by decide)
    generalize T.pairs[i] = x at g0 g1 g2 hit
    unfold tripV at g0 g1 g2
    have e3 := e1 x.1
    have e4 := e1 x.2.1
    have e5 := e1 x.2.2
    generalize runeI x.1 = b1 at e3 hit
    generalize runeI x.2.1 = b2 at e4 hit
    generalize runeI x.2.2 = b3 at e5 hit
    cases b1
    · rw [hit _ (if_pos (.inl rfl))]
      (refine W_x (Aj s3 (Aj g0 e3)) ?_; (repeat' first | apply Cj.mk | exact Nl.nl) <;> intros)
      exact ⟨rfl, Kp.refl h⟩
    cases b2
    · rw [hit _ (if_pos (.inr (.inl rfl)))]
      (refine W_x (Aj s3 (Aj g0 (Aj g1 (Aj e3 e4)))) ?_; (repeat' first | apply Cj.mk | exact Nl.nl) <;> intros)
      exact ⟨rfl, Kp.refl h⟩
    cases b3
    · rw [hit _ (if_pos (.inr (.inr rfl)))]
      (refine W_x (Aj s3 (Aj g0 (Aj g1 (Aj g2 (Aj e3 (Aj e4 e5)))))) ?_; (repeat' first | apply Cj.mk | exact Nl.nl) <;> intros)
      exact ⟨rfl, Kp.refl h⟩
    · (refine W_x (Aj s3 (Aj g0 (Aj g1 (Aj g2 (Aj e3 (Aj e4 e5)))))) ?_; (repeat' first | apply Cj.mk | exact Nl.nl) <;> intros)
      exact ⟨if_neg (by simp), rfl, rfl, rfl⟩
  rw [fin, Option.none_or]
  obtain ⟨v, h1, e3, rfl, k1⟩ := maps6_spec t.r4 f.n4 f.v4 5
  have hp := fun a b c => mapsW_pos (l := T.folds) (n := 5) (a := a) (b := b) (c := c)
  generalize mapsW T.folds 5 = o at e3 hp
  match o, e3, hp with
  | some (a, b, c), e3, hp =>
    have := hp a b c rfl
    simp only [wrV] at e3
    (refine W_x (Aj s3 e3) ?_; (repeat' first | apply Cj.mk | exact Nl.nl) <;> intros)
    exact ⟨rfl, k1⟩
  | none, e3, hp =>
  simp only [wrV] at e3
  rw [Option.none_or]
  obtain ⟨v, h2, e4, rfl, k2⟩ := maps6_spec (t.r5.kp k1) f.n5 f.v5 6
  have k2 := k1.trans k2
  have e5 := spans6_eq (t.r6.kp k2) f.n6 7
  have e6 := spans6_eq (t.r7.kp k2) f.n7 8
  have hp := fun a b c => mapsW_pos (l := T.looks) (n := 6) (a := a) (b := b) (c := c)
  generalize mapsW T.looks 6 = o at e4 hp
  match o, e4, hp with
  | some (a, b, c), e4, hp =>
    have := hp a b c rfl
    simp only [wrV] at e4
    (refine W_x (Aj s3 (Aj e3 e4)) ?_; (repeat' first | apply Cj.mk | exact Nl.nl) <;> intros)
    exact ⟨rfl, k2⟩
  | none, e4, hp =>
  simp only [wrV] at e4
  rw [Option.none_or]
  have hp := fun a b c => spansW_pos (l := T.drops) (n := 7) (a := a) (b := b) (c := c)
  generalize spansW T.drops 7 = o at e5 hp
  match o, e5, hp with
  | some (a, b, c), e5, hp =>
    have := hp a b c rfl
    simp only [wrV] at e5
    (refine W_x (Aj s3 (Aj e3 (Aj e4 e5))) ?_; (repeat' first | apply Cj.mk | exact Nl.nl) <;> intros)
    exact ⟨rfl, k2⟩
  | none, e5, hp =>
  simp only [wrV] at e5
  rw [Option.none_or]
  generalize spansW T.allowed 8 = o at e6
  match o, e6 with
  | some (a, b, c), e6 =>
    simp only [wrV] at e6
    (refine W_x (Aj s3 (Aj e3 (Aj e4 (Aj e5 e6)))) ?_; (repeat' first | apply Cj.mk | exact Nl.nl) <;> intros)
    exact ⟨rfl, k2⟩
  | none, e6 =>
    simp only [wrV] at e6
    (refine W_x (Aj s3 (Aj e3 (Aj e4 (Aj e5 e6)))) ?_; (repeat' first | apply Cj.mk | exact Nl.nl) <;> intros)
    exact ⟨rfl, k2⟩
end Go.Proofs.YtakmapoompffgaaGreatDoor.AM
namespace Go.Proofs.YtakmapoompffgaaGreatDoor.AM
open Go
theorem scanL_no {α : Type} {l : List α} {P : α → Prop} [DecidablePred P] (h : (scanL l fun _ x => if P x then some () else none) = none) : ¬ ∃ y ∈ l, P y := by
  rintro ⟨y, hy, hp⟩
  obtain ⟨i, hi, rfl⟩ := List.mem_iff_getElem.1 hy
  have := scanL_none h i hi
  rw [if_pos hp] at this
  cases this
set_option maxHeartbeats 1000000 in
theorem twice6_spec {S : TS} {T : Tab} {h : AH} (t : TabAt h S T) : callO PX 68 [.agg S.vs.toArray] h = some (wrV (twiceW T), h) := by
  have f := t.fits
  have n0 := f.n0
  rw [← t.zs, List.length_map] at n0
  have s0 := t.r0.len
  have s2 := t.r2.len; have n2 := f.n2
  have s3 := t.r3.len; have n3 := f.n3
  have s4 := t.r4.len; have n4 := f.n4
  have s5 := t.r5.len; have n5 := f.n5
  have e4 := from6_eq t.r4 n4
  have e5 := from6_eq t.r5 n5
  apply WpC.eqn
  refine wpc_fn (px_ext rfl) (px_fn fn_guiseref6_twice) rfl ?_
  unfold LF_guiseref6_twice
  simp only [argFr]
  unfold twiceW TS.vs
  rw [← t.zs, scanL_map]
  (refine W_x trivial ?_; (repeat' first | apply Cj.mk | exact Nl.nl) <;> intros)
  refine wp_scanF 3 S.z (fun i z => if ∃ y ∈ (S.z.map (·.1)).take i, z.1.1 = y.1 then W 14 1 i else none) (by intro n; simp only [setF, push_cast, Nat.reduceEqDiff, ↓reduceIte, reduceCtorEq, Nat.reduceAdd, Nat.reduceMul, Nat.reduceLeDiff]; rfl) rfl (fun i hi hit => ?_) fun fin => ?_
  · have g0 := fun lc => rd_mapc (lc := lc) t.r0 hi (k := 0) (by decide)
    have gj := fun j (hj : j < S.z.length) lc => rd_mapc (lc := lc) t.r0 hj (k := 0) (by decide)
    obtain ⟨L, hL⟩ : ∃ L, L = (S.z.map (·.1)).take i := ⟨_, rfl⟩
    have hLl : L.length = i := by rw [hL, List.length_take, List.length_map]; omega
    have hLj : ∀ j (hj : j < L.length), L[j] = (S.z[j]'(by omega)).1 := fun j hj => by simp only [hL, List.getElem_take, List.getElem_map]
    rw [← hL] at hit ⊢
    generalize S.z[i] = z at g0 hit
    unfold scrV at g0 gj
    (refine W_x s0 ?_; (repeat' first | apply Cj.mk | exact Nl.nl) <;> intros)
    refine wp_scanF 4 L (fun _ y => if z.1.1 = y.1 then some () else none) (by intro n; simp only [setF, push_cast, Nat.reduceEqDiff, ↓reduceIte, reduceCtorEq, Nat.reduceAdd, Nat.reduceMul, Nat.reduceLeDiff]; rfl) rfl (fun j hj hit2 => ?_) fun fin2 => ?_
    · have g1 := gj j (by omega)
      have hy := List.getElem_mem hj
      rw [← hLj j hj] at g1
      generalize L[j] = y at hit2 g1 hy
      (refine W_x (Aj s0 (Aj g0 g1)) ?_; (repeat' first | apply Cj.mk | exact Nl.nl) <;> intros)
      · rename_i he
        rw [hit _ (if_pos ⟨y, hy, he⟩)]
        exact ⟨rfl, rfl⟩
      · rename_i he
        exact ⟨if_neg he, rfl, rfl, rfl⟩
    · have := scanL_no fin2
      (refine W_x (Aj s0 hLl) ?_; (repeat' first | apply Cj.mk | exact Nl.nl) <;> intros)
      exact ⟨if_neg this, rfl, rfl, rfl⟩
  rw [fin, Option.none_or]
  (refine W_x s0 ?_; (repeat' first | apply Cj.mk | exact Nl.nl) <;> intros)
  refine wp_scanF 5 T.marks (fun i x => if ∃ y ∈ T.marks.take i, x.1 = y.1 then W 14 3 i else none) (by intro n; simp only [setF, push_cast, Nat.reduceEqDiff, ↓reduceIte, reduceCtorEq, Nat.reduceAdd, Nat.reduceMul, Nat.reduceLeDiff]; rfl) rfl (fun i hi hit => ?_) fun fin => ?_
  · have g0 := fun lc => rd_mapc (lc := lc) t.r2 hi (k := 0) (by decide)
    have gj := fun j (hj : j < T.marks.length) lc => rd_mapc (lc := lc) t.r2 hj (k := 0) (by decide)
    obtain ⟨L, hL⟩ : ∃ L, L = T.marks.take i := ⟨_, rfl⟩
    have hLl : L.length = i := by rw [hL, List.length_take]; omega
    have hLj : ∀ j (hj : j < L.length), L[j] = (T.marks[j]'(by omega)) := fun j hj => by simp only [hL, List.getElem_take]
    rw [← hL] at hit ⊢
    generalize T.marks[i] = z at g0 hit
    unfold markV at g0 gj
    (refine W_x s2 ?_; (repeat' first | apply Cj.mk | exact Nl.nl) <;> intros)
    refine wp_scanF 6 L (fun _ y => if z.1 = y.1 then some () else none) (by intro n; simp only [setF, push_cast, Nat.reduceEqDiff, ↓reduceIte, reduceCtorEq, Nat.reduceAdd, Nat.reduceMul, Nat.reduceLeDiff]; rfl) rfl (fun j hj hit2 => ?_) fun fin2 => ?_
    · have g1 := gj j (by omega)
      have hy := List.getElem_mem hj
      rw [← hLj j hj] at g1
      generalize L[j] = y at hit2 g1 hy
      (refine W_x (Aj s2 (Aj g0 g1)) ?_; (repeat' first | apply Cj.mk | exact Nl.nl) <;> intros)
      · rename_i he
        rw [hit _ (if_pos ⟨y, hy, he⟩)]
        exact ⟨rfl, rfl⟩
      · rename_i he
        exact ⟨if_neg he, rfl, rfl, rfl⟩
    · have := scanL_no fin2
      (refine W_x (Aj s2 hLl) ?_; (repeat' first | apply Cj.mk | exact Nl.nl) <;> intros)
      exact ⟨if_neg this, rfl, rfl, rfl⟩
  rw [fin, Option.none_or]
  (refine W_x s2 ?_; (repeat' first | apply Cj.mk | exact Nl.nl) <;> intros)
  refine wp_scanF 7 T.pairs (fun i x => if ∃ y ∈ T.pairs.take i, x.1 = y.1 ∨ (x.2.1 = y.2.1 ∧ x.2.2 = y.2.2) then W 14 4 i else none) (by intro n; simp only [setF, push_cast, Nat.reduceEqDiff, ↓reduceIte, reduceCtorEq, Nat.reduceAdd, Nat.reduceMul, Nat.reduceLeDiff]; rfl) rfl (fun i hi hit => ?_) fun fin => ?_
  · have g0 := fun lc => rd_map (lc := lc) t.r3 hi
    have gj := fun j (hj : j < T.pairs.length) lc => rd_map (lc := lc) t.r3 hj
    obtain ⟨L, hL⟩ : ∃ L, L = T.pairs.take i := ⟨_, rfl⟩
    have hLl : L.length = i := by rw [hL, List.length_take]; omega
    have hLj : ∀ j (hj : j < L.length), L[j] = (T.pairs[j]'(by omega)) := fun j hj => by simp only [hL, List.getElem_take]
    rw [← hL] at hit ⊢
    generalize T.pairs[i] = z at g0 hit
    unfold tripV at g0 gj
    (refine W_x s3 ?_; (repeat' first | apply Cj.mk | exact Nl.nl) <;> intros)
    refine wp_scanF 8 L (fun _ y => if z.1 = y.1 ∨ (z.2.1 = y.2.1 ∧ z.2.2 = y.2.2) then some () else none) (by intro n; simp only [setF, push_cast, Nat.reduceEqDiff, ↓reduceIte, reduceCtorEq, Nat.reduceAdd, Nat.reduceMul, Nat.reduceLeDiff]; rfl) rfl (fun j hj hit2 => ?_) fun fin2 => ?_
    · have g1 := gj j (by omega)
      have hy := List.getElem_mem hj
      rw [← hLj j hj] at g1
      generalize L[j] = y at hit2 g1 hy
      (refine W_x (Aj s3 (Aj g0 g1)) ?_; (repeat' first | apply Cj.mk | exact Nl.nl) <;> intros)
      · rw [hit _ (if_pos ⟨y, hy, by omega⟩)]
        exact ⟨rfl, rfl⟩
      · rw [hit _ (if_pos ⟨y, hy, by omega⟩)]
        exact ⟨rfl, rfl⟩
      all_goals exact ⟨if_neg (by omega), rfl, rfl, rfl⟩
    · have := scanL_no fin2
      (refine W_x (Aj s3 hLl) ?_; (repeat' first | apply Cj.mk | exact Nl.nl) <;> intros)
      exact ⟨if_neg this, rfl, rfl, rfl⟩
  rw [fin, Option.none_or]
  (refine W_x s3 ?_; (repeat' first | apply Cj.mk | exact Nl.nl) <;> intros)
  refine wp_scanF 11 T.folds (fun i x => if ixI (fromO T.folds x.1) < i then W 14 5 i else none) (by intro n; simp only [setF, push_cast, Nat.reduceEqDiff, ↓reduceIte, reduceCtorEq, Nat.reduceAdd, Nat.reduceMul, Nat.reduceLeDiff]; rfl) rfl (fun i hi hit => ?_) fun fin => ?_
  · have g0 := fun lc => rd_mapc (lc := lc) t.r4 hi (k := 0) (by decide)
    generalize T.folds[i] = x at g0 hit
    unfold mapV at g0
    (refine W_x (Aj s4 (Aj g0 e4)) ?_; (repeat' first | apply Cj.mk | exact Nl.nl) <;> intros)
    · rw [hit _ (if_pos (by omega))]
      exact ⟨rfl, rfl⟩
    · exact ⟨if_neg (by omega), rfl, rfl, rfl⟩
  rw [fin, Option.none_or]
  (refine W_x s4 ?_; (repeat' first | apply Cj.mk | exact Nl.nl) <;> intros)
  refine wp_scanF 12 T.looks (fun i x => if ixI (fromO T.looks x.1) < i then W 14 6 i else none) (by intro n; simp only [setF, push_cast, Nat.reduceEqDiff, ↓reduceIte, reduceCtorEq, Nat.reduceAdd, Nat.reduceMul, Nat.reduceLeDiff]; rfl) rfl (fun i hi hit => ?_) fun fin => ?_
  · have g0 := fun lc => rd_mapc (lc := lc) t.r5 hi (k := 0) (by decide)
    generalize T.looks[i] = x at g0 hit
    unfold mapV at g0
    (refine W_x (Aj s5 (Aj g0 e5)) ?_; (repeat' first | apply Cj.mk | exact Nl.nl) <;> intros)
    · rw [hit _ (if_pos (by omega))]
      exact ⟨rfl, rfl⟩
    · exact ⟨if_neg (by omega), rfl, rfl, rfl⟩
  rw [fin]
  (refine W_x s5 ?_; (repeat' first | apply Cj.mk | exact Nl.nl) <;> intros)
  exact ⟨rfl, rfl⟩
theorem wholeO_lt {T : Tab} {r : Int} {j : Nat} (h : wholeO T r = some j) : ∃ hj : j < T.pairs.length, (T.pairs[j]).1 = r := by
  obtain ⟨i, hi, hw⟩ := scanL_some h
  split at hw
  · rename_i he
    injection hw with hw
    subst hw
    exact ⟨hi, he⟩
  · cases hw
theorem chain6_eq {S : TS} {T : Tab} {h : AH} (t : TabAt h S T) (i : Nat) (hi : i < T.pairs.length) : callO PX 120 [.agg S.vs.toArray, .int .i64 i] h = some (.int .i64 (chainN T T.pairs.length 1 (T.pairs[i]).2.1), h) := by
  have s3 := t.r3.len; have n3 := t.fits.n3
  have e1 := whole6_eq t
  apply WpC.eqn
  refine wpc_fn (px_ext rfl) (px_fn fn_guiseref6_chain) rfl ?_
  unfold LF_guiseref6_chain
  simp only [argFr]
  unfold TS.vs
  unfold TS.vs at e1
  (refine W_x trivial ?_; (repeat' first | apply Cj.mk | exact Nl.nl) <;> intros)
  refine wp_loop (fun w fr lc h1 => ∃ (n j : Nat) (hj : j < T.pairs.length), w = T.pairs.length + 1 - n ∧ 1 ≤ n ∧ n ≤ T.pairs.length + 1 ∧ chainN T T.pairs.length 1 (T.pairs[i]).2.1 = chainN T (T.pairs.length + 1 - n) n (T.pairs[j]).2.1 ∧ h1 = h ∧
      fr = [(1, .int .i64 j), (2, .pointer (some ⟨4, 0, some 1⟩)), (5, .int .i64 n)] ∧ lc = [(4, .cells false [S.s0.val 2, S.s1.val 2, S.s2.val 2, S.s3.val 3, S.s4.val 2, S.s5.val 2, S.s6.val 2, S.s7.val 2])]) T.pairs.length
    ⟨1, i, hi, by omega, Nat.le_refl _, by omega, by rw [Nat.add_sub_cancel], rfl, rfl, rfl⟩ ?_
  rintro w fr lc h1 ⟨n, j, hj, rfl, hn1, hn2, he, rfl, rfl, rfl⟩
  have g0 := fun lc => rd_mapc (lc := lc) t.r3 hj (k := 1) (by decide)
  rcases Nat.lt_or_ge T.pairs.length n with hn | hn
  · rw [show T.pairs.length + 1 - n = 0 by omega] at he
    (refine W_x s3 ?_; (repeat' first | apply Cj.mk | exact Nl.nl) <;> intros)
    exact ⟨by rw [he]; rfl, rfl⟩
  · obtain ⟨k, hk⟩ : ∃ k, T.pairs.length + 1 - n = k + 1 := ⟨T.pairs.length - n, by omega⟩
    rw [hk] at he
    simp only [chainN] at he
    generalize T.pairs[j] = x at g0 he
    unfold tripV at g0
    have e2 := e1 x.2.1
    have hlt := fun k => wholeO_lt (T := T) (r := x.2.1) (j := k)
    generalize wholeO T x.2.1 = o at e2 he hlt
    cases o with
    | none =>
      simp only [ixI] at e2
      (refine W_x (Aj s3 (Aj g0 e2)) ?_; (repeat' first | apply Cj.mk | exact Nl.nl) <;> intros)
      exact ⟨by rw [he], rfl⟩
    | some m =>
      obtain ⟨hm, _⟩ := hlt m rfl
      simp only [ixI, List.getD_eq_getElem?_getD, List.getElem?_eq_getElem hm, Option.getD_some] at e2 he
      (refine W_x (Aj s3 (Aj g0 e2)) ?_; (repeat' first | apply Cj.mk | exact Nl.nl) <;> intros)
      exact ⟨_, by omega, n + 1, m, hm, rfl, by omega, by omega, by rw [he, show T.pairs.length + 1 - (n + 1) = k by omega], rfl, by simp only [Int.natCast_add]; rfl, rfl⟩
theorem pairs6_eq {S : TS} {T : Tab} {h : AH} (t : TabAt h S T) : callO PX 69 [.agg S.vs.toArray] h = some (wrV ((pairsW T).or (chainsW T)), h) := by
  have s3 := t.r3.len; have n3 := t.fits.n3
  have e1 := mark6_eq t
  have e2 := chain6_eq t
  apply WpC.eqn
  refine wpc_fn (px_ext rfl) (px_fn fn_guiseref6_pairs) rfl ?_
  unfold LF_guiseref6_pairs
  simp only [argFr]
  unfold pairsW chainsW TS.vs
  unfold TS.vs at e1 e2
  (refine W_x trivial ?_; (repeat' first | apply Cj.mk | exact Nl.nl) <;> intros)
  refine wp_scanF 3 T.pairs (fun i x => if isMark T x.1 = true ∨ isMark T x.2.1 = true ∨ isMark T x.2.2 = false then W 32 4 i else none) (by intro n; simp only [setF, push_cast, Nat.reduceEqDiff, ↓reduceIte, reduceCtorEq, Nat.reduceAdd, Nat.reduceMul, Nat.reduceLeDiff]; rfl) rfl (fun i hi hit => ?_) fun fin => ?_
  · have g0 := fun lc => rd_mapc (lc := lc) t.r3 hi (k := 0) (by decide)
    have g1 := fun lc => rd_mapc (lc := lc) t.r3 hi (k := 1) (by decide)
    have g2 := fun lc => rd_mapc (lc := lc) t.r3 hi (k := 2) (by decide)
    generalize T.pairs[i] = x at g0 g1 g2 hit
    unfold tripV at g0 g1 g2
    have e3 := e1 x.1
    have e4 := e1 x.2.1
    have e5 := e1 x.2.2
    generalize isMark T x.1 = b1 at e3 hit
    generalize isMark T x.2.1 = b2 at e4 hit
    generalize isMark T x.2.2 = b3 at e5 hit
    cases b1
    · cases b2
      · cases b3
        · rw [hit _ (if_pos (.inr (.inr rfl)))]
          (refine W_x (Aj s3 (Aj g0 (Aj g1 (Aj g2 (Aj e3 (Aj e4 e5)))))) ?_; (repeat' first | apply Cj.mk | exact Nl.nl) <;> intros)
          exact ⟨rfl, rfl⟩
        · (refine W_x (Aj s3 (Aj g0 (Aj g1 (Aj g2 (Aj e3 (Aj e4 e5)))))) ?_; (repeat' first | apply Cj.mk | exact Nl.nl) <;> intros)
          exact ⟨if_neg (by simp), rfl, rfl, rfl⟩
      · rw [hit _ (if_pos (.inr (.inl rfl)))]
        (refine W_x (Aj s3 (Aj g0 (Aj g1 (Aj e3 e4)))) ?_; (repeat' first | apply Cj.mk | exact Nl.nl) <;> intros)
        exact ⟨rfl, rfl⟩
    · rw [hit _ (if_pos (.inl rfl))]
      (refine W_x (Aj s3 (Aj g0 e3)) ?_; (repeat' first | apply Cj.mk | exact Nl.nl) <;> intros)
      exact ⟨rfl, rfl⟩
  rw [fin, Option.none_or]
  (refine W_x s3 ?_; (repeat' first | apply Cj.mk | exact Nl.nl) <;> intros)
  refine wp_scanF 4 T.pairs (fun i x => if chainN T T.pairs.length 1 x.2.1 < 0 then W 33 4 i else if 4 < chainN T T.pairs.length 1 x.2.1 then W 34 4 i else none) (by intro n; simp only [setF, push_cast, Nat.reduceEqDiff, ↓reduceIte, reduceCtorEq, Nat.reduceAdd, Nat.reduceMul, Nat.reduceLeDiff]; rfl) rfl (fun i hi hit => ?_) fun fin => ?_
  · have e3 := e2 i hi
    generalize T.pairs[i] = x at hit e3
    (refine W_x (Aj s3 e3) ?_; (repeat' first | apply Cj.mk | exact Nl.nl) <;> intros)
    · rw [hit _ (if_pos (by omega))]
      exact ⟨rfl, rfl⟩
    · rw [if_neg (by omega), if_pos (by omega)] at hit
      rw [hit _ rfl]
      exact ⟨rfl, rfl⟩
    · exact ⟨by rw [if_neg (by omega), if_neg (by omega)], rfl, rfl, rfl⟩
  rw [fin]
  (refine W_x s3 ?_; (repeat' first | apply Cj.mk | exact Nl.nl) <;> intros)
  exact ⟨rfl, rfl⟩
end Go.Proofs.YtakmapoompffgaaGreatDoor.AM
namespace Go.Proofs.YtakmapoompffgaaGreatDoor.AM
open Go
theorem drops6_eq {S : TS} {T : Tab} {h : AH} (t : TabAt h S T) : callO PX 70 [.agg S.vs.toArray] h = some (wrV (dropsW T), h) := by
  have f := t.fits
  have s2 := t.r2.len; have n2 := f.n2
  have s3 := t.r3.len; have n3 := f.n3
  have s4 := t.r4.len; have n4 := f.n4
  have s5 := t.r5.len; have n5 := f.n5
  have e0 := fun r => of6_eq t.r6 f.n6 (r := r)
  apply WpC.eqn
  refine wpc_fn (px_ext rfl) (px_fn fn_guiseref6_drops) rfl ?_
  unfold LF_guiseref6_drops
  simp only [argFr]
  unfold dropsW TS.vs
  (refine W_x trivial ?_; (repeat' first | apply Cj.mk | exact Nl.nl) <;> intros)
  refine wp_scanF 3 T.marks (fun i x => if ofI x.1 T.drops = true then W 37 3 i else none) (by intro n; simp only [setF, push_cast, Nat.reduceEqDiff, ↓reduceIte, reduceCtorEq, Nat.reduceAdd, Nat.reduceMul, Nat.reduceLeDiff]; rfl) rfl (fun i hi hit => ?_) fun fin => ?_
  · have g0 := fun lc => rd_mapc (lc := lc) t.r2 hi (k := 0) (by decide)
    generalize T.marks[i] = x at g0 hit
    unfold markV at g0
    have e1 := e0 x.1
    generalize ofI x.1 T.drops = b at e1 hit
    cases b
    · (refine W_x (Aj s2 (Aj g0 e1)) ?_; (repeat' first | apply Cj.mk | exact Nl.nl) <;> intros)
      exact ⟨rfl, rfl, rfl, rfl⟩
    · rw [hit _ (if_pos rfl)]
      (refine W_x (Aj s2 (Aj g0 e1)) ?_; (repeat' first | apply Cj.mk | exact Nl.nl) <;> intros)
      exact ⟨rfl, rfl⟩
  rw [fin, Option.none_or]
  (refine W_x s2 ?_; (repeat' first | apply Cj.mk | exact Nl.nl) <;> intros)
  refine wp_scanF 4 T.pairs (fun i x => if ofI x.1 T.drops = true ∨ ofI x.2.1 T.drops = true ∨ ofI x.2.2 T.drops = true then W 37 4 i else none) (by intro n; simp only [setF, push_cast, Nat.reduceEqDiff, ↓reduceIte, reduceCtorEq, Nat.reduceAdd, Nat.reduceMul, Nat.reduceLeDiff]; rfl) rfl (fun i hi hit => ?_) fun fin => ?_
  · have g0 := fun lc => rd_mapc (lc := lc) t.r3 hi (k := 0) (by decide)
    have g1 := fun lc => rd_mapc (lc := lc) t.r3 hi (k := 1) (by decide)
    have g2 := fun lc => rd_mapc (lc := lc) t.r3 hi (k := 2) (by decide)
    generalize T.pairs[i] = x at g0 g1 g2 hit
    unfold tripV at g0 g1 g2
    have e1 := e0 x.1
    have e2 := e0 x.2.1
    have e3 := e0 x.2.2
    generalize ofI x.1 T.drops = b1 at e1 hit
    generalize ofI x.2.1 T.drops = b2 at e2 hit
    generalize ofI x.2.2 T.drops = b3 at e3 hit
    cases b1
    · cases b2
      · cases b3
        · (refine W_x (Aj s3 (Aj g0 (Aj g1 (Aj g2 (Aj e1 (Aj e2 e3)))))) ?_; (repeat' first | apply Cj.mk | exact Nl.nl) <;> intros)
          exact ⟨if_neg (by simp), rfl, rfl, rfl⟩
        · rw [hit _ (if_pos (.inr (.inr rfl)))]
          (refine W_x (Aj s3 (Aj g0 (Aj g1 (Aj g2 (Aj e1 (Aj e2 e3)))))) ?_; (repeat' first | apply Cj.mk | exact Nl.nl) <;> intros)
          exact ⟨rfl, rfl⟩
      · rw [hit _ (if_pos (.inr (.inl rfl)))]
        (refine W_x (Aj s3 (Aj g0 (Aj g1 (Aj e1 e2)))) ?_; (repeat' first | apply Cj.mk | exact Nl.nl) <;> intros)
        exact ⟨rfl, rfl⟩
    · rw [hit _ (if_pos (.inl rfl))]
      (refine W_x (Aj s3 (Aj g0 e1)) ?_; (repeat' first | apply Cj.mk | exact Nl.nl) <;> intros)
      exact ⟨rfl, rfl⟩
  rw [fin, Option.none_or]
  (refine W_x s3 ?_; (repeat' first | apply Cj.mk | exact Nl.nl) <;> intros)
  refine wp_scanF 5 T.folds (fun i x => if ofI x.1 T.drops = true then W 37 5 i else none) (by intro n; simp only [setF, push_cast, Nat.reduceEqDiff, ↓reduceIte, reduceCtorEq, Nat.reduceAdd, Nat.reduceMul, Nat.reduceLeDiff]; rfl) rfl (fun i hi hit => ?_) fun fin => ?_
  · have g0 := fun lc => rd_mapc (lc := lc) t.r4 hi (k := 0) (by decide)
    generalize T.folds[i] = x at g0 hit
    unfold mapV at g0
    have e1 := e0 x.1
    generalize ofI x.1 T.drops = b at e1 hit
    cases b
    · (refine W_x (Aj s4 (Aj g0 e1)) ?_; (repeat' first | apply Cj.mk | exact Nl.nl) <;> intros)
      exact ⟨rfl, rfl, rfl, rfl⟩
    · rw [hit _ (if_pos rfl)]
      (refine W_x (Aj s4 (Aj g0 e1)) ?_; (repeat' first | apply Cj.mk | exact Nl.nl) <;> intros)
      exact ⟨rfl, rfl⟩
  rw [fin, Option.none_or]
  (refine W_x s4 ?_; (repeat' first | apply Cj.mk | exact Nl.nl) <;> intros)
  refine wp_scanF 6 T.looks (fun i x => if ofI x.1 T.drops = true then W 37 6 i else none) (by intro n; simp only [setF, push_cast, Nat.reduceEqDiff, ↓reduceIte, reduceCtorEq, Nat.reduceAdd, Nat.reduceMul, Nat.reduceLeDiff]; rfl) rfl (fun i hi hit => ?_) fun fin => ?_
  · have g0 := fun lc => rd_mapc (lc := lc) t.r5 hi (k := 0) (by decide)
    generalize T.looks[i] = x at g0 hit
    unfold mapV at g0
    have e1 := e0 x.1
    generalize ofI x.1 T.drops = b at e1 hit
    cases b
    · (refine W_x (Aj s5 (Aj g0 e1)) ?_; (repeat' first | apply Cj.mk | exact Nl.nl) <;> intros)
      exact ⟨rfl, rfl, rfl, rfl⟩
    · rw [hit _ (if_pos rfl)]
      (refine W_x (Aj s5 (Aj g0 e1)) ?_; (repeat' first | apply Cj.mk | exact Nl.nl) <;> intros)
      exact ⟨rfl, rfl⟩
  rw [fin]
  (refine W_x s5 ?_; (repeat' first | apply Cj.mk | exact Nl.nl) <;> intros)
  exact ⟨rfl, rfl⟩
theorem ixI_pos {o : Option Nat} : (0 ≤ ixI o) ↔ o.isSome = true := by cases o <;> simp [ixI]
set_option maxHeartbeats 1000000 in
theorem tos6_spec {S : TS} {T : Tab} {h : AH} (t : TabAt h S T) : WpC PX 71 [.agg S.vs.toArray] h fun v h' => v = wrV ((fromsW T).or (tosW T)) ∧ Kp h h' := by
  have f := t.fits
  have s4 := t.r4.len; have n4 := f.n4
  have s5 := t.r5.len; have n5 := f.n5
  have e1 := mark6_eq t
  have e2 := whole6_eq t
  have i2 := fun r => ixI_pos (o := wholeO T r)
  have ep := fun h' (k : Kp h h') => plain6_eq (t.kp k)
  have ef := fun h' (k : Kp h h') => from6_eq (t.kp k).r5 n5
  refine wpc_fn (px_ext rfl) (px_fn fn_guiseref6_tos) rfl ?_
  unfold LF_guiseref6_tos
  simp only [argFr]
  unfold fromsW tosW TS.vs
  unfold TS.vs at e1 e2 ep
  rw [Option.or_assoc]
  (refine W_x trivial ?_; (repeat' first | apply Cj.mk | exact Nl.nl) <;> intros)
  refine wp_scanF 3 T.folds (fun i x => if isMark T x.1 = true ∨ (wholeO T x.1).isSome = true then W 31 5 i else none) (by intro n; simp only [setF, push_cast, Nat.reduceEqDiff, ↓reduceIte, reduceCtorEq, Nat.reduceAdd, Nat.reduceMul, Nat.reduceLeDiff]; rfl) rfl (fun i hi hit => ?_) fun fin => ?_
  · have g0 := fun lc => rd_mapc (lc := lc) t.r4 hi (k := 0) (by decide)
    generalize T.folds[i] = x at g0 hit
    unfold mapV at g0
    have e3 := e1 x.1
    have i3 := i2 x.1
    generalize isMark T x.1 = b at e3 hit
    cases b
    · (refine W_x (Aj s4 (Aj g0 (Aj e3 e2))) ?_; (repeat' first | apply Cj.mk | exact Nl.nl) <;> intros)
      · rw [hit _ (if_pos (.inr (i3.1 (by omega))))]
        exact ⟨rfl, Kp.refl h⟩
      · rename_i hn
        exact ⟨if_neg (fun q => q.elim (by simp) fun q => hn (i3.2 q)), rfl, rfl, rfl⟩
    · rw [hit _ (if_pos (.inl rfl))]
      (refine W_x (Aj s4 (Aj g0 e3)) ?_; (repeat' first | apply Cj.mk | exact Nl.nl) <;> intros)
      exact ⟨rfl, Kp.refl h⟩
  rw [fin, Option.none_or]
  (refine W_x s4 ?_; (repeat' first | apply Cj.mk | exact Nl.nl) <;> intros)
  refine wp_scanF 4 T.looks (fun i x => if isMark T x.1 = true ∨ (wholeO T x.1).isSome = true then W 31 6 i else none) (by intro n; simp only [setF, push_cast, Nat.reduceEqDiff, ↓reduceIte, reduceCtorEq, Nat.reduceAdd, Nat.reduceMul, Nat.reduceLeDiff]; rfl) rfl (fun i hi hit => ?_) fun fin => ?_
  · have g0 := fun lc => rd_mapc (lc := lc) t.r5 hi (k := 0) (by decide)
    generalize T.looks[i] = x at g0 hit
    unfold mapV at g0
    have e3 := e1 x.1
    have i3 := i2 x.1
    generalize isMark T x.1 = b at e3 hit
    cases b
    · (refine W_x (Aj s5 (Aj g0 (Aj e3 e2))) ?_; (repeat' first | apply Cj.mk | exact Nl.nl) <;> intros)
      · rw [hit _ (if_pos (.inr (i3.1 (by omega))))]
        exact ⟨rfl, Kp.refl h⟩
      · rename_i hn
        exact ⟨if_neg (fun q => q.elim (by simp) fun q => hn (i3.2 q)), rfl, rfl, rfl⟩
    · rw [hit _ (if_pos (.inl rfl))]
      (refine W_x (Aj s5 (Aj g0 e3)) ?_; (repeat' first | apply Cj.mk | exact Nl.nl) <;> intros)
      exact ⟨rfl, Kp.refl h⟩
  rw [fin, Option.none_or]
  (refine W_x s5 ?_; (repeat' first | apply Cj.mk | exact Nl.nl) <;> intros)
  refine wp_scanH (Kp h) 5 T.folds (fun i x => if ∃ c ∈ (rnO x.2).getD [], plainI T (c : Nat) = false then W 35 5 i else none) (by intro n; simp only [setF, push_cast, Nat.reduceEqDiff, ↓reduceIte, reduceCtorEq, Nat.reduceAdd, Nat.reduceMul, Nat.reduceLeDiff]; rfl) rfl (Kp.refl h) (fun i hi h1 kp hit => ?_) fun h1 kp fin => ?_
  · have g1 := fun lc => rd_mapc (lc := lc) (t.r4.kp kp) hi (k := 1) (by decide)
    have hx := f.v4 _ (List.getElem_mem hi)
    generalize T.folds[i] = x at g1 hit hx
    unfold mapV at g1
    obtain ⟨v, h2, e3, sr, rfl, fo⟩ := runes6_spec x.2 h1 hx.2
    have hlr : ((rnO x.2).getD []).length ≤ x.2.size := by
      unfold rnO
      split
      · exact (List.length_map ..).symm ▸ spots_len _
      · exact Nat.zero_le _
    have k2 := kp.trans fo.kp
    have ep := ep h2 k2
    generalize (rnO x.2).getD [] = R at fo hlr hit ⊢
    have hs := fo.reads.len
    (refine W_x (Aj s4 (Aj g1 e3)) ?_; (repeat' first | apply Cj.mk | exact Nl.nl) <;> intros)
    refine wp_scanF 8 R (fun _ c => if plainI T (c : Nat) = false then some () else none) (by intro n; simp only [setF, push_cast, Nat.reduceEqDiff, ↓reduceIte, reduceCtorEq, Nat.reduceAdd, Nat.reduceMul, Nat.reduceLeDiff]; rfl) rfl (fun j hj hit2 => ?_) fun fin2 => ?_
    · have g2 := fun lc => rd_map (lc := lc) fo.reads hj
      have hm := List.getElem_mem hj
      generalize R[j] = c at g2 hit2 hm
      unfold rnV at g2
      have ep := ep (c : Nat)
      cases hb : plainI T (c : Nat)
      · rw [hb] at ep
        rw [hit _ (if_pos ⟨c, hm, hb⟩)]
        (refine W_x (Aj hs (Aj g2 ep)) ?_; (repeat' first | apply Cj.mk | exact Nl.nl) <;> intros)
        exact ⟨rfl, k2⟩
      · rw [hb] at ep
        (refine W_x (Aj hs (Aj g2 ep)) ?_; (repeat' first | apply Cj.mk | exact Nl.nl) <;> intros)
        exact ⟨rfl, rfl, rfl, rfl⟩
    · have := scanL_no fin2
      (refine W_x hs ?_; (repeat' first | apply Cj.mk | exact Nl.nl) <;> intros)
      exact ⟨if_neg this, rfl, rfl, k2⟩
  rw [fin, Option.none_or]
  (refine W_x s4 ?_; (repeat' first | apply Cj.mk | exact Nl.nl) <;> intros)
  refine wp_scanH (Kp h) 9 T.looks (fun i x => if ∃ c ∈ (rnO x.2).getD [], plainI T (c : Nat) = false ∨ (fromO T.looks (c : Nat)).isSome = true then W 36 6 i else none) (by intro n; simp only [setF, push_cast, Nat.reduceEqDiff, ↓reduceIte, reduceCtorEq, Nat.reduceAdd, Nat.reduceMul, Nat.reduceLeDiff]; rfl) rfl kp (fun i hi h1 kp hit => ?_) fun h1 kp fin => ?_
  · have g1 := fun lc => rd_mapc (lc := lc) (t.r5.kp kp) hi (k := 1) (by decide)
    have hx := f.v5 _ (List.getElem_mem hi)
    generalize T.looks[i] = x at g1 hit hx
    unfold mapV at g1
    obtain ⟨v, h2, e3, sr, rfl, fo⟩ := runes6_spec x.2 h1 hx.2
    have hlr : ((rnO x.2).getD []).length ≤ x.2.size := by
      unfold rnO
      split
      · exact (List.length_map ..).symm ▸ spots_len _
      · exact Nat.zero_le _
    have k2 := kp.trans fo.kp
    have ep := ep h2 k2
    have ef := ef h2 k2
    generalize (rnO x.2).getD [] = R at fo hlr hit ⊢
    have hs := fo.reads.len
    (refine W_x (Aj s5 (Aj g1 e3)) ?_; (repeat' first | apply Cj.mk | exact Nl.nl) <;> intros)
    refine wp_scanF 12 R (fun _ c => if plainI T (c : Nat) = false ∨ (fromO T.looks (c : Nat)).isSome = true then some () else none) (by intro n; simp only [setF, push_cast, Nat.reduceEqDiff, ↓reduceIte, reduceCtorEq, Nat.reduceAdd, Nat.reduceMul, Nat.reduceLeDiff]; rfl) rfl (fun j hj hit2 => ?_) fun fin2 => ?_
    · have g2 := fun lc => rd_map (lc := lc) fo.reads hj
      have hm := List.getElem_mem hj
      generalize R[j] = c at g2 hit2 hm
      unfold rnV at g2
      have ep := ep (c : Nat)
      have ef := ef (c : Nat)
      have i3 := ixI_pos (o := fromO T.looks (c : Nat))
      cases hb : plainI T (c : Nat)
      · rw [hb] at ep
        rw [hit _ (if_pos ⟨c, hm, .inl hb⟩)]
        (refine W_x (Aj hs (Aj g2 ep)) ?_; (repeat' first | apply Cj.mk | exact Nl.nl) <;> intros)
        exact ⟨rfl, k2⟩
      · rw [hb] at ep
        (refine W_x (Aj hs (Aj g2 (Aj ep ef))) ?_; (repeat' first | apply Cj.mk | exact Nl.nl) <;> intros)
        · rw [hit _ (if_pos ⟨c, hm, .inr (i3.1 (by omega))⟩)]
          exact ⟨rfl, k2⟩
        · rename_i hn
          exact ⟨if_neg (fun q => q.elim (by simp) fun q => hn (i3.2 q)), rfl, rfl, rfl⟩
    · have := scanL_no fin2
      (refine W_x hs ?_; (repeat' first | apply Cj.mk | exact Nl.nl) <;> intros)
      exact ⟨if_neg this, rfl, rfl, k2⟩
  rw [fin]
  (refine W_x s5 ?_; (repeat' first | apply Cj.mk | exact Nl.nl) <;> intros)
  exact ⟨rfl, kp⟩
end Go.Proofs.YtakmapoompffgaaGreatDoor.AM
namespace Go.Proofs.YtakmapoompffgaaGreatDoor.AM
open Go
set_option maxHeartbeats 1000000 in
theorem rows6_spec {S : TS} {T : Tab} {h : AH} (t : TabAt h S T) : WpC PX 124 [.agg S.vs.toArray] h fun v h' => v = wrV (rowsW T) ∧ Kp h h' := by
  have f := t.fits
  have s2 := t.r2.len; have n2 := f.n2
  have s3 := t.r3.len; have n3 := f.n3
  have s4 := t.r4.len; have n4 := f.n4
  have s5 := t.r5.len; have n5 := f.n5
  have e0 := fun r => of6_eq t.r1 f.n1 (r := r)
  have e1 := low6_eq
  have e2 := set6_eq
  refine wpc_fn (px_ext rfl) (px_fn fn_guiseref6_rows) rfl ?_
  unfold LF_guiseref6_rows
  simp only [argFr]
  unfold rowsW TS.vs
  (refine W_x trivial ?_; (repeat' first | apply Cj.mk | exact Nl.nl) <;> intros)
  refine wp_scanN .i32 45 13 3 (fun i => if i ≠ 2 ∧ ofI ((45 + i : Nat) : Int) T.common = false then W 5 2 0 else none) (by intro n; simp only [setF, push_cast, Nat.reduceEqDiff, ↓reduceIte, reduceCtorEq, Nat.reduceAdd, Nat.reduceMul, Nat.reduceLeDiff]; rfl) rfl (fun i hi hit => ?_) fun fin => ?_
  · have e3 := e0 (45 + (i : Int))
    have hc : ((45 + i : Nat) : Int) = 45 + (i : Int) := by omega
    rw [hc] at hit ⊢
    generalize ofI (45 + (i : Int)) T.common = b at e3 hit
    by_cases h2 : i = 2
    · (refine W_x trivial ?_; (repeat' first | apply Cj.mk | exact Nl.nl) <;> intros)
      exact ⟨if_neg (fun q => q.1 h2), rfl, rfl, rfl⟩
    · cases b
      · rw [hit _ (if_pos ⟨h2, rfl⟩)]
        (refine W_x e3 ?_; (repeat' first | apply Cj.mk | exact Nl.nl) <;> intros)
        exact ⟨rfl, Kp.refl h⟩
      · (refine W_x e3 ?_; (repeat' first | apply Cj.mk | exact Nl.nl) <;> intros)
        exact ⟨if_neg (by simp), rfl, rfl, rfl⟩
  rw [fin, Option.none_or]
  (refine W_x trivial ?_; (repeat' first | apply Cj.mk | exact Nl.nl) <;> intros)
  refine wp_scanF 4 T.marks (fun i x => if lowI x.1 = true then W 5 3 i else none) (by intro n; simp only [setF, push_cast, Nat.reduceEqDiff, ↓reduceIte, reduceCtorEq, Nat.reduceAdd, Nat.reduceMul, Nat.reduceLeDiff]; rfl) rfl (fun i hi hit => ?_) fun fin => ?_
  · have g0 := fun lc => rd_mapc (lc := lc) t.r2 hi (k := 0) (by decide)
    generalize T.marks[i] = x at g0 hit
    unfold markV at g0
    have e3 := e1 x.1
    generalize lowI x.1 = b at e3 hit
    cases b
    · (refine W_x (Aj s2 (Aj g0 e3)) ?_; (repeat' first | apply Cj.mk | exact Nl.nl) <;> intros)
      exact ⟨rfl, rfl, rfl, rfl⟩
    · rw [hit _ (if_pos rfl)]
      (refine W_x (Aj s2 (Aj g0 e3)) ?_; (repeat' first | apply Cj.mk | exact Nl.nl) <;> intros)
      exact ⟨rfl, Kp.refl h⟩
  rw [fin, Option.none_or]
  (refine W_x s2 ?_; (repeat' first | apply Cj.mk | exact Nl.nl) <;> intros)
  refine wp_scanF 5 T.pairs (fun i x => if lowI x.1 = true then W 5 4 i else none) (by intro n; simp only [setF, push_cast, Nat.reduceEqDiff, ↓reduceIte, reduceCtorEq, Nat.reduceAdd, Nat.reduceMul, Nat.reduceLeDiff]; rfl) rfl (fun i hi hit => ?_) fun fin => ?_
  · have g0 := fun lc => rd_mapc (lc := lc) t.r3 hi (k := 0) (by decide)
    generalize T.pairs[i] = x at g0 hit
    unfold tripV at g0
    have e3 := e1 x.1
    generalize lowI x.1 = b at e3 hit
    cases b
    · (refine W_x (Aj s3 (Aj g0 e3)) ?_; (repeat' first | apply Cj.mk | exact Nl.nl) <;> intros)
      exact ⟨rfl, rfl, rfl, rfl⟩
    · rw [hit _ (if_pos rfl)]
      (refine W_x (Aj s3 (Aj g0 e3)) ?_; (repeat' first | apply Cj.mk | exact Nl.nl) <;> intros)
      exact ⟨rfl, Kp.refl h⟩
  rw [fin, Option.none_or]
  (refine W_x s3 ?_; (repeat' first | apply Cj.mk | exact Nl.nl) <;> intros)
  refine wp_scanH (Kp h) 6 T.folds (fun i x => if (lowI x.1 = true ∧ (x.1 < 65 ∨ 90 < x.1)) ∨ setsB x.2 = true then W 5 5 i else none) (by intro n; simp only [setF, push_cast, Nat.reduceEqDiff, ↓reduceIte, reduceCtorEq, Nat.reduceAdd, Nat.reduceMul, Nat.reduceLeDiff]; rfl) rfl (Kp.refl h) (fun i hi h1 kp hit => ?_) fun h1 kp fin => ?_
  · have g0 := fun lc => rd_mapc (lc := lc) (t.r4.kp kp) hi (k := 0) (by decide)
    have g1 := fun lc => rd_mapc (lc := lc) (t.r4.kp kp) hi (k := 1) (by decide)
    have hx := f.v4 _ (List.getElem_mem hi)
    generalize T.folds[i] = x at g0 g1 hit hx
    unfold mapV at g0 g1
    obtain ⟨v, h2, e4, rfl, k2⟩ := sets6_spec x.2 h1 hx.2
    have k2 := kp.trans k2
    have e3 := e1 x.1
    generalize lowI x.1 = b at e3 hit
    generalize setsB x.2 = b2 at e4 hit
    cases b
    · cases b2
      · (refine W_x (Aj s4 (Aj g0 (Aj g1 (Aj e3 e4)))) ?_; (repeat' first | apply Cj.mk | exact Nl.nl) <;> intros)
        exact ⟨if_neg (by simp), rfl, rfl, k2⟩
      · rw [hit _ (if_pos (.inr rfl))]
        (refine W_x (Aj s4 (Aj g0 (Aj g1 (Aj e3 e4)))) ?_; (repeat' first | apply Cj.mk | exact Nl.nl) <;> intros)
        exact ⟨rfl, k2⟩
    · cases b2
      · (refine W_x (Aj s4 (Aj g0 (Aj g1 (Aj e3 e4)))) ?_; (repeat' first | apply Cj.mk | exact Nl.nl) <;> intros)
        · rw [hit _ (if_pos (.inl ⟨rfl, by omega⟩))]
          exact ⟨rfl, kp⟩
        · rw [hit _ (if_pos (.inl ⟨rfl, by omega⟩))]
          exact ⟨rfl, kp⟩
        · exact ⟨if_neg (by simp; omega), rfl, rfl, k2⟩
      · rw [hit _ (if_pos (.inr rfl))]
        (refine W_x (Aj s4 (Aj g0 (Aj g1 (Aj e3 e4)))) ?_; (repeat' first | apply Cj.mk | exact Nl.nl) <;> intros)
        · exact ⟨rfl, kp⟩
        · exact ⟨rfl, kp⟩
        · exact ⟨rfl, k2⟩
  rw [fin, Option.none_or]
  (refine W_x s4 ?_; (repeat' first | apply Cj.mk | exact Nl.nl) <;> intros)
  refine wp_scanH (Kp h) 8 T.looks (fun i x => if setI x.1 = true ∨ setsB x.2 = true then W 5 6 i else none) (by intro n; simp only [setF, push_cast, Nat.reduceEqDiff, ↓reduceIte, reduceCtorEq, Nat.reduceAdd, Nat.reduceMul, Nat.reduceLeDiff]; rfl) rfl kp (fun i hi h1 kp hit => ?_) fun h1 kp fin => ?_
  · have g0 := fun lc => rd_mapc (lc := lc) (t.r5.kp kp) hi (k := 0) (by decide)
    have g1 := fun lc => rd_mapc (lc := lc) (t.r5.kp kp) hi (k := 1) (by decide)
    have hx := f.v5 _ (List.getElem_mem hi)
    generalize T.looks[i] = x at g0 g1 hit hx
    unfold mapV at g0 g1
    obtain ⟨v, h2, e4, rfl, k2⟩ := sets6_spec x.2 h1 hx.2
    have k2 := kp.trans k2
    have e3 := e2 x.1
    generalize setI x.1 = b at e3 hit
    generalize setsB x.2 = b2 at e4 hit
    cases b
    · cases b2
      · (refine W_x (Aj s5 (Aj g0 (Aj g1 (Aj e3 e4)))) ?_; (repeat' first | apply Cj.mk | exact Nl.nl) <;> intros)
        exact ⟨if_neg (by simp), rfl, rfl, k2⟩
      · rw [hit _ (if_pos (.inr rfl))]
        (refine W_x (Aj s5 (Aj g0 (Aj g1 (Aj e3 e4)))) ?_; (repeat' first | apply Cj.mk | exact Nl.nl) <;> intros)
        exact ⟨rfl, k2⟩
    · rw [hit _ (if_pos (.inl rfl))]
      (refine W_x (Aj s5 (Aj g0 e3)) ?_; (repeat' first | apply Cj.mk | exact Nl.nl) <;> intros)
      exact ⟨rfl, kp⟩
  rw [fin]
  (refine W_x s5 ?_; (repeat' first | apply Cj.mk | exact Nl.nl) <;> intros)
  exact ⟨rfl, kp⟩
theorem odd_some {x : Span} {r : Int} (h1 : x.1 ≤ r) (h2 : r ≤ x.2) (h3 : 0 ≤ r) (h4 : r < 128) (h5 : lettI r = false) : oddA x = true := by
  unfold oddA
  have e : ((r.toNat : Nat) : Int) = r := by omega
  exact List.any_eq_true.2 ⟨r.toNat, List.mem_range.2 (by omega), by rw [e, h5]; simp only [Bool.and_eq_true, decide_eq_true_eq]; exact ⟨⟨h1, h2⟩, rfl⟩⟩
theorem odd_none {x : Span} (h : ∀ r : Int, x.1 ≤ r → r ≤ x.2 → 0 ≤ r → r < 128 → lettI r = true) : oddA x = false := by
  unfold oddA
  refine List.any_eq_false.2 fun c hc => ?_
  have := List.mem_range.1 hc
  simp only [Bool.and_eq_true, decide_eq_true_eq, Bool.not_eq_true']
  rintro ⟨⟨h1, h2⟩, h3⟩
  rw [h c h1 h2 (by omega) (by omega)] at h3
  cases h3
theorem rowsW_pos {T : Tab} {a b c : Int} (h : rowsW T = some (a, b, c)) : a ≠ 0 := by
  unfold rowsW at h
  have key : ∀ {β : Type} {l : List β} {P : Nat → β → Prop} [∀ i x, Decidable (P i x)] {m : Int}, ∀ w, (scanL l fun i x => if P i x then W 5 m i else none) = some w → w.1 = 5 := by
    intro β l P _ m w hw
    obtain ⟨i, hi, hw⟩ := scanL_some hw
    split at hw
    · injection hw with hw; rw [← hw]
    · cases hw
  have k0 : ∀ w, (scan 13 fun i => if i ≠ 2 ∧ ofI ((45 + i : Nat) : Int) T.common = false then W 5 2 0 else none) = some w → w.1 = 5 := by
    intro w hw
    obtain ⟨i, hi, hw⟩ := scan_some hw
    split at hw
    · injection hw with hw; rw [← hw]
    · cases hw
  have : (a, b, c).1 = 5 := by
    rcases Option.or_eq_some_iff.1 h with h | ⟨_, h⟩
    · exact k0 _ h
    rcases Option.or_eq_some_iff.1 h with h | ⟨_, h⟩
    · exact key _ h
    rcases Option.or_eq_some_iff.1 h with h | ⟨_, h⟩
    · exact key _ h
    rcases Option.or_eq_some_iff.1 h with h | ⟨_, h⟩
    · exact key _ h
    · exact key _ h
  simp only at this
  omega
set_option maxHeartbeats 1000000 in
theorem house6_spec {S : TS} {T : Tab} {h : AH} (t : TabAt h S T) (ha : ∀ x ∈ T.allowed, 0 ≤ x.1) : WpC PX 72 [.agg S.vs.toArray] h fun v h' => v = wrV (houseW T) ∧ Kp h h' := by
  have f := t.fits
  have n6 := f.n6
  have n7 := f.n7
  obtain ⟨v, h1, e1, rfl, k1⟩ := rows6_spec t
  refine wpc_fn (px_ext rfl) (px_fn fn_guiseref6_house) rfl ?_
  unfold LF_guiseref6_house
  simp only [argFr]
  unfold houseW
  unfold TS.vs at e1 ⊢
  have t := t.kp k1
  have s6 := t.r6.len
  have s7 := t.r7.len
  have e0 := fun r => of6_eq t.r7 n7 (r := r)
  have hp := fun a b c => rowsW_pos (T := T) (a := a) (b := b) (c := c)
  generalize rowsW T = o at e1 hp
  match o, e1, hp with
  | some (a, b, c), e1, hp =>
    have := hp a b c rfl
    simp only [wrV] at e1
    (refine W_x e1 ?_; (repeat' first | apply Cj.mk | exact Nl.nl) <;> intros)
    exact ⟨rfl, k1⟩
  | none, e1, hp =>
  simp only [wrV] at e1
  rw [Option.none_or]
  (refine W_x e1 ?_; (repeat' first | apply Cj.mk | exact Nl.nl) <;> intros)
  refine wp_scanF 4 T.drops (fun i x => if x.1 < 128 ∨ (x.1 ≤ 65533 ∧ 65533 ≤ x.2) then W 5 7 i else none) (by intro n; simp only [setF, push_cast, Nat.reduceEqDiff, ↓reduceIte, reduceCtorEq, Nat.reduceAdd, Nat.reduceMul, Nat.reduceLeDiff]; rfl) rfl (fun i hi hit => ?_) fun fin => ?_
  · have g0 := fun lc => rd_mapc (lc := lc) t.r6 hi (k := 0) (by decide)
    have g1 := fun lc => rd_mapc (lc := lc) t.r6 hi (k := 1) (by decide)
    generalize T.drops[i] = x at g0 g1 hit
    unfold pairV at g0 g1
    (refine W_x (Aj s6 (Aj g0 g1)) ?_; (repeat' first | apply Cj.mk | exact Nl.nl) <;> intros)
    · rw [hit _ (if_pos (by omega))]
      exact ⟨rfl, k1⟩
    · rw [hit _ (if_pos (by omega))]
      exact ⟨rfl, k1⟩
    all_goals exact ⟨if_neg (by omega), rfl, rfl, rfl⟩
  rw [fin, Option.none_or]
  (refine W_x s6 ?_; (repeat' first | apply Cj.mk | exact Nl.nl) <;> intros)
  refine wp_scanF 5 T.allowed (fun i x => if oddA x = true then W 5 8 i else none) (by intro n; simp only [setF, push_cast, Nat.reduceEqDiff, ↓reduceIte, reduceCtorEq, Nat.reduceAdd, Nat.reduceMul, Nat.reduceLeDiff]; rfl) rfl (fun i hi hit => ?_) fun fin => ?_
  · have g0 := fun lc => rd_mapc (lc := lc) t.r7 hi (k := 0) (by decide)
    have g1 := fun lc => rd_mapc (lc := lc) t.r7 hi (k := 1) (by decide)
    have hx := ha _ (List.getElem_mem hi)
    generalize T.allowed[i] = x at g0 g1 hit hx
    unfold pairV at g0 g1
    (refine W_x (Aj s7 g0) ?_; (repeat' first | apply Cj.mk | exact Nl.nl) <;> intros)
    refine wp_loop (fun w fr lc h2 => ∃ r : Int, w = (128 - r).toNat ∧ x.1 ≤ r ∧ (∀ c : Int, x.1 ≤ c → c < r → c ≤ x.2 ∧ c < 128 → lettI c = true) ∧ h2 = h1 ∧ lc = [(2, .cells false [S.s0.val 2, S.s1.val 2, S.s2.val 2, S.s3.val 3, S.s4.val 2, S.s5.val 2, S.s6.val 2, S.s7.val 2]), (4, .cells false [.int .i64 0, .int .i64 0, .int .i64 0])] ∧
      fr = [(1, .pointer (some ⟨2, 0, some 1⟩)), (2, .pointer (some ⟨4, 0, some 1⟩)), (5, .int .i64 i), (6, .int .i32 r)]) (128 - x.1).toNat ⟨x.1, rfl, Int.le_refl _, fun c h1 h2 => by omega, rfl, rfl, rfl⟩ ?_
    rintro w fr lc h2 ⟨r, rfl, hr, hall, rfl, rfl, rfl⟩
    by_cases hin : r ≤ x.2 ∧ r < 128
    · by_cases hl : lettI r = true
      · have hl2 := of_decide_eq_true hl
        (refine W_x (Aj s7 (Aj g0 g1)) ?_; (repeat' first | apply Cj.mk | exact Nl.nl) <;> intros)
        all_goals exact ⟨_, by omega, r + 1, rfl, by omega, fun c h3 h4 h5 => by
          by_cases h6 : c < r
          · exact hall c h3 h6 h5
          · rw [show c = r by omega]; exact hl, rfl, rfl, rfl⟩
      · have hl2 : ¬ (r = 45 ∨ (48 ≤ r ∧ r ≤ 57) ∨ (97 ≤ r ∧ r ≤ 122)) := fun q => hl (decide_eq_true q)
        rw [hit _ (if_pos (odd_some hr hin.1 (by omega) hin.2 (Bool.eq_false_iff.2 hl)))]
        (refine W_x (Aj s7 (Aj g0 g1)) ?_; (repeat' first | apply Cj.mk | exact Nl.nl) <;> intros)
        all_goals exact ⟨rfl, k1⟩
    · have ho : oddA x = false := odd_none fun c h1 h2 h3 h4 => hall c h1 (by omega) ⟨h2, h4⟩
      (refine W_x (Aj s7 (Aj g0 g1)) ?_; (repeat' first | apply Cj.mk | exact Nl.nl) <;> intros)
      all_goals exact ⟨if_neg (by rw [ho]; decide), rfl, rfl, rfl⟩
  rw [fin, Option.none_or]
  (refine W_x s7 ?_; (repeat' first | apply Cj.mk | exact Nl.nl) <;> intros)
  refine wp_scanN .i32 45 78 7 (fun i => if lettI ((45 + i : Nat) : Int) = true ∧ ofI ((45 + i : Nat) : Int) T.allowed = false then W 5 8 0 else none) (by intro n; simp only [setF, push_cast, Nat.reduceEqDiff, ↓reduceIte, reduceCtorEq, Nat.reduceAdd, Nat.reduceMul, Nat.reduceLeDiff]; rfl) rfl (fun i hi hit => ?_) fun fin => ?_
  · have e3 := e0 (45 + (i : Int))
    have hc : ((45 + i : Nat) : Int) = 45 + (i : Int) := by omega
    rw [hc] at hit ⊢
    generalize ofI (45 + (i : Int)) T.allowed = b at e3 hit
    by_cases h2 : lettI (45 + (i : Int)) = true
    · have h3 := of_decide_eq_true h2
      cases b
      · rw [hit _ (if_pos ⟨h2, rfl⟩)]
        (refine W_x e3 ?_; (repeat' first | apply Cj.mk | exact Nl.nl) <;> intros)
        all_goals exact ⟨rfl, k1⟩
      · (refine W_x e3 ?_; (repeat' first | apply Cj.mk | exact Nl.nl) <;> intros)
        all_goals exact ⟨if_neg (by simp), rfl, rfl, rfl⟩
    · have h3 : ¬ (45 + (i : Int) = 45 ∨ (48 ≤ 45 + (i : Int) ∧ 45 + (i : Int) ≤ 57) ∨ (97 ≤ 45 + (i : Int) ∧ 45 + (i : Int) ≤ 122)) := fun q => h2 (decide_eq_true q)
      (refine W_x trivial ?_; (repeat' first | apply Cj.mk | exact Nl.nl) <;> intros)
      all_goals exact ⟨if_neg (fun q => h2 q.1), rfl, rfl, rfl⟩
  rw [fin]
  (refine W_x trivial ?_; (repeat' first | apply Cj.mk | exact Nl.nl) <;> intros)
  exact ⟨rfl, k1⟩
theorem formsW_allowed {T : Tab} (h : formsW T = none) : ∀ x ∈ T.allowed, 0 ≤ x.1 := by
  intro x hx
  unfold formsW at h
  simp only [Option.or_eq_none_iff] at h
  have h7 := h.2.2.2.2.2.2.2
  unfold spansW spansE at h7
  rw [Option.map_eq_none_iff] at h7
  obtain ⟨i, hi, rfl⟩ := List.mem_iff_getElem.1 hx
  have := scanL_none h7 i hi
  rw [Option.map_eq_none_iff] at this
  unfold spanE at this
  split at this
  · cases this
  · rename_i hr
    have h1 : runeI (T.allowed[i]).1 = true := by
      cases hb : runeI (T.allowed[i]).1 with
      | true => rfl
      | false => exact absurd (.inl hb) hr
    have := of_decide_eq_true h1
    omega
def PosW (o : Option W3) : Prop := ∀ a b c, o = some (a, b, c) → a ≠ 0
theorem PosW.or {o p : Option W3} (h1 : PosW o) (h2 : PosW p) : PosW (o.or p) := fun a b c h => by
  rcases Option.or_eq_some_iff.1 h with h | ⟨_, h⟩
  · exact h1 a b c h
  · exact h2 a b c h
theorem PosW.none : PosW none := fun a b c h => by cases h
theorem PosW.mk {a b c : Int} (h : a ≠ 0) : PosW (W a b c) := fun x y z e => by injection e with e; injection e with e; omega
theorem PosW.ite {P : Prop} [Decidable P] {o p : Option W3} (h1 : PosW o) (h2 : PosW p) : PosW (if P then o else p) := by split; exact h1; exact h2
theorem PosW.scan {n : Nat} {f : Nat → Option W3} (h : ∀ i, PosW (f i)) : PosW (scan n f) := fun a b c e => by
  obtain ⟨i, _, hw⟩ := scan_some e
  exact h i a b c hw
theorem PosW.scanL {α : Type} {l : List α} {g : Nat → α → Option W3} (h : ∀ i x, PosW (g i x)) : PosW (scanL l g) := fun a b c e => by
  obtain ⟨i, _, hw⟩ := scanL_some e
  exact h _ _ a b c hw
theorem longW_pos (T : Tab) : PosW (longW T) := by
  unfold longW
  refine .ite (.mk (by decide)) (.or (.scanL fun i x => .ite (.mk (by decide)) .none) ?_)
  repeat' refine .ite (.mk (by decide)) ?_
  exact .none
theorem formsW_pos (T : Tab) : PosW (formsW T) := by
  unfold formsW
  refine .or (.scanL fun i x => fun a b c h => ?_) (.or (fun a b c h => spansW_pos h) (.or (.scanL fun i x => .ite (.mk (by decide)) (.ite (.mk (by decide)) .none)) (.or (.scanL fun i x => .ite (.mk (by decide)) .none)
    (.or (fun a b c h => mapsW_pos h) (.or (fun a b c h => mapsW_pos h) (.or (fun a b c h => spansW_pos h) (fun a b c h => spansW_pos h)))))))
  cases hs : scrE x with
  | none => rw [hs] at h; cases h
  | some e =>
    rw [hs] at h
    injection h with h
    injection h with h
    have := scrE_pos hs
    omega
theorem twiceW_pos (T : Tab) : PosW (twiceW T) := by
  unfold twiceW
  exact .or (.scanL fun i x => .ite (.mk (by decide)) .none) (.or (.scanL fun i x => .ite (.mk (by decide)) .none) (.or (.scanL fun i x => .ite (.mk (by decide)) .none) (.or (.scanL fun i x => .ite (.mk (by decide)) .none) (.scanL fun i x => .ite (.mk (by decide)) .none))))
theorem pairsW_pos (T : Tab) : PosW (pairsW T) := .scanL fun i x => .ite (.mk (by decide)) .none
theorem chainsW_pos (T : Tab) : PosW (chainsW T) := .scanL fun i x => .ite (.mk (by decide)) (.ite (.mk (by decide)) .none)
theorem dropsW_pos (T : Tab) : PosW (dropsW T) := by
  unfold dropsW
  exact .or (.scanL fun i x => .ite (.mk (by decide)) .none) (.or (.scanL fun i x => .ite (.mk (by decide)) .none) (.or (.scanL fun i x => .ite (.mk (by decide)) .none) (.scanL fun i x => .ite (.mk (by decide)) .none)))
theorem fromsW_pos (T : Tab) : PosW (fromsW T) := .or (.scanL fun i x => .ite (.mk (by decide)) .none) (.scanL fun i x => .ite (.mk (by decide)) .none)
theorem tosW_pos (T : Tab) : PosW (tosW T) := .or (.scanL fun i x => .ite (.mk (by decide)) .none) (.scanL fun i x => .ite (.mk (by decide)) .none)
theorem houseW_pos (T : Tab) : PosW (houseW T) := .or (fun a b c h => rowsW_pos h) (.or (.scanL fun i x => .ite (.mk (by decide)) .none) (.or (.scanL fun i x => .ite (.mk (by decide)) .none) (.scan fun i => .ite (.mk (by decide)) .none)))
set_option maxHeartbeats 1000000 in
theorem check6_spec {S : TS} {T : Tab} {h : AH} (t : TabAt h S T) : WpC PX 40 [.agg S.vs.toArray] h fun v h' => v = wrV (checkW T) ∧ Kp h h' := by
  obtain ⟨v, h1, e1, rfl, k1⟩ := long6_spec t
  refine wpc_fn (px_ext rfl) (px_fn fn_guiseref6_Check) rfl ?_
  unfold LF_guiseref6_Check
  simp only [argFr]
  unfold checkW
  have t1 := t.kp k1
  obtain ⟨v, h2, e2, rfl, k2⟩ := forms6_spec t1
  have t2 := t1.kp k2
  have hfa := formsW_allowed (T := T)
  have k2 := k1.trans k2
  have e3 := twice6_spec t2
  have e4 := pairs6_eq t2
  have e5 := drops6_eq t2
  obtain ⟨v, h3, e6, rfl, k3⟩ := tos6_spec t2
  have t3 := t2.kp k3
  have k3 := k2.trans k3
  have hh := fun ha => house6_spec t3 ha
  have hp := longW_pos T
  generalize longW T = o at e1 hp
  unfold TS.vs at e1 e2 e3 e4 e5 e6 hh ⊢
  match o, e1, hp with
  | some (a, b, c), e1, hp =>
    have := hp a b c rfl
    simp only [wrV] at e1
    (refine W_x e1 ?_; (repeat' first | apply Cj.mk | exact Nl.nl) <;> intros)
    exact ⟨rfl, k1⟩
  | none, e1, hp =>
  simp only [wrV] at e1
  rw [Option.none_or]
  have hp := formsW_pos T
  generalize formsW T = o at e2 hp hfa
  match o, e2, hp, hfa with
  | some (a, b, c), e2, hp, _ =>
    have := hp a b c rfl
    simp only [wrV] at e2
    (refine W_x (Aj e1 e2) ?_; (repeat' first | apply Cj.mk | exact Nl.nl) <;> intros)
    exact ⟨rfl, k2⟩
  | none, e2, hp, hfa =>
  simp only [wrV] at e2
  rw [Option.none_or]
  have hp := twiceW_pos T
  generalize twiceW T = o at e3 hp
  match o, e3, hp with
  | some (a, b, c), e3, hp =>
    have := hp a b c rfl
    simp only [wrV] at e3
    (refine W_x (Aj e1 (Aj e2 e3)) ?_; (repeat' first | apply Cj.mk | exact Nl.nl) <;> intros)
    exact ⟨rfl, k2⟩
  | none, e3, hp =>
  simp only [wrV] at e3
  rw [Option.none_or]
  have hp := (pairsW_pos T).or (chainsW_pos T)
  generalize (pairsW T).or (chainsW T) = o at e4 hp
  match o, e4, hp with
  | some (a, b, c), e4, hp =>
    have := hp a b c rfl
    simp only [wrV] at e4
    (refine W_x (Aj e1 (Aj e2 (Aj e3 e4))) ?_; (repeat' first | apply Cj.mk | exact Nl.nl) <;> intros)
    exact ⟨rfl, k2⟩
  | none, e4, hp =>
  simp only [wrV] at e4
  rw [Option.none_or]
  have hp := dropsW_pos T
  generalize dropsW T = o at e5 hp
  match o, e5, hp with
  | some (a, b, c), e5, hp =>
    have := hp a b c rfl
    simp only [wrV] at e5
    (refine W_x (Aj e1 (Aj e2 (Aj e3 (Aj e4 e5)))) ?_; (repeat' first | apply Cj.mk | exact Nl.nl) <;> intros)
    exact ⟨rfl, k2⟩
  | none, e5, hp =>
  simp only [wrV] at e5
  rw [Option.none_or]
  have hp := (fromsW_pos T).or (tosW_pos T)
  generalize (fromsW T).or (tosW T) = o at e6 hp
  match o, e6, hp with
  | some (a, b, c), e6, hp =>
    have := hp a b c rfl
    simp only [wrV] at e6
    (refine W_x (Aj e1 (Aj e2 (Aj e3 (Aj e4 (Aj e5 e6))))) ?_; (repeat' first | apply Cj.mk | exact Nl.nl) <;> intros)
    exact ⟨rfl, k3⟩
  | none, e6, hp =>
  simp only [wrV] at e6
  rw [Option.none_or]
  obtain ⟨v, h4, e7, rfl, k4⟩ := hh (hfa rfl)
  have k4 := k3.trans k4
  generalize houseW T = o at e7
  match o, e7 with
  | some (a, b, c), e7 =>
    simp only [wrV] at e7
    (refine W_x (Aj e1 (Aj e2 (Aj e3 (Aj e4 (Aj e5 (Aj e6 e7)))))) ?_; (repeat' first | apply Cj.mk | exact Nl.nl) <;> intros)
    exact ⟨rfl, k4⟩
  | none, e7 =>
    simp only [wrV] at e7
    (refine W_x (Aj e1 (Aj e2 (Aj e3 (Aj e4 (Aj e5 (Aj e6 e7)))))) ?_; (repeat' first | apply Cj.mk | exact Nl.nl) <;> intros)
    exact ⟨rfl, k4⟩
end Go.Proofs.YtakmapoompffgaaGreatDoor.AM
namespace Go.Proofs.YtakmapoompffgaaGreatDoor.AM
open Go
theorem wrong_eq (a b c : Int) (h : AH) : callO PX 92 [.int .i64 a, .int .i64 b, .int .i64 c] h = some (wrV (some (a, b, c)), h) := by
  apply WpC.eqn
  refine wpc_fn (px_ext rfl) (px_fn fn_tables_wrong) rfl ?_
  unfold LF_tables_wrong
  simp only [argFr]
  (refine W_x trivial ?_; (repeat' first | apply Cj.mk | exact Nl.nl) <;> intros)
  exact ⟨rfl, rfl⟩
theorem validRune_eq (r : Int) (h : AH) : callO PX 95 [.int .i32 r] h = some (.bool (runeI r), h) := by
  apply WpC.eqn
  refine wpc_fn (px_ext rfl) (px_fn fn_utf8_ValidRune) rfl ?_
  unfold LF_utf8_ValidRune
  simp only [argFr]
  (refine W_x trivial ?_; (repeat' first | apply Cj.mk | exact Nl.nl) <;> intros)
  all_goals (refine ⟨?_, rfl⟩; congr 1; symm; unfold runeI; first | (exact decide_eq_true (by omega)) | (exact decide_eq_false (by omega)))
theorem low_eq (r : Int) (h : AH) : callO PX 101 [.int .i32 r] h = some (.bool (lowI r), h) := by
  apply WpC.eqn
  refine wpc_fn (px_ext rfl) (px_fn fn_tables_low) rfl ?_
  unfold LF_tables_low
  simp only [argFr]
  (refine W_x trivial ?_; (repeat' first | apply Cj.mk | exact Nl.nl) <;> intros)
  all_goals (refine ⟨?_, rfl⟩; congr 1; symm; unfold lowI; first | (exact decide_eq_true (by omega)) | (exact decide_eq_false (by omega)))
theorem fixed_eq (r : Int) (h : AH) : callO PX 103 [.int .i32 r] h = some (.bool (setI r), h) := by
  apply WpC.eqn
  refine wpc_fn (px_ext rfl) (px_fn fn_tables_fixed) rfl ?_
  unfold LF_tables_fixed
  simp only [argFr]
  (refine W_x trivial ?_; (repeat' first | apply Cj.mk | exact Nl.nl) <;> intros)
  all_goals (refine ⟨?_, rfl⟩; congr 1; symm; unfold setI; first | (exact decide_eq_true (by omega)) | (exact decide_eq_false (by omega)))
def badSp (i : Nat) (x : Nat × Nat) : Prop := ¬ (97 ≤ x.1 ∧ x.1 ≤ 122) ∧ (i = 0 ∨ (x.1 ≠ 45 ∧ (x.1 < 48 ∨ 57 < x.1)))
instance (i : Nat) (x : Nat × Nat) : Decidable (badSp i x) := by unfold badSp; infer_instance
theorem dec1_low {l : Bytes} (h : bat l 0 < 128) : dec1 l = (bat l 0, 1) := by unfold dec1; rw [if_pos h]
theorem dec1_high {l : Bytes} (hl : l ≠ []) (h : ¬ bat l 0 < 128) : 128 ≤ (dec1 l).1 := by
  rcases dec_cases hl with ⟨c, rest, hc, e, hd⟩ | ⟨hd, _⟩
  · rw [hd]
    by_cases hc8 : c < 128
    · exfalso
      apply h
      rw [e]
      unfold encN
      rw [if_pos hc8]
      show (UInt8.ofNat c).toNat < 128
      rw [of_small (by omega)]
      exact hc8
    · exact Nat.le_of_not_lt hc8
  · rw [hd]; decide
theorem name_spots (n : Nat) : ∀ (l : Bytes), l.length = n → ∀ (k : Nat), (∃ i, ∃ hi : i < (spots l).length, badSp (k + i) (spots l)[i]) ↔ ∃ i, ∃ hi : i < l.length, badNm (k + i) l[i] := by
  induction n using Nat.strongRecOn with
  | ind n ih =>
    intro l hn k
    match l, hn with
    | [], hn =>
      subst hn
      constructor
      · rintro ⟨i, hi, _⟩; exact absurd hi (Nat.not_lt_zero _)
      · rintro ⟨i, hi, _⟩; exact absurd hi (Nat.not_lt_zero _)
    | a :: t, hn =>
      subst hn
      have hs := spots_cons (l := a :: t) (by simp)
      have hb : bat (a :: t) 0 = a.toNat := rfl
      by_cases ha : a.toNat < 128
      · have hd := dec1_low (l := a :: t) (by rw [hb]; exact ha)
        rw [hd, hb] at hs
        simp only [List.drop_succ_cons, List.drop_zero] at hs
        have ih2 := ih t.length (by simp) t rfl (k + 1)
        constructor
        · rintro ⟨i, hi, h⟩
          simp only [hs] at h hi
          cases i with
          | zero => exact ⟨0, by simp, h⟩
          | succ i =>
            obtain ⟨j, hj, h2⟩ := ih2.1 ⟨i, by simpa using hi, by simpa [Nat.add_assoc, Nat.add_comm 1] using h⟩
            exact ⟨j + 1, by simpa using hj, by simpa [Nat.add_assoc, Nat.add_comm 1] using h2⟩
        · rintro ⟨i, hi, h⟩
          cases i with
          | zero => exact ⟨0, by rw [hs]; simp, by simp only [hs]; exact h⟩
          | succ i =>
            obtain ⟨j, hj, h2⟩ := ih2.2 ⟨i, by simpa using hi, by simpa [Nat.add_assoc, Nat.add_comm 1] using h⟩
            exact ⟨j + 1, by rw [hs]; simpa using hj, by simp only [hs, List.getElem_cons_succ]; simpa [Nat.add_assoc, Nat.add_comm 1] using h2⟩
      · have hh := dec1_high (l := a :: t) (by simp) (by rw [hb]; exact ha)
        constructor
        · intro _
          refine ⟨0, by simp, ?_⟩
          unfold badNm
          simp only [List.getElem_cons_zero]
          omega
        · intro _
          refine ⟨0, by rw [hs]; simp, ?_⟩
          simp only [hs, List.getElem_cons_zero]
          unfold badSp
          omega
theorem scanL_isNone {α : Type} {l : List α} {P : Nat → α → Prop} [∀ i x, Decidable (P i x)] : (scanL l fun i x => if P i x then some () else none).isNone = decide (¬ ∃ i, ∃ hi : i < l.length, P i l[i]) := by
  cases h : scanL l fun i x => if P i x then some () else none with
  | some w =>
    obtain ⟨i, hi, hw⟩ := scanL_some h
    have hp : P i l[i] := by by_cases hp : P i l[i]; exact hp; rw [if_neg hp] at hw; cases hw
    symm
    exact decide_eq_false (fun q => q ⟨i, hi, hp⟩)
  | none =>
    symm
    refine decide_eq_true ?_
    rintro ⟨i, hi, hp⟩
    have := scanL_none h i hi
    rw [if_pos hp] at this
    cases this
theorem nameB_spots (l : Bytes) : nameB l = ((scanL (spots l) fun i x => if badSp i x then some () else none).isNone && decide (l ≠ [] ∧ l.length ≤ 32)) := by
  unfold nameB
  rw [scanL_isNone, scanL_isNone]
  have := name_spots _ l rfl 0
  simp only [Nat.zero_add] at this
  congr 1
  · exact decide_eq_decide.2 (not_congr this.symm)
  · exact decide_eq_decide.2 (by rw [← List.length_pos_iff]; omega)
theorem posn_pos {l : Bytes} {i : Nat} (hi : i ≤ (spots l).length) : posn l i = 0 ↔ i = 0 := by
  constructor
  · intro h
    cases i with
    | zero => rfl
    | succ i =>
      have hil : i < (spots l).length := hi
      have := posn_succ hil
      obtain ⟨p1, p2, p3⟩ := posn_lt hil
      have := dec_width p3
      rw [p2] at this
      omega
  · rintro rfl; exact posn_zero l
theorem name_eq (s : ByteArray) (h : AH) (hsz : s.size < 100000000) : callO PX 93 [.string s] h = some (.bool (nameB s.data.toList), h) := by
  apply WpC.eqn
  obtain ⟨l, hl⟩ : ∃ l, l = s.data.toList := ⟨_, rfl⟩
  have hll : l.length = s.size := by rw [hl]; rfl
  rw [← hl, nameB_spots]
  refine wpc_fn (px_ext rfl) (px_fn fn_tables_name) rfl ?_
  unfold LF_tables_name
  simp only [argFr]
  (refine W_x @ev_rngS ?_; (repeat' first | apply Cj.mk | exact Nl.nl) <;> intros)
  refine wp_spots none 12 s l (fun h' => h' = h) (fun i x => if badSp i x then some () else none) hl (fun _ => rfl) (by repeat' first | exact True.intro | refine And.intro rfl ?_) (fun _ => rfl) (by intro n; simp only [setL, push_cast, Nat.reduceEqDiff, ↓reduceIte, reduceCtorEq, Nat.reduceAdd, Nat.reduceMul, Nat.reduceLeDiff]; rfl) rfl rfl (fun i hi h1 hj hit => ?_) fun h1 hj fin => ?_
  · subst hj
    have pp := posn_pos (l := l) (i := i) (Nat.le_of_lt hi)
    (refine W_x trivial ?_; (repeat' first | apply Cj.mk | exact Nl.nl) <;> intros)
    refine wo_next hl rfl hi ?_
    generalize (spots l)[i] = x at hit
    generalize posn l i = q at pp
    (refine W_x trivial ?_; (repeat' first | apply Cj.mk | exact Nl.nl) <;> intros)
    all_goals first
      | exact ⟨if_neg (by unfold badSp; omega), (by repeat' first | exact True.intro | refine And.intro rfl ?_), rfl, rfl⟩
      | (rw [hit () (if_pos (by unfold badSp; omega))]; exact ⟨rfl, rfl⟩)
  · subst hj
    rw [fin]
    (refine W_x trivial ?_; (repeat' first | apply Cj.mk | exact Nl.nl) <;> intros)
    refine wo_nextE hl rfl ?_
    have hne : s = ⟨#[]⟩ ↔ l = [] := by
      rw [hl]
      obtain ⟨⟨d⟩⟩ := s
      simp
    (refine W_x trivial ?_; (repeat' first | apply Cj.mk | exact Nl.nl) <;> intros)
    all_goals (refine ⟨?_, rfl⟩; congr 1; symm; simp only [Option.isNone_none, Bool.true_and])
    · rename_i h1; exact decide_eq_false (fun q => q.1 (hne.1 h1))
    · rename_i h1 h2; exact decide_eq_true ⟨fun q => h1 (hne.2 q), by omega⟩
    · rename_i h1 h2; exact decide_eq_false (fun q => h2 (by omega))
end Go.Proofs.YtakmapoompffgaaGreatDoor.AM
