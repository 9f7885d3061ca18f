/- Parts of proofs: lemmas, joined. -/
import Derived.Test.YtfiaggbgplmmeaaGreatDoorPbec71dce
set_option linter.unusedVariables false
set_option linter.unusedSimpArgs false
set_option linter.unusedSectionVars false
namespace Go.Proofs.YtfiaggbgplmmeaaGreatDoor.AM
open Go
theorem posn_cons {l : Bytes} (hl : l ≠ []) (i : Nat) : posn l (i + 1) = (dec1 l).2 + posn (l.drop (dec1 l).2) i := by
  unfold posn
  rw [spots_cons hl, List.take_succ_cons, List.map_cons, List.sum_cons]
theorem spots_take : ∀ (i : Nat) (l : Bytes), i ≤ (spots l).length → spots (l.take (posn l i)) = (spots l).take i
  | 0, l, _ => by rw [posn_zero]; simp [spots_nil]
  | i + 1, l, h => by
    have hl : l ≠ [] := fun e => by subst e; simp [spots_nil] at h
    have h' : i ≤ (spots (l.drop (dec1 l).2)).length := by rw [spots_cons hl, List.length_cons] at h; omega
    have ih := spots_take i (l.drop (dec1 l).2) h'
    rw [posn_cons hl, spots_cons hl, List.take_succ_cons, ← ih]
    rcases dec_cases hl with ⟨c, rest, hc, e1, e2⟩ | ⟨e1, e2⟩
    · have hd : l.drop (dec1 l).2 = rest := by rw [e2, e1]; simp
      rw [hd, e2]
      simp only
      conv => lhs; rw [e1]
      rw [List.take_append, List.take_of_length_le (by omega), show (encN c).length + posn rest i - (encN c).length = posn rest i by omega, spots_enc hc]
    · rw [e1]
      simp only
      have hne : l.take (1 + posn (l.drop 1) i) ≠ [] := by
        cases l with
        | nil => exact absurd rfl hl
        | cons a l => simp [Nat.add_comm]
      have hb : dec1 (l.take (1 + posn (l.drop 1) i)) = (0xFFFD, 1) := by
        rcases dec_cases hne with ⟨c, rest, hc, q1, _⟩ | ⟨q1, _⟩
        · exfalso
          refine e2 c (rest ++ l.drop (1 + posn (l.drop 1) i)) hc ?_
          conv => lhs; rw [← List.take_append_drop (1 + posn (l.drop 1) i) l, q1]
          rw [List.append_assoc]
        · exact q1
      rw [spots_cons hne, hb]
      simp only
      rw [List.drop_take, show 1 + posn (l.drop 1) i - 1 = posn (l.drop 1) i by omega]
theorem posn_drop {l : Bytes} {i : Nat} (hi : i ≤ (spots l).length) (k : Nat) (hk : i + k ≤ (spots l).length) : posn (l.drop (posn l i)) k = posn l (i + k) - posn l i := by
  have h := (spots_drop l i hi).1
  unfold posn at h ⊢
  rw [h, List.take_add, List.map_append, List.sum_append]
  omega
theorem runesB_cut {l : Bytes} {i k : Nat} (h : i + k ≤ (spots l).length) : runesB ((l.drop (posn l i)).take (posn l (i + k) - posn l i)) = ((runesB l).drop i).take k := by
  have h1 := (spots_drop l i (by omega)).1
  have h2 := spots_take k (l.drop (posn l i)) (by rw [h1, List.length_drop]; omega)
  rw [posn_drop (by omega) k h] at h2
  unfold runesB
  rw [h2, h1, List.map_take, List.map_drop]
theorem runesB_take' {l : Bytes} {i : Nat} (h : i ≤ (spots l).length) : runesB (l.take (posn l i)) = (runesB l).take i := by
  have := runesB_cut (l := l) (i := 0) (k := i) (by omega)
  rw [posn_zero] at this
  simpa using this
theorem runesB_drop {l : Bytes} {i : Nat} (h : i ≤ (spots l).length) : runesB (l.drop (posn l i)) = (runesB l).drop i := by
  unfold runesB
  rw [(spots_drop l i h).1, List.map_drop]
theorem runesB_append {l : Bytes} {i : Nat} (h : i ≤ (spots l).length) : runesB l = runesB (l.take (posn l i)) ++ runesB (l.drop (posn l i)) := by
  rw [runesB_take' h, runesB_drop h, List.take_append_drop]
end Go.Proofs.YtfiaggbgplmmeaaGreatDoor.AM
namespace Go.Proofs.YtfiaggbgplmmeaaGreatDoor.AM
open Go
def LF_utf_Cut : LFunc :=
  .mk 2 [.tmp 4, .tmp 5] (.seq (R 999 [0, 1] [.set 4 (.cv (.string ⟨#[]⟩)), .set 5 (.cv (.string ⟨#[]⟩))]) (.seq (R 9 [0, 1] [.set 1 (.op (.p (.mm false [.s 0, .s 1])) (.cons (.op
  (.p (.mm true [.s 0, .s 1])) (.cons (.va 1) (xi 0))) (xsl (.va 0))))]) (.seq (.seq (R 14 [0, 1, 6] [.set 6 (.op (.p (.mm true [.s 0, .s 1])) (.cons (xb .add (xb .sub (.va 1) (xi
  4)) (xi 1)) (xi 0)))]) (.block 0 (.loop (.seq (.seq (R 18 [0, 1, 6, 20] [.tmp 20 (xb .lss (.va 6) (.va 1))]) (.cond (.s 20) .skip (.exit 0))) (.seq (.block 1 (.seq (R 24 [0, 1, 6,
  7, 8] [.set 23 (xc1 57 (.op (.p (.slS (.s 0) (some (.s 1)) none)) (.cons (.va 0) (.va 6)))), .tmp 28 (xex 0 (.sl 23)), .tmp 29 (xex 1 (.sl 23)), .set 7
  (.sl 28), .set 8 (.sl 29)]) (.seq (R 30 [0, 1, 6, 42] [.tmp 42 (.and (.and (xb .gtr (.va 8) (xi 1)) (xb .geq (.va 7) (xr 0))) (xb .gtr (xb .add (.va 6) (.va 8)) (.va 1)))]) (.cond
  (.s 42) (R 43 [0, 1, 6] [.set 1 (.va 6)]) .skip)))) (R 21 [0, 1, 6] [.set 6 (xb .add (.va 6) (xi 1))])))))) (.seq (R 44 [4, 5] [.tmp 46 (.op (.p (.slS (.s 0) none (some (.s 1))))
  (.cons (.va 0) (.va 1))), .tmp 49 (.op (.p (.slS (.s 0) (some (.s 1)) none)) (.cons (.va 0) (.va 1))), .set 4 (.sl 46), .set 5 (.sl 49)]) .ret))))
theorem fn_utf_Cut : (autoPrg Tryz.prog).fn 55 = some LF_utf_Cut := by kernel_rfl
def LF_utf_Bound : LFunc :=
  .mk 2 [.tmp 4] (.seq (R 999 [0, 1] [.set 4 (.cv (.bool false))]) (.seq (.seq (R 7 [0, 1, 14] [.tmp 14 (.or (xb .lss (.va 1) (xi 0)) (xb .gtr (.va 1) (xsl (.va 0))))]) (.cond (.s
  14) (.seq (R 999 [4] [.set 4 (.cv (.bool false))]) .ret) .skip)) (.seq (R 16 [1, 5] [.set 15 (xc2 55 (.va 0) (.va 1)), .tmp 19 (xex 0 (.sl 15)), .tmp 20 (xex 1 (.sl 15)),
  .set 5 (.sl 19), .set 6 (.sl 20)]) (.seq (R 21 [4] [.set 4 (xb .eql (xsl (.va 5)) (.va 1))]) .ret))))
theorem fn_utf_Bound : (autoPrg Tryz.prog).fn 31 = some LF_utf_Bound := by kernel_rfl
def LF_utf_First : LFunc :=
  .mk 1 [.cell 2 (some 3), .tmp 3] (.seq (R 2 [0, 2] [.tmp 2 (xnl 2 [.int .i32 0, .int .i64 0, .bool false]), .set 3 (.cv (.bool false))]) (.seq (.seq (R 4 [0, 2, 5] [.tmp 5 (xb
  .eql (.va 0) (.cv (.string ⟨#[]⟩)))]) (.cond (.s 5) (.seq (R 6 [2, 3] [.run (xst 3 (.sl 2) (.op (.p (.build [.int .i32 0, .int .i64 0, .bool false] [])) .nil)), .set 3 (.cv (.bool
  false))]) .ret) .skip)) (.seq (R 7 [2, 3] [.tmp 8 (xc1 57 (.va 0)), .run (xst 3 (.sl 2) (xc2 56 (xex 0 (.sl 8)) (xex 1 (.sl 8)))), .set 3 (.cv
  (.bool true))]) .ret)))
theorem fn_utf_First : (autoPrg Tryz.prog).fn 32 = some LF_utf_First := by kernel_rfl
end Go.Proofs.YtfiaggbgplmmeaaGreatDoor.AM
namespace Go.Proofs.YtfiaggbgplmmeaaGreatDoor.AM
open Go
theorem decode_eq (t : ByteArray) (h : AH) (hT : U8T h) (hsz : t.size < 100000000) (h0 : 0 < t.size) : callO PX 57 [.string t] h = some (.tuple (List.toArray [.int .i32 (dec1 t.data.toList).1, .int .i64 (dec1 t.data.toList).2]), h) := by
  have hne : ¬ t = ⟨#[]⟩ := fun e => by rw [e] at h0; cases h0
  obtain ⟨l, hl⟩ : ∃ l, l = t.data.toList := ⟨_, rfl⟩
  have hll : l.length = t.size := by rw [hl]; rfl
  obtain ⟨x0, q0⟩ : ∃ x, bat l 0 = x := ⟨_, rfl⟩
  by_cases hx : x0 < 128
  · have hd : dec1 t.data.toList = (x0, 1) := by rw [← hl]; unfold dec1; rw [q0, if_pos (by omega)]
    rw [hd]
    apply WpC.eqn
    refine wpc_fn (px_ext rfl) (px_fn fn_utf8_DecodeRuneInString) rfl ?_
    unfold LF_utf8_DecodeRuneInString
    simp only [argFr]
    (refine W_x (Aj hl.symm (Aj q0 hne)) ?_; (repeat' first | apply Cj.mk | exact Nl.nl) <;> intros)
    exact ⟨rfl, rfl⟩
  · have e := decodeSlow_eq t h hT hsz (by rw [← hl, q0]; omega)
    generalize (dec1 t.data.toList).1 = c at e ⊢
    generalize (dec1 t.data.toList).2 = n at e ⊢
    have c0 := bat_lt l 0
    rw [q0] at c0
    apply WpC.eqn
    refine wpc_fn (px_ext rfl) (px_fn fn_utf8_DecodeRuneInString) rfl ?_
    unfold LF_utf8_DecodeRuneInString
    simp only [argFr]
    (refine W_x (Aj hl.symm (Aj q0 (Aj hne e))) ?_; (repeat' first | apply Cj.mk | exact Nl.nl) <;> intros)
    exact ⟨rfl, rfl⟩
theorem utfFirst_eq (t : ByteArray) (h : AH) (hT : U8T h) (hsz : t.size < 100000000) (h0 : 0 < t.size) : callO PX 32 [.string t] h = some (.tuple (List.toArray [spotV (dec1 t.data.toList), .bool true]), h) := by
  have hne : ¬ t = ⟨#[]⟩ := fun e => by rw [e] at h0; cases h0
  have e1 := decode_eq t h hT hsz h0
  have e2 := spot_eq (dec1 t.data.toList).1 (dec1 t.data.toList).2 h
  have e3 : ((dec1 t.data.toList).1, (dec1 t.data.toList).2) = dec1 t.data.toList := rfl
  rw [e3] at e2
  generalize dec1 t.data.toList = d at *
  unfold spotV at e2 ⊢
  apply WpC.eqn
  refine wpc_fn (px_ext rfl) (px_fn fn_utf_First) rfl ?_
  unfold LF_utf_First
  simp only [argFr]
  (refine W_x (Aj hne (Aj e1 e2)) ?_; (repeat' first | apply Cj.mk | exact Nl.nl) <;> intros)
  exact ⟨rfl, rfl⟩
theorem utfFirst_nil (h : AH) : callO PX 32 [.string ⟨#[]⟩] h = some (.tuple (List.toArray [.agg (List.toArray [.int .i32 0, .int .i64 0, .bool false]), .bool false]), h) := by
  apply WpC.eqn
  refine wpc_fn (px_ext rfl) (px_fn fn_utf_First) rfl ?_
  unfold LF_utf_First
  simp only [argFr]
  (refine W_x trivial ?_; (repeat' first | apply Cj.mk | exact Nl.nl) <;> intros)
  exact ⟨rfl, rfl⟩
def freeB (l : Bytes) (p : Nat) : Prop := ∀ f, p - 3 ≤ f → f < p → ¬ (1 < (dec1 (l.drop f)).2 ∧ p < f + (dec1 (l.drop f)).2)
theorem dec1_le4 (l : Bytes) : (dec1 l).2 ≤ 4 := by
  unfold dec1
  repeat' split
  all_goals (dsimp only; omega)
theorem cut_spec (s : ByteArray) (h : AH) (hT : U8T h) (hs : s.size ≤ 1048576) (p : Nat) (hp : p ≤ s.size) : WpC PX 55 [.string s, .int .i64 p] h fun v h' => h' = h ∧ ∃ j : Nat, j ≤ p ∧ (j = p → freeB s.data.toList p) ∧ v = .tuple (List.toArray [.string (s.extract 0 j), .string (s.extract j s.size)]) := by
  refine wpc_fn (px_ext rfl) (px_fn fn_utf_Cut) rfl ?_
  unfold LF_utf_Cut
  simp only [argFr]
  (refine W_x trivial ?_; (repeat' first | apply Cj.mk | exact Nl.nl) <;> intros)
  have m1 : min (max (p : Int) 0) s.size = p := by omega
  have m2 : max ((p : Int) - 4 + 1) 0 = ((p - 3 : Nat) : Int) := by omega
  rw [m1, m2]
  refine wp_loop (fun w fr lc h' => lc = [] ∧ h' = h ∧ ∃ j f : Nat, w = p + 1 - f ∧ f ≤ p ∧ j ≤ p ∧ p - 3 ≤ f ∧ fr = [(0, .string s), (1, .int .i64 j), (6, .int .i64 f)] ∧ ((j = p ∧ ∀ g, p - 3 ≤ g → g < f → ¬ (1 < (dec1 (s.data.toList.drop g)).2 ∧ p < g + (dec1 (s.data.toList.drop g)).2)) ∨ (j < p ∧ f = j + 1)))
    (p + 1 - (p - 3)) ⟨rfl, rfl, p, p - 3, rfl, by omega, by omega, by omega, rfl, .inl ⟨rfl, fun g h1 h2 => by omega⟩⟩ ?_
  rintro w fr lc h' ⟨rfl, rfl, j, f, rfl, hf, hj, hf3, rfl, hor⟩
  have hjs : (j : Int) ≤ s.size := by omega
  rcases hor with ⟨rfl, hno⟩ | ⟨hjp, rfl⟩
  · by_cases hfj : f < j
    · have hfs : (f : Int) ≤ s.size := by omega
      obtain ⟨d1, d2⟩ := ext_drop s f (by omega)
      have e := decode_eq (s.extract f s.size) h' hT (by omega) (by omega)
      rw [d1] at e
      have hc : ∃ c, (dec1 (s.data.toList.drop f)).1 = c := ⟨_, rfl⟩
      obtain ⟨c, hc⟩ := hc
      obtain ⟨n, hn⟩ : ∃ n, (dec1 (s.data.toList.drop f)).2 = n := ⟨_, rfl⟩
      rw [hc, hn] at e
      have hns : n ≤ 4 := by rw [← hn]; exact dec1_le4 _
      by_cases c1 : 1 < n ∧ j < f + n
      · obtain ⟨k1, k2⟩ := c1
        (refine W_x (Aj hfs e) ?_; (repeat' first | apply Cj.mk | exact Nl.nl) <;> intros)
        refine ⟨_, ?_, rfl, rfl, f, f + 1, rfl, by omega, by omega, by omega, rfl, .inr ⟨hfj, rfl⟩⟩
        omega
      · have hno' : ∀ g, j - 3 ≤ g → g < f + 1 → ¬ (1 < (dec1 (s.data.toList.drop g)).2 ∧ j < g + (dec1 (s.data.toList.drop g)).2) := fun g h1 h2 => by
          rcases Nat.lt_or_ge g f with q | q
          · exact hno g h1 q
          · obtain rfl : g = f := by omega
            rw [hn]
            exact c1
        by_cases k1 : 1 < n
        · have k2 : ¬ ((f : Int) + n > j) := by omega
          (refine W_x (Aj hfs e) ?_; (repeat' first | apply Cj.mk | exact Nl.nl) <;> intros)
          refine ⟨_, ?_, rfl, rfl, j, f + 1, rfl, by omega, by omega, by omega, rfl, .inl ⟨rfl, hno'⟩⟩
          omega
        · (refine W_x (Aj hfs e) ?_; (repeat' first | apply Cj.mk | exact Nl.nl) <;> intros)
          refine ⟨_, ?_, rfl, rfl, j, f + 1, rfl, by omega, by omega, by omega, rfl, .inl ⟨rfl, hno'⟩⟩
          omega
    · (refine W_x hjs ?_; (repeat' first | apply Cj.mk | exact Nl.nl) <;> intros)
      refine ⟨rfl, j, by omega, fun _ => ?_, rfl⟩
      intro g h1 h2
      exact hno g h1 (by omega)
  · (refine W_x hjs ?_; (repeat' first | apply Cj.mk | exact Nl.nl) <;> intros)
    exact ⟨rfl, j, by omega, fun q => by omega, rfl⟩
theorem bound_spec (s : ByteArray) (h : AH) (hT : U8T h) (hs : s.size ≤ 1048576) (p : Nat) (hp : p ≤ s.size) : WpC PX 31 [.string s, .int .i64 p] h fun v h' => h' = h ∧ ∃ b : Bool, (b = true → freeB s.data.toList p) ∧ v = .bool b := by
  obtain ⟨_, g, e, rfl, j, hj, hf, rfl⟩ := cut_spec s h hT hs p hp
  have hz : (s.extract 0 j).size = j := by
    rw [ba_size, ba_extract _ _ _ (by omega), List.drop_zero, List.length_take]
    have : s.data.toList.length = s.size := rfl
    omega
  by_cases hjp : j = p
  · subst hjp
    refine wpc_fn (px_ext rfl) (px_fn fn_utf_Bound) rfl ?_
    unfold LF_utf_Bound
    simp only [argFr]
    (refine W_x (Aj e hz) ?_; (repeat' first | apply Cj.mk | exact Nl.nl) <;> intros)
    exact ⟨rfl, true, fun _ => hf rfl, rfl⟩
  · have hjp' : ¬ (j : Int) = p := by omega
    refine wpc_fn (px_ext rfl) (px_fn fn_utf_Bound) rfl ?_
    unfold LF_utf_Bound
    simp only [argFr]
    (refine W_x (Aj e hz) ?_; (repeat' first | apply Cj.mk | exact Nl.nl) <;> intros)
    exact ⟨rfl, false, (fun q => by cases q), rfl⟩
theorem free_posn {l : Bytes} {p : Nat} (hp : p ≤ l.length) (hf : freeB l p) : ∃ i, i ≤ (spots l).length ∧ p = posn l i := by
  have key : ∀ n i, (spots l).length - i ≤ n → i ≤ (spots l).length → posn l i ≤ p → ∃ i, i ≤ (spots l).length ∧ p = posn l i := by
    intro n
    induction n with
    | zero =>
      intro i hn hi hle
      have : i = (spots l).length := by omega
      subst this
      rw [posn_all] at hle
      exact ⟨_, Nat.le_refl _, by rw [posn_all]; omega⟩
    | succ n ih =>
      intro i hn hi hle
      rcases Nat.lt_or_ge i (spots l).length with hil | hil
      · have hs := posn_succ hil
        obtain ⟨p1, p2, p3⟩ := posn_lt hil
        have hw := dec1_le4 (l.drop (posn l i))
        rcases Nat.lt_or_ge p (posn l (i + 1)) with q | q
        · rcases Nat.eq_or_lt_of_le hle with e | e
          · exact ⟨i, hi, e.symm⟩
          · exfalso
            rw [p2] at hw
            have := hf (posn l i) (by omega) e
            rw [p2] at this
            omega
        · exact ih (i + 1) (by omega) hil q
      · have : i = (spots l).length := by omega
        subst this
        rw [posn_all] at hle
        exact ⟨_, Nat.le_refl _, by rw [posn_all]; omega⟩
  exact key _ 0 (Nat.le_refl _) (Nat.zero_le _) (by rw [posn_zero]; omega)
end Go.Proofs.YtfiaggbgplmmeaaGreatDoor.AM
namespace Go.Proofs.YtfiaggbgplmmeaaGreatDoor.AM
open Go
def pairI (T : Tab) (r : Int) : Option (Int × Int) := (wholeO T r).map fun j => (T.pairs.getD j (0, 0, 0)).2
def opI (T : Tab) : Nat → Int → List Int
  | 0, r => [r]
  | f + 1, r => match pairI T r with
    | none => [r]
    | some (b, m) => opI T f b ++ [m]
inductive Op (T : Tab) : Int → List Int → Prop
  | one {r : Int} : pairI T r = none → Op T r [r]
  | more {r b m : Int} {L : List Int} : pairI T r = some (b, m) → Op T b L → Op T r (L ++ [m])
theorem opI_none {T : Tab} {r : Int} (h : pairI T r = none) (k : Nat) : opI T k r = [r] := by
  cases k with
  | zero => rfl
  | succ k => simp only [opI, h]
theorem chain_ge {T : Tab} : ∀ (f n : Nat) (b : Int), 0 ≤ chainN T f n b → (n : Int) ≤ chainN T f n b
  | 0, n, b, h => by simp only [chainN] at h; omega
  | f + 1, n, b, h => by
    simp only [chainN] at h ⊢
    split at h
    · omega
    · have := chain_ge f _ _ h
      omega
theorem op_chain {T : Tab} : ∀ (f n : Nat) (b : Int) (k : Nat), 0 ≤ chainN T f n b → chainN T f n b ≤ (n : Int) + k → Op T b (opI T k b)
  | 0, n, b, k, h, _ => by simp only [chainN] at h; omega
  | f + 1, n, b, k, h, hk => by
    simp only [chainN] at h hk
    cases hw : wholeO T b with
    | none =>
      have hp : pairI T b = none := by unfold pairI; rw [hw]; rfl
      rw [opI_none hp]
      exact .one hp
    | some j =>
      rw [hw] at h hk
      simp only at h hk
      have h2 := chain_ge _ _ _ h
      have hp : pairI T b = some (T.pairs.getD j (0, 0, 0)).2 := by unfold pairI; rw [hw]; rfl
      cases k with
      | zero => omega
      | succ k =>
        have ih := op_chain f (n + 1) _ k h (by omega)
        simp only [opI, hp]
        exact .more hp ih
theorem good_chain {T : Tab} (h : goodB T = true) : ∀ x ∈ T.pairs, 0 ≤ chainN T T.pairs.length 1 x.2.1 ∧ chainN T T.pairs.length 1 x.2.1 ≤ 4 := by
  intro x hx
  have hf := (checkW_none (good_check h)).2.2.2.2.1
  unfold chainsW at hf
  obtain ⟨i, hi, rfl⟩ := List.mem_iff_getElem.1 hx
  have := scanL_none hf i hi
  split at this
  · cases this
  · split at this
    · cases this
    · omega
theorem good_pairs {T : Tab} (h : goodB T = true) : ∀ x ∈ T.pairs, isMark T x.1 = false ∧ isMark T x.2.1 = false ∧ isMark T x.2.2 = true ∧ runeI x.1 = true ∧ runeI x.2.1 = true ∧ runeI x.2.2 = true := by
  intro x hx
  have hn := checkW_none (good_check h)
  have hp := hn.2.2.2.1
  have hf := hn.2.1
  unfold pairsW at hp
  unfold formsW at hf
  simp only [Option.or_eq_none_iff] at hf
  obtain ⟨i, hi, rfl⟩ := List.mem_iff_getElem.1 hx
  have h1 := scanL_none hp i hi
  have h2 := scanL_none hf.2.2.2.1 i hi
  split at h1
  · cases h1
  · rename_i g1
    split at h2
    · cases h2
    · rename_i g2
      simp only [not_or, Bool.not_eq_true, Bool.not_eq_false] at g1 g2
      exact ⟨g1.1, g1.2.1, g1.2.2, g2.1, g2.2.1, g2.2.2⟩
theorem whole_mem {T : Tab} {r : Int} {j : Nat} (h : wholeO T r = some j) : ∃ hj : j < T.pairs.length, (T.pairs[j]).1 = r := by
  obtain ⟨i, hi, e⟩ := scanL_some h
  split at e
  · injection e with e
    subst e
    exact ⟨hi, by assumption⟩
  · cases e
theorem whole_none {T : Tab} {r : Int} (h : wholeO T r = none) : ∀ x ∈ T.pairs, x.1 ≠ r := by
  intro x hx e
  obtain ⟨i, hi, rfl⟩ := List.mem_iff_getElem.1 hx
  have := scanL_none h i hi
  rw [if_pos e] at this
  cases this
theorem pair_mem {T : Tab} {r b m : Int} (h : pairI T r = some (b, m)) : (r, b, m) ∈ T.pairs := by
  unfold pairI at h
  cases hw : wholeO T r with
  | none => rw [hw] at h; cases h
  | some j =>
    rw [hw] at h
    obtain ⟨hj, e⟩ := whole_mem hw
    have h1 : T.pairs.getD j (0, 0, 0) = T.pairs[j] := by simp [List.getD_eq_getElem?_getD, List.getElem?_eq_getElem hj]
    simp only [Option.map_some, h1, Option.some.injEq] at h
    have h2 : T.pairs[j] = (r, b, m) := Prod.ext e h
    rw [← h2]
    exact List.getElem_mem hj
theorem op_all {T : Tab} (h : goodB T = true) (r : Int) : Op T r (opI T 5 r) := by
  cases hp : pairI T r with
  | none => rw [opI_none hp]; exact .one hp
  | some bm =>
    obtain ⟨b, m⟩ := bm
    have hm := good_chain h _ (pair_mem hp)
    simp only [opI, hp]
    have h2 : chainN T T.pairs.length 1 b ≤ 4 := hm.2
    exact .more hp (op_chain _ 1 b 4 hm.1 (by omega))
theorem Op.eq {T : Tab} {r : Int} {L : List Int} (h : Op T r L) : ∀ {M : List Int}, Op T r M → L = M := by
  induction h with
  | one h =>
    intro M hM
    cases hM with
    | one _ => rfl
    | more h2 _ => rw [h] at h2; cases h2
  | more h _ ih =>
    intro M hM
    cases hM with
    | one h2 => rw [h] at h2; cases h2
    | more h2 h3 =>
      rw [h] at h2
      injection h2 with h2
      injection h2 with h2 h4
      subst h2 h4
      rw [ih h3]
theorem op_len {T : Tab} : ∀ (k : Nat) (r : Int), (opI T k r).length ≤ k + 1
  | 0, r => by simp [opI]
  | k + 1, r => by
    simp only [opI]
    split
    · simp
    · have := op_len (T := T) k
      rw [List.length_append, List.length_singleton]
      rename_i b m _
      have := this b
      omega
theorem mark_whole {T : Tab} (h : goodB T = true) {c : Int} (hm : isMark T c = true) : pairI T c = none := by
  cases hp : pairI T c with
  | none => rfl
  | some bm =>
    have := (good_pairs h _ (pair_mem (b := bm.1) (m := bm.2) hp)).1
    simp only at this
    rw [hm] at this
    cases this
theorem Op.facts {T : Tab} (h : goodB T = true) {r : Int} {L : List Int} (o : Op T r L) : ∃ b ms, L = b :: ms ∧ pairI T b = none ∧ (∀ c ∈ ms, isMark T c = true) ∧ isMark T b = isMark T r ∧ (runeI r = true → runeI b = true) ∧ ∀ c ∈ ms, runeI c = true := by
  induction o with
  | @one r hp => exact ⟨r, [], rfl, hp, by simp, rfl, id, by simp⟩
  | @more r b m L hp _ ih =>
    obtain ⟨b0, ms, rfl, h1, h2, h3, h4, h5⟩ := ih
    obtain ⟨g1, g2, g3, g4, g5, g6⟩ := good_pairs h _ (pair_mem hp)
    simp only at g1 g2 g3 g4 g5 g6
    refine ⟨b0, ms ++ [m], rfl, h1, fun c hc => ?_, by rw [h3, g1, g2], fun _ => h4 g5, fun c hc => ?_⟩
    · rcases List.mem_append.1 hc with hc | hc
      · exact h2 c hc
      · rw [List.mem_singleton.1 hc]; exact g3
    · rcases List.mem_append.1 hc with hc | hc
      · exact h5 c hc
      · rw [List.mem_singleton.1 hc]; exact g6
theorem class_mark {T : Tab} (h : goodB T = true) (r : Int) : 0 < classI T r ↔ isMark T r = true := by
  unfold classI isMark
  constructor
  · intro hp
    cases hs : scanL T.marks fun _ x => if x.1 = r then some x.2 else none with
    | none => rw [hs] at hp; simp at hp
    | some w =>
      obtain ⟨i, hi, e⟩ := scanL_some hs
      split at e
      · rename_i hr
        exact List.any_eq_true.2 ⟨_, List.getElem_mem hi, by simpa using hr⟩
      · cases e
  · intro hm
    obtain ⟨x, hx, e⟩ := List.any_eq_true.1 hm
    cases hs : scanL T.marks fun _ x => if x.1 = r then some x.2 else none with
    | none =>
      obtain ⟨i, hi, rfl⟩ := List.mem_iff_getElem.1 hx
      have := scanL_none hs i hi
      rw [if_pos (by simpa using e)] at this
      cases this
    | some w =>
      obtain ⟨i, hi, e⟩ := scanL_some hs
      split at e
      · injection e with e
        have := good_marks h _ (List.getElem_mem hi)
        simp only [Option.getD_some]
        omega
      · cases e
def opN (T : Tab) (c : Nat) : List Nat := (opI T 5 c).map Int.toNat
theorem rune_iff {r : Int} : runeI r = true ↔ 0 ≤ r ∧ RuneN r.toNat := by
  rw [← decide_eq_true_iff (p := RuneN r.toNat), ← runeI_nat]
  unfold runeI
  simp only [decide_eq_true_eq]
  omega
theorem opN_cast {T : Tab} (h : goodB T = true) {c : Nat} (hc : RuneN c) : (opN T c).map (fun n : Nat => (n : Int)) = opI T 5 c ∧ ∀ x ∈ opI T 5 c, runeI x = true := by
  obtain ⟨b, ms, e, h1, h2, h3, h4, h5⟩ := (op_all h (c : Int)).facts h
  have hr : ∀ x ∈ opI T 5 c, runeI x = true := fun x hx => by
    rw [e] at hx
    rcases List.mem_cons.1 hx with rfl | hx
    · exact h4 (rune_iff.2 ⟨by omega, by simpa using hc⟩)
    · exact h5 x hx
  refine ⟨?_, hr⟩
  unfold opN
  rw [List.map_map]
  conv => rhs; rw [← List.map_id (opI T 5 c)]
  refine List.map_congr_left fun x hx => ?_
  have := (rune_iff.1 (hr x hx)).1
  simp only [Function.comp, id]
  omega
theorem opN_facts {T : Tab} (h : goodB T = true) {c : Nat} (hc : RuneN c) : ∃ b ms, opN T c = b :: ms ∧ (0 < clT T b ↔ 0 < clT T c) ∧ (∀ x ∈ ms, 0 < clT T x) ∧ (∀ x ∈ b :: ms, RuneN x ∧ pairI T x = none) ∧ ms.length ≤ 5 ∧ (0 < clT T c → ms = [] ∧ b = c) := by
  obtain ⟨b, ms, e, h1, h2, h3, h4, h5⟩ := (op_all h (c : Int)).facts h
  obtain ⟨g1, g2⟩ := opN_cast h hc
  have hb := rune_iff.1 (g2 b (by rw [e]; simp))
  have hx : ∀ x ∈ ms, ((x.toNat : Nat) : Int) = x ∧ RuneN x.toNat := fun x hx => by
    have := rune_iff.1 (h5 x hx)
    exact ⟨by omega, this.2⟩
  have hbb : ((b.toNat : Nat) : Int) = b := by omega
  refine ⟨b.toNat, ms.map Int.toNat, by unfold opN; rw [e]; rfl, ?_, fun x hx' => ?_, fun x hx' => ?_, ?_, fun hp => ?_⟩
  · show 0 < classI T ((b.toNat : Nat) : Int) ↔ 0 < classI T (c : Int)
    rw [hbb, class_mark h, class_mark h, h3]
  · obtain ⟨y, hy, rfl⟩ := List.mem_map.1 hx'
    show 0 < classI T ((y.toNat : Nat) : Int)
    rw [(hx y hy).1, class_mark h]
    exact h2 y hy
  · rcases List.mem_cons.1 hx' with rfl | hx'
    · exact ⟨hb.2, by rw [hbb]; exact h1⟩
    · obtain ⟨y, hy, rfl⟩ := List.mem_map.1 hx'
      exact ⟨(hx y hy).2, by rw [(hx y hy).1]; exact mark_whole h (h2 y hy)⟩
  · have := op_len (T := T) 5 (c : Int)
    rw [e, List.length_cons] at this
    rw [List.length_map]
    omega
  · have hm := mark_whole h ((class_mark h _).1 hp)
    rw [opI_none hm] at e
    injection e with e1 e2
    subst e1 e2
    exact ⟨rfl, by simp⟩
def isOp (T : Tab) (c : Nat) : Prop := pairI T c = none
theorem opN_open {T : Tab} {c : Nat} (h : isOp T c) : opN T c = [c] := by
  unfold opN
  rw [opI_none h]
  simp
def openF (T : Tab) (B : List Nat) : List Nat := B.flatMap (opN T)
def openL (T : Tab) (B : List Nat) : List Nat := ord (clT T) (openF T B)
def openB (T : Tab) (l : Bytes) : Bytes := encs (openL T (runesB l))
theorem openF_open {T : Tab} : ∀ {B : List Nat}, (∀ c ∈ B, isOp T c) → openF T B = B
  | [], _ => rfl
  | c :: B, h => by
    have ih := openF_open (T := T) (B := B) fun x hx => h x (by simp [hx])
    unfold openF at ih ⊢
    rw [List.flatMap_cons, ih, opN_open (h c (by simp))]
    rfl
theorem openF_all {T : Tab} (h : goodB T = true) {B : List Nat} (hB : ∀ c ∈ B, RuneN c) : ∀ x ∈ openF T B, RuneN x ∧ isOp T x := by
  intro x hx
  obtain ⟨c, hc, hx⟩ := List.mem_flatMap.1 hx
  obtain ⟨b, ms, e, _, _, h3, _⟩ := opN_facts h (hB c hc)
  rw [e] at hx
  exact h3 x hx
theorem openL_all {T : Tab} (h : goodB T = true) {B : List Nat} (hB : ∀ c ∈ B, RuneN c) : ∀ x ∈ openL T B, RuneN x ∧ isOp T x := fun x hx => openF_all h hB x (ord_mem.1 hx)
theorem openL_open {T : Tab} {B : List Nat} (hB : ∀ c ∈ B, isOp T c) (ho : Ordered (clT T) B) : openL T B = B := by
  unfold openL
  rw [openF_open hB, ord_of_ordered ho]
theorem openL_idem {T : Tab} (h : goodB T = true) {B : List Nat} (hB : ∀ c ∈ B, RuneN c) : openL T (openL T B) = openL T B := openL_open (fun c hc => (openL_all h hB c hc).2) (ord_ordered _)
theorem openF_len {T : Tab} (h : goodB T = true) : ∀ {B : List Nat}, (∀ c ∈ B, RuneN c) → B.length ≤ (openF T B).length ∧ (openF T B).length ≤ 6 * B.length
  | [], _ => by simp [openF]
  | c :: B, hB => by
    have ih := openF_len (T := T) h (B := B) fun x hx => hB x (by simp [hx])
    obtain ⟨b, ms, e, _, _, _, h4, _⟩ := opN_facts h (hB c (by simp))
    unfold openF at ih ⊢
    rw [List.flatMap_cons, e]
    simp only [List.length_append, List.length_cons]
    omega
theorem openF_append {T : Tab} (A B : List Nat) : openF T (A ++ B) = openF T A ++ openF T B := by simp [openF]
theorem openL_cut {T : Tab} (h : goodB T = true) {A B : List Nat} (hB : ∀ c ∈ B, RuneN c) (hc : ∀ c, B.head? = some c → clT T c ≤ 0) : openL T (A ++ B) = openL T A ++ openL T B := by
  unfold openL
  rw [openF_append]
  cases B with
  | nil => simp [openF, ord_nil]
  | cons c B =>
    obtain ⟨b, ms, e, h1, _⟩ := opN_facts h (hB c (by simp))
    refine ord_append (.inr (.inr (.inr ⟨b, ms ++ openF T B, ?_, ?_⟩)))
    · unfold openF
      rw [List.flatMap_cons, e]
      rfl
    · have := hc c rfl
      omega
theorem openB_runes {T : Tab} (h : goodB T = true) (l : Bytes) : runesB (openB T l) = openL T (runesB l) := runesB_of_encs fun c hc => (openL_all h (runesB_rune l) c hc).1
theorem openB_idem {T : Tab} (h : goodB T = true) (l : Bytes) : openB T (openB T l) = openB T l := by
  show encs (openL T (runesB (openB T l))) = _
  rw [openB_runes h, openL_idem h (runesB_rune l)]
  rfl
def badP (x : Nat × Nat) : Prop := x.1 = 65533 ∧ x.2 = 1
instance (x : Nat × Nat) : Decidable (badP x) := by unfold badP; infer_instance
theorem scanL_end {α β : Type} {l : List α} {g : Nat → α → Option β} (h : ∀ i (hi : i < l.length), g i l[i] = none) : scanL l g = none := scan_end fun j hj => by rw [List.getElem?_eq_getElem hj]; exact h j hj
theorem runesB_get {l : Bytes} {i : Nat} (hi : i < (spots l).length) : (runesB l)[i]'(by rw [runesB_len]; exact hi) = ((spots l)[i]).1 := by simp [runesB]
end Go.Proofs.YtfiaggbgplmmeaaGreatDoor.AM
namespace Go.Proofs.YtfiaggbgplmmeaaGreatDoor.AM
open Go
section
variable {p : Prg} {lc : Lc} {h : AH} {H : Value → Lc → AH → Prop}
theorem wo_appO {e by' : Nat} {s : Sl} {y : Value} {xss yss : List (List Value)} {k : Nat} (o : Own h e s xss) (hk : lenV y = some k) (hy : rdSlice ⟨lc, h⟩ e y = some yss.flatten)
    (hyl : yss.length = k) (hye : ∀ x ∈ yss, x.length = e) (k0 : 0 < k) (he : 0 < e) (hb : 0 < by') (hn : (xss.length + k) * by' ≤ 140737488355328)
    (hq : ∀ s' h', Own h' e s' (xss ++ yss) → s'.blk = some h.n → h'.n = h.n + 1 → (∀ b, b < h.n → s.blk ≠ some b → h'.get b = h.get b) → H (s'.val e) lc h') : WpO p (.e (.append e by' (.s 0) (.s 1))) [s.val e, y] lc h H := by
  obtain ⟨s', h', h1, h2, h3, h4, h5⟩ := own_append o hk hy hyl hye k0 he hb hn
  exact wo_e (by simp only [EOp.ev, opd_s, fg0, fg1, h1]) (hq s' h' h2 h3 h4 h5)
theorem wo_app1O {e by' b : Nat} {s : Sl} {xss : List (List Value)} {cs : List Value} (o : Own h e s xss) (hl : lget lc b = some (.cells false cs)) (hc : cs.length = e) (he : 0 < e) (hb : 0 < by') (hn : (xss.length + 1) * by' ≤ 140737488355328)
    (hq : ∀ s' h', Own h' e s' (xss ++ [cs]) → s'.blk = some h.n → h'.n = h.n + 1 → (∀ b, b < h.n → s.blk ≠ some b → h'.get b = h.get b) → H (s'.val e) lc h') : WpO p (.e (.append e by' (.s 0) (.s 1))) [s.val e, .slice (some ⟨b, 0, some 1⟩) 1 e] lc h H := by
  refine wo_appO (yss := [cs]) (k := 1) o rfl ?_ rfl (fun x hx => by rw [List.mem_singleton.1 hx]; exact hc) (by decide) he hb hn hq
  simp only [rdSlice, Nat.one_ne_zero, if_false, Nat.one_mul, rd_loc, hl, List.flatten_cons, List.flatten_nil, List.append_nil]
  rw [if_pos (by omega), List.drop_zero, ← hc, List.take_length]
end
end Go.Proofs.YtfiaggbgplmmeaaGreatDoor.AM
namespace Go.Proofs.YtfiaggbgplmmeaaGreatDoor.AM
open Go
def LF_open_Rune : LFunc :=
  .mk 2 [.tmp 4] (.seq (R 2 [1, 2] [.tmp 2 (xbh 1 (.sl 0)), .set 4 (.cv (.slice none 0 0))]) (.seq (.seq (R 7 [1, 2, 8] [.tmp 8 (.op (.p (.eqk false .ptr (.s 0) (.s 1))) (.cons (xld
  (.sl 2)) (.cv (.pointer none))))]) (.cond (.s 8) (.seq (R 999 [4] [.set 4 (.cv (.slice none 0 0))]) .ret) .skip)) (.seq (R 5 [1, 2, 5] [.tmp 5 (xnh [.slice none 0 0])]) (.seq (R 6
  [1, 2, 5, 6] [.tmp 6 (xnh [.nilFunc])]) (.seq (R 9 [1, 5, 6] [.run (xst 1 (.sl 6) (.op (.p (.mkfn (.func 45) [] [.s 0, .s 1, .s 2])) (.cons (.sl 2) (.cons (.sl 5)
  (.sl 6)))))]) (.seq (R 10 [5] [.tmp 12 (xv1 (xld (.sl 6)) (.va 1))]) (.seq (R 13 [4] [.set 4 (xld (.sl 5))]) .ret)))))))
theorem fn_open_Rune : (autoPrg Tryz.prog).fn 15 = some LF_open_Rune := by kernel_rfl
def LF_open_Rune_1 : LFunc :=
  .mk 4 [] (.seq (R 9 [0, 2, 3, 5, 6, 7] [.set 8 (xc2 29 (xld (.sl 1)) (.va 0)), .tmp 12 (xex 0 (.sl 8)), .tmp 13 (xex 1 (.sl 8)), .tmp 14 (xex 2 (.sl 8)), .set
  5 (.sl 12), .set 6 (.sl 13), .set 7 (.sl 14)]) (.seq (.seq (R 15 [0, 2, 3, 5, 6, 16] [.tmp 16 (xu .not (.va 7))]) (.cond (.s 16) (.seq (R 17 [] [.run (xst 1 (.sl 2) (xap 1 4 (xld
  (.sl 2)) (.op (.e (.litL 19 1 1 [.int .i32 0] [(0, 1, .s 0)])) (.va 0))))]) .ret) .skip)) (.seq (R 21 [2, 6] [.tmp 23 (xv1 (xld (.sl 3)) (.va 5))]) (R 24 [] [.run (xst 1 (.sl 2)
  (xap 1 4 (xld (.sl 2)) (.op (.e (.litL 26 1 1 [.int .i32 0] [(0, 1, .s 0)])) (.va 6))))]))))
theorem fn_open_Rune_1 : (autoPrg Tryz.prog).fn 45 = some LF_open_Rune_1 := by kernel_rfl
def LF_guiseref9_Pair : LFunc :=
  .mk 2 [.tmp 4, .tmp 5, .tmp 6] (.seq (R 2 [1, 2] [.tmp 2 (xbl 2 8 (.sl 0)), .set 4 (xr 0), .set 5 (xr 0), .set 6 (.cv (.bool false))]) (.seq (R 8 [2, 7] [.set 7 (xc2
  85 (xln 8 (.sl 2)) (.va 1))]) (.seq (.seq (R 11 [2, 7, 12] [.tmp 12 (xb .lss (.va 7) (xi 0))]) (.cond (.s 12) (.seq (R 999 [4, 5, 6] [.set 4 (xr 0), .set 5 (xr
  0), .set 6 (.cv (.bool false))]) .ret) .skip)) (.seq (R 13 [4, 5, 6] [.tmp 18 (xld (xfa 1 (xia 3 (xld (xfa 3 (.sl 2))) (.va 7)))), .tmp 24 (xld (xfa 2 (xia 3 (xld (xfa 3 (.sl 2)))
  (.va 7)))), .set 4 (.sl 18), .set 5 (.sl 24), .set 6 (.cv (.bool true))]) .ret))))
theorem fn_guiseref9_Pair : (autoPrg Tryz.prog).fn 51 = some LF_guiseref9_Pair := by kernel_rfl
def LF_guiseref9_Rune : LFunc :=
  .mk 2 [.tmp 4] (.seq (R 2 [1, 2] [.tmp 2 (xbl 2 8 (.sl 0)), .set 4 (.cv (.slice none 0 0))]) (.seq (R 9 [2, 5] [.set 5 (.op (.e (.litH 1 1 [.int .i32 0] [(0, 1, .s 0)])) (.va
  1))]) (.block 0 (.loop (.block 1 (.seq (R 12 [2, 5, 6, 7, 8] [.set 11 (xc2 51 (xln 8 (.sl 2)) (xld (xia 1 (.va 5) (xi 0)))), .tmp 17 (xex 0 (.sl 11)), .tmp 18 (xex
  1 (.sl 11)), .tmp 19 (xex 2 (.sl 11)), .set 6 (.sl 17), .set 7 (.sl 18), .set 8 (.sl 19)]) (.seq (.seq (R 20 [2, 5, 6, 7, 21] [.tmp 21 (xu .not (.va 8))]) (.cond (.s 21) (.seq (R
  22 [4] [.set 4 (.va 5)]) .ret) .skip)) (R 23 [2, 5] [.set 5 (xap 1 4 (.op (.e (.litH 2 1 [.int .i32 0] [(0, 1, .s 0), (1, 1, .s 1)])) (.cons (.va 6) (.va 7))) (.op (.p (.sl 1 (.s
  0) (some (.s 1)) none none)) (.cons (.va 5) (xi 1))))]))))))))
theorem fn_guiseref9_Rune : (autoPrg Tryz.prog).fn 53 = some LF_guiseref9_Rune := by kernel_rfl
def LF_open_Open : LFunc :=
  .mk 2 [.tmp 4] (.seq (R 999 [0, 1] [.set 4 (.cv (.string ⟨#[]⟩))]) (.seq (.seq (R 8 [0, 1, 9] [.tmp 9 (.op (.p (.eqk false .ptr (.s 0) (.s 1))) (.cons (.va 0) (.cv (.pointer
  none))))]) (.cond (.s 9) (.seq (R 999 [4] [.set 4 (.cv (.string ⟨#[]⟩))]) .ret) .skip)) (.seq (R 999 [0, 1, 5] [.set 5 (.cv (.slice none 0 0))]) (.seq (.seq (R 10 [0, 5, 11] [.tmp
  11 (.op (.e (.rngS 11 (.s 0))) (.va 1))]) (.block 0 (.loop (.seq (R 12 [0, 5, 11, 12, 13] [.tmp 12 (.op (.e (.nxtS (.s 0))) (.sl 11)), .tmp 13 (xex 0 (.sl 12))]) (.seq (.cond (.s
  13) .skip (.exit 0)) (.block 1 (.seq (R 14 [0, 5, 7, 11] [.set 7 (xex 2 (.sl 12))]) (R 15 [0, 5, 11] [.set 5 (xap 1 4 (.va 5) (xc2 15 (.va 0) (.va 7)))])))))))) (.seq
  (R 20 [4] [.set 4 (xc2 48 (.va 0) (.op (.r (.r2s (.s 0))) (.va 5)))]) .ret)))))
theorem fn_open_Open : (autoPrg Tryz.prog).fn 19 = some LF_open_Open := by kernel_rfl
def LF_tables_Book_Pair : LFunc :=
  .mk 2 [.tmp 4, .tmp 5, .tmp 6] (.seq (R 999 [0, 1] [.set 4 (xr 0), .set 5 (xr 0), .set 6 (.cv (.bool false))]) (.seq (R 9 [6, 7] [.set 8 (.op (.r (.lookup (.one .int) (.agg
  (Array.mk [.int .i32 0, .int .i32 0])) true (.s 0) (.s 1))) (.cons (xld (xfa 9 (xnk (.va 0)))) (.va 1))), .tmp 15 (xex 0 (.sl 8)), .tmp 16 (xex 1 (.sl 8)), .at 7, .tmp 7 (xnl 7
  [.int .i32 0, .int .i32 0]), .run (xst 2 (.sl 7) (.sl 15)), .set 6 (.sl 16)]) (.seq (R 17 [4, 5, 6] [.tmp 18 (xld (.op (.p (.iaddrA 2 1 (.s 0) (.s 1))) (.cons (.sl 7) (xi 0)))),
  .tmp 20 (xld (.op (.p (.iaddrA 2 1 (.s 0) (.s 1))) (.cons (.sl 7) (xi 1)))), .tmp 21 (.va 6), .set 4 (.sl 18), .set 5 (.sl 20), .set 6 (.sl 21)]) .ret)))
theorem fn_tables_Book_Pair : (autoPrg Tryz.prog).fn 29 = some LF_tables_Book_Pair := by kernel_rfl
end Go.Proofs.YtfiaggbgplmmeaaGreatDoor.AM
namespace Go.Proofs.YtfiaggbgplmmeaaGreatDoor.AM
open Go
def prV : Option (Int × Int) → Value
  | some (b, m) => .tuple (List.toArray [.int .i32 b, .int .i32 m, .bool true])
  | none => .tuple (List.toArray [.int .i32 0, .int .i32 0, .bool false])
theorem bookPair_eq {h : AH} {k B : Nat} {s6 : Sl} {T : Tab} (bk : BkAt h k B s6 T) (r : Int) : callO PX 29 [.pointer (some ⟨k, 0, none⟩), .int .i32 r] h = some (prV (pairI T r), h) := by
  obtain ⟨x0, x1, x2, x3, x4, x5, x7, hb⟩ := bk.b
  have m2 := m_whole bk.mp r
  unfold pairI
  cases hw : wholeO T r with
  | none =>
    rw [hw] at m2
    simp only [Option.map_none, Option.getD_none, Option.isSome_none] at m2
    simp only [Option.map_none, prV]
    apply WpC.eqn
    refine wpc_fn (px_ext rfl) (px_fn fn_tables_Book_Pair) rfl ?_
    unfold LF_tables_Book_Pair
    simp only [argFr]
    (refine W_x (Aj hb m2) ?_; (repeat' first | apply Cj.mk | exact Nl.nl) <;> intros)
    exact ⟨rfl, rfl⟩
  | some j =>
    rw [hw] at m2
    simp only [Option.map_some, Option.getD_some, Option.isSome_some] at m2
    unfold rowP kP at m2
    rw [Option.map_some]
    generalize (T.pairs.getD j (0, 0, 0)).2 = x at m2 ⊢
    obtain ⟨a, c⟩ := x
    simp only [prV] at m2 ⊢
    apply WpC.eqn
    refine wpc_fn (px_ext rfl) (px_fn fn_tables_Book_Pair) rfl ?_
    unfold LF_tables_Book_Pair
    simp only [argFr]
    (refine W_x (Aj hb m2) ?_; (repeat' first | apply Cj.mk | exact Nl.nl) <;> intros)
    exact ⟨rfl, rfl⟩
theorem refPair_eq {S : TS} {T : Tab} {h : AH} (t : TabAt h S T) (r : Int) : callO PX 51 [.agg S.vs.toArray, .int .i32 r] h = some (prV (pairI T r), h) := by
  have e1 := whole6_eq t r
  have hn := t.fits.n3
  unfold pairI
  unfold TS.vs at e1 ⊢
  cases hw : wholeO T r with
  | none =>
    rw [hw] at e1
    simp only [ixI] at e1
    simp only [Option.map_none, prV]
    apply WpC.eqn
    refine wpc_fn (px_ext rfl) (px_fn fn_guiseref9_Pair) rfl ?_
    unfold LF_guiseref9_Pair
    simp only [argFr]
    (refine W_x e1 ?_; (repeat' first | apply Cj.mk | exact Nl.nl) <;> intros)
    exact ⟨rfl, rfl⟩
  | some j =>
    rw [hw] at e1
    simp only [ixI] at e1
    simp only [Option.map_some, prV]
    obtain ⟨hj, _⟩ := whole_mem hw
    have hg : T.pairs.getD j (0, 0, 0) = T.pairs[j] := by simp [List.getD_eq_getElem?_getD, List.getElem?_eq_getElem hj]
    rw [hg]
    have hs := t.r3.len
    have g1 := fun lc => rd_mapc (lc := lc) t.r3 hj (k := 1) (by decide)
    have g2 := fun lc => rd_mapc (lc := lc) t.r3 hj (k := 2) (by decide)
    generalize T.pairs[j] = x at g1 g2 ⊢
    obtain ⟨w, a, c⟩ := x
    unfold tripV at g1 g2
    apply WpC.eqn
    refine wpc_fn (px_ext rfl) (px_fn fn_guiseref9_Pair) rfl ?_
    unfold LF_guiseref9_Pair
    simp only [argFr]
    (refine W_x (Aj e1 (Aj hs (Aj g1 g2))) ?_; (repeat' first | apply Cj.mk | exact Nl.nl) <;> intros)
    exact ⟨rfl, rfl⟩
abbrev rI (c : Int) : List Value := [.int .i32 c]
def apF (h : AH) : Value := .func (.func 45) #[] #[.pointer (some ⟨h.n, 0, none⟩), .pointer (some ⟨h.n + 1, 0, none⟩), .pointer (some ⟨h.n + 2, 0, none⟩)]
structure ApI (h : AH) (k : Nat) (g : AH) (s : Sl) (D : List (List Value)) : Prop where
  kp : Kp h g
  n : h.n + 3 ≤ g.n
  b0 : g.get h.n = some (.cells false [.pointer (some ⟨k, 0, none⟩)])
  b1 : g.get (h.n + 1) = some (.cells false [s.val 1])
  b2 : g.get (h.n + 2) = some (.cells false [apF h])
  own : Own g 1 s D
  new : ∀ b, s.blk = some b → h.n + 3 ≤ b
theorem ApI.put {h g g' : AH} {k : Nat} {s s' : Sl} {D D' : List (List Value)} (i : ApI h k g s D) (o : Own g' 1 s' D') (hb : s'.blk = some g.n) (hn : g'.n = g.n + 1) (hk : ∀ b, b < g.n → s.blk ≠ some b → g'.get b = g.get b) :
    ApI h k (g'.set (h.n + 1) (.cells false [s'.val 1])) s' D' := by
  have hn3 := i.n
  have hs : ∀ b, b < h.n + 3 → g'.get b = g.get b := fun b hb => hk b (by omega) fun e => by have := i.new b e; omega
  refine ⟨⟨by have := i.kp.1; rw [AH.set_n]; omega, fun b hb => ?_⟩, by rw [AH.set_n]; omega, ?_, AH.get_set_same _ (by omega), ?_, o.same fun b hb2 => ?_, fun b hb2 => ?_⟩
  · rw [AH.get_set_ne _ (by omega), hs b (by omega), i.kp.2 b hb]
  · rw [AH.get_set_ne _ (by omega), hs _ (by omega)]; exact i.b0
  · rw [AH.get_set_ne _ (by omega), hs _ (by omega)]; exact i.b2
  · rw [hb] at hb2; injection hb2 with hb2; exact AH.get_set_ne _ (by omega)
  · rw [hb] at hb2; injection hb2 with hb2; omega
theorem apart_spec {h : AH} {k B : Nat} {s6 : Sl} {T : Tab} (bk : BkAt h k B s6 T) {r : Int} {L : List Int} (op : Op T r L) : ∀ (g : AH) (s : Sl) (D : List (List Value)), ApI h k g s D → D.length + L.length ≤ 1000000 →
    WpC PX 45 [.int .i32 r, .pointer (some ⟨h.n, 0, none⟩), .pointer (some ⟨h.n + 1, 0, none⟩), .pointer (some ⟨h.n + 2, 0, none⟩)] g fun _ g' => ∃ s', ApI h k g' s' (D ++ L.map rI) := by
  induction op with
  | @one r hp =>
    intro g s D i hD
    have e1 := bookPair_eq (bk.kp i.kp) r
    rw [hp] at e1
    simp only [prV] at e1
    have q0 := i.b0
    have q1 := i.b1
    refine wpc_fn (px_ext rfl) (px_fn fn_open_Rune_1) rfl ?_
    unfold LF_open_Rune_1
    simp only [argFr]
    (refine W_x (Aj e1 (Aj q0 q1)) ?_; (repeat' first | apply Cj.mk | exact Nl.nl) <;> intros)
    refine wo_app1O (cs := rI r) i.own rfl rfl (by decide) (by decide) (by simp at hD; omega) fun s' g' o hb hn hk => ?_
    have i2 := i.put o hb hn hk
    have hg1 : g'.get (h.n + 1) = some (.cells false [s.val 1]) := (hk _ (by have := i.n; omega) fun e => by have := i.new _ e; omega).trans i.b1
    (refine W_x hg1 ?_; (repeat' first | apply Cj.mk | exact Nl.nl) <;> intros)
    exact ⟨s', i2⟩
  | @more r b m L hp _ ih =>
    intro g s D i hD
    rw [List.length_append, List.length_singleton] at hD
    have e1 := bookPair_eq (bk.kp i.kp) r
    rw [hp] at e1
    simp only [prV] at e1
    have q0 := i.b0
    have q2 := i.b2
    unfold apF at q2
    obtain ⟨v, g1, e2, s1, i1⟩ := ih g s D i (by omega)
    have p1 := i1.b1
    refine wpc_fn (px_ext rfl) (px_fn fn_open_Rune_1) rfl ?_
    unfold LF_open_Rune_1
    simp only [argFr]
    (refine W_x (Aj e1 (Aj e2 (Aj q0 (Aj q2 p1)))) ?_; (repeat' first | apply Cj.mk | exact Nl.nl) <;> intros)
    refine wo_app1O (cs := rI m) i1.own rfl rfl (by decide) (by decide) (by rw [List.length_append, List.length_map]; omega) fun s' g' o hb hn hk => ?_
    have i2 := i1.put o hb hn hk
    have hg1 : g'.get (h.n + 1) = some (.cells false [s1.val 1]) := (hk _ (by have := i1.n; omega) fun e => by have := i1.new _ e; omega).trans i1.b1
    (refine W_x hg1 ?_; (repeat' first | apply Cj.mk | exact Nl.nl) <;> intros)
    refine ⟨s', ?_⟩
    rw [List.map_append, ← List.append_assoc]
    exact i2
theorem openRune_spec {h : AH} {k B : Nat} {s6 : Sl} {T : Tab} (gd : goodB T = true) (bk : BkAt h k B s6 T) (r : Int) : WpC PX 15 [.pointer (some ⟨k, 0, none⟩), .int .i32 r] h fun v h' => ∃ sl, v = sl.val 1 ∧ FOwn h h' 1 sl ((opI T 5 r).map rI) := by
  have hop := op_all gd r
  have hl := op_len (T := T) 5 r
  have i0 : ApI h k ((((h.push (.cells false [.pointer (some ⟨k, 0, none⟩)])).push (.cells false [.slice none 0 0])).push (.cells false [.nilFunc])).set (h.n + 2) (.cells false [apF h])) .nil [] := by
    refine ⟨(((Kp.refl h).push _).push _ |>.push _).setNew _ (by omega), Nat.le_refl _, ?_, ?_, ?_, ⟨rfl, by simp, trivial⟩, fun b hb => by cases hb⟩
    · simp (disch := first | omega | (simp only [AH.nn_push, AH.nn_set, AH.nn_kill]; omega) | (simp only [AH.nn_push, AH.nn_set, AH.nn_kill]; done) | fail) only [AH.get_push_eq, AH.get_push_ne, AH.get_set_eq, AH.get_set_ne, AH.push_n]
    · rw [AH.get_set_ne _ (by omega), AH.get_push_ne _ (by simp only [AH.push_n]; omega)]
      exact AH.get_push_same (h.push _) _
    · exact AH.get_set_same _ (by simp only [AH.push_n]; omega)
  obtain ⟨v, g, e, s', i1⟩ := apart_spec bk (op_all gd r) _ _ _ i0 (by simp only [List.length_nil]; omega)
  have q1 := i1.b1
  have na := Nat.add_assoc
  have vf : ∀ f a b, vcells (.func f a b) = [.func f a b] := fun _ _ _ => rfl
  unfold apF at e
  refine wpc_fn (px_ext rfl) (px_fn fn_open_Rune) rfl ?_
  unfold LF_open_Rune
  simp only [argFr]
  (refine W_x (Aj na (Aj vf (Aj e q1))) ?_; (repeat' first | apply Cj.mk | exact Nl.nl) <;> intros)
  exact ⟨s', rfl, i1.own, i1.kp, fun b hb => by have := i1.new b hb; omega⟩
theorem FOwn.later {h0 h h' : AH} {e : Nat} {s : Sl} {xss : List (List Value)} (f : FOwn h0 h e s xss) (k : Kp h h') : FOwn h0 h' e s xss := ⟨f.own.keep fun b hb => k.2 b (f.own.lt hb), f.kp.trans k, f.new⟩
theorem refRune_spec {S : TS} {T : Tab} {h : AH} (gd : goodB T = true) (t : TabAt h S T) (r : Int) : WpC PX 53 [.agg S.vs.toArray, .int .i32 r] h fun v h' => ∃ sl, v = sl.val 1 ∧ FOwn h h' 1 sl ((opI T 5 r).map rI) := by
  have hop := op_all gd r
  have hl := op_len (T := T) 5 r
  generalize hM : opI T 5 r = M at *
  refine wpc_fn (px_ext rfl) (px_fn fn_guiseref9_Rune) rfl ?_
  unfold LF_guiseref9_Rune
  simp only [argFr]
  unfold TS.vs
  (refine W_x trivial ?_; (repeat' first | apply Cj.mk | exact Nl.nl) <;> intros)
  have f0 : FOwn h (h.push (.cells false [.int .i32 r])) 1 (.at h.n 0 1) [rI r] := ⟨⟨rfl, by simp, [], AH.get_push_same _ _, rfl⟩, (Kp.refl h).push _, fun b hb => by injection hb with hb; omega⟩
  generalize h.push (.cells false [.int .i32 r]) = g0 at f0 ⊢
  refine wp_loop (fun w fr lc g => ∃ (c : Int) (ms L : List Int) (sl : Sl), w = L.length ∧ Op T c L ∧ L ++ ms = M ∧ FOwn h g 1 sl ((c :: ms).map rI) ∧ fr = [(2, .pointer (some ⟨4, 0, some 1⟩)), (5, sl.val 1)] ∧
    lc = [(4, .cells false [S.s0.val 2, S.s1.val 2, S.s2.val 2, S.s3.val 3, S.s4.val 2, S.s5.val 2, S.s6.val 2, S.s7.val 2])]) M.length ⟨r, [], M, .at h.n 0 1, rfl, hop, by simp, f0, rfl, rfl⟩ ?_
  rintro w fr lc g ⟨c, ms, L, sl, rfl, op, hLm, fo, rfl, rfl⟩
  have sll := fo.own.1
  rw [List.length_map, List.length_cons] at sll
  have g1 := fun lc => rd_map (lc := lc) fo.reads (i := 0) (by simp)
  simp only [List.getElem_cons_zero] at g1
  have e1 := refPair_eq (t.kp fo.kp) c
  unfold TS.vs at e1
  cases op with
  | one hp =>
    rw [hp] at e1
    simp only [prV] at e1
    (refine W_x (Aj sll (Aj g1 e1)) ?_; (repeat' first | apply Cj.mk | exact Nl.nl) <;> intros)
    refine ⟨sl, rfl, ?_⟩
    rw [← hLm]
    exact fo
  | @more _ b m L hp op =>
    rw [hp] at e1
    simp only [prV] at e1
    have hlen := congrArg List.length hLm
    rw [List.length_append, List.length_append, List.length_singleton] at hlen
    (refine W_x (Aj sll (Aj g1 e1)) ?_; (repeat' first | apply Cj.mk | exact Nl.nl) <;> intros)
    have rdd := (fo.reads (h := g)).drop (k := 1) (by simp)
    have f1 : FOwn h (g.push (.cells false [.int .i32 b, .int .i32 m])) 1 (.at g.n 0 2) [rI b, rI m] := ⟨⟨rfl, by simp, [], AH.get_push_same _ _, rfl⟩, fo.kp.push _, fun x hx => by injection hx with hx; have := fo.kp.1; omega⟩
    have rd2 := rdd.kp ((Kp.refl g).push (.cells false [.int .i32 b, .int .i32 m]))
    refine wo_appL (s := .at g.n 0 2) f1 rd2 (by decide) (by decide) (by simp; omega) fun s3 h3 f3 => ?_
    (refine W_x trivial ?_; (repeat' first | apply Cj.mk | exact Nl.nl) <;> intros)
    exact ⟨_, by rw [List.length_append, List.length_singleton]; omega, b, m :: ms, L, s3, rfl, op, by rw [← hLm]; simp, by simpa using f3, rfl, rfl⟩
end Go.Proofs.YtfiaggbgplmmeaaGreatDoor.AM
namespace Go.Proofs.YtfiaggbgplmmeaaGreatDoor.AM
open Go
theorem rI_rnV {T : Tab} (gd : goodB T = true) {c : Nat} (hc : RuneN c) : (opI T 5 (c : Int)).map rI = (opN T c).map rnV := by
  rw [← (opN_cast gd hc).1, List.map_map]
  rfl
theorem openF_snoc {T : Tab} {B : List Nat} {i : Nat} (hi : i < B.length) : openF T (B.take (i + 1)) = openF T (B.take i) ++ opN T B[i] := by
  rw [take_snoc hi, openF_append]
  simp [openF]
theorem openF_take_len {T : Tab} (gd : goodB T = true) {B : List Nat} (hB : ∀ c ∈ B, RuneN c) (i : Nat) : (openF T (B.take i)).length ≤ 6 * B.length := by
  have := (openF_len gd (B := B.take i) fun c hc => hB c (List.mem_of_mem_take hc)).2
  rw [List.length_take] at this
  omega
theorem openOpen_spec {h : AH} {k B : Nat} {s6 : Sl} {T : Tab} (gd : goodB T = true) (bk : BkAt h k B s6 T) (s : ByteArray) (hs : s.size ≤ 1048576) : WpC PX 19 [.pointer (some ⟨k, 0, none⟩), .string s] h fun v h' => v = .string (bs (openB T s.data.toList)) ∧ Kp h h' := by
  have hz : s.data.toList.length = s.size := rfl
  have hn := spots_len s.data.toList
  have hrl := runesB_len s.data.toList
  have hrr := runesB_rune s.data.toList
  refine wpc_fn (px_ext rfl) (px_fn fn_open_Open) rfl ?_
  unfold LF_open_Open
  simp only [argFr]
  (refine W_x @ev_rngS ?_; (repeat' first | apply Cj.mk | exact Nl.nl) <;> intros)
  refine wp_spotsS (fun i sl => [(0, .pointer (some ⟨k, 0, none⟩)), (5, sl.val 1), (11, .pointer (some ⟨22, 0, some 1⟩))]) (fun n _ => [(22, .siter s n)]) s s.data.toList (fun i sl h' => FOwn h h' 1 sl ((openF T ((runesB s.data.toList).take i)).map rnV)) (fun _ _ => (none : Option Unit)) Sl.nil rfl (by repeat' first | exact True.intro | refine And.intro rfl ?_) (fun _ _ => rfl) rfl (by simpa [openF] using FOwn.nil (Kp.refl h))
    (fun i hi sl h1 fo hit => ?_) fun sl h1 fo fin => ?_
  · (refine W_x trivial ?_; (repeat' first | apply Cj.mk | exact Nl.nl) <;> intros)
    refine wo_next rfl rfl hi ?_
    have hi2 : i < (runesB s.data.toList).length := by omega
    have hx := runesB_get hi
    have hr := hrr _ (List.getElem_mem hi2)
    have hsn := openF_snoc (T := T) hi2
    have hle := openF_take_len gd hrr i
    rw [hx] at hr hsn
    generalize (spots s.data.toList)[i] = x at hr hsn
    obtain ⟨_, g, e, s2, rfl, f2⟩ := openRune_spec gd (bk.kp fo.kp) (x.1 : Nat)
    rw [rI_rnV gd hr] at f2
    obtain ⟨b0, ms, q1, _, _, _, q5, _⟩ := opN_facts gd hr
    (refine W_x e ?_; (repeat' first | apply Cj.mk | exact Nl.nl) <;> intros)
    refine wo_appL (fo.later f2.kp) f2.reads (by decide) (by decide) (by rw [List.length_map, List.length_map, q1, List.length_cons]; omega) fun s3 h3 f3 => ?_
    (refine W_x trivial ?_; (repeat' first | apply Cj.mk | exact Nl.nl) <;> intros)
    refine ⟨rfl, s3, (by repeat' first | exact True.intro | refine And.intro rfl ?_), rfl, ?_⟩
    rw [hsn, List.map_append]
    exact f3
  · (refine W_x trivial ?_; (repeat' first | apply Cj.mk | exact Nl.nl) <;> intros)
    refine wo_nextE rfl rfl ?_
    rw [← hrl, List.take_length] at fo
    have hF := openF_all gd hrr
    have hl := openF_len gd hrr
    have hg := fun lc => r2s_own (lc := lc) fo.own fun x hx => (hF x hx).1
    have hsz := encs_lenle (openF T (runesB s.data.toList))
    obtain ⟨_, g2, e2, rfl, k2⟩ := marksOrder_spec (bk.kp fo.kp) (bs (encs (openF T (runesB s.data.toList)))) (by rw [bs_size]; omega)
    rw [bs_l, orderB_encs T fun x hx => (hF x hx).1] at e2
    (refine W_x (Aj hg e2) ?_; (repeat' first | apply Cj.mk | exact Nl.nl) <;> intros)
    exact ⟨rfl, fo.kp.trans k2⟩
end Go.Proofs.YtfiaggbgplmmeaaGreatDoor.AM
namespace Go.Proofs.YtfiaggbgplmmeaaGreatDoor.AM
open Go
def LF_guiseref8_Bad : LFunc :=
  .mk 2 [.tmp 4] (.seq (R 999 [0, 1] [.set 4 (.cv (.bool false))]) (.seq (.seq (R 7 [0, 1, 10] [.tmp 10 (.op (.e (.rngS 10 (.s 0))) (.op (.p (.slS (.s 0) (some (.s 1)) none)) (.cons
  (.va 0) (.va 1))))]) (.block 0 (.loop (.seq (R 11 [0, 1, 11, 12] [.tmp 11 (.op (.e (.nxtS (.s 0))) (.sl 10)), .tmp 12 (xex 0 (.sl 11))]) (.seq (.cond (.s 12) .skip (.exit 0))
  (.block 1 (.seq (R 13 [0, 1, 6] [.set 6 (xex 2 (.sl 11))]) (.seq (R 14 [4] [.set 4 (.and (xb .eql (.va 6) (xr 65533)) (.or (xb .lss (xb .sub (xsl (.va 0)) (.va 1)) (xi 3)) (xb
  .neq (.op (.p (.slS (.s 0) (some (.s 1)) (some (.s 2)))) (.cons (.va 0) (.cons (.va 1) (xb .add (.va 1) (xi 3))))) (.cv (.string ⟨#[239, 191, 189]⟩)))))]) .ret)))))))) (.seq (R
  999 [4] [.set 4 (.cv (.bool false))]) .ret)))
theorem fn_guiseref8_Bad : (autoPrg Tryz.prog).fn 52 = some LF_guiseref8_Bad := by kernel_rfl
def LF_guiseref9_Open : LFunc :=
  .mk 2 [.tmp 4] (.seq (R 2 [1, 2] [.tmp 2 (xbl 2 8 (.sl 0)), .set 4 (.cv (.slice none 0 0))]) (.seq (R 999 [1, 2, 5] [.set 5 (.cv (.slice none 0 0))]) (.seq (.seq (R 8 [2, 5, 9]
  [.tmp 9 (.op (.e (.rngS 9 (.s 0))) (.va 1))]) (.block 0 (.loop (.seq (R 10 [2, 5, 9, 10, 11] [.tmp 10 (.op (.e (.nxtS (.s 0))) (.sl 9)), .tmp 11 (xex 0 (.sl 10))]) (.seq (.cond
  (.s 11) .skip (.exit 0)) (.block 1 (.seq (R 12 [2, 5, 7, 9] [.set 7 (xex 2 (.sl 10))]) (R 13 [2, 5, 9] [.set 5 (xap 1 4 (.va 5) (xc2 53 (xln 8 (.sl 2)) (.va
  7)))])))))))) (.seq (R 18 [4] [.set 4 (xc2 54 (xln 8 (.sl 2)) (.va 5))]) .ret))))
theorem fn_guiseref9_Open : (autoPrg Tryz.prog).fn 24 = some LF_guiseref9_Open := by kernel_rfl
end Go.Proofs.YtfiaggbgplmmeaaGreatDoor.AM
namespace Go.Proofs.YtfiaggbgplmmeaaGreatDoor.AM
open Go
theorem scanL_hit {α β : Type} {l : List α} {g : Nat → α → Option β} {i : Nat} (hi : i < l.length) (h : ∀ j (hj : j < l.length), j < i → g j l[j] = none) {w : β} (hw : g i l[i] = some w) : scanL l g = some w :=
  scan_hit (fun j hj => by rw [List.getElem?_eq_getElem (by omega)]; exact h j (by omega) hj) hi (by rw [List.getElem?_eq_getElem hi]; exact hw)
theorem isBad_iff (x : Nat × Nat) : isBad2 x = true ↔ badP x := by simp [isBad2, badP]
end Go.Proofs.YtfiaggbgplmmeaaGreatDoor.AM
namespace Go.Proofs.YtfiaggbgplmmeaaGreatDoor.AM
open Go
theorem bad_at {l : Bytes} {i : Nat} (hil : i < (spots l).length) : badP (spots l)[i] ↔ ((spots l)[i]).1 = 65533 ∧ ¬ (3 ≤ l.length - posn l i ∧ (l.drop (posn l i)).take 3 = [239, 191, 189]) := by
  obtain ⟨p1, p2, p3⟩ := posn_lt hil
  have hdc := dec_cases p3
  have e3 : encN 65533 = [239, 191, 189] := by decide
  generalize hx : (spots l)[i] = x at *
  rw [← List.length_drop]
  generalize l.drop (posn l i) = m at *
  unfold badP
  rcases hdc with ⟨c, rest, hc, e1, e2⟩ | ⟨e1, e2⟩
  · rw [p2] at e2
    subst e2
    refine ⟨fun ⟨a, b⟩ => ?_, fun ⟨a, b⟩ => ?_⟩
    · simp only at a b
      subst a
      rw [encN_bad] at b
      cases b
    · simp only at a
      subst a
      exfalso
      apply b
      rw [e1, e3]
      simp
  · rw [p2] at e1
    subst e1
    refine ⟨fun _ => ⟨rfl, fun ⟨a, b⟩ => ?_⟩, fun _ => ⟨rfl, rfl⟩⟩
    refine e2 65533 (m.drop 3) rune_bad ?_
    rw [e3, ← b, List.take_append_drop]
theorem bad_eq (s : ByteArray) (hs : s.size ≤ 1048576) {i : Nat} (hil : i < (spots s.data.toList).length) (h : AH) : callO PX 52 [.string s, .int .i64 (posn s.data.toList i)] h = some (.bool (decide (badP (spots s.data.toList)[i])), h) := by
  have hz : s.data.toList.length = s.size := rfl
  obtain ⟨p1, p2, p3⟩ := posn_lt hil
  have hb := bad_at hil
  have hpl : ((posn s.data.toList i : Nat) : Int) ≤ (s.size : Int) := by omega
  have hd := (spots_drop s.data.toList i (by omega)).1
  obtain ⟨z, hze⟩ : ∃ z, z = s.extract (posn s.data.toList i) s.size := ⟨_, rfl⟩
  have hzl : z.data.toList = s.data.toList.drop (posn s.data.toList i) := by
    rw [hze, ba_extract _ _ _ (Nat.le_refl _), ← hz, ← List.length_drop, List.take_length]
  have h0 : 0 < (spots z.data.toList).length := by rw [hzl, hd, List.length_drop]; omega
  have hx0 : (spots z.data.toList)[0] = (spots s.data.toList)[i] := by simp only [hzl, hd, List.getElem_drop, Nat.add_zero]
  apply WpC.eqn
  refine wpc_fn (px_ext rfl) (px_fn fn_guiseref8_Bad) rfl ?_
  unfold LF_guiseref8_Bad
  simp only [argFr]
  (refine W_x (Aj @ev_rngS (Aj hpl hze.symm)) ?_; (repeat' first | apply Cj.mk | exact Nl.nl) <;> intros)
  refine wp_spotsG (fun _ => [(0, .string s), (1, .int .i64 (posn s.data.toList i)), (10, .pointer (some ⟨20, 0, some 1⟩))]) 20 z z.data.toList (fun j h' => j = 0 ∧ h' = h)
    (fun _ _ => (none : Option Unit)) rfl (by repeat' first | exact True.intro | refine And.intro rfl ?_) (fun _ => rfl) (by intro n; simp only [setL, push_cast, Nat.reduceEqDiff, ↓reduceIte, reduceCtorEq, Nat.reduceAdd, Nat.reduceMul, Nat.reduceLeDiff]; rfl) rfl ⟨rfl, rfl⟩ (fun j hj h1 hh hit => ?_) fun h1 hh fin => ?_
  · obtain ⟨rfl, rfl⟩ := hh
    (refine W_x trivial ?_; (repeat' first | apply Cj.mk | exact Nl.nl) <;> intros)
    refine wo_next rfl rfl hj ?_
    rw [hx0]
    have hq : posn s.data.toList i + 3 ≤ s.size → (s.extract (posn s.data.toList i) (posn s.data.toList i + 3) = ⟨#[239, 191, 189]⟩ ↔ (s.data.toList.drop (posn s.data.toList i)).take 3 = [239, 191, 189]) := fun h3 => by
      have e : (s.extract (posn s.data.toList i) (posn s.data.toList i + 3)).data.toList = (s.data.toList.drop (posn s.data.toList i)).take 3 := by
        rw [ba_extract _ _ _ (by omega)]
        congr 1
        omega
      rw [← e]
      exact ⟨fun q => by rw [q], fun q => ba_ext q⟩
    rw [hz] at hb
    generalize hx : (spots s.data.toList)[i] = x at *
    generalize posn s.data.toList i = p at *
    have ht : ((p : Int) + 3).toNat = p + 3 := by omega
    by_cases c1 : x.1 = 65533
    · have c1' : (x.1 : Int) = 65533 := by omega
      by_cases c2 : 3 ≤ s.size - p
      · have c3 : (p : Int) + 3 ≤ s.size := by omega
        have hq := hq (by omega)
        by_cases c4 : (s.data.toList.drop p).take 3 = [239, 191, 189]
        · have hd := decide_eq_false (show ¬ badP x from fun q => (hb.1 q).2 ⟨c2, c4⟩)
          have c5 := hq.2 c4
          rw [hd]
          (refine W_x (Aj c1' (Aj c3 (Aj ht c5))) ?_; (repeat' first | apply Cj.mk | exact Nl.nl) <;> intros)
          exact ⟨rfl, rfl⟩
        · have hd := decide_eq_true (show badP x from hb.2 ⟨c1, fun q => c4 q.2⟩)
          have c5 : ¬ s.extract p (p + 3) = ⟨#[239, 191, 189]⟩ := fun q => c4 (hq.1 q)
          rw [hd]
          (refine W_x (Aj c1' (Aj c3 (Aj ht c5))) ?_; (repeat' first | apply Cj.mk | exact Nl.nl) <;> intros)
          exact ⟨rfl, rfl⟩
      · have hd := decide_eq_true (show badP x from hb.2 ⟨c1, fun q => c2 q.1⟩)
        rw [hd]
        (refine W_x c1' ?_; (repeat' first | apply Cj.mk | exact Nl.nl) <;> intros)
        exact ⟨rfl, rfl⟩
    · have hd := decide_eq_false (show ¬ badP x from fun q => c1 (hb.1 q).1)
      have c1' : ¬ (x.1 : Int) = 65533 := by omega
      rw [hd]
      (refine W_x c1' ?_; (repeat' first | apply Cj.mk | exact Nl.nl) <;> intros)
      exact ⟨rfl, rfl⟩
  · exact absurd hh.1 (by omega)
end Go.Proofs.YtfiaggbgplmmeaaGreatDoor.AM
namespace Go.Proofs.YtfiaggbgplmmeaaGreatDoor.AM
open Go
def LFfew : LFunc :=
  .mk 2 [.tmp 4] (.seq (R 999 [0, 1] [.set 4 (.cv (.string ⟨#[]⟩))]) (.seq (.seq (R 5 [0, 1, 8] [.tmp 8 (xb .gtr (xsl (.va 0)) (.va 1))]) (.cond (.s 8) (.seq (R 9 [4] [.set 4 (.op
  (.p (.slS (.s 0) none (some (.s 1)))) (.cons (.va 0) (.va 1)))]) .ret) .skip)) (.seq (R 12 [4] [.set 4 (.va 0)]) .ret)))
theorem fewG_eq {f : FuncId} (hf : PX.fn f = some LFfew) (hx : PX.ext f = none) (s : ByteArray) (hs : s.size ≤ 1048576) {m : Int} (n : Nat) (hm : m = n) (hn : n ≤ 1048576) (h : AH) : callO PX f [.string s, .int .i64 m] h = some (.string (fewB s n), h) := by
  subst hm
  apply WpC.eqn
  refine wpc_fn hx hf rfl ?_
  unfold LFfew
  simp only [argFr]
  unfold fewB
  (refine W_x trivial ?_; (repeat' first | apply Cj.mk | exact Nl.nl) <;> intros)
  · rw [if_pos (by omega)]
    exact ⟨rfl, rfl⟩
  · rw [if_neg (by omega)]
    exact ⟨rfl, rfl⟩
end Go.Proofs.YtfiaggbgplmmeaaGreatDoor.AM
namespace Go.Proofs.YtfiaggbgplmmeaaGreatDoor.AM
open Go
end Go.Proofs.YtfiaggbgplmmeaaGreatDoor.AM
namespace Go.Proofs.YtfiaggbgplmmeaaGreatDoor.AM
open Go
theorem FOwn.older {h0 h1 h : AH} {e : Nat} {s : Sl} {xss : List (List Value)} (f : FOwn h1 h e s xss) (k : Kp h0 h1) : FOwn h0 h e s xss := ⟨f.own, k.trans f.kp, fun b hb => Nat.le_trans k.1 (f.new b hb)⟩
theorem ref9Open_spec {h : AH} {S : TS} {T : Tab} (gd : goodB T = true) (t : TabAt h S T) (s : ByteArray) (hs : s.size ≤ 1048576) : WpC PX 24 [.agg S.vs.toArray, .string s] h fun v h' => ∃ sl, v = sl.val 1 ∧ FOwn h h' 1 sl ((openL T (runesB s.data.toList)).map rnV) := by
  have hz : s.data.toList.length = s.size := rfl
  have hn := spots_len s.data.toList
  have hrl := runesB_len s.data.toList
  have hrr := runesB_rune s.data.toList
  refine wpc_fn (px_ext rfl) (px_fn fn_guiseref9_Open) rfl ?_
  unfold LF_guiseref9_Open
  simp only [argFr]
  unfold TS.vs
  (refine W_x @ev_rngS ?_; (repeat' first | apply Cj.mk | exact Nl.nl) <;> intros)
  refine wp_spotsS (fun i sl => [(2, .pointer (some ⟨4, 0, some 1⟩)), (5, sl.val 1), (9, .pointer (some ⟨18, 0, some 1⟩))]) (fun n _ => [(4, .cells false [S.s0.val 2, S.s1.val 2, S.s2.val 2, S.s3.val 3, S.s4.val 2, S.s5.val 2, S.s6.val 2, S.s7.val 2]), (18, .siter s n)]) s s.data.toList (fun i sl h' => FOwn h h' 1 sl ((openF T ((runesB s.data.toList).take i)).map rnV)) (fun _ _ => (none : Option Unit)) Sl.nil rfl (by repeat' first | exact True.intro | refine And.intro rfl ?_) (fun _ _ => rfl) rfl (by simpa [openF] using FOwn.nil (Kp.refl h))
    (fun i hi sl h1 fo hit => ?_) fun sl h1 fo fin => ?_
  · (refine W_x trivial ?_; (repeat' first | apply Cj.mk | exact Nl.nl) <;> intros)
    refine wo_next rfl rfl hi ?_
    have hi2 : i < (runesB s.data.toList).length := by omega
    have hx := runesB_get hi
    have hr := hrr _ (List.getElem_mem hi2)
    have hsn := openF_snoc (T := T) hi2
    have hle := openF_take_len gd hrr i
    rw [hx] at hr hsn
    generalize (spots s.data.toList)[i] = x at hr hsn
    obtain ⟨_, g, e, s2, rfl, f2⟩ := refRune_spec gd (t.kp fo.kp) (x.1 : Nat)
    rw [rI_rnV gd hr] at f2
    obtain ⟨b0, ms, q1, _, _, _, q5, _⟩ := opN_facts gd hr
    unfold TS.vs at e
    (refine W_x e ?_; (repeat' first | apply Cj.mk | exact Nl.nl) <;> intros)
    refine wo_appL (fo.later f2.kp) f2.reads (by decide) (by decide) (by rw [List.length_map, List.length_map, q1, List.length_cons]; omega) fun s3 h3 f3 => ?_
    (refine W_x trivial ?_; (repeat' first | apply Cj.mk | exact Nl.nl) <;> intros)
    refine ⟨rfl, s3, (by repeat' first | exact True.intro | refine And.intro rfl ?_), rfl, ?_⟩
    rw [hsn, List.map_append]
    exact f3
  · (refine W_x trivial ?_; (repeat' first | apply Cj.mk | exact Nl.nl) <;> intros)
    refine wo_nextE rfl rfl ?_
    rw [← hrl, List.take_length] at fo
    have hl := openF_len gd hrr
    obtain ⟨_, g2, e2, s2, rfl, f2⟩ := ref8Sorted_spec (t.kp fo.kp) fo.reads (by omega)
    unfold TS.vs at e2
    (refine W_x e2 ?_; (repeat' first | apply Cj.mk | exact Nl.nl) <;> intros)
    refine ⟨s2, rfl, ?_⟩
    exact f2.older fo.kp
end Go.Proofs.YtfiaggbgplmmeaaGreatDoor.AM
namespace Go.Proofs.YtfiaggbgplmmeaaGreatDoor.AM
open Go
end Go.Proofs.YtfiaggbgplmmeaaGreatDoor.AM
namespace Go.Proofs.YtfiaggbgplmmeaaGreatDoor.AM
open Go
theorem str_add9 {x y : ByteArray} (h : x.size + y.size ≤ 9223372036854775807) : binA .add (.string x) (.string y) = some (.string (x ++ y)) := if_pos h
theorem bs_append9 (X Y : Bytes) : bs X ++ bs Y = bs (X ++ Y) := ba_ext (by rw [ByteArray.data_append, Array.toList_append, bs_l, bs_l, bs_l])
theorem encs_app9 (A B : List Nat) : encs (A ++ B) = encs A ++ encs B := by simp [encs]
theorem head_cut {l : Bytes} {i : Nat} (hi : i ≤ (spots l).length) : (runesB (l.drop (posn l i))).head? = none ∧ l.drop (posn l i) = [] ∨ ∃ c, (runesB (l.drop (posn l i))).head? = some c ∧ (dec1 (l.drop (posn l i))).1 = c ∧ 0 < (l.drop (posn l i)).length := by
  have hd := runesB_drop hi
  have hl := runesB_len l
  rcases Nat.lt_or_ge i (spots l).length with h | h
  · right
    obtain ⟨p1, p2, p3⟩ := posn_lt h
    refine ⟨((spots l)[i]).1, ?_, by rw [p2], by rw [List.length_drop]; omega⟩
    rw [hd, List.head?_drop, List.getElem?_eq_getElem (by omega), runesB_get h]
  · left
    have : i = (spots l).length := by omega
    subst this
    rw [hd]
    constructor
    · rw [List.drop_of_length_le (by omega)]; rfl
    · rw [posn_all, List.drop_length]
end Go.Proofs.YtfiaggbgplmmeaaGreatDoor.AM
namespace Go.Proofs.YtfiaggbgplmmeaaGreatDoor.AM
open Go
def joinN (T : Tab) (b m : Nat) : Option Nat := (joinO T b m).map Int.toNat
structure Lay where
  pre : List Nat
  seat : Option Nat
  beh : List Nat
def Lay.out (s : Lay) : List Nat := s.pre ++ s.seat.toList ++ s.beh
def blocks (T : Tab) (K : List Nat) (c : Nat) : Prop := ∃ k, K.getLast? = some k ∧ clT T c ≤ clT T k
instance (T : Tab) (K : List Nat) (c : Nat) : Decidable (blocks T K c) := by
  unfold blocks
  cases K.getLast? with
  | none => exact .isFalse (by simp)
  | some k => exact if h : clT T c ≤ clT T k then .isTrue ⟨k, rfl, h⟩ else .isFalse (by rintro ⟨k', e, h'⟩; injection e with e; subst e; exact h h')
def layS (T : Tab) (s : Lay) (c : Nat) : Lay :=
  if clT T c = 0 then ⟨s.out, some c, []⟩
  else match s.seat with
    | none => ⟨s.pre, none, s.beh ++ [c]⟩
    | some b => if blocks T s.beh c then ⟨s.pre, some b, s.beh ++ [c]⟩ else
      match joinN T b c with
      | some w => ⟨s.pre, some w, s.beh⟩
      | none => ⟨s.pre, some b, s.beh ++ [c]⟩
def layL (T : Tab) (B : List Nat) : Lay := B.foldl (layS T) ⟨[], none, []⟩
def laid (T : Tab) (B : List Nat) : List Nat := (layL T B).out
theorem join_mem {T : Tab} {b m w : Int} (h : joinO T b m = some w) : (w, b, m) ∈ T.pairs := by
  obtain ⟨i, hi, e⟩ := scanL_some h
  split at e
  · rename_i q
    injection e with e
    have : T.pairs[i] = (w, b, m) := Prod.ext e (Prod.ext q.1 q.2)
    rw [← this]
    exact List.getElem_mem hi
  · cases e
theorem pairs_once {T : Tab} (h : goodB T = true) {i j : Nat} (hi : i < T.pairs.length) (hj : j < T.pairs.length) (e : (T.pairs[i]).1 = (T.pairs[j]).1) : i = j := by
  have hf := (checkW_none (good_check h)).2.2.1
  unfold twiceW at hf
  simp only [Option.or_eq_none_iff] at hf
  have key : ∀ {i j : Nat} (hi : i < T.pairs.length) (hj : j < T.pairs.length), (T.pairs[i]).1 = (T.pairs[j]).1 → ¬ i < j := fun {i j} hi hj e hlt => by
    have := scanL_none hf.2.2.1 j hj
    rw [if_pos ⟨T.pairs[i], List.mem_take_iff_getElem.2 ⟨i, by omega, rfl⟩, .inl e.symm⟩] at this
    cases this
  have h1 := key hi hj e
  have h2 := key hj hi e.symm
  omega
theorem pair_of_mem {T : Tab} (h : goodB T = true) {w b m : Int} (hm : (w, b, m) ∈ T.pairs) : pairI T w = some (b, m) := by
  obtain ⟨i, hi, e⟩ := List.mem_iff_getElem.1 hm
  unfold pairI
  cases hw : wholeO T w with
  | none => exact absurd (by rw [e]) (whole_none hw _ (List.getElem_mem hi))
  | some j =>
    obtain ⟨hj, e2⟩ := whole_mem hw
    have : i = j := pairs_once h hi hj (by rw [e, e2])
    subst this
    simp [List.getD_eq_getElem?_getD, List.getElem?_eq_getElem hi, e]
theorem join_opN {T : Tab} (h : goodB T = true) {b m w : Nat} (hb : RuneN b) (hj : joinN T b m = some w) : RuneN w ∧ clT T w = 0 ∧ opN T w = opN T b ++ [m] := by
  unfold joinN at hj
  obtain ⟨v, hv, e⟩ := Option.map_eq_some_iff.1 hj
  have hm := join_mem hv
  obtain ⟨g1, g2, g3, g4, g5, g6⟩ := good_pairs h _ hm
  simp only at g1 g2 g3 g4 g5 g6
  have hr := rune_iff.1 g4
  have hvw : (w : Int) = v := by omega
  have hp := pair_of_mem h hm
  refine ⟨by rw [← e]; exact hr.2, ?_, ?_⟩
  · show classI T (w : Int) = 0
    have := class_range h (w : Int)
    have hn : ¬ 0 < classI T (w : Int) := fun q => by rw [class_mark h, hvw, g1] at q; cases q
    omega
  · unfold opN
    have h1 := op_all h (w : Int)
    rw [hvw] at h1 ⊢
    have h2 : Op T v (opI T 5 (b : Int) ++ [(m : Int)]) := .more hp (op_all h _)
    rw [h1.eq h2, List.map_append]
    simp
theorem ord_push {cl : Nat → Int} {X : List Nat} {c : Nat} (h : ∀ a, (ord cl X).getLast? = some a → ¬ (0 < cl c ∧ cl c < cl a)) : ord cl (X ++ [c]) = ord cl X ++ [c] := by
  rw [ord_snoc]
  have e : insR cl (ord cl X).reverse c = c :: (ord cl X).reverse := by
    cases hr : (ord cl X).reverse with
    | nil => rfl
    | cons a t =>
      simp only [insR]
      rw [if_neg (h a (by rw [← List.head?_reverse, hr]; rfl))]
  rw [e]
  simp
theorem ord_past {cl : Nat → Int} {c : Nat} : ∀ (K p : List Nat), (∀ k ∈ K, 0 < cl k ∧ cl k < cl c) → ord cl (p ++ c :: K) = ord cl (p ++ K ++ [c])
  | [], p, _ => by simp
  | k :: K, p, h => by
    have hk := h k (by simp)
    rw [ord_swap hk.1 hk.2 p K]
    have := ord_past K (p ++ [k]) fun x hx => h x (by simp [hx])
    simpa using this
structure LayOk (T : Tab) (P : List Nat) (s : Lay) : Prop where
  run : ∀ x ∈ s.out, RuneN x
  beh : ∀ x ∈ s.beh, 0 < clT T x
  len : s.out.length ≤ P.length
  up : s.beh.Pairwise fun a c => clT T a ≤ clT T c
  le : ∀ x ∈ s.beh, ∀ c, P.getLast? = some c → clT T x ≤ clT T c
  cs : (s.seat = none ∧ s.pre = [] ∧ s.beh = P) ∨ ∃ b P0 P1, s.seat = some b ∧ clT T b = 0 ∧ P = P0 ++ P1 ∧ P1 ≠ [] ∧ openL T s.pre = P0 ∧ ord (clT T) (opN T b ++ s.beh) = P1
theorem ordered_last {cl : Nat → Int} : ∀ {P : List Nat} {c : Nat}, Ordered cl (P ++ [c]) → ∀ a, P.getLast? = some a → ¬ (0 < cl c ∧ cl c < cl a)
  | [a], c, h, x, hx => by simp at hx; subst hx; exact h.1
  | a :: b :: P, c, h, x, hx => ordered_last (P := b :: P) h.2 x (by rw [List.getLast?_cons_cons] at hx; exact hx)
theorem ordered_init {cl : Nat → Int} : ∀ {P Q : List Nat}, Ordered cl (P ++ Q) → Ordered cl P
  | [], _, _ => trivial
  | [a], _, _ => trivial
  | a :: b :: P, Q, h => ⟨h.1, ordered_init (P := b :: P) h.2⟩
theorem lay_step {T : Tab} (h : goodB T = true) {P : List Nat} {c : Nat} {s : Lay} (ho : Ordered (clT T) (P ++ [c])) (hop : ∀ x ∈ P ++ [c], isOp T x) (hrn : RuneN c) (k : LayOk T P s) : LayOk T (P ++ [c]) (layS T s c) := by
  have hoc := hop c (by simp)
  have hlast := ordered_last ho
  have h0c : 0 ≤ clT T c := (class_range h _).1
  unfold layS
  by_cases h0 : clT T c = 0
  · rw [if_pos h0]
    refine ⟨fun x hx => ?_, by simp, ?_, by simp, by simp, .inr ⟨c, P, [c], rfl, h0, rfl, by simp, ?_, ?_⟩⟩
    · simp only [Lay.out, Option.toList_some, List.append_nil] at hx
      rcases List.mem_append.1 hx with hx | hx
      · exact k.run x hx
      · rw [List.mem_singleton.1 hx]; exact hrn
    · have := k.len
      simp only [Lay.out, Option.toList_some, List.append_nil, List.length_append, List.length_singleton] at this ⊢
      omega
    · rcases k.cs with ⟨e1, e2, e3⟩ | ⟨b, P0, P1, e1, e2, e3, e4, e5, e6⟩
      · show openL T (s.pre ++ s.seat.toList ++ s.beh) = P
        rw [e1, e2, e3]
        exact openL_open (fun x hx => hop x (by simpa using .inl hx)) (by simpa using ordered_init ho)
      · show openL T (s.pre ++ s.seat.toList ++ s.beh) = P
        have hrb : RuneN b := k.run b (by simp [Lay.out, e1])
        obtain ⟨a, ms, q1, q2, _⟩ := opN_facts h hrb
        have hbeh : openF T s.beh = s.beh := openF_open fun x hx => mark_whole h ((class_mark h _).1 (k.beh x hx))
        unfold openL
        rw [openF_append, openF_append, e1, hbeh]
        have hb : openF T (some b).toList = opN T b := by simp [openF]
        rw [hb, List.append_assoc, ord_append (.inr (.inr (.inr ⟨a, ms ++ s.beh, by rw [q1]; rfl, by omega⟩))), e6, e3]
        congr 1
    · have : opN T c ++ [] = [c] := by rw [List.append_nil]; exact opN_open hoc
      rw [this]
      exact ord_of_ordered (l := [c]) trivial
  · rw [if_neg h0]
    have hc : 0 < clT T c := by omega
    rcases k.cs with ⟨e1, e2, e3⟩ | ⟨b, P0, P1, e1, e2, e3, e4, e5, e6⟩
    · rw [e1]
      simp only
      have hbl : ∀ x ∈ s.beh, clT T x ≤ clT T c := fun x hx => by
        have hne : P ≠ [] := fun q => by rw [e3, q] at hx; cases hx
        have hl := k.le x hx _ (List.getLast?_eq_some_getLast hne)
        have := hlast _ (List.getLast?_eq_some_getLast hne)
        omega
      refine ⟨fun x hx => ?_, fun x hx => ?_, ?_, ?_, fun x hx d hd => ?_, .inl ⟨rfl, e2, by rw [e3]⟩⟩
      · simp only [Lay.out, Option.toList_none, List.append_nil] at hx
        rcases List.mem_append.1 hx with hx | hx
        · exact k.run x (by simp [Lay.out, hx])
        · rcases List.mem_append.1 hx with hx | hx
          · exact k.run x (by simp [Lay.out, hx])
          · rw [List.mem_singleton.1 hx]; exact hrn
      · rcases List.mem_append.1 hx with hx | hx
        · exact k.beh x hx
        · rw [List.mem_singleton.1 hx]; exact hc
      · simp only [Lay.out, e2, e3, Option.toList_none, List.append_nil, List.nil_append, List.length_append, List.length_singleton]
        omega
      · refine List.pairwise_append.2 ⟨k.up, by simp, fun x hx d hd => ?_⟩
        rw [List.mem_singleton.1 hd]
        exact hbl x hx
      · rw [List.getLast?_concat] at hd
        injection hd with hd
        subst hd
        rcases List.mem_append.1 hx with hx | hx
        · exact hbl x hx
        · rw [List.mem_singleton.1 hx]; exact Int.le_refl _
    · rw [e1]
      simp only
      have hrb : RuneN b := k.run b (by simp [Lay.out, e1])
      have hPl : P.getLast? = P1.getLast? := by
        rw [e3, List.getLast?_append]
        cases hg : P1.getLast? with
        | none => exact absurd (List.getLast?_eq_none_iff.1 hg) e4
        | some a => simp
      have hbl : ∀ x ∈ s.beh, clT T x ≤ clT T c := fun x hx => by
        have hne : P ≠ [] := fun q => by rw [e3] at q; exact e4 (List.append_eq_nil_iff.1 q).2
        have hl := k.le x hx _ (List.getLast?_eq_some_getLast hne)
        have := hlast _ (List.getLast?_eq_some_getLast hne)
        omega
      have hpush : ∀ X, ord (clT T) X = P1 → ord (clT T) (X ++ [c]) = P1 ++ [c] := fun X e => by
        rw [ord_push fun a ha => hlast a (by rw [hPl, ← e]; exact ha), e]
      have plain : LayOk T (P ++ [c]) ⟨s.pre, some b, s.beh ++ [c]⟩ := by
        refine ⟨fun x hx => ?_, fun x hx => ?_, ?_, ?_, fun x hx d hd => ?_, .inr ⟨b, P0, P1 ++ [c], rfl, e2, by rw [e3, List.append_assoc], by simp, e5, ?_⟩⟩
        · have hx : x ∈ s.out ++ [c] := by simpa [Lay.out, e1] using hx
          rcases List.mem_append.1 hx with hx | hx
          · exact k.run x hx
          · rw [List.mem_singleton.1 hx]; exact hrn
        · rcases List.mem_append.1 hx with hx | hx
          · exact k.beh x hx
          · rw [List.mem_singleton.1 hx]; exact hc
        · have := k.len
          simp only [Lay.out, e1, Option.toList_some, List.length_append, List.length_singleton] at this ⊢
          omega
        · refine List.pairwise_append.2 ⟨k.up, by simp, fun x hx d hd => ?_⟩
          rw [List.mem_singleton.1 hd]
          exact hbl x hx
        · rw [List.getLast?_concat] at hd
          injection hd with hd
          subst hd
          rcases List.mem_append.1 hx with hx | hx
          · exact hbl x hx
          · rw [List.mem_singleton.1 hx]; exact Int.le_refl _
        · rw [← List.append_assoc]
          exact hpush _ e6
      split
      · exact plain
      · rename_i hnb
        split
        · rename_i w hw
          obtain ⟨j1, j2, j3⟩ := join_opN h hrb hw
          have hlt : ∀ x ∈ s.beh, 0 < clT T x ∧ clT T x < clT T c := fun x hx => by
            refine ⟨k.beh x hx, ?_⟩
            have hne : s.beh ≠ [] := fun q => by rw [q] at hx; cases hx
            have hgl := List.getLast?_eq_some_getLast hne
            have h1 : ¬ clT T c ≤ clT T (s.beh.getLast hne) := fun q => hnb ⟨_, hgl, q⟩
            have h2 : clT T x ≤ clT T (s.beh.getLast hne) := by
              have hd := List.dropLast_concat_getLast hne
              have hu := k.up
              rw [← hd] at hu hx
              rcases List.mem_append.1 hx with hx | hx
              · exact (List.pairwise_append.1 hu).2.2 x hx _ (by simp)
              · rw [List.mem_singleton.1 hx]; exact Int.le_refl _
            omega
          refine ⟨fun x hx => ?_, k.beh, ?_, k.up, fun x hx d hd => ?_, .inr ⟨w, P0, P1 ++ [c], rfl, j2, by rw [e3, List.append_assoc], by simp, e5, ?_⟩⟩
          · have hx : x ∈ s.pre ∨ x = w ∨ x ∈ s.beh := by simpa [Lay.out] using hx
            rcases hx with hx | rfl | hx
            · exact k.run x (by simp [Lay.out, hx])
            · exact j1
            · exact k.run x (by simp [Lay.out, hx])
          · have := k.len
            simp only [Lay.out, e1, Option.toList_some, List.length_append, List.length_singleton] at this ⊢
            omega
          · rw [List.getLast?_concat] at hd
            injection hd with hd
            subst hd
            exact hbl x hx
          · rw [j3, List.append_assoc, List.singleton_append, ord_past _ _ hlt]
            exact hpush _ e6
        · exact plain
theorem lay_all {T : Tab} (h : goodB T = true) : ∀ (Q P : List Nat) (s : Lay), Ordered (clT T) (P ++ Q) → (∀ x ∈ P ++ Q, isOp T x ∧ RuneN x) → LayOk T P s → LayOk T (P ++ Q) (Q.foldl (layS T) s)
  | [], P, s, _, _, k => by rw [List.append_nil]; exact k
  | c :: Q, P, s, ho, hop, k => by
    have e : P ++ c :: Q = (P ++ [c]) ++ Q := by simp
    rw [e] at ho hop ⊢
    exact lay_all h Q (P ++ [c]) _ ho hop (lay_step h (ordered_init ho) (fun x hx => (hop x (List.mem_append_left _ hx)).1) (hop c (by simp)).2 k)
theorem lay_ok {T : Tab} (h : goodB T = true) {P : List Nat} (ho : Ordered (clT T) P) (hop : ∀ x ∈ P, isOp T x ∧ RuneN x) : LayOk T P (layL T P) :=
  lay_all h P [] ⟨[], none, []⟩ ho hop ⟨by simp [Lay.out], by simp, by simp [Lay.out], by simp, by simp, .inl ⟨rfl, rfl, rfl⟩⟩
theorem laid_back {T : Tab} (h : goodB T = true) {P : List Nat} (ho : Ordered (clT T) P) (hop : ∀ x ∈ P, isOp T x ∧ RuneN x) : openL T (laid T P) = P ∧ (∀ x ∈ laid T P, RuneN x) ∧ (laid T P).length ≤ P.length := by
  have k := lay_ok h ho hop
  refine ⟨?_, k.run, k.len⟩
  rcases k.cs with ⟨e1, e2, e3⟩ | ⟨b, P0, P1, e1, e2, e3, e4, e5, e6⟩
  · unfold laid Lay.out
    rw [e1, e2, e3]
    exact openL_open (fun x hx => (hop x (by simpa using hx)).1) (by simpa using ho)
  · have hrb : RuneN b := k.run b (by simp [Lay.out, e1])
    obtain ⟨a, ms, q1, q2, _⟩ := opN_facts h hrb
    have hbeh : openF T (layL T P).beh = (layL T P).beh := openF_open fun x hx => mark_whole h ((class_mark h _).1 (k.beh x hx))
    unfold laid Lay.out openL
    rw [openF_append, openF_append, e1, hbeh]
    have hb : openF T (some b).toList = opN T b := by simp [openF]
    rw [hb, List.append_assoc, ord_append (.inr (.inr (.inr ⟨a, ms ++ (layL T P).beh, by rw [q1]; rfl, by omega⟩))), e6, show ord (clT T) (openF T (layL T P).pre) = P0 from e5]
    exact e3.symm
theorem layS_pre {T : Tab} (X : List Nat) (s : Lay) (c : Nat) (hs : s.seat ≠ none ∨ clT T c = 0) : layS T ⟨X ++ s.pre, s.seat, s.beh⟩ c = ⟨X ++ (layS T s c).pre, (layS T s c).seat, (layS T s c).beh⟩ ∧ (layS T s c).seat ≠ none := by
  unfold layS
  by_cases h0 : clT T c = 0
  · rw [if_pos h0, if_pos h0]
    exact ⟨by simp [Lay.out], by simp⟩
  · rw [if_neg h0, if_neg h0]
    obtain ⟨pre, seat, beh⟩ := s
    cases seat with
    | none => exact absurd rfl (hs.resolve_right h0)
    | some b =>
      simp only
      split
      · exact ⟨rfl, by simp⟩
      · split <;> exact ⟨rfl, by simp⟩
theorem foldl_pre {T : Tab} (X : List Nat) : ∀ (B : List Nat) (s : Lay), (s.seat ≠ none ∨ ∃ c B', B = c :: B' ∧ clT T c = 0) → B ≠ [] ∨ s.seat ≠ none → B.foldl (layS T) ⟨X ++ s.pre, s.seat, s.beh⟩ = ⟨X ++ (B.foldl (layS T) s).pre, (B.foldl (layS T) s).seat, (B.foldl (layS T) s).beh⟩
  | [], s, _, _ => rfl
  | c :: B, s, h, _ => by
    have hs : s.seat ≠ none ∨ clT T c = 0 := h.imp id fun ⟨c', B', e, q⟩ => by injection e with e1 e2; rw [e1]; exact q
    obtain ⟨h1, h2⟩ := layS_pre X s c hs
    rw [List.foldl_cons, List.foldl_cons, h1]
    exact foldl_pre X B (layS T s c) (.inl h2) (.inr h2)
theorem laid_cut {T : Tab} {A B : List Nat} (hc : ∀ c, B.head? = some c → clT T c = 0) : laid T (A ++ B) = laid T A ++ laid T B := by
  cases B with
  | nil => simp [laid, layL, Lay.out]
  | cons c B =>
    have h0 := hc c rfl
    unfold laid layL
    rw [List.foldl_append, List.foldl_cons, List.foldl_cons]
    generalize A.foldl (layS T) ⟨[], none, []⟩ = s
    have e1 : layS T s c = ⟨s.out ++ [], some c, []⟩ := by unfold layS; rw [if_pos h0, List.append_nil]
    have e2 : layS T ⟨[], none, []⟩ c = ⟨[], some c, []⟩ := by unfold layS; rw [if_pos h0]; rfl
    rw [e1, e2]
    have := foldl_pre (T := T) s.out B ⟨[], some c, []⟩ (.inl (by simp)) (.inr (by simp))
    simp only at this
    rw [this]
    simp [Lay.out]
def shutB (T : Tab) (l : Bytes) : Bytes := encs (laid T (openL T (runesB l)))
theorem shut_facts {T : Tab} (h : goodB T = true) (l : Bytes) : openL T (laid T (openL T (runesB l))) = openL T (runesB l) ∧ (∀ x ∈ laid T (openL T (runesB l)), RuneN x) ∧ (laid T (openL T (runesB l))).length ≤ (openL T (runesB l)).length :=
  laid_back h (ord_ordered _) fun x hx => (openL_all h (runesB_rune l) x hx).symm
theorem shutB_runes {T : Tab} (h : goodB T = true) (l : Bytes) : runesB (shutB T l) = laid T (openL T (runesB l)) := runesB_of_encs (shut_facts h l).2.1
theorem open_shut {T : Tab} (h : goodB T = true) (l : Bytes) : openB T (shutB T l) = openB T l := by
  show encs (openL T (runesB (shutB T l))) = _
  rw [shutB_runes h, (shut_facts h l).1]
  rfl
theorem shut_of_open {T : Tab} {l m : Bytes} (h : goodB T = true) (e : openB T l = openB T m) : shutB T l = shutB T m := by
  have : openL T (runesB l) = openL T (runesB m) := by rw [← openB_runes h, ← openB_runes h, e]
  unfold shutB
  rw [this]
theorem shut_shut {T : Tab} (h : goodB T = true) (l : Bytes) : shutB T (shutB T l) = shutB T l := shut_of_open h (open_shut h l)
theorem shut_open {T : Tab} (h : goodB T = true) (l : Bytes) : shutB T (openB T l) = shutB T l := shut_of_open h (openB_idem h l)
theorem shut_valid {T : Tab} (h : goodB T = true) (l : Bytes) : validB (shutB T l) = true := valid_encs (shut_facts h l).2.1
theorem shut_cut {T : Tab} (h : goodB T = true) {A B : List Nat} (hA : ∀ c ∈ A, RuneN c) (hB : ∀ c ∈ B, RuneN c) (hc : ∀ c, B.head? = some c → clT T c ≤ 0) : laid T (openL T (A ++ B)) = laid T (openL T A) ++ laid T (openL T B) := by
  rw [openL_cut h hB hc]
  refine laid_cut fun c hcc => ?_
  cases B with
  | nil => simp [openL, openF, ord_nil] at hcc
  | cons d B =>
    obtain ⟨b, ms, e, q1, _⟩ := opN_facts h (hB d (by simp))
    have hd := hc d rfl
    have hb : clT T b ≤ 0 := by omega
    have he : openL T (d :: B) = b :: ord (clT T) (ms ++ openF T B) := by
      unfold openL openF
      rw [List.flatMap_cons, e, List.cons_append, ord_base0 hb]
    rw [he] at hcc
    injection hcc with hcc
    subst hcc
    have := (class_range h (b : Int)).1
    show classI T (b : Int) = 0
    have hb' : classI T (b : Int) ≤ 0 := hb
    omega
end Go.Proofs.YtfiaggbgplmmeaaGreatDoor.AM
namespace Go.Proofs.YtfiaggbgplmmeaaGreatDoor.AM
open Go
def LF_shut_Shut : LFunc :=
  .mk 2 [.tmp 4] (.seq (R 999 [0, 1] [.set 4 (.cv (.string ⟨#[]⟩))]) (.seq (.seq (R 14 [0, 1, 15] [.tmp 15 (.op (.p (.eqk false .ptr (.s 0) (.s 1))) (.cons (.va 0) (.cv (.pointer
  none))))]) (.cond (.s 15) (.seq (R 999 [4] [.set 4 (.cv (.string ⟨#[]⟩))]) .ret) .skip)) (.seq (R 999 [0, 1, 5] [.set 5 (.cv (.slice none 0 0))]) (.seq (R 999 [0, 1, 5, 6] [.set 6
  (xi (-1))]) (.seq (.seq (R 16 [0, 5, 6, 19] [.tmp 19 (.op (.e (.rngS 19 (.s 0))) (xc2 19 (.va 0) (.va 1)))]) (.block 0 (.loop (.seq (R 20 [0, 5, 6, 19, 20, 21] [.tmp 20
  (.op (.e (.nxtS (.s 0))) (.sl 19)), .tmp 21 (xex 0 (.sl 20))]) (.seq (.cond (.s 21) .skip (.exit 0)) (.block 1 (.seq (R 22 [0, 5, 6, 8, 19] [.set 8 (xex 2 (.sl 20))]) (.seq (R 23
  [0, 5, 6, 8, 9, 19] [.set 9 (xc2 33 (.va 0) (.va 8))]) (.seq (.seq (R 26 [0, 5, 6, 8, 9, 19, 27] [.tmp 27 (xb .eql (.va 9) (xi 0))]) (.cond (.s 27) (.seq (R
  28 [0, 5, 19] [.set 5 (xap 1 4 (.va 5) (.op (.e (.litL 30 1 1 [.int .i32 0] [(0, 1, .s 0)])) (.va 8)))]) (.seq (R 32 [0, 5, 6, 19] [.set 6 (xb .sub (xlen (.va 5)) (xi 1))]) (.exit
  1))) .skip)) (.seq (R 35 [0, 5, 6, 8, 9, 10, 19] [.set 10 (.op (.p (.sl 1 (.s 0) (some (.s 1)) (some (.s 2)) (some (.s 3)))) (.cons (.va 5) (.cons (xb .add (.va 6) (xi 1)) (.cons
  (xlen (.va 5)) (xlen (.va 5))))))]) (.seq (R 43 [0, 5, 6, 8, 11, 19] [.set 11 (.or (xb .lss (.va 6) (xi 0)) (.and (xb .gtr (xlen (.va 10)) (xi 0)) (xb .geq (xc2
  33 (.va 0) (xld (xia 1 (.va 10) (xb .sub (xlen (.va 10)) (xi 1))))) (.va 9))))]) (.seq (.seq (R 62 [0, 5, 6, 8, 19, 63] [.tmp 63 (xu .not (.va 11))]) (.cond
  (.s 63) (.seq (R 65 [0, 5, 6, 8, 12, 13, 19] [.set 64 (xc3 58 (.va 0) (xld (xia 1 (.va 5) (.va 6))) (.va 8)), .tmp 72 (xex 0 (.sl 64)), .tmp 73 (xex 1 (.sl
  64)), .set 12 (.sl 72), .set 13 (.sl 73)]) (.seq (R 74 [0, 5, 6, 8, 12, 19, 74] [.tmp 74 (.va 13)]) (.cond (.s 74) (.seq (R 75 [0, 5, 6, 19] [.tmp 75 (.va 5), .tmp 76 (.va 6),
  .tmp 77 (.va 12), .run (xst 1 (xia 1 (.sl 75) (.sl 76)) (.sl 77))]) (.exit 1)) .skip))) .skip)) (R 79 [0, 5, 6, 19] [.set 5 (xap 1 4 (.va 5) (.op (.e (.litL 81 1 1 [.int .i32 0]
  [(0, 1, .s 0)])) (.va 8)))]))))))))))))) (.seq (R 83 [4] [.set 4 (.op (.r (.r2s (.s 0))) (.va 5))]) .ret))))))
theorem fn_shut_Shut : (autoPrg Tryz.prog).fn 35 = some LF_shut_Shut := by kernel_rfl
def LF_tables_Book_Joined : LFunc :=
  .mk 3 [.tmp 6, .tmp 7] (.seq (R 999 [0, 1, 2] [.set 6 (xr 0), .set 7 (.cv (.bool false))]) (.seq (R 11 [8, 9] [.set 10 (.op (.r (.lookup (.agg [.int, .int]) (.int .i32 0) true (.s
  0) (.s 1))) (.cons (xld (xfa 10 (xnk (.va 0)))) (.op (.p (.build [.int .i32 0, .int .i32 0] [(0, 1, .s 0), (1, 1, .s 1)])) (.cons (.va 1) (.va 2))))), .tmp 19 (xex 0 (.sl 10)),
  .tmp 20 (xex 1 (.sl 10)), .set 8 (.sl 19), .set 9 (.sl 20)]) (.seq (R 21 [6, 7] [.tmp 21 (.va 8), .tmp 22 (.va 9), .set 6 (.sl 21), .set 7 (.sl 22)]) .ret)))
theorem fn_tables_Book_Joined : (autoPrg Tryz.prog).fn 58 = some LF_tables_Book_Joined := by kernel_rfl
def LF_guiselaw10_known : LFunc :=
  .mk 0 [.tmp 0] (.seq (R 999 [] [.set 0 (.cv (.bool false))]) (.seq (R 5 [1, 2] [.set 4 (xc1 12 (xc0 34)), .tmp 7 (xex 0 (.sl 4)), .tmp 8 (xex 1
  (.sl 4)), .tmp 9 (xex 2 (.sl 4)), .set 1 (.sl 7), .set 2 (.sl 8), .set 3 (.sl 9)]) (.seq (.seq (R 10 [1, 11] [.tmp 11 (xu .not (.va 2))]) (.cond (.s 11) (.seq (R 999 [0] [.set 0
  (.cv (.bool false))]) .ret) .skip)) (.seq (R 12 [0] [.set 0 (.and (.and (xb .eql (xc2 35 (.va 1) (.cv (.string ⟨#[101, 204, 130, 204, 129]⟩))) (.cv (.string ⟨#[225,
  186, 191]⟩))) (xb .eql (xc2 35 (.va 1) (.cv (.string ⟨#[101, 204, 129, 204, 163]⟩))) (.cv (.string ⟨#[225, 186, 185, 204, 129]⟩)))) (xb .eql (xc2 35 (.va 1)
  (.cv (.string ⟨#[101, 204, 129, 204, 129]⟩))) (.cv (.string ⟨#[195, 169, 204, 129]⟩))))]) .ret))))
theorem fn_guiselaw10_known : (autoPrg Tryz.prog).fn 37 = some LF_guiselaw10_known := by kernel_rfl
def LF_guiselaw10_house : LFunc :=
  .mk 0 [.cell 0 (some 8)] (.seq (R 0 [0] [.tmp 0 (xnl 0 [.slice none 0 0, .slice none 0 0, .slice none 0 0, .slice none 0 0, .slice none 0 0, .slice none 0 0, .slice none 0 0,
  .slice none 0 0])]) (.seq (R 1 [0] [.run (xst 8 (.sl 0) (xc0 47))]) .ret))
theorem fn_guiselaw10_house : (autoPrg Tryz.prog).fn 34 = some LF_guiselaw10_house := by kernel_rfl
end Go.Proofs.YtfiaggbgplmmeaaGreatDoor.AM
namespace Go.Proofs.YtfiaggbgplmmeaaGreatDoor.AM
open Go
theorem bookJoined_eq {h : AH} {k B : Nat} {s6 : Sl} {T : Tab} (bk : BkAt h k B s6 T) (b m : Int) : callO PX 58 [.pointer (some ⟨k, 0, none⟩), .int .i32 b, .int .i32 m] h = some (.tuple (List.toArray [.int .i32 ((joinO T b m).getD 0), .bool (joinO T b m).isSome]), h) := by
  obtain ⟨x0, x1, x2, x3, x4, x5, x7, hb⟩ := bk.b
  have m2 := m_join bk.mp b m
  generalize (joinO T b m).getD 0 = x at m2 ⊢
  generalize (joinO T b m).isSome = y at m2 ⊢
  apply WpC.eqn
  refine wpc_fn (px_ext rfl) (px_fn fn_tables_Book_Joined) rfl ?_
  unfold LF_tables_Book_Joined
  simp only [argFr]
  (refine W_x (Aj hb m2) ?_; (repeat' first | apply Cj.mk | exact Nl.nl) <;> intros)
  exact ⟨rfl, rfl⟩
theorem sl3_drop {s : Sl} {i j m : Int} (h0 : 0 ≤ i) (h1 : i ≤ s.len) (h2 : j = s.len) (h3 : m = s.len) : sl3 1 (s.val 1) (.int .i64 i) (.int .i64 j) (.int .i64 m) = some ((s.drop 1 i.toNat).val 1) := by
  subst h2 h3
  cases s with
  | nil =>
    have : i = 0 := by simp [Sl.len] at h1; omega
    subst this
    rfl
  | «at» b o n =>
    simp only [Sl.len] at h1
    have := sl3_val (bk := b) (o := o) (n := n) (i := i) (j := n) (m := n) h0 h1 (by omega) (by omega)
    show sl3 1 ((Sl.at b o n).val 1) _ (.int .i64 (n : Int)) (.int .i64 (n : Int)) = _
    rw [this]
    simp only [Sl.drop, Nat.mul_one]
    congr 3
    omega
theorem drop_len {s : Sl} {e i : Nat} : (s.drop e i).len = s.len - i := by cases s <;> simp [Sl.drop, Sl.len]
def seatI (s : Lay) : Int := match s.seat with
  | some _ => s.pre.length
  | none => -1
theorem layL_snoc {T : Tab} {P : List Nat} {i : Nat} (hi : i < P.length) : layL T (P.take (i + 1)) = layS T (layL T (P.take i)) P[i] := by
  unfold layL
  rw [take_snoc hi, List.foldl_append]
  rfl
set_option maxHeartbeats 1000000 in
theorem shutShut_spec {h : AH} {k B : Nat} {s6 : Sl} {T : Tab} (gd : goodB T = true) (bk : BkAt h k B s6 T) (s : ByteArray) (hs : s.size ≤ 1048576) : WpC PX 35 [.pointer (some ⟨k, 0, none⟩), .string s] h fun v h' => v = .string (bs (shutB T s.data.toList)) ∧ Kp h h' := by
  have hz : s.data.toList.length = s.size := rfl
  have hn := spots_len s.data.toList
  have hrl := runesB_len s.data.toList
  have hrr := runesB_rune s.data.toList
  obtain ⟨_, g1, e1, rfl, k1⟩ := openOpen_spec gd bk s hs
  have hor := openB_runes gd s.data.toList
  have hol := openF_len gd hrr
  have hF := (shut_facts gd s.data.toList).2.1
  have hPr := openL_all gd hrr
  have hlay : ∀ i, LayOk T ((openL T (runesB s.data.toList)).take i) (layL T ((openL T (runesB s.data.toList)).take i)) := fun i => lay_ok gd (ordered_init (Q := (openL T (runesB s.data.toList)).drop i) (by rw [List.take_append_drop]; exact ord_ordered _)) fun x hx => (hPr x (List.mem_of_mem_take hx)).symm
  have hP : (openL T (runesB s.data.toList)).length ≤ 6291456 := by unfold openL; rw [ord_length]; omega
  unfold shutB laid at *
  generalize hO : bs (openB T s.data.toList) = O at e1
  have hOl : O.data.toList = openB T s.data.toList := by rw [← hO, bs_l]
  rw [← hOl] at hor
  generalize openL T (runesB s.data.toList) = P at *
  have hsp : (spots O.data.toList).length = P.length := by rw [← runesB_len, hor]
  have bk1 := bk.kp k1
  refine wpc_fn (px_ext rfl) (px_fn fn_shut_Shut) rfl ?_
  unfold LF_shut_Shut
  simp only [argFr]
  (refine W_x (Aj e1 @ev_rngS) ?_; (repeat' first | apply Cj.mk | exact Nl.nl) <;> intros)
  refine wp_spotsS (fun i sl => [(0, .pointer (some ⟨k, 0, none⟩)), (5, sl.val 1), (6, .int .i64 (seatI (layL T (P.take i)))), (19, .pointer (some ⟨38, 0, some 1⟩))]) (fun n _ => [(38, .siter O n)]) O O.data.toList (fun i sl h' => FOwn g1 h' 1 sl ((layL T (P.take i)).out.map rnV)) (fun _ _ => (none : Option Unit)) Sl.nil rfl (by repeat' first | exact True.intro | refine And.intro rfl ?_) (fun _ _ => rfl) rfl (FOwn.nil (Kp.refl g1))
    (fun i hi sl h1 fo hit => ?_) fun sl h1 fo fin => ?_
  · (refine W_x trivial ?_; (repeat' first | apply Cj.mk | exact Nl.nl) <;> intros)
    refine wo_next rfl rfl hi ?_
    have hi2 : i < P.length := by omega
    have hx : ((spots O.data.toList)[i]).1 = P[i] := by
      have := runesB_get hi
      rw [← this]
      simp only [hor]
    rw [hx]
    have hsn := layL_snoc (T := T) hi2
    have hrc := (hPr _ (List.getElem_mem hi2)).1
    have ok := hlay i
    have hlen := ok.len
    rw [List.length_take] at hlen
    generalize P[i] = c at hsn hrc ⊢
    generalize layL T (P.take i) = st at hsn ok fo hlen ⊢
    rw [hsn]
    have sll := fo.own.1
    rw [List.length_map] at sll
    have ec := class_eq (bk1.kp fo.kp)
    have e2 := ec (c : Nat)
    rw [show classI T (c : Nat) = clT T c from rfl] at e2
    have hcn : 0 ≤ clT T c := (class_range gd _).1
    by_cases h0 : clT T c = 0
    · have hst : layS T st c = ⟨st.out, some c, []⟩ := by unfold layS; rw [if_pos h0]
      rw [hst]
      (refine W_x e2 ?_; (repeat' first | apply Cj.mk | exact Nl.nl) <;> intros)
      refine wo_app1 (cs := rnV c) fo rfl rfl (by decide) (by decide) (by rw [List.length_map]; omega) fun s2 h2 f2 => ?_
      have s2l := f2.own.1
      rw [List.length_append, List.length_map, List.length_singleton] at s2l
      (refine W_x s2l ?_; (repeat' first | apply Cj.mk | exact Nl.nl) <;> intros)
      rw [show ((st.out.length : Int) + 1 - 1) = seatI ⟨st.out, some c, []⟩ from by simp only [seatI]; omega]
      exact ⟨rfl, s2, (by repeat' first | exact True.intro | refine And.intro rfl ?_), rfl, by simpa [Lay.out] using f2⟩
    · have hc0 : 0 < clT T c := by omega
      have happ : ∀ (s2 : Sl) (h2 : AH), FOwn g1 h2 1 s2 (st.out.map rnV ++ [rnV c]) → FOwn g1 h2 1 s2 ((Lay.out ⟨st.pre, st.seat, st.beh ++ [c]⟩).map rnV) := fun s2 h2 f => by
        have : Lay.out ⟨st.pre, st.seat, st.beh ++ [c]⟩ = st.out ++ [c] := by simp [Lay.out]
        rw [this, List.map_append]
        exact f
      cases hseat : st.seat with
      | none =>
        have hsI : seatI st = -1 := by unfold seatI; rw [hseat]
        have hst : layS T st c = ⟨st.pre, st.seat, st.beh ++ [c]⟩ := by unfold layS; rw [if_neg h0, hseat]
        have hsI2 : seatI ⟨st.pre, st.seat, st.beh ++ [c]⟩ = -1 := by unfold seatI; simp only [hseat]
        have e3 := sl3_drop (s := sl) (i := 0) (j := st.out.length) (m := st.out.length) (by omega) (by omega) (by omega) (by omega)
        have hm1 : (-1 + 1 : Int) = 0 := rfl
        rw [hst, hsI, hsI2]
        (refine W_x (Aj e2 (Aj sll e3)) ?_; (repeat' first | apply Cj.mk | exact Nl.nl) <;> intros)
        refine wo_app1 (cs := rnV c) fo rfl rfl (by decide) (by decide) (by rw [List.length_map]; omega) fun s2 h2 f2 => ?_
        (refine W_x trivial ?_; (repeat' first | apply Cj.mk | exact Nl.nl) <;> intros)
        exact ⟨rfl, s2, (by repeat' first | exact True.intro | refine And.intro rfl ?_), rfl, happ _ _ f2⟩
      | some b =>
        have hsI : seatI st = st.pre.length := by unfold seatI; rw [hseat]
        have hout : st.out = st.pre ++ b :: st.beh := by simp [Lay.out, hseat]
        have hol2 : st.out.length = st.pre.length + 1 + st.beh.length := by rw [hout]; simp; omega
        have e3 := sl3_drop (s := sl) (i := (st.pre.length : Int) + 1) (j := st.out.length) (m := st.out.length) (by omega) (by omega) (by omega) (by omega)
        have hti : ((st.pre.length : Int) + 1).toNat = st.pre.length + 1 := by omega
        rw [hti] at e3
        have hdl : (sl.drop 1 (st.pre.length + 1)).len = st.beh.length := by rw [drop_len]; omega
        have rdd := fo.reads.drop (k := st.pre.length + 1) (by rw [List.length_map]; omega)
        have hdr : (st.out.map rnV).drop (st.pre.length + 1) = st.beh.map rnV := by rw [hout, ← List.map_drop]; simp
        rw [hdr] at rdd
        have hi3 : st.pre.length < st.out.length := by omega
        have gb := fun lc => rd_map (lc := lc) fo.reads hi3
        have hgb : st.out[st.pre.length] = b := by simp [hout]
        rw [hgb] at gb
        have hrb : RuneN b := ok.run b (by rw [hout]; simp)
        have ej := bookJoined_eq (bk1.kp fo.kp) (b : Nat) (c : Nat)
        have hplain : layS T st c = ⟨st.pre, st.seat, st.beh ++ [c]⟩ → seatI (layS T st c) = st.pre.length := fun e => by rw [e]; unfold seatI; simp only [hseat]
        have hbl : (st.beh = [] ∧ ¬ blocks T st.beh c) ∨ ∃ z, (∀ lc, Mem.rd ⟨lc, h1⟩ ((sl.drop 1 (st.pre.length + 1)).adr 1 (st.beh.length - 1)) 1 = some (rnV z)) ∧ 0 < st.beh.length ∧ (blocks T st.beh c ↔ clT T c ≤ clT T z) := by
          rcases Nat.eq_zero_or_pos st.beh.length with hz0 | hz0
          · have : st.beh = [] := List.eq_nil_of_length_eq_zero hz0
            exact .inl ⟨this, by rw [this]; simp [blocks]⟩
          · have hlt : st.beh.length - 1 < st.beh.length := by omega
            refine .inr ⟨st.beh[st.beh.length - 1], fun lc => rd_map (lc := lc) rdd hlt, hz0, ?_⟩
            have hgl : st.beh.getLast? = some st.beh[st.beh.length - 1] := by rw [List.getLast?_eq_getElem?, List.getElem?_eq_getElem hlt]
            unfold blocks
            rw [hgl]
            simp
        unfold rnV at gb
        by_cases hB : blocks T st.beh c
        · have hst : layS T st c = ⟨st.pre, st.seat, st.beh ++ [c]⟩ := by unfold layS; rw [if_neg h0, hseat]; simp only; rw [if_pos hB]
          have hs2 := hplain hst
          rcases hbl with ⟨_, q⟩ | ⟨z, q1, q2, q3⟩
          · exact absurd hB q
          · have q4 := q3.1 hB
            have e5 := ec (z : Nat)
            rw [show classI T (z : Nat) = clT T z from rfl] at e5
            unfold rnV at q1
            have hx1 : ((st.beh.length : Int) - 1).toNat = st.beh.length - 1 := by omega
            rw [hs2, hst, hsI]
            (refine W_x (Aj e2 (Aj sll (Aj e3 (Aj hdl (Aj hx1 (Aj q1 e5)))))) ?_; (repeat' first | apply Cj.mk | exact Nl.nl) <;> intros)
            refine wo_app1 (cs := rnV c) fo rfl rfl (by decide) (by decide) (by rw [List.length_map]; omega) fun s2 h2 f2 => ?_
            (refine W_x trivial ?_; (repeat' first | apply Cj.mk | exact Nl.nl) <;> intros)
            exact ⟨rfl, s2, (by repeat' first | exact True.intro | refine And.intro rfl ?_), rfl, happ _ _ f2⟩
        · cases hj : joinO T b c with
          | none =>
            have hst : layS T st c = ⟨st.pre, st.seat, st.beh ++ [c]⟩ := by
              unfold layS; rw [if_neg h0, hseat]; simp only; rw [if_neg hB]
              unfold joinN; rw [hj]; rfl
            have hs2 := hplain hst
            rw [hj] at ej
            simp only [Option.getD_none, Option.isSome_none] at ej
            rw [hs2, hst, hsI]
            rcases hbl with ⟨q, _⟩ | ⟨z, q1, q2, q3⟩
            · rw [q, List.length_nil] at hdl
              (refine W_x (Aj e2 (Aj sll (Aj e3 (Aj hdl (Aj gb ej))))) ?_; (repeat' first | apply Cj.mk | exact Nl.nl) <;> intros)
              refine wo_app1 (cs := rnV c) fo rfl rfl (by decide) (by decide) (by rw [List.length_map]; omega) fun s2 h2 f2 => ?_
              (refine W_x trivial ?_; (repeat' first | apply Cj.mk | exact Nl.nl) <;> intros)
              exact ⟨rfl, s2, (by repeat' first | exact True.intro | refine And.intro rfl ?_), rfl, happ _ _ f2⟩
            · have q4 : ¬ clT T c ≤ clT T z := fun q => hB (q3.2 q)
              have e5 := ec (z : Nat)
              rw [show classI T (z : Nat) = clT T z from rfl] at e5
              unfold rnV at q1
              have hx1 : ((st.beh.length : Int) - 1).toNat = st.beh.length - 1 := by omega
              (refine W_x (Aj e2 (Aj sll (Aj e3 (Aj hdl (Aj hx1 (Aj q1 (Aj e5 (Aj gb ej)))))))) ?_; (repeat' first | apply Cj.mk | exact Nl.nl) <;> intros)
              refine wo_app1 (cs := rnV c) fo rfl rfl (by decide) (by decide) (by rw [List.length_map]; omega) fun s2 h2 f2 => ?_
              (refine W_x trivial ?_; (repeat' first | apply Cj.mk | exact Nl.nl) <;> intros)
              exact ⟨rfl, s2, (by repeat' first | exact True.intro | refine And.intro rfl ?_), rfl, happ _ _ f2⟩
          | some w =>
            have hw0 := (rune_iff.1 (good_pairs gd _ (join_mem hj)).2.2.2.1).1
            simp only at hw0
            have hwn : ((w.toNat : Nat) : Int) = w := by omega
            have hst : layS T st c = ⟨st.pre, some w.toNat, st.beh⟩ := by
              unfold layS; rw [if_neg h0, hseat]; simp only; rw [if_neg hB]
              unfold joinN; rw [hj]; rfl
            have hs2 : seatI ⟨st.pre, some w.toNat, st.beh⟩ = st.pre.length := rfl
            rw [hj] at ej
            simp only [Option.getD_some, Option.isSome_some] at ej
            rw [hst, hs2, hsI]
            obtain ⟨h2, hw1, f2⟩ := fo.set (i := st.pre.length) (by rw [List.length_map]; exact hi3) (vs := rnV w.toNat) rfl
            have hset : (st.out.map rnV).set st.pre.length (rnV w.toNat) = (Lay.out ⟨st.pre, some w.toNat, st.beh⟩).map rnV := by
              rw [← List.map_set, hout]
              simp [Lay.out]
            rw [hset] at f2
            unfold rnV at hw1
            rw [hwn] at hw1
            rcases hbl with ⟨q, _⟩ | ⟨z, q1, q2, q3⟩
            · rw [q, List.length_nil] at hdl
              (refine W_x (Aj e2 (Aj sll (Aj e3 (Aj hdl (Aj gb (Aj ej hw1)))))) ?_; (repeat' first | apply Cj.mk | exact Nl.nl) <;> intros)
              exact ⟨rfl, sl, (by repeat' first | exact True.intro | refine And.intro rfl ?_), rfl, f2⟩
            · have q4 : ¬ clT T c ≤ clT T z := fun q => hB (q3.2 q)
              have e5 := ec (z : Nat)
              rw [show classI T (z : Nat) = clT T z from rfl] at e5
              unfold rnV at q1
              have hx1 : ((st.beh.length : Int) - 1).toNat = st.beh.length - 1 := by omega
              (refine W_x (Aj e2 (Aj sll (Aj e3 (Aj hdl (Aj hx1 (Aj q1 (Aj e5 (Aj gb (Aj ej hw1))))))))) ?_; (repeat' first | apply Cj.mk | exact Nl.nl) <;> intros)
              exact ⟨rfl, sl, (by repeat' first | exact True.intro | refine And.intro rfl ?_), rfl, f2⟩
  · (refine W_x trivial ?_; (repeat' first | apply Cj.mk | exact Nl.nl) <;> intros)
    refine wo_nextE rfl rfl ?_
    rw [hsp, List.take_length] at fo
    have hg := fun lc => r2s_own (lc := lc) fo.own hF
    (refine W_x hg ?_; (repeat' first | apply Cj.mk | exact Nl.nl) <;> intros)
    exact ⟨rfl, k1.trans fo.kp⟩
end Go.Proofs.YtfiaggbgplmmeaaGreatDoor.AM
