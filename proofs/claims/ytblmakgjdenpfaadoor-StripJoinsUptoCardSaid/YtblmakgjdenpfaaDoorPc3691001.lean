/- Parts of proofs: lemmas, joined. -/
import Derived.Test.YtblmakgjdenpfaaDoorP96d344ab
set_option linter.unusedVariables false
set_option linter.unusedSimpArgs false
set_option linter.unusedSectionVars false
namespace Go.Proofs.YtblmakgjdenpfaaDoor.AM
open Go
theorem decode_eq (t : ByteArray) (h : AH) (hT : U8T h) (hsz : t.size < 100000000) (h0 : 0 < t.size) : callO PX 46 [.string t] h = some (.tuple (List.toArray [.int .i32 (dec1 t.data.toList).1, .int .i64 (dec1 t.data.toList).2]), h) := by
  have hne : ¬ t = ⟨#[]⟩ := fun e => by rw [e] at h0; cases h0
  obtain ⟨l, hl⟩ : ∃ l, l = t.data.toList := ⟨_, rfl⟩
  have hll : l.length = t.size := by rw [hl]; rfl
  obtain ⟨x0, q0⟩ : ∃ x, bat l 0 = x := ⟨_, rfl⟩
  by_cases hx : x0 < 128
  · have hd : dec1 t.data.toList = (x0, 1) := by rw [← hl]; unfold dec1; rw [q0, if_pos (by omega)]
    rw [hd]
    apply WpC.eqn
    refine wpc_fn (px_ext rfl) (px_fn fn_utf8_DecodeRuneInString) rfl ?_
    unfold LF_utf8_DecodeRuneInString
    simp only [argFr]
    (refine W_x (Aj hl.symm (Aj q0 hne)) ?_; (repeat' first | apply Cj.mk | exact Nl.nl) <;> intros)
    exact ⟨rfl, rfl⟩
  · have e := decodeSlow_eq t h hT hsz (by rw [← hl, q0]; omega)
    generalize (dec1 t.data.toList).1 = c at e ⊢
    generalize (dec1 t.data.toList).2 = n at e ⊢
    have c0 := bat_lt l 0
    rw [q0] at c0
    apply WpC.eqn
    refine wpc_fn (px_ext rfl) (px_fn fn_utf8_DecodeRuneInString) rfl ?_
    unfold LF_utf8_DecodeRuneInString
    simp only [argFr]
    (refine W_x (Aj hl.symm (Aj q0 (Aj hne e))) ?_; (repeat' first | apply Cj.mk | exact Nl.nl) <;> intros)
    exact ⟨rfl, rfl⟩
theorem utfFirst_eq (t : ByteArray) (h : AH) (hT : U8T h) (hsz : t.size < 100000000) (h0 : 0 < t.size) : callO PX 19 [.string t] h = some (.tuple (List.toArray [spotV (dec1 t.data.toList), .bool true]), h) := by
  have hne : ¬ t = ⟨#[]⟩ := fun e => by rw [e] at h0; cases h0
  have e1 := decode_eq t h hT hsz h0
  have e2 := spot_eq (dec1 t.data.toList).1 (dec1 t.data.toList).2 h
  have e3 : ((dec1 t.data.toList).1, (dec1 t.data.toList).2) = dec1 t.data.toList := rfl
  rw [e3] at e2
  generalize dec1 t.data.toList = d at *
  unfold spotV at e2 ⊢
  apply WpC.eqn
  refine wpc_fn (px_ext rfl) (px_fn fn_utf_First) rfl ?_
  unfold LF_utf_First
  simp only [argFr]
  (refine W_x (Aj hne (Aj e1 e2)) ?_; (repeat' first | apply Cj.mk | exact Nl.nl) <;> intros)
  exact ⟨rfl, rfl⟩
def freeB (l : Bytes) (p : Nat) : Prop := ∀ f, p - 3 ≤ f → f < p → ¬ (1 < (dec1 (l.drop f)).2 ∧ p < f + (dec1 (l.drop f)).2)
theorem dec1_le4 (l : Bytes) : (dec1 l).2 ≤ 4 := by
  unfold dec1
  repeat' split
  all_goals (dsimp only; omega)
theorem cut_spec (s : ByteArray) (h : AH) (hT : U8T h) (hs : s.size ≤ 1048576) (p : Nat) (hp : p ≤ s.size) : WpC PX 76 [.string s, .int .i64 p] h fun v h' => h' = h ∧ ∃ j : Nat, j ≤ p ∧ (j = p → freeB s.data.toList p) ∧ v = .tuple (List.toArray [.string (s.extract 0 j), .string (s.extract j s.size)]) := by
  refine wpc_fn (px_ext rfl) (px_fn fn_utf_Cut) rfl ?_
  unfold LF_utf_Cut
  simp only [argFr]
  (refine W_x trivial ?_; (repeat' first | apply Cj.mk | exact Nl.nl) <;> intros)
  have m1 : min (max (p : Int) 0) s.size = p := by omega
  have m2 : max ((p : Int) - 4 + 1) 0 = ((p - 3 : Nat) : Int) := by omega
  rw [m1, m2]
  refine wp_loop (fun w fr lc h' => lc = [] ∧ h' = h ∧ ∃ j f : Nat, w = p + 1 - f ∧ f ≤ p ∧ j ≤ p ∧ p - 3 ≤ f ∧ fr = [(0, .string s), (1, .int .i64 j), (6, .int .i64 f)] ∧ ((j = p ∧ ∀ g, p - 3 ≤ g → g < f → ¬ (1 < (dec1 (s.data.toList.drop g)).2 ∧ p < g + (dec1 (s.data.toList.drop g)).2)) ∨ (j < p ∧ f = j + 1)))
    (p + 1 - (p - 3)) ⟨rfl, rfl, p, p - 3, rfl, by omega, by omega, by omega, rfl, .inl ⟨rfl, fun g h1 h2 => by omega⟩⟩ ?_
  rintro w fr lc h' ⟨rfl, rfl, j, f, rfl, hf, hj, hf3, rfl, hor⟩
  have hjs : (j : Int) ≤ s.size := by omega
  rcases hor with ⟨rfl, hno⟩ | ⟨hjp, rfl⟩
  · by_cases hfj : f < j
    · have hfs : (f : Int) ≤ s.size := by omega
      obtain ⟨d1, d2⟩ := ext_drop s f (by omega)
      have e := decode_eq (s.extract f s.size) h' hT (by omega) (by omega)
      rw [d1] at e
      have hc : ∃ c, (dec1 (s.data.toList.drop f)).1 = c := ⟨_, rfl⟩
      obtain ⟨c, hc⟩ := hc
      obtain ⟨n, hn⟩ : ∃ n, (dec1 (s.data.toList.drop f)).2 = n := ⟨_, rfl⟩
      rw [hc, hn] at e
      have hns : n ≤ 4 := by rw [← hn]; exact dec1_le4 _
      by_cases c1 : 1 < n ∧ j < f + n
      · obtain ⟨k1, k2⟩ := c1
        (refine W_x (Aj hfs e) ?_; (repeat' first | apply Cj.mk | exact Nl.nl) <;> intros)
        refine ⟨_, ?_, rfl, rfl, f, f + 1, rfl, by omega, by omega, by omega, rfl, .inr ⟨hfj, rfl⟩⟩
        omega
      · have hno' : ∀ g, j - 3 ≤ g → g < f + 1 → ¬ (1 < (dec1 (s.data.toList.drop g)).2 ∧ j < g + (dec1 (s.data.toList.drop g)).2) := fun g h1 h2 => by
          rcases Nat.lt_or_ge g f with q | q
          · exact hno g h1 q
          · obtain rfl : g = f := by omega
            rw [hn]
            exact c1
        by_cases k1 : 1 < n
        · have k2 : ¬ ((f : Int) + n > j) := by omega
          (refine W_x (Aj hfs e) ?_; (repeat' first | apply Cj.mk | exact Nl.nl) <;> intros)
          refine ⟨_, ?_, rfl, rfl, j, f + 1, rfl, by omega, by omega, by omega, rfl, .inl ⟨rfl, hno'⟩⟩
          omega
        · (refine W_x (Aj hfs e) ?_; (repeat' first | apply Cj.mk | exact Nl.nl) <;> intros)
          refine ⟨_, ?_, rfl, rfl, j, f + 1, rfl, by omega, by omega, by omega, rfl, .inl ⟨rfl, hno'⟩⟩
          omega
    · (refine W_x hjs ?_; (repeat' first | apply Cj.mk | exact Nl.nl) <;> intros)
      refine ⟨rfl, j, by omega, fun _ => ?_, rfl⟩
      intro g h1 h2
      exact hno g h1 (by omega)
  · (refine W_x hjs ?_; (repeat' first | apply Cj.mk | exact Nl.nl) <;> intros)
    exact ⟨rfl, j, by omega, fun q => by omega, rfl⟩
theorem bound_spec (s : ByteArray) (h : AH) (hT : U8T h) (hs : s.size ≤ 1048576) (p : Nat) (hp : p ≤ s.size) : WpC PX 39 [.string s, .int .i64 p] h fun v h' => h' = h ∧ ∃ b : Bool, (b = true → freeB s.data.toList p) ∧ v = .bool b := by
  obtain ⟨_, g, e, rfl, j, hj, hf, rfl⟩ := cut_spec s h hT hs p hp
  have hz : (s.extract 0 j).size = j := by
    rw [ba_size, ba_extract _ _ _ (by omega), List.drop_zero, List.length_take]
    have : s.data.toList.length = s.size := rfl
    omega
  by_cases hjp : j = p
  · subst hjp
    refine wpc_fn (px_ext rfl) (px_fn fn_utf_Bound) rfl ?_
    unfold LF_utf_Bound
    simp only [argFr]
    (refine W_x (Aj e hz) ?_; (repeat' first | apply Cj.mk | exact Nl.nl) <;> intros)
    exact ⟨rfl, true, fun _ => hf rfl, rfl⟩
  · have hjp' : ¬ (j : Int) = p := by omega
    refine wpc_fn (px_ext rfl) (px_fn fn_utf_Bound) rfl ?_
    unfold LF_utf_Bound
    simp only [argFr]
    (refine W_x (Aj e hz) ?_; (repeat' first | apply Cj.mk | exact Nl.nl) <;> intros)
    exact ⟨rfl, false, (fun q => by cases q), rfl⟩
theorem free_posn {l : Bytes} {p : Nat} (hp : p ≤ l.length) (hf : freeB l p) : ∃ i, i ≤ (spots l).length ∧ p = posn l i := by
  have key : ∀ n i, (spots l).length - i ≤ n → i ≤ (spots l).length → posn l i ≤ p → ∃ i, i ≤ (spots l).length ∧ p = posn l i := by
    intro n
    induction n with
    | zero =>
      intro i hn hi hle
      have : i = (spots l).length := by omega
      subst this
      rw [posn_all] at hle
      exact ⟨_, Nat.le_refl _, by rw [posn_all]; omega⟩
    | succ n ih =>
      intro i hn hi hle
      rcases Nat.lt_or_ge i (spots l).length with hil | hil
      · have hs := posn_succ hil
        obtain ⟨p1, p2, p3⟩ := posn_lt hil
        have hw := dec1_le4 (l.drop (posn l i))
        rcases Nat.lt_or_ge p (posn l (i + 1)) with q | q
        · rcases Nat.eq_or_lt_of_le hle with e | e
          · exact ⟨i, hi, e.symm⟩
          · exfalso
            rw [p2] at hw
            have := hf (posn l i) (by omega) e
            rw [p2] at this
            omega
        · exact ih (i + 1) (by omega) hil q
      · have : i = (spots l).length := by omega
        subst this
        rw [posn_all] at hle
        exact ⟨_, Nat.le_refl _, by rw [posn_all]; omega⟩
  exact key _ 0 (Nat.le_refl _) (Nat.zero_le _) (by rw [posn_zero]; omega)
end Go.Proofs.YtblmakgjdenpfaaDoor.AM
namespace Go.Proofs.YtblmakgjdenpfaaDoor.AM
open Go
def LF_utf_Joins : LFunc :=
  .mk 2 [.tmp 4] (.seq (R 999 [0, 1] [.set 4 (.cv (.bool false))]) (.seq (R 7 [1, 5] [.set 5 (.op (.p (.slS (.s 0) (some (.s 1)) none)) (.cons (.va 0) (.op (.p (.mm true [.s 0, .s
  1])) (.cons (xb .add (xb .sub (xsl (.va 0)) (xi 4)) (xi 1)) (xi 0)))))]) (.seq (R 14 [5, 6] [.set 6 (xb .add (.va 5) (.op (.p (.slS (.s 0) none (some (.s 1)))) (.cons (.va 1) (.op
  (.p (.mm false [.s 0, .s 1])) (.cons (xsl (.va 1)) (xi 3))))))]) (.seq (R 21 [4] [.set 4 (xc2 39 (.va 6) (xsl (.va 5)))]) .ret))))
theorem fn_utf_Joins : (autoPrg Tryd.prog).fn 15 = some LF_utf_Joins := by kernel_rfl
end Go.Proofs.YtblmakgjdenpfaaDoor.AM
namespace Go.Proofs.YtblmakgjdenpfaaDoor.AM
open Go
theorem bat_take4 {l : Bytes} {k : Nat} (hk : k < 4) : bat (l.take 4) k = bat l k := by
  unfold bat
  simp only [List.getD_eq_getElem?_getD]
  rw [List.getElem?_take_of_lt hk]
theorem bcont_take4 {l : Bytes} {k : Nat} (hk : k < 4) : bcont (l.take 4) k = bcont l k := by
  unfold bcont
  rw [bat_take4 hk, List.length_take]
  congr 1
  exact decide_eq_decide.2 (by omega)
theorem dec1_take4 (l : Bytes) : dec1 (l.take 4) = dec1 l := by
  unfold dec1
  simp only [bat_take4 (l := l) (k := 0) (by decide), bat_take4 (l := l) (k := 1) (by decide), bat_take4 (l := l) (k := 2) (by decide), bat_take4 (l := l) (k := 3) (by decide),
    bcont_take4 (l := l) (k := 1) (by decide), bcont_take4 (l := l) (k := 2) (by decide), bcont_take4 (l := l) (k := 3) (by decide)]
theorem dec1_congr {a b : Bytes} (h : a.take 4 = b.take 4) : dec1 a = dec1 b := by rw [← dec1_take4 a, ← dec1_take4 b, h]
theorem free_join {s t : Bytes} (hf : freeB (s.drop (s.length - 3) ++ t.take 3) (s.drop (s.length - 3)).length) : freeB (s ++ t) s.length := by
  intro f h1 h2
  have h := hf (f - (s.length - 3)) (by rw [List.length_drop]; omega) (by rw [List.length_drop]; omega)
  rw [List.length_drop] at h
  have e1 : (s.drop (s.length - 3) ++ t.take 3).drop (f - (s.length - 3)) = s.drop f ++ t.take 3 := by
    rw [List.drop_append_of_le_length (by rw [List.length_drop]; omega), List.drop_drop]
    congr 2
    omega
  have e2 : (s ++ t).drop f = s.drop f ++ t := List.drop_append_of_le_length (by omega)
  have e3 : dec1 (s.drop f ++ t.take 3) = dec1 (s.drop f ++ t) := by
    refine dec1_congr ?_
    rw [List.take_append, List.take_append, List.take_take]
    congr 2
    rw [List.length_drop]
    omega
  rw [e1, e3] at h
  rw [e2]
  omega
theorem join_spots {s t : Bytes} (hf : freeB (s ++ t) s.length) : spots (s ++ t) = spots s ++ spots t := by
  obtain ⟨i, hi, hp⟩ := free_posn (by simp) hf
  have h1 := spots_take i (s ++ t) hi
  have h2 := (spots_drop (s ++ t) i hi).1
  rw [← hp, List.take_left' rfl] at h1
  rw [← hp, List.drop_left' rfl] at h2
  rw [h1, h2, List.take_append_drop]
theorem str_add9' {x y : ByteArray} (h : x.size + y.size ≤ 9223372036854775807) : binA .add (.string x) (.string y) = some (.string (x ++ y)) := if_pos h
theorem joins_eq {s t : ByteArray} {h : AH} {d m : Nat} {b : Bool} (hd : d = s.size - 3) (hm : m = min t.size 3) (hs : s.size ≤ 1048576) (ht : t.size ≤ 1048576)
    (hadd : binA .add (.string (s.extract d s.size)) (.string (t.extract 0 m)) = some (.string (s.extract d s.size ++ t.extract 0 m)))
    (e : callO PX 39 [.string (s.extract d s.size ++ t.extract 0 m), .int .i64 (s.extract d s.size).size] h = some (.bool b, h)) : callO PX 15 [.string s, .string t] h = some (.bool b, h) := by
  obtain ⟨z, hz⟩ : ∃ z : Int, z = (s.extract d s.size).size := ⟨_, rfl⟩
  rw [← hz] at e
  have hd1 : max ((s.size : Int) - 4 + 1) 0 = (d : Int) := by omega
  have hm1 : min (t.size : Int) 3 = (m : Int) := by omega
  have hd2 : d ≤ s.size := by omega
  have hm2 : m ≤ t.size := by omega
  clear hd hm
  apply WpC.eqn
  refine wpc_fn (px_ext rfl) (px_fn fn_utf_Joins) rfl ?_
  unfold LF_utf_Joins
  simp only [argFr]
  (refine W_x (Aj hd1 (Aj hm1 (Aj e (Aj hadd hz.symm)))) ?_; (repeat' first | apply Cj.mk | exact Nl.nl) <;> intros)
  exact ⟨rfl, rfl⟩
theorem joins_spec (s t : ByteArray) (h : AH) (hT : U8T h) (hs : s.size ≤ 1048576) (ht : t.size ≤ 1048576) :
    WpC PX 15 [.string s, .string t] h fun v h' => h' = h ∧ ∃ b : Bool, (b = true → spots (s.data.toList ++ t.data.toList) = spots s.data.toList ++ spots t.data.toList) ∧ v = .bool b := by
  have hsl : s.data.toList.length = s.size := rfl
  have htl : t.data.toList.length = t.size := rfl
  obtain ⟨d, hd⟩ : ∃ d, d = s.size - 3 := ⟨_, rfl⟩
  obtain ⟨m, hm⟩ : ∃ m, m = min t.size 3 := ⟨_, rfl⟩
  have hA : (s.extract d s.size).data.toList = s.data.toList.drop (s.data.toList.length - 3) := by
    rw [ba_extract _ _ _ (Nat.le_refl _), hd, hsl, ← hsl, ← List.length_drop, List.take_length]
  have hB : (t.extract 0 m).data.toList = t.data.toList.take 3 := by
    rw [ba_extract _ _ _ (by omega), List.drop_zero, Nat.sub_zero, hm, ← htl, Nat.min_comm, ← List.take_eq_take_min]
  have hAs : (s.extract d s.size).size = s.size - d := by rw [ba_size, hA, List.length_drop]; omega
  have hBs : (t.extract 0 m).size ≤ 3 := by rw [ba_size, hB, List.length_take]; omega
  have hAd : (s.extract d s.size).size ≤ 3 := by omega
  have hC : (s.extract d s.size ++ t.extract 0 m).data.toList = s.data.toList.drop (s.data.toList.length - 3) ++ t.data.toList.take 3 := by
    rw [ByteArray.data_append, Array.toList_append, hA, hB]
  have hCs : (s.extract d s.size ++ t.extract 0 m).size = (s.extract d s.size).size + (t.extract 0 m).size := by
    rw [ba_size, ByteArray.data_append, Array.toList_append, List.length_append, ← ba_size, ← ba_size]
  obtain ⟨_, h', e, rfl, b, hb, rfl⟩ := bound_spec (s.extract d s.size ++ t.extract 0 m) h hT (by omega) (s.extract d s.size).size (by omega)
  have hfin : b = true → spots (s.data.toList ++ t.data.toList) = spots s.data.toList ++ spots t.data.toList := fun q => by
    have := hb q
    rw [hC, show (s.extract d s.size).size = (s.data.toList.drop (s.data.toList.length - 3)).length by rw [ba_size, hA]] at this
    exact join_spots (free_join this)
  have e2 := joins_eq (s := s) (t := t) (d := d) (m := m) hd hm hs ht (str_add9' (by omega)) e
  exact ⟨_, _, e2, rfl, b, hfin, rfl⟩
end Go.Proofs.YtblmakgjdenpfaaDoor.AM
namespace Go.Proofs.YtblmakgjdenpfaaDoor.AM
open Go
def LF_strings_Builder_WriteRune : LFunc :=
  .mk 2 [.tmp 4, .tmp 5] (.seq (R 999 [0, 1] [.set 4 (xi 0), .set 5 (.cv .nilIface)]) (.seq (R 7 [0, 1] [.tmp 8 (xc1 77 (.va 0))]) (.seq (R 9 [0, 1, 6]
  [.set 6 (xlen (xld (xfa 1 (xnk (.va 0)))))]) (.seq (R 14 [0, 6] [.tmp 14 (.va 0), .tmp 20 (xc2 78 (xld (xfa 1 (xnk (.va 0)))) (.va 1)), .run (xst 1 (xfa 1 (xnk
  (.sl 14))) (.sl 20))]) (.seq (R 23 [4, 5] [.set 4 (xb .sub (xlen (xld (xfa 1 (xnk (.va 0))))) (.va 6)), .set 5 (.cv .nilIface)]) .ret)))))
theorem fn_strings_Builder_WriteRune : (autoPrg Tryd.prog).fn 41 = some LF_strings_Builder_WriteRune := by kernel_rfl
def LF_utf8_AppendRune : LFunc :=
  .mk 2 [.tmp 4] (.seq (R 999 [0, 1] [.set 4 (.cv (.slice none 0 0))]) (.seq (.seq (R 5 [0, 1, 7] [.tmp 7 (xb .leq (xcn .u32 (.va 1)) (.cv (.int .u32 127)))]) (.cond (.s 7) (.seq (R
  8 [4] [.set 4 (.op (.e (.appendT 10 1 1 (.s 0) (.s 1))) (.cons (.va 0) (.op (.e (.litL 11 1 1 [.int .u8 0] [(0, 1, .s 0)])) (xcn .u8 (.va 1)))))]) .ret) .skip)) (.seq (R
  13 [4] [.set 4 (xc2 120 (.va 0) (.va 1))]) .ret)))
theorem fn_utf8_AppendRune : (autoPrg Tryd.prog).fn 78 = some LF_utf8_AppendRune := by kernel_rfl
def LF_utf8_appendRuneNonASCII : LFunc :=
  .mk 2 [.tmp 4] (.seq (R 999 [0, 1] [.set 4 (.cv (.slice none 0 0))]) (.seq (R 6 [0, 1, 5] [.set 5 (xcn .u32 (.va 1))]) (.block 0 (.seq (R 12 [0, 1, 5, 11] [.set 11 (xb .leq (.va
  5) (.cv (.int .u32 2047)))]) (.cond (.s 11) (.seq (R 14 [4] [.set 4 (.op (.e (.appendT 10 1 1 (.s 0) (.s 1))) (.cons (.va 0) (.op (.e (.litL 23 2 1 [.int .u8 0] [(0, 1,
  .s 0), (1, 1, .s 1)])) (.cons (xb .or (.cv (.int .u8 192)) (xcn .u8 (xb .shr (.va 1) (.cv (.int .u64 6))))) (xb .or (.cv (.int .u8 128)) (xb .and (xcn .u8 (.va 1)) (.cv (.int .u8
  63))))))))]) .ret) (.seq (.seq (R 26 [0, 1, 5, 25] [.set 25 (xb .lss (.va 5) (.cv (.int .u32 55296)))]) (.cond (.s 25) .skip (R 28 [0, 1, 5, 25] [.set 25 (.and (xb .lss (.cv (.int
  .u32 57343)) (.va 5)) (xb .leq (.va 5) (.cv (.int .u32 65535))))]))) (.cond (.s 25) (.seq (R 34 [4] [.set 4 (.op (.e (.appendT 10 1 1 (.s 0) (.s 1))) (.cons (.va 0) (.op
  (.e (.litL 48 3 1 [.int .u8 0] [(0, 1, .s 0), (1, 1, .s 1), (2, 1, .s 2)])) (.cons (xb .or (.cv (.int .u8 224)) (xcn .u8 (xb .shr (.va 1) (.cv (.int .u64 12))))) (.cons (xb .or
  (.cv (.int .u8 128)) (xb .and (xcn .u8 (xb .shr (.va 1) (.cv (.int .u64 6)))) (.cv (.int .u8 63)))) (xb .or (.cv (.int .u8 128)) (xb .and (xcn .u8 (.va 1)) (.cv (.int .u8
  63)))))))))]) .ret) (.seq (R 51 [0, 1, 50] [.set 50 (.and (xb .gtr (.va 5) (.cv (.int .u32 65535))) (xb .leq (.va 5) (.cv (.int .u32 1114111))))]) (.cond (.s 50) (.seq (R 57 [4]
  [.set 4 (.op (.e (.appendT 10 1 1 (.s 0) (.s 1))) (.cons (.va 0) (.op (.e (.litL 76 4 1 [.int .u8 0] [(0, 1, .s 0), (1, 1, .s 1), (2, 1, .s 2), (3, 1, .s 3)])) (.cons (xb
  .or (.cv (.int .u8 240)) (xcn .u8 (xb .shr (.va 1) (.cv (.int .u64 18))))) (.cons (xb .or (.cv (.int .u8 128)) (xb .and (xcn .u8 (xb .shr (.va 1) (.cv (.int .u64 12)))) (.cv (.int
  .u8 63)))) (.cons (xb .or (.cv (.int .u8 128)) (xb .and (xcn .u8 (xb .shr (.va 1) (.cv (.int .u64 6)))) (.cv (.int .u8 63)))) (xb .or (.cv (.int .u8 128)) (xb .and (xcn .u8 (.va
  1)) (.cv (.int .u8 63))))))))))]) .ret) (.seq (R 8 [4] [.set 4 (.op (.e (.appendT 10 1 1 (.s 0) (.s 1))) (.cons (.va 0) (.op (.e (.litL 9 3 1 [.int .u8 0] [(0, 1, .s 0),
  (1, 1, .s 1), (2, 1, .s 2)])) (.cons (.cv (.int .u8 239)) (.cons (.cv (.int .u8 191)) (.cv (.int .u8 189)))))))]) .ret))))))))))
theorem fn_utf8_appendRuneNonASCII : (autoPrg Tryd.prog).fn 120 = some LF_utf8_appendRuneNonASCII := by kernel_rfl
end Go.Proofs.YtblmakgjdenpfaaDoor.AM
namespace Go.Proofs.YtblmakgjdenpfaaDoor.AM
open Go
theorem ev_newT {c : CallF} {y : YieldF} {fr : Fr} {lc : Lc} {h : AH} {t : Nat} {z : List Value} : (EOp.newT t z).ev c y fr ⟨lc, h⟩ = some (.pointer (some ⟨h.n, 0, none⟩), ⟨lc, h.push (.tc t z)⟩) := rfl
attribute [push_cast] ev_newT
def bufS (g : Option Nat) (n : Nat) : Sl := match g with
  | none => .nil
  | some g => .at g 0 n
def BufAt (h : AH) (g : Option Nat) (X : Bytes) : Prop := match g with
  | none => X = []
  | some g => X ≠ [] ∧ h.get g = some (.tc 10 (bytesV X))
structure BldAt (h : AH) (b : Nat) (g : Option Nat) (X : Bytes) : Prop where
  p : ∃ p, h.get b = some (.tc 169 [p, (bufS g X.length).val 1]) ∧ (p = .pointer none ∨ p = .pointer (some ⟨b, 0, none⟩))
  u : BufAt h g X
  ne : g ≠ some b
structure BFr (h h' : AH) (b : Nat) (g g' : Option Nat) : Prop where
  n : h.n ≤ h'.n
  keep : ∀ c, c < h.n → c ≠ b → g ≠ some c → h'.get c = h.get c
  new : g' = g ∨ ∃ x, g' = some x ∧ h.n ≤ x
def killO (h : AH) : Option Nat → AH
  | none => h
  | some g => h.kill g
theorem killO_n (h : AH) (g : Option Nat) : (killO h g).n = h.n := by cases g <;> rfl
theorem killO_get {h : AH} {g : Option Nat} {c : Nat} (hc : g ≠ some c) : (killO h g).get c = h.get c := by
  cases g with
  | none => rfl
  | some g => exact AH.get_kill_ne (fun e => hc (by rw [e]))
theorem bytesV_app (X Y : Bytes) : bytesV (X ++ Y) = bytesV X ++ bytesV Y := by simp [bytesV]
theorem bytesV_len (X : Bytes) : (bytesV X).length = X.length := by simp [bytesV]
theorem app_buf {h : AH} {lc : Lc} {g : Option Nat} {X Y : Bytes} {y : Value} {k : Nat} (hb : BufAt h g X) (hk : lenV y = some k) (hy : rdSlice ⟨lc, h⟩ 1 y = some (bytesV Y)) (hl : Y.length = k) (h0 : 0 < k) (hn : X.length + k ≤ 140737488355328) :
    appendG (some 10) 1 1 ⟨lc, h⟩ ((bufS g X.length).val 1) y = some (.slice (some ⟨h.n, 0, none⟩) (X.length + k) 1, ⟨lc, (killO h g).push (.tc 10 (bytesV (X ++ Y)))⟩) := by
  have hlen : (bytesV Y).length = k * 1 := by rw [bytesV_len, hl, Nat.mul_one]
  cases g with
  | none =>
    have hX : X = [] := hb
    subst hX
    simp only [List.length_nil, Nat.zero_add] at hn
    simp only [bufS, Sl.val, appendG, hk, hy, hlen, if_true, AObj.mk, killO, List.nil_append, List.length_nil, Nat.zero_add]
    rw [if_neg (by omega), if_pos ⟨by omega, by decide, by decide⟩]
  | some g =>
    obtain ⟨hX, hg⟩ := hb
    simp only [bufS, Sl.val, appendG, hk, hy, hlen, if_true, AObj.mk, killO]
    rw [if_neg (by omega)]
    simp only [hg, AObj.own, if_true]
    rw [if_pos ⟨by rw [bytesV_len]; omega, by omega, by decide, by decide, trivial⟩, bytesV_app]
    rfl
section
variable {p : Prg} {lc : Lc} {h : AH} {H : Value → Lc → AH → Prop}
theorem wo_appB {g : Option Nat} {X Y : Bytes} {b k : Nat} {cs : List Value} (hb : BufAt h g X) (hl : lget lc b = some (.cells false cs)) (hc : cs = bytesV Y) (hk : Y.length = k) (h0 : 0 < k) (hn : X.length + k ≤ 140737488355328)
    (hq : H (.slice (some ⟨h.n, 0, none⟩) (X.length + k) 1) lc ((killO h g).push (.tc 10 (bytesV (X ++ Y))))) : WpO p (.e (.appendT 10 1 1 (.s 0) (.s 1))) [(bufS g X.length).val 1, .slice (some ⟨b, 0, some 1⟩) k 1] lc h H := by
  refine wo_e (v := .slice (some ⟨h.n, 0, none⟩) (X.length + k) 1) (lc' := lc) ?_ hq
  simp only [EOp.ev, opd_s, fg0, fg1]
  refine app_buf hb rfl ?_ hk h0 hn
  subst hc
  simp only [rdSlice, rd_loc, hl, Nat.mul_one]
  rw [if_neg (by omega), if_pos (by rw [bytesV_len]; omega), List.drop_zero, List.take_of_length_le (by rw [bytesV_len]; omega)]
end
theorem copyCheck_spec {h : AH} {b : Nat} {g : Option Nat} {X : Bytes} (bd : BldAt h b g X) :
    ∃ h1, callO PX 77 [.pointer (some ⟨b, 0, none⟩)] h = some (.tuple #[], h1) ∧ h1.n = h.n ∧ (∀ c, c ≠ b → h1.get c = h.get c) ∧ h1.get b = some (.tc 169 [.pointer (some ⟨b, 0, none⟩), (bufS g X.length).val 1]) := by
  obtain ⟨p, hp, hor⟩ := bd.p
  rw [callO_ext (g := cpyX 84) (by unfold PX; rw [withExt_ext]; rfl)]
  unfold cpyX
  rcases hor with rfl | rfl
  · refine ⟨h.set b (.tc 169 [.pointer (some ⟨b, 0, none⟩), (bufS g X.length).val 1]), ?_, rfl, fun c hc => AH.get_set_ne _ hc, AH.get_set_same _ (AH.get_lt hp)⟩
    simp only [hp]
    rfl
  · refine ⟨h, ?_, rfl, fun c _ => rfl, hp⟩
    simp only [hp]
    simp
theorem bldString_spec {h : AH} {b : Nat} {g : Option Nat} {X : Bytes} (bd : BldAt h b g X) (hX : X.length ≤ 140737488355328) :
    callO PX 42 [.pointer (some ⟨b, 0, none⟩)] h = some (.string (bs X), killO h g) := by
  obtain ⟨p, hp, hor⟩ := bd.p
  rw [callO_ext (g := strX 84 5) (by unfold PX; rw [withExt_ext]; rfl)]
  unfold strX
  simp only [hp]
  cases g with
  | none =>
    have : X = [] := bd.u
    subst this
    rfl
  | some g =>
    obtain ⟨h1, h2⟩ := bd.u
    have hpos : 0 < X.length := List.length_pos_iff.2 h1
    simp only [bufS, Sl.val, h2, bytesX_bytesV, if_true]
    rw [if_pos ⟨trivial, trivial, hpos, hX⟩]
    rfl
end Go.Proofs.YtblmakgjdenpfaaDoor.AM
namespace Go.Proofs.YtblmakgjdenpfaaDoor.AM
open Go
theorem u8_fin : (∀ m : Fin 64, IntKind.u8.wrap ((BitVec.ofInt 8 128 ||| BitVec.ofInt 8 ((m.val : Nat) : Int)).toNat : Int) = ((128 + m.val : Nat) : Int)) ∧ (∀ m : Fin 32, IntKind.u8.wrap ((BitVec.ofInt 8 192 ||| BitVec.ofInt 8 ((m.val : Nat) : Int)).toNat : Int) = ((192 + m.val : Nat) : Int)) ∧
    (∀ m : Fin 16, IntKind.u8.wrap ((BitVec.ofInt 8 224 ||| BitVec.ofInt 8 ((m.val : Nat) : Int)).toNat : Int) = ((224 + m.val : Nat) : Int)) ∧ (∀ m : Fin 8, IntKind.u8.wrap ((BitVec.ofInt 8 240 ||| BitVec.ofInt 8 ((m.val : Nat) : Int)).toNat : Int) = ((240 + m.val : Nat) : Int)) := by
  decide
set_option maxRecDepth 10000 in
theorem u8_and : ∀ m : Fin 256, IntKind.u8.wrap ((BitVec.ofInt 8 ((m.val : Nat) : Int) &&& BitVec.ofInt 8 63).toNat : Int) = ((m.val % 64 : Nat) : Int) := by
  decide
theorem oru128 {m : Nat} (h : m < 64) : binA .or (.int .u8 128) (.int .u8 m) = some (.int .u8 ((128 + m : Nat) : Int)) := congrArg (fun z => some (Value.int .u8 z)) (u8_fin.1 ⟨m, h⟩)
theorem oru192 {m : Nat} (h : m < 32) : binA .or (.int .u8 192) (.int .u8 m) = some (.int .u8 ((192 + m : Nat) : Int)) := congrArg (fun z => some (Value.int .u8 z)) (u8_fin.2.1 ⟨m, h⟩)
theorem oru224 {m : Nat} (h : m < 16) : binA .or (.int .u8 224) (.int .u8 m) = some (.int .u8 ((224 + m : Nat) : Int)) := congrArg (fun z => some (Value.int .u8 z)) (u8_fin.2.2.1 ⟨m, h⟩)
theorem oru240 {m : Nat} (h : m < 8) : binA .or (.int .u8 240) (.int .u8 m) = some (.int .u8 ((240 + m : Nat) : Int)) := congrArg (fun z => some (Value.int .u8 z)) (u8_fin.2.2.2 ⟨m, h⟩)
theorem andu63 {q : Nat} : binA .and (.int .u8 ((q % 256 : Nat) : Int)) (.int .u8 63) = some (.int .u8 ((q % 64 : Nat) : Int)) := by
  have h := u8_and ⟨q % 256, Nat.mod_lt _ (by decide)⟩
  simp only [show q % 256 % 64 = q % 64 by omega] at h
  exact congrArg (fun z => some (Value.int .u8 z)) h
theorem shrs {k : Nat} {c m : Nat} (hk : m = 2 ^ (min k 32)) : binA .shr (.int .i32 c) (.int .u64 k) = some (.int .i32 ((c / m : Nat) : Int)) := by
  show (if (k : Int) < 0 then none else some (Value.int .i32 ((c : Int).fdiv (2 ^ (min (k : Int).toNat 32))))) = _
  rw [if_neg (by omega), Int.fdiv_eq_ediv_of_nonneg _ (Int.le_of_lt (Int.pow_pos (by decide))), hk, Int.toNat_natCast]
  congr 2
theorem wrapu8 (q : Nat) : IntKind.u8.wrap (q : Int) = ((q % 256 : Nat) : Int) := by
  unfold IntKind.wrap
  simp [IntKind.signed, IntKind.bits]
theorem wrapu32 {q : Nat} (h : q < 4294967296) : IntKind.u32.wrap (q : Int) = (q : Int) := by
  unfold IntKind.wrap
  simp [IntKind.signed, IntKind.bits]
  omega
theorem bytesV_ofs : ∀ {l : List Nat}, (∀ m ∈ l, m < 256) → bytesV (l.map UInt8.ofNat) = l.map fun m : Nat => Value.int .u8 m
  | [], _ => rfl
  | m :: l, h => by
    rw [List.map_cons, List.map_cons, ← bytesV_ofs (l := l) fun x hx => h x (by simp [hx])]
    show Value.int .u8 (((UInt8.ofNat m).toNat : Nat) : Int) :: _ = _
    rw [of_small (h m (by simp))]
    rfl
set_option maxRecDepth 20000 in
theorem appRune_spec {c : Nat} (hc : RuneN c) {h : AH} {g : Option Nat} {X : Bytes} (hb : BufAt h g X) (hn : X.length ≤ 140737488355000) :
    callO PX 78 [(bufS g X.length).val 1, .int .i32 c] h = some (.slice (some ⟨h.n, 0, none⟩) (X.length + (encN c).length) 1, (killO h g).push (.tc 10 (bytesV (X ++ encN c)))) := by
  have hc2 : c ≤ 1114111 := by unfold RuneN at hc; omega
  have hsur : ¬ (55296 ≤ c ∧ c ≤ 57343) := by unfold RuneN at hc; omega
  clear hc
  have w8 := wrapu8
  have w32 := wrapu32 (q := c) (by omega)
  apply WpC.eqn
  by_cases g1 : c < 128
  · have he : encN c = [c].map UInt8.ofNat := by unfold encN; rw [if_pos g1]; rfl
    have hv := bytesV_ofs (l := [c]) (fun m hm => by simp at hm; omega)
    rw [← he] at hv
    simp only [List.map_cons, List.map_nil] at hv
    have hm : c % 256 = c := Nat.mod_eq_of_lt (by omega)
    have hl : (encN c).length = 1 := by rw [he]; rfl
    generalize encN c = Y at *
    refine wpc_fn (px_ext rfl) (px_fn fn_utf8_AppendRune) rfl ?_
    unfold LF_utf8_AppendRune
    simp only [argFr]
    (refine W_x (Aj w32 (Aj w8 hm)) ?_; (repeat' first | apply Cj.mk | exact Nl.nl) <;> intros)
    refine wo_appB hb rfl hv.symm hl (by decide) (by omega) ?_
    (refine W_x trivial ?_; (repeat' first | apply Cj.mk | exact Nl.nl) <;> intros)
    rw [hl]
    exact ⟨rfl, rfl⟩
  · obtain ⟨q6, e6⟩ : ∃ q, q = c / 64 := ⟨_, rfl⟩
    obtain ⟨q12, e12⟩ : ∃ q, q = c / 4096 := ⟨_, rfl⟩
    obtain ⟨q18, e18⟩ : ∃ q, q = c / 262144 := ⟨_, rfl⟩
    obtain ⟨x0, d0⟩ : ∃ q, q = c % 256 := ⟨_, rfl⟩
    obtain ⟨x6, d6⟩ : ∃ q, q = q6 % 256 := ⟨_, rfl⟩
    obtain ⟨x12, d12⟩ : ∃ q, q = q12 % 256 := ⟨_, rfl⟩
    obtain ⟨x18, d18⟩ : ∃ q, q = q18 % 256 := ⟨_, rfl⟩
    obtain ⟨r0, f0⟩ : ∃ q, q = c % 64 := ⟨_, rfl⟩
    obtain ⟨r6, f6⟩ : ∃ q, q = q6 % 64 := ⟨_, rfl⟩
    obtain ⟨r12, f12⟩ : ∃ q, q = q12 % 64 := ⟨_, rfl⟩
    have s6 : binA .shr (.int .i32 c) (.int .u64 6) = some (.int .i32 (q6 : Int)) := by rw [e6]; exact shrs (k := 6) (m := 64) rfl
    have s12 : binA .shr (.int .i32 c) (.int .u64 12) = some (.int .i32 (q12 : Int)) := by rw [e12]; exact shrs (k := 12) (m := 4096) rfl
    have s18 : binA .shr (.int .i32 c) (.int .u64 18) = some (.int .i32 (q18 : Int)) := by rw [e18]; exact shrs (k := 18) (m := 262144) rfl
    have w0 : IntKind.u8.wrap (c : Int) = (x0 : Int) := by rw [d0]; exact wrapu8 c
    have w6 : IntKind.u8.wrap (q6 : Int) = (x6 : Int) := by rw [d6]; exact wrapu8 q6
    have w12 : IntKind.u8.wrap (q12 : Int) = (x12 : Int) := by rw [d12]; exact wrapu8 q12
    have w18 : IntKind.u8.wrap (q18 : Int) = (x18 : Int) := by rw [d18]; exact wrapu8 q18
    have a0 : binA .and (.int .u8 x0) (.int .u8 63) = some (.int .u8 (r0 : Int)) := by rw [d0, f0]; exact andu63
    have a6 : binA .and (.int .u8 x6) (.int .u8 63) = some (.int .u8 (r6 : Int)) := by rw [d6, f6]; exact andu63
    have a12 : binA .and (.int .u8 x12) (.int .u8 63) = some (.int .u8 (r12 : Int)) := by rw [d12, f12]; exact andu63
    have o0 := oru128 (m := r0) (by omega)
    have o6 := oru128 (m := r6) (by omega)
    have o12 := oru128 (m := r12) (by omega)
    have hE : encN c = if c < 0x800 then [192 + q6, 128 + r0].map UInt8.ofNat else if c < 0x10000 then [224 + q12, 128 + r6, 128 + r0].map UInt8.ofNat else [240 + q18, 128 + r12, 128 + r6, 128 + r0].map UInt8.ofNat := by
      unfold encN
      rw [if_neg g1, e6, e12, e18, f0, f6, f12, e6, e12]
      rfl
    have b0 : r0 < 64 := by omega
    have b6 : r6 < 64 := by omega
    have b12 : r12 < 64 := by omega
    by_cases g2 : c < 2048
    · have hm : x6 = q6 := by omega
      have p1 := oru192 (m := q6) (by omega)
      have hb1 : q6 < 32 := by omega
      rw [hm] at w6
      rw [if_pos g2] at hE
      clear e6 e12 e18 d0 d6 d12 d18 f0 f6 f12
      have hv := bytesV_ofs (l := [192 + q6, 128 + r0]) (fun m hm => by simp at hm; omega)
      rw [← hE] at hv
      simp only [List.map_cons, List.map_nil, Int.natCast_add, Int.cast_ofNat_Int] at hv
      have hl : (encN c).length = 2 := by rw [hE]; rfl
      have e1 : callO PX 120 [(bufS g X.length).val 1, .int .i32 c] h = some (.slice (some ⟨h.n, 0, none⟩) (X.length + (encN c).length) 1, (killO h g).push (.tc 10 (bytesV (X ++ encN c)))) := by
        generalize encN c = Y at *
        apply WpC.eqn
        refine wpc_fn (px_ext rfl) (px_fn fn_utf8_appendRuneNonASCII) rfl ?_
        unfold LF_utf8_appendRuneNonASCII
        simp only [argFr]
        (refine W_x (Aj w32 (Aj w0 (Aj w6 (Aj s6 (Aj a0 (Aj o0 p1)))))) ?_; (repeat' first | apply Cj.mk | exact Nl.nl) <;> intros)
        all_goals first
        | (exfalso; omega)
        | (refine wo_appB hb rfl hv.symm hl (by decide) (by omega) ?_
           (refine W_x trivial ?_; (repeat' first | apply Cj.mk | exact Nl.nl) <;> intros)
           rw [hl]
           exact ⟨rfl, rfl⟩)
      generalize encN c = Y at *
      refine wpc_fn (px_ext rfl) (px_fn fn_utf8_AppendRune) rfl ?_
      unfold LF_utf8_AppendRune
      simp only [argFr]
      (refine W_x (Aj w32 e1) ?_; (repeat' first | apply Cj.mk | exact Nl.nl) <;> intros)
      exact ⟨rfl, rfl⟩
    · by_cases g3 : c < 65536
      · have hm : x12 = q12 := by omega
        have p1 := oru224 (m := q12) (by omega)
        have hb1 : q12 < 16 := by omega
        rw [hm] at w12
        rw [if_neg g2, if_pos g3] at hE
        clear e6 e12 e18 d0 d6 d12 d18 f0 f6 f12
        have hv := bytesV_ofs (l := [224 + q12, 128 + r6, 128 + r0]) (fun m hm => by simp at hm; omega)
        rw [← hE] at hv
        simp only [List.map_cons, List.map_nil, Int.natCast_add, Int.cast_ofNat_Int] at hv
        have hl : (encN c).length = 3 := by rw [hE]; rfl
        have e1 : callO PX 120 [(bufS g X.length).val 1, .int .i32 c] h = some (.slice (some ⟨h.n, 0, none⟩) (X.length + (encN c).length) 1, (killO h g).push (.tc 10 (bytesV (X ++ encN c)))) := by
          generalize encN c = Y at *
          apply WpC.eqn
          refine wpc_fn (px_ext rfl) (px_fn fn_utf8_appendRuneNonASCII) rfl ?_
          unfold LF_utf8_appendRuneNonASCII
          simp only [argFr]
          (refine W_x (Aj w32 (Aj w0 (Aj w6 (Aj w12 (Aj s6 (Aj s12 (Aj a0 (Aj a6 (Aj o0 (Aj o6 p1)))))))))) ?_; (repeat' first | apply Cj.mk | exact Nl.nl) <;> intros)
          all_goals first
          | (exfalso; omega)
          | (refine wo_appB hb rfl hv.symm hl (by decide) (by omega) ?_
             (refine W_x trivial ?_; (repeat' first | apply Cj.mk | exact Nl.nl) <;> intros)
             rw [hl]
             exact ⟨rfl, rfl⟩)
        generalize encN c = Y at *
        refine wpc_fn (px_ext rfl) (px_fn fn_utf8_AppendRune) rfl ?_
        unfold LF_utf8_AppendRune
        simp only [argFr]
        (refine W_x (Aj w32 e1) ?_; (repeat' first | apply Cj.mk | exact Nl.nl) <;> intros)
        exact ⟨rfl, rfl⟩
      · have hm : x18 = q18 := by omega
        have p1 := oru240 (m := q18) (by omega)
        have hb1 : q18 < 8 := by omega
        rw [hm] at w18
        rw [if_neg g2, if_neg g3] at hE
        clear e6 e12 e18 d0 d6 d12 d18 f0 f6 f12
        have hv := bytesV_ofs (l := [240 + q18, 128 + r12, 128 + r6, 128 + r0]) (fun m hm => by simp at hm; omega)
        rw [← hE] at hv
        simp only [List.map_cons, List.map_nil, Int.natCast_add, Int.cast_ofNat_Int] at hv
        have hl : (encN c).length = 4 := by rw [hE]; rfl
        have e1 : callO PX 120 [(bufS g X.length).val 1, .int .i32 c] h = some (.slice (some ⟨h.n, 0, none⟩) (X.length + (encN c).length) 1, (killO h g).push (.tc 10 (bytesV (X ++ encN c)))) := by
          generalize encN c = Y at *
          apply WpC.eqn
          refine wpc_fn (px_ext rfl) (px_fn fn_utf8_appendRuneNonASCII) rfl ?_
          unfold LF_utf8_appendRuneNonASCII
          simp only [argFr]
          (refine W_x (Aj w32 (Aj w0 (Aj w6 (Aj w12 (Aj w18 (Aj s6 (Aj s12 (Aj s18 (Aj a0 (Aj a6 (Aj a12 (Aj o0 (Aj o6 (Aj o12 p1)))))))))))))) ?_; (repeat' first | apply Cj.mk | exact Nl.nl) <;> intros)
          all_goals first
          | (exfalso; omega)
          | (refine wo_appB hb rfl hv.symm hl (by decide) (by omega) ?_
             (refine W_x trivial ?_; (repeat' first | apply Cj.mk | exact Nl.nl) <;> intros)
             rw [hl]
             exact ⟨rfl, rfl⟩)
        generalize encN c = Y at *
        refine wpc_fn (px_ext rfl) (px_fn fn_utf8_AppendRune) rfl ?_
        unfold LF_utf8_AppendRune
        simp only [argFr]
        (refine W_x (Aj w32 e1) ?_; (repeat' first | apply Cj.mk | exact Nl.nl) <;> intros)
        exact ⟨rfl, rfl⟩
theorem writeRune_spec {c : Nat} (hc : RuneN c) {h : AH} {b : Nat} {g : Option Nat} {X : Bytes} (bd : BldAt h b g X) (hn : X.length ≤ 140737488355000) :
    WpC PX 41 [.pointer (some ⟨b, 0, none⟩), .int .i32 c] h fun v h' => ∃ g', BldAt h' b g' (X ++ encN c) ∧ BFr h h' b g g' := by
  obtain ⟨h1, e1, n1, k1, q1⟩ := copyCheck_spec bd
  have hu := bd.u
  have hne := bd.ne
  have hbn := AH.get_lt q1
  have hb1 : BufAt h1 g X := by
    cases g with
    | none => exact hu
    | some g => exact ⟨hu.1, (k1 g (fun e => hne (by rw [e]))).trans hu.2⟩
  have e2 := appRune_spec hc hb1 hn
  have hl := encN_len c
  generalize encN c = Y at *
  have hk : ((killO h1 g).push (.tc 10 (bytesV (X ++ Y)))).get b = some (.tc 169 [.pointer (some ⟨b, 0, none⟩), (bufS g X.length).val 1]) := by
    rw [AH.get_push_ne _ (by rw [killO_n]; omega), killO_get hne]
    exact q1
  have hK : ∀ c, c < h.n → c ≠ b → g ≠ some c → ((killO h1 g).push (.tc 10 (bytesV (X ++ Y)))).get c = h.get c := fun c hc hcb hg => by
    rw [AH.get_push_ne _ (by rw [killO_n]; omega), killO_get hg]
    exact k1 c hcb
  have hN : ((killO h1 g).push (.tc 10 (bytesV (X ++ Y)))).n = h.n + 1 := by rw [AH.push_n, killO_n, n1]
  have hG : ((killO h1 g).push (.tc 10 (bytesV (X ++ Y)))).get h.n = some (.tc 10 (bytesV (X ++ Y))) := by
    rw [← n1, ← killO_n h1 g]; exact AH.get_push_same _ _
  rw [n1] at e2
  generalize (killO h1 g).push (.tc 10 (bytesV (X ++ Y))) = h2 at *
  have hs : (bufS g X.length).len = X.length := by
    cases g with
    | none => have : X = [] := hu; subst this; rfl
    | some g => rfl
  refine wpc_fn (px_ext rfl) (px_fn fn_strings_Builder_WriteRune) rfl ?_
  unfold LF_strings_Builder_WriteRune
  simp only [argFr]
  (refine W_x (Aj e1 (Aj q1 (Aj e2 (Aj hk hs)))) ?_; (repeat' first | apply Cj.mk | exact Nl.nl) <;> intros)
  refine ⟨some h.n, ⟨⟨_, by rw [AH.get_set_same _ (by omega), List.length_append]; rfl, .inr rfl⟩, ⟨?_, ?_⟩, ?_⟩, ?_, ?_, ?_⟩
  · intro e
    have := congrArg List.length e
    rw [List.length_append, List.length_nil] at this
    omega
  · exact (AH.get_set_ne _ (show h.n ≠ b by omega)).trans hG
  · intro e; injection e with e; omega
  · rw [AH.set_n]; omega
  · intro c hc hcb hg
    rw [AH.get_set_ne _ hcb]
    exact hK c hc hcb hg
  · exact .inr ⟨_, rfl, Nat.le_refl _⟩
end Go.Proofs.YtblmakgjdenpfaaDoor.AM
namespace Go.Proofs.YtblmakgjdenpfaaDoor.AM
open Go
def LF_strip_Strip : LFunc :=
  .mk 2 [.tmp 4] (.seq (R 999 [0, 1] [.set 4 (.cv (.string ⟨#[]⟩))]) (.seq (R 5 [0, 1, 5] [.tmp 5 (.op (.e (.newT 169 [.pointer none, .slice none 0 0])) .nil)])
  (.seq (R 6 [5] [.tmp 9 (xc3 38 (.va 0) (.va 1) (.op (.p (.mkfn (.func 40) [] [.s 0])) (.sl 5)))]) (.seq (R 10 [4] [.set 4 (xc1
  42 (.sl 5))]) .ret))))
theorem fn_strip_Strip : (autoPrg Tryd.prog).fn 16 = some LF_strip_Strip := by kernel_rfl
def LF_strip_Strip_1 : LFunc :=
  .mk 3 [.tmp 5] (.seq (R 3 [1, 2] [.tmp 3 (xbl 3 2 (.sl 0)), .set 5 (.cv (.bool false))]) (.seq (R 6 [] [.tmp 7 (xc2 41 (.sl 2) (.va 1))]) (.seq (R
  999 [5] [.set 5 (.cv (.bool true))]) .ret)))
theorem fn_strip_Strip_1 : (autoPrg Tryd.prog).fn 40 = some LF_strip_Strip_1 := by kernel_rfl
def LF_strip_Seen : LFunc :=
  .mk 2 [.tmp 4] (.seq (R 2 [2, 3] [.tmp 2 (xbh 1 (.sl 0)), .tmp 3 (xbh 1 (.sl 1)), .set 4 (.cv .nilFunc)]) (.seq (R 5 [4] [.set 4 (.op (.p (.mkfn (.func 37) [] [.s 0,
  .s 1])) (.cons (.sl 2) (.sl 3)))]) .ret))
theorem fn_strip_Seen : (autoPrg Tryd.prog).fn 13 = some LF_strip_Seen := by kernel_rfl
def LF_strip_Seen_1 : LFunc :=
  .mk 3 [] (R 4 [] [.tmp 7 (xc3 38 (xld (.sl 1)) (xld (.sl 2)) (.va 0))])
theorem fn_strip_Seen_1 : (autoPrg Tryd.prog).fn 37 = some LF_strip_Seen_1 := by kernel_rfl
def LF_strip_seen : LFunc :=
  .mk 3 [] (.seq (.seq (R 9 [0, 1, 2, 10] [.tmp 10 (.op (.p (.eqk false .ptr (.s 0) (.s 1))) (.cons (.va 0) (.cv (.pointer none))))]) (.cond (.s 10) .ret .skip)) (.seq (R 999 [0, 1,
  2, 6] [.set 6 (xi (-1))]) (.seq (R 11 [0, 2, 6, 12] [.tmp 12 (.op (.e (.rngS 12 (.s 0))) (.va 1))]) (.block 0 (.loop (.seq (R 13 [0, 2, 6, 12, 13, 14] [.tmp 13 (.op (.e (.nxtS (.s
  0))) (.sl 12)), .tmp 14 (xex 0 (.sl 13))]) (.seq (.cond (.s 14) .skip (.exit 0)) (.block 1 (.seq (R 15 [0, 2, 6, 7, 8, 12] [.tmp 15 (xex 1 (.sl 13)), .tmp 16 (xex 2 (.sl 13)),
  .set 7 (.sl 15), .set 8 (.sl 16)]) (.seq (R 17 [0, 2, 6, 7, 8, 12] [.set 6 (xb .add (.va 6) (xi 1))]) (.seq (R 19 [0, 2, 6, 12, 31] [.tmp 31 (.and (xu .not (xc2
  75 (.va 0) (.va 8))) (xu .not (xv2 (.va 2) (.op (.p (.build [.int .i64 0, .int .i64 0] [(0, 1, .s 0), (1, 1, .s 1)])) (.cons (.va 7) (.va 6))) (.va 8))))])
  (.cond (.s 31) .ret .skip))))))))))))
theorem fn_strip_seen : (autoPrg Tryd.prog).fn 38 = some LF_strip_seen := by kernel_rfl
def LF_strip_Count : LFunc :=
  .mk 2 [.tmp 4] (.seq (R 999 [0, 1] [.set 4 (xi 0)]) (.seq (.seq (R 6 [0, 1, 7] [.tmp 7 (.op (.p (.eqk false .ptr (.s 0) (.s 1))) (.cons (.va 0) (.cv (.pointer none))))]) (.cond
  (.s 7) (.seq (R 999 [4] [.set 4 (xi 0)]) .ret) .skip)) (.seq (R 8 [0, 1, 5] [.tmp 9 (xc1 20 (.va 1)), .at 5, .tmp 5 (xnh [.int .i64 0]), .run (xst 1 (.sl 5) (.sl 9))])
  (.seq (R 10 [5] [.tmp 13 (xc3 38 (.va 0) (.va 1) (.op (.p (.mkfn (.func 43) [] [.s 0])) (.sl 5)))]) (.seq (R 14 [4] [.set 4 (xld (.sl 5))]) .ret)))))
theorem fn_strip_Count : (autoPrg Tryd.prog).fn 17 = some LF_strip_Count := by kernel_rfl
def LF_strip_Count_1 : LFunc :=
  .mk 3 [.tmp 5] (.seq (R 3 [2] [.tmp 3 (xbl 3 2 (.sl 0)), .set 5 (.cv (.bool false))]) (.seq (R 6 [] [.run (xst 1 (.sl 2) (xb .sub (xld (.sl 2)) (xi 1)))]) (.seq (R 999 [5] [.set 5
  (.cv (.bool true))]) .ret)))
theorem fn_strip_Count_1 : (autoPrg Tryd.prog).fn 43 = some LF_strip_Count_1 := by kernel_rfl
def LF_strip_Place : LFunc :=
  .mk 3 [.cell 6 (some 2), .tmp 7] (.seq (R 5 [0, 1, 5, 6] [.tmp 5 (xbh 1 (.sl 2)), .tmp 6 (xnl 6 [.int .i64 0, .int .i64 0]), .set 7 (.cv (.bool false))]) (.seq (.seq (R 10 [0, 1,
  5, 6, 15] [.tmp 15 (.or (.op (.p (.eqk false .ptr (.s 0) (.s 1))) (.cons (.va 0) (.cv (.pointer none)))) (xb .lss (xld (.sl 5)) (xi 0)))]) (.cond (.s 15) (.seq (R 16 [6, 7] [.run
  (xst 2 (.sl 6) (.op (.p (.build [.int .i64 0, .int .i64 0] [])) .nil)), .set 7 (.cv (.bool false))]) .ret) .skip)) (.seq (R 8 [0, 1, 5, 6, 8] [.tmp 8 (xnh [.int .i64 0, .int .i64
  0])]) (.seq (R 9 [0, 1, 5, 6, 8, 9] [.tmp 9 (xnh [.bool false]), .run (xst 1 (.sl 9) (.cv (.bool false)))]) (.seq (R 17 [1, 5, 6, 8, 9] [.tmp 20 (xc3 38 (.va 0) (.va
  1) (.op (.p (.mkfn (.func 44) [] [.s 0, .s 1, .s 2])) (.cons (.sl 5) (.cons (.sl 8) (.sl 9)))))]) (.seq (.block 0 (.seq (R 22 [1, 5, 6, 8, 21] [.set 21 (xld (.sl
  9))]) (.cond (.s 21) (.seq (R 23 [6, 7] [.run (xst 2 (.sl 6) (xln 2 (.sl 8))), .set 7 (.cv (.bool true))]) .ret) (.seq (R 25 [1, 6, 24] [.set 24 (xb .gtr (xld (.sl 5)) (xi 0))])
  (.cond (.s 24) (.seq (R 27 [6, 7] [.run (xst 2 (.sl 6) (.op (.p (.build [.int .i64 0, .int .i64 0] [])) .nil)), .set 7 (.cv (.bool false))]) .ret) .skip))))) (.seq (R 28 [6, 7]
  [.run (xst 2 (.sl 6) (.op (.p (.build [.int .i64 0, .int .i64 0] [(0, 1, .s 0), (1, 1, .s 1)])) (.cons (xsl (.va 1)) (xc1 20 (.va 1))))), .set 7 (.cv (.bool true))])
  .ret)))))))
theorem fn_strip_Place : (autoPrg Tryd.prog).fn 18 = some LF_strip_Place := by kernel_rfl
def LF_strip_Place_1 : LFunc :=
  .mk 5 [.tmp 7] (.seq (R 5 [2, 3, 4, 5] [.tmp 5 (xbl 5 2 (.sl 0)), .set 7 (.cv (.bool false))]) (.seq (.region [.mk (some 8) (.r (.load (some 2) (.s 5))) none, .mk (some 9) (.r
  (.load none (.s 2))) none, .mk (some 10) (.p (.bin .eql (.s 9) (.c (.int .i64 0)))) none, .mk none (.e (.store 2 (.s 3) (.s 8))) none, .mk none (.e (.store 1 (.s 4) (.s 10)))
  none] [2, 4] [(1, 4)]) (.seq (R 11 [4] [.run (xst 1 (.sl 2) (xb .sub (xld (.sl 2)) (xi 1)))]) (.seq (R 13 [7] [.set 7 (xu .not (xld (.sl 4)))]) .ret))))
theorem fn_strip_Place_1 : (autoPrg Tryd.prog).fn 44 = some LF_strip_Place_1 := by kernel_rfl
end Go.Proofs.YtblmakgjdenpfaaDoor.AM
namespace Go.Proofs.YtblmakgjdenpfaaDoor.AM
open Go
theorem filter_range_get {p : Nat → Bool} {n i : Nat} (hi : i < n) (hp : p i = true) : ((List.range n).filter p)[((List.range i).filter p).length]? = some i := by
  rw [show n = i + (1 + (n - i - 1)) by omega, List.range_add, List.filter_append, List.getElem?_append_right (Nat.le_refl _), Nat.sub_self, Nat.add_comm 1, List.range_succ_eq_map]
  simp [hp]
theorem filter_range_succ (p : Nat → Bool) (i : Nat) : ((List.range (i + 1)).filter p).length = ((List.range i).filter p).length + (if p i = true then 1 else 0) := by
  rw [List.range_succ, List.filter_append, List.length_append]
  by_cases h : p i = true <;> simp [h]
theorem filter_range_map {α : Type} (q : α → Bool) : ∀ l : List α, ((List.range l.length).filter fun i => (l[i]?).any q).filterMap (fun i => l[i]?) = l.filter q
  | [] => rfl
  | a :: l => by
    have ih := filter_range_map q l
    rw [List.length_cons, List.range_succ_eq_map, List.filter_cons, List.filter_map]
    have e : (fun i => ((a :: l)[i]?).any q) ∘ Nat.succ = fun i => (l[i]?).any q := by
      funext i; simp
    rw [e]
    by_cases h : q a = true
    · simp only [List.getElem?_cons_zero, Option.any_some, h, if_true, List.filterMap_cons, List.filter_cons]
      rw [List.filterMap_map]
      simp only [Function.comp_def, List.getElem?_cons_succ, ih]
    · simp only [List.getElem?_cons_zero, Option.any_some, h, Bool.false_eq_true, if_false, List.filter_cons]
      rw [List.filterMap_map]
      simp only [Function.comp_def, List.getElem?_cons_succ, ih]
def seenI (D : Nat → Bool) (l : Bytes) : List Nat := (List.range (runesB l).length).filter fun i => ((runesB l)[i]?).any fun c => !D c
def seenL (D : Nat → Bool) (l : Bytes) : List (Nat × Nat × Nat) := (seenI D l).map fun i => (posn l i, i, (runesB l).getD i 0)
def keptR (D : Nat → Bool) (l : Bytes) : List Nat := (runesB l).filter fun c => !D c
def stripB (D : Nat → Bool) (l : Bytes) : Bytes := encs (keptR D l)
def seenN (D : Nat → Bool) (l : Bytes) (i : Nat) : Nat := ((List.range i).filter fun i => ((runesB l)[i]?).any fun c => !D c).length
theorem seenI_map (D : Nat → Bool) (l : Bytes) : (seenL D l).map (·.2.2) = keptR D l := by
  have h := filter_range_map (fun c => !D c) (runesB l)
  unfold seenL keptR
  rw [← h, List.map_map]
  show (seenI D l).map (fun i => (runesB l).getD i 0) = (seenI D l).filterMap fun i => (runesB l)[i]?
  have hk : ∀ i ∈ seenI D l, (runesB l)[i]? = some ((runesB l).getD i 0) := fun i hi => by
    have := (List.mem_filter.1 hi).1
    rw [List.mem_range] at this
    simp [List.getD_eq_getElem?_getD, this]
  generalize seenI D l = L at hk ⊢
  induction L with
  | nil => rfl
  | cons i r ih =>
    rw [List.map_cons, List.filterMap_cons, hk i (by simp)]
    simp only
    rw [ih fun j hj => hk j (by simp [hj])]
theorem seenL_len (D : Nat → Bool) (l : Bytes) : (seenL D l).length = (keptR D l).length := by rw [← seenI_map, List.length_map]
theorem seenN_all (D : Nat → Bool) (l : Bytes) : seenN D l (spots l).length = (seenL D l).length := by
  unfold seenN seenL seenI
  rw [List.length_map, runesB_len]
theorem seenN_drop {D : Nat → Bool} {l : Bytes} {i : Nat} (hi : i < (spots l).length) (h : D (spots l)[i].1 = true) : seenN D l (i + 1) = seenN D l i := by
  unfold seenN
  rw [filter_range_succ]
  have : (runesB l)[i]? = some (spots l)[i].1 := by simp [runesB, hi]
  simp [this, h]
theorem seenN_more {D : Nat → Bool} {l : Bytes} {i : Nat} (hi : i < (spots l).length) (h : D (spots l)[i].1 = false) :
    seenN D l (i + 1) = seenN D l i + 1 ∧ ∃ hj : seenN D l i < (seenL D l).length, (seenL D l)[seenN D l i] = (posn l i, i, (spots l)[i].1) := by
  have e : (runesB l)[i]? = some (spots l)[i].1 := by simp [runesB, hi]
  have hp : (((runesB l)[i]?).any fun c => !D c) = true := by simp [e, h]
  have hi' : i < (runesB l).length := by rw [runesB_len]; exact hi
  have hg := filter_range_get (p := fun i => ((runesB l)[i]?).any fun c => !D c) hi' hp
  constructor
  · unfold seenN
    rw [filter_range_succ, if_pos hp]
  · have hL : (seenL D l)[seenN D l i]? = some (posn l i, i, (spots l)[i].1) := by
      unfold seenL seenI seenN
      rw [List.getElem?_map, hg]
      simp [List.getD_eq_getElem?_getD, e]
    obtain ⟨h1, h2⟩ := List.getElem?_eq_some_iff.1 hL
    exact ⟨h1, h2⟩
def placeD (D : Nat → Bool) (l : Bytes) (n : Nat) : Option (Nat × Nat) :=
  if h : n < (seenL D l).length then some ((seenL D l)[n].1, (seenL D l)[n].2.1) else if n = (seenL D l).length then some (l.length, (spots l).length) else none
variable {D : Nat → Bool}
theorem kept_rune (l : Bytes) : ∀ c ∈ keptR D l, RuneN c := fun c hc => runesB_rune l c (List.mem_filter.1 hc).1
theorem runesB_strip (l : Bytes) : runesB (stripB D l) = keptR D l := runesB_of_encs (kept_rune l)
theorem encs_inj {A B : List Nat} (hA : ∀ c ∈ A, RuneN c) (hB : ∀ c ∈ B, RuneN c) (h : encs A = encs B) : A = B := by
  rw [← runesB_of_encs hA, ← runesB_of_encs hB, h]
theorem kept_le (l : Bytes) : (keptR D l).length ≤ (spots l).length := by rw [← runesB_len]; exact List.length_filter_le _ _
theorem runesB_join {a b : Bytes} (h : spots (a ++ b) = spots a ++ spots b) : runesB (a ++ b) = runesB a ++ runesB b := by unfold runesB; rw [h, List.map_append]
theorem strip_join {a b : Bytes} (h : spots (a ++ b) = spots a ++ spots b) : stripB D (a ++ b) = stripB D a ++ stripB D b := by
  unfold stripB keptR
  rw [runesB_join h, List.filter_append]
  simp [encs]
theorem kept_join {a b : Bytes} (h : spots (a ++ b) = spots a ++ spots b) : (keptR D (a ++ b)).length = (keptR D a).length + (keptR D b).length := by
  unfold keptR
  rw [runesB_join h, List.filter_append, List.length_append]
end Go.Proofs.YtblmakgjdenpfaaDoor.AM
namespace Go.Proofs.YtblmakgjdenpfaaDoor.AM
open Go
def LF_utf_Count : LFunc :=
  .mk 1 [.tmp 2] (.seq (R 999 [0] [.set 2 (xi 0)]) (.seq (R 999 [0, 3] [.set 3 (xi 0)]) (.seq (.seq (R 4 [3, 5] [.tmp 5 (.op (.e (.rngS 5 (.s 0))) (.va 0))]) (.block 0 (.loop (.seq
  (R 6 [3, 5, 7] [.tmp 7 (xex 0 (.op (.e (.nxtS (.s 0))) (.sl 5)))]) (.seq (.cond (.s 7) .skip (.exit 0)) (.block 1 (R 8 [3, 5] [.set 3 (xb .add (.va 3) (xi 1))]))))))) (.seq (R 10
  [2] [.set 2 (.va 3)]) .ret))))
theorem fn_utf_Count : (autoPrg Tryd.prog).fn 20 = some LF_utf_Count := by kernel_rfl
end Go.Proofs.YtblmakgjdenpfaaDoor.AM
namespace Go.Proofs.YtblmakgjdenpfaaDoor.AM
open Go
theorem utfCount_eq (s : ByteArray) (hs : s.size ≤ 16777216) (h : AH) : callO PX 20 [.string s] h = some (.int .i64 (spots s.data.toList).length, h) := by
  have hz : s.data.toList.length = s.size := rfl
  have hn := spots_len s.data.toList
  apply WpC.eqn
  refine wpc_fn (px_ext rfl) (px_fn fn_utf_Count) rfl ?_
  unfold LF_utf_Count
  simp only [argFr]
  (refine W_x @ev_rngS ?_; (repeat' first | apply Cj.mk | exact Nl.nl) <;> intros)
  refine wp_spotsS (fun i _ => [(3, .int .i64 i), (5, .pointer (some ⟨10, 0, some 1⟩))]) (fun n _ => [(10, .siter s n)]) s s.data.toList (fun _ _ h' => h' = h) (fun _ _ => (none : Option Unit)) () rfl (by repeat' first | exact True.intro | refine And.intro rfl ?_) (fun _ _ => rfl) rfl rfl (fun i hi _ h1 hh hit => ?_) fun _ h1 hh fin => ?_
  · subst hh
    (refine W_x trivial ?_; (repeat' first | apply Cj.mk | exact Nl.nl) <;> intros)
    refine wo_next rfl rfl hi ?_
    (refine W_x trivial ?_; (repeat' first | apply Cj.mk | exact Nl.nl) <;> intros)
    exact ⟨rfl, (), (by repeat' first | exact True.intro | refine And.intro rfl ?_), rfl, rfl⟩
  · subst hh
    (refine W_x trivial ?_; (repeat' first | apply Cj.mk | exact Nl.nl) <;> intros)
    refine wo_nextE rfl rfl ?_
    (refine W_x trivial ?_; (repeat' first | apply Cj.mk | exact Nl.nl) <;> intros)
    exact ⟨rfl, rfl⟩
end Go.Proofs.YtblmakgjdenpfaaDoor.AM
namespace Go.Proofs.YtblmakgjdenpfaaDoor.AM
open Go
def dropT (T : Tab) (c : Nat) : Bool := ofI (c : Int) T.drops
def placeV (a b : Nat) : Value := .agg (List.toArray [.int .i64 a, .int .i64 b])
def seenE (x : Nat × Nat × Nat) : List Value := [placeV x.1 x.2.1, .int .i32 x.2.2]
theorem seen_spec {k B : Nat} {s6 : Sl} {T : Tab} (s : ByteArray) (hs : s.size ≤ 16777216) {yv : Value} {I : Nat → AH → Prop} {E : AH → Prop} {h : AH} (hyv : IsF yv) (hvs : vsame yv yv = true)
    (hstep : ∀ j (hj : j < (seenL (dropT T) s.data.toList).length) h, I j h → WpV PX yv (seenE (seenL (dropT T) s.data.toList)[j]) h fun v h' => (v = .bool true ∧ I (j + 1) h') ∨ (v = .bool false ∧ E h'))
    (hbk : ∀ j h, I j h → BkAt h k B s6 T) (h0 : I 0 h) : WpC PX 38 [.pointer (some ⟨k, 0, none⟩), .string s, yv] h fun _ h' => I (seenL (dropT T) s.data.toList).length h' ∨ E h' := by
  have hset := hyv.set
  have hlc1 := hyv.lc1
  obtain ⟨l, hl⟩ : ∃ l, l = s.data.toList := ⟨_, rfl⟩
  rw [← hl] at hstep ⊢
  have hll : l.length = s.size := by rw [hl]; rfl
  have hn := spots_len l
  refine wpc_fn (px_ext rfl) (px_fn fn_strip_seen) rfl ?_
  unfold LF_strip_seen
  simp only [argFr]
  (refine W_x (Aj hset (Aj hlc1 @ev_rngS)) ?_; (repeat' first | apply Cj.mk | exact Nl.nl) <;> intros)
  refine wp_spotsS (fun i _ => [(0, .pointer (some ⟨k, 0, none⟩)), (2, yv), (6, .int .i64 ((i : Int) - 1)), (12, .pointer (some ⟨24, 0, some 1⟩))]) (fun n _ => [(24, .siter s n)]) s l (fun i _ h1 => I (seenN (dropT T) l i) h1) (fun _ _ => (none : Option Unit)) () hl (by repeat' first | exact True.intro | refine And.intro rfl ?_) (fun _ _ => rfl) rfl h0 (fun i hil _ h1 hI hit => ?_) fun _ h1 hI fin => ?_
  · have e1 := dropped_eq (hbk _ _ hI) ((spots l)[i].1 : Nat)
    have m0 := seenN_drop (D := dropT T) hil
    have m1 := seenN_more (D := dropT T) hil
    unfold dropT at m0 m1
    have hp : (i : Int) - 1 + 1 = i := by omega
    have hp2 : ((i + 1 : Nat) : Int) - 1 = i := by omega
    (refine W_x (Aj hset hlc1) ?_; (repeat' first | apply Cj.mk | exact Nl.nl) <;> intros)
    refine wo_next hl rfl hil ?_
    generalize (spots l)[i] = x at e1 m0 m1
    cases hd : ofI (x.1 : Int) T.drops
    · obtain ⟨n1, hj, hg⟩ := m1 hd
      have hst := hstep _ hj h1 hI
      unfold dropT at hst
      rw [hg] at hst
      unfold seenE placeV at hst
      rw [hd] at e1
      simp only at hst
      (refine W_x (Aj hset (Aj hlc1 (Aj e1 hp))) ?_; (repeat' first | apply Cj.mk | exact Nl.nl) <;> intros)
      refine wo_callV (fv := yv) rfl rfl rfl ?_
      refine hst.mono ?_
      rintro v h2 (⟨rfl, hI2⟩ | ⟨rfl, hE⟩)
      · (refine W_x (Aj hset hlc1) ?_; (repeat' first | apply Cj.mk | exact Nl.nl) <;> intros)
        exact ⟨rfl, (), by rw [hp2]; exact (by repeat' first | exact True.intro | refine And.intro rfl ?_), rfl, by unfold dropT; rw [n1]; exact hI2⟩
      · (refine W_x (Aj hset hlc1) ?_; (repeat' first | apply Cj.mk | exact Nl.nl) <;> intros)
        exact .inr hE
    · rw [hd] at e1
      (refine W_x (Aj hset (Aj hlc1 (Aj e1 hp))) ?_; (repeat' first | apply Cj.mk | exact Nl.nl) <;> intros)
      exact ⟨rfl, (), by rw [hp2]; exact (by repeat' first | exact True.intro | refine And.intro rfl ?_), rfl, by unfold dropT; rw [m0 hd]; exact hI⟩
  · (refine W_x (Aj hset hlc1) ?_; (repeat' first | apply Cj.mk | exact Nl.nl) <;> intros)
    refine wo_nextE hl rfl ?_
    rw [seenN_all] at hI
    (refine W_x (Aj hset hlc1) ?_; (repeat' first | apply Cj.mk | exact Nl.nl) <;> intros)
    exact .inl hI
end Go.Proofs.YtblmakgjdenpfaaDoor.AM
namespace Go.Proofs.YtblmakgjdenpfaaDoor.AM
open Go
theorem vsame_fn1 (f : FuncId) (b : Nat) : vsame (.func (.func f) #[] #[.pointer (some ⟨b, 0, none⟩)]) (.func (.func f) #[] #[.pointer (some ⟨b, 0, none⟩)]) = true := by
  simp [vsame, vsame1, vsame0, vsameL]
structure Bld1 (h0 h : AH) (X : Bytes) : Prop where
  kp : Kp h0 h
  bd : ∃ g, BldAt h h0.n g X ∧ (g = none ∨ ∃ x, g = some x ∧ h0.n < x)
theorem Bld1.start (h : AH) : Bld1 h (h.push (.tc 169 [.pointer none, .slice none 0 0])) [] :=
  ⟨(Kp.refl h).push _, none, ⟨⟨_, AH.get_push_same _ _, .inl rfl⟩, rfl, fun e => by cases e⟩, .inl rfl⟩
theorem Bld1.lt {h0 h : AH} {X : Bytes} (b : Bld1 h0 h X) : h0.n < h.n := by
  obtain ⟨g, bd, _⟩ := b.bd
  obtain ⟨p, hp, _⟩ := bd.p
  exact AH.get_lt hp
theorem Bld1.rune {h0 h : AH} {X : Bytes} (b : Bld1 h0 h X) {c : Nat} (hc : RuneN c) (hn : X.length ≤ 140737488355000) :
    ∃ v h', callO PX 41 [.pointer (some ⟨h0.n, 0, none⟩), .int .i32 c] h = some (v, h') ∧ Bld1 h0 h' (X ++ encN c) := by
  have hlt := b.lt
  obtain ⟨kp, g, bd, hg⟩ := b
  obtain ⟨v, h', e, g', bd', fr⟩ := writeRune_spec hc bd hn
  refine ⟨v, h', e, ⟨Nat.le_trans kp.1 fr.n, fun c hc => (fr.keep c (by omega) (by omega) ?_).trans (kp.2 c hc)⟩, g', bd', ?_⟩
  · rcases hg with rfl | ⟨x, rfl, hx⟩
    · intro e; cases e
    · intro e; injection e with e; omega
  · rcases fr.new with rfl | ⟨x, rfl, hx⟩
    · exact hg
    · exact .inr ⟨x, rfl, by omega⟩
theorem Bld1.str {h0 h : AH} {X : Bytes} (b : Bld1 h0 h X) (hn : X.length ≤ 140737488355000) :
    ∃ h', callO PX 42 [.pointer (some ⟨h0.n, 0, none⟩)] h = some (.string (bs X), h') ∧ Kp h0 h' := by
  obtain ⟨kp, g, bd, hg⟩ := b
  refine ⟨_, bldString_spec bd (by omega), by rw [killO_n]; exact kp.1, fun c hc => ?_⟩
  rw [killO_get ?_]
  · exact kp.2 c hc
  · rcases hg with rfl | ⟨x, rfl, hx⟩
    · intro e; cases e
    · intro e; injection e with e; omega
def stripT (T : Tab) (l : Bytes) : Bytes := stripB (dropT T) l
theorem kept_take {D : Nat → Bool} {l : Bytes} {j : Nat} (hj : j < (seenL D l).length) : RuneN ((seenL D l)[j]).2.2 ∧ encs ((keptR D l).take (j + 1)) = encs ((keptR D l).take j) ++ encN ((seenL D l)[j]).2.2 := by
  have h1 : (keptR D l)[j]? = some ((seenL D l)[j]).2.2 := by
    rw [← seenI_map, List.getElem?_map, List.getElem?_eq_getElem hj]
    rfl
  obtain ⟨h2, h3⟩ := List.getElem?_eq_some_iff.1 h1
  rw [← h3]
  exact ⟨kept_rune l _ (List.getElem_mem h2), by rw [take_snoc h2, encs_snoc]⟩
theorem encs_take_le {D : Nat → Bool} (l : Bytes) (j : Nat) : (encs ((keptR D l).take j)).length ≤ 4 * l.length := by
  have h1 := encs_lenle ((keptR D l).take j)
  have h2 := kept_le (D := D) l
  have h3 := spots_len l
  rw [List.length_take] at h1
  omega
theorem strip_spec {h : AH} {k B : Nat} {s6 : Sl} {T : Tab} (bk : BkAt h k B s6 T) (s : ByteArray) (hs : s.size ≤ 16777216) : WpC PX 16 [.pointer (some ⟨k, 0, none⟩), .string s] h fun v h' => v = .string (bs (stripT T s.data.toList)) ∧ Kp h h' := by
  have hll : s.data.toList.length = s.size := rfl
  have hle := fun j => encs_take_le (D := dropT T) s.data.toList j
  obtain ⟨_, h2, e1, hor⟩ := seen_spec (T := T) (k := k) (B := B) (s6 := s6) s hs (yv := .func (.func 40) #[] #[.pointer (some ⟨h.n, 0, none⟩)])
    (I := fun j h1 => Bld1 h h1 (encs ((keptR (dropT T) s.data.toList).take j))) (E := fun _ => False) ⟨_, _, _, rfl⟩ (vsame_fn1 _ _) (fun j hj h1 hI => by
      obtain ⟨hr, ht⟩ := kept_take hj
      generalize (seenL (dropT T) s.data.toList)[j] = x at hr ht
      obtain ⟨_, h2, e, b2⟩ := hI.rune hr (by have := hle j; omega)
      rw [← ht] at b2
      refine wpV_fn ?_
      refine wpc_fn (px_ext rfl) (px_fn fn_strip_Strip_1) rfl ?_
      unfold LF_strip_Strip_1 seenE placeV
      simp only [argFr, List.nil_append, List.cons_append]
      (refine W_x e ?_; (repeat' first | apply Cj.mk | exact Nl.nl) <;> intros)
      exact .inl ⟨rfl, b2⟩) (fun j h1 hI => bk.kp hI.kp) (Bld1.start h)
  have b2 := hor.resolve_right id
  rw [seenL_len, List.take_length] at b2
  obtain ⟨h3, e3, k3⟩ := b2.str (by have := hle (keptR (dropT T) s.data.toList).length; rw [List.take_length] at this; omega)
  refine wpc_fn (px_ext rfl) (px_fn fn_strip_Strip) rfl ?_
  unfold LF_strip_Strip
  simp only [argFr]
  (refine W_x (Aj e1 e3) ?_; (repeat' first | apply Cj.mk | exact Nl.nl) <;> intros)
  exact ⟨rfl, k3⟩
theorem stripCount_spec {h : AH} {k B : Nat} {s6 : Sl} {T : Tab} (bk : BkAt h k B s6 T) (s : ByteArray) (hs : s.size ≤ 16777216) : WpC PX 17 [.pointer (some ⟨k, 0, none⟩), .string s] h fun v h' => v = .int .i64 (((spots s.data.toList).length - (keptR (dropT T) s.data.toList).length : Nat) : Int) ∧ Kp h h' := by
  have hll : s.data.toList.length = s.size := rfl
  have hn := spots_len s.data.toList
  have hkl := kept_le (D := dropT T) s.data.toList
  have e0 := utfCount_eq s hs
  have hb0 : ((h.push (.cells false [.int .i64 0])).set h.n (.cells false [.int .i64 (spots s.data.toList).length])).get h.n = some (.cells false [.int .i64 (spots s.data.toList).length]) := AH.get_set_same _ (by rw [AH.push_n]; omega)
  have hk0 : Kp h ((h.push (.cells false [.int .i64 0])).set h.n (.cells false [.int .i64 (spots s.data.toList).length])) := ((Kp.refl h).push _).setNew _ (Nat.le_refl _)
  obtain ⟨_, h2, e1, hor⟩ := seen_spec (T := T) (k := k) (B := B) (s6 := s6) s hs (yv := .func (.func 43) #[] #[.pointer (some ⟨h.n, 0, none⟩)])
    (I := fun j h1 => Kp h h1 ∧ j ≤ (spots s.data.toList).length ∧ h1.get h.n = some (.cells false [.int .i64 ((spots s.data.toList).length - j : Int)])) (E := fun _ => False) ⟨_, _, _, rfl⟩ (vsame_fn1 _ _) (fun j hj h1 hI => by
      obtain ⟨k1, hj1, b1⟩ := hI
      have hj2 : j < (keptR (dropT T) s.data.toList).length := by rw [← seenL_len]; exact hj
      have hlt := AH.get_lt b1
      generalize (seenL (dropT T) s.data.toList)[j] = x
      refine wpV_fn ?_
      refine wpc_fn (px_ext rfl) (px_fn fn_strip_Count_1) rfl ?_
      unfold LF_strip_Count_1 seenE placeV
      simp only [argFr, List.nil_append, List.cons_append]
      have hN : (spots s.data.toList).length ≤ 16777216 := by omega
      generalize (spots s.data.toList).length = N at *
      (refine W_x b1 ?_; (repeat' first | apply Cj.mk | exact Nl.nl) <;> intros)
      refine .inl ⟨rfl, k1.setNew _ (Nat.le_refl _), by omega, ?_⟩
      rw [AH.get_set_same _ hlt, show (N : Int) - (j : Int) - 1 = (N : Int) - ((j + 1 : Nat) : Int) by omega]) (fun j h1 hI => bk.kp hI.1) ⟨hk0, Nat.zero_le _, by rw [hb0]; simp⟩
  obtain ⟨k2, hle, b2⟩ := hor.resolve_right id
  rw [seenL_len] at b2
  have hsub : ((spots s.data.toList).length : Int) - ((keptR (dropT T) s.data.toList).length : Int) = (((spots s.data.toList).length - (keptR (dropT T) s.data.toList).length : Nat) : Int) := by omega
  rw [hsub] at b2
  generalize (spots s.data.toList).length - (keptR (dropT T) s.data.toList).length = r at *
  refine wpc_fn (px_ext rfl) (px_fn fn_strip_Count) rfl ?_
  unfold LF_strip_Count
  simp only [argFr]
  (refine W_x (Aj e0 (Aj e1 b2)) ?_; (repeat' first | apply Cj.mk | exact Nl.nl) <;> intros)
  exact ⟨rfl, k2⟩
end Go.Proofs.YtblmakgjdenpfaaDoor.AM
namespace Go.Proofs.YtblmakgjdenpfaaDoor.AM
open Go
def LF_guiselaw11_known : LFunc :=
  .mk 0 [.tmp 0] (.seq (R 999 [] [.set 0 (.cv (.bool false))]) (.seq (R 5 [1, 2, 3] [.set 4 (xc1 9 (xc0 34)), .tmp 7 (xex 0 (.sl 4)), .tmp 8 (xex 1
  (.sl 4)), .tmp 9 (xex 2 (.sl 4)), .set 1 (.sl 7), .set 2 (.sl 8), .set 3 (.sl 9)]) (.seq (R 10 [0] [.set 0 (.and (.and (.and (.va 2) (.va 3)) (xb .eql (xc2 16 (.va 1)
  (.cv (.string ⟨#[97, 226, 128, 141, 98, 255]⟩))) (.cv (.string ⟨#[97, 98, 239, 191, 189]⟩)))) (xb .eql (xc2 17 (.va 1) (.cv (.string ⟨#[226, 128, 141, 97, 226, 128,
  141]⟩))) (xi 2)))]) .ret)))
theorem fn_guiselaw11_known : (autoPrg Tryd.prog).fn 10 = some LF_guiselaw11_known := by kernel_rfl
end Go.Proofs.YtblmakgjdenpfaaDoor.AM
namespace Go.Proofs.YtblmakgjdenpfaaDoor.AM
open Go
theorem known11_a : bs (stripT houseT [97, 226, 128, 141, 98, 255]) = ⟨#[97, 98, 239, 191, 189]⟩ := by
  have : stripT houseT [97, 226, 128, 141, 98, 255] = [97, 98, 239, 191, 189] := by decide +kernel
  rw [this]; rfl
theorem known11_b : (spots [226, 128, 141, 97, 226, 128, 141]).length - (keptR (dropT houseT) [226, 128, 141, 97, 226, 128, 141]).length = 2 := by decide +kernel
theorem house11_spec (h : AH) : WpC PX 34 [] h fun v h' => ∃ S, v = .agg S.vs.toArray ∧ TabAt h' S houseT ∧ Kp h h' := house_spec h
theorem known11_spec {h : AH} (u : U8T h) (hg : 2 ≤ h.n) : WpC PX 10 [] h fun v h' => v = .bool true ∧ Kp h h' := by
  obtain ⟨_, g, e, S, rfl, t, k⟩ := house11_spec h
  obtain ⟨_, g1, e1, k1, kk, B, S1, rfl, bk, _, _⟩ := of_house t (u.kp k) (Nat.le_trans hg k.1)
  obtain ⟨_, g2, e2, rfl, k2⟩ := strip_spec bk.bk ⟨#[97, 226, 128, 141, 98, 255]⟩ (by decide)
  obtain ⟨_, g3, e3, rfl, k3⟩ := stripCount_spec (bk.kp k2).bk ⟨#[226, 128, 141, 97, 226, 128, 141]⟩ (by decide)
  have q2 := known11_a
  have q3 := known11_b
  unfold TS.vs at *
  refine wpc_fn (px_ext rfl) (px_fn fn_guiselaw11_known) rfl ?_
  unfold LF_guiselaw11_known
  simp only [argFr]
  simp only [q2] at e2
  simp only [q3] at e3
  (refine W_x (Aj e (Aj e1 (Aj e2 e3))) ?_; (repeat' first | apply Cj.mk | exact Nl.nl) <;> intros)
  exact ⟨rfl, ((k.trans k1).trans k2).trans k3⟩
end Go.Proofs.YtblmakgjdenpfaaDoor.AM
namespace Go.Proofs.YtblmakgjdenpfaaDoor.AM
open Go
def LF_guiselaw11_StripJoins : LFunc :=
  .mk 3 [.tmp 6] (.seq (R 3 [1, 2, 3] [.tmp 3 (xbl 3 8 (.sl 0)), .set 6 (.cv (.bool false))]) (.seq (R 11 [1, 2, 7, 8, 9] [.set 10 (xc1 9 (xln 8 (.sl 3))), .tmp 13
  (xex 0 (.sl 10)), .tmp 14 (xex 1 (.sl 10)), .tmp 15 (xex 2 (.sl 10)), .set 7 (.sl 13), .set 8 (.sl 14), .set 9 (.sl 15)]) (.seq (.seq (R 16 [1, 2, 7, 9, 17] [.tmp 17 (xu .not (.va
  8))]) (.cond (.s 17) (.seq (R 18 [6] [.set 6 (.and (.va 9) (xc0 10))]) .ret) .skip)) (.seq (.seq (R 22 [1, 2, 7, 25] [.tmp 25 (xu .not (xc2 15 (.va 1)
  (.va 2)))]) (.cond (.s 25) (.seq (R 26 [6] [.set 6 (xc0 10)]) .ret) .skip)) (.seq (R 27 [6] [.set 6 (.and (.and (xb .eql (xc2 16 (.va 7) (xb .add
  (.va 1) (.va 2))) (xb .add (xc2 16 (.va 7) (.va 1)) (xc2 16 (.va 7) (.va 2)))) (xb .eql (xc2 17 (.va 7) (xb .add (.va 1) (.va 2))) (xb .add
  (xc2 17 (.va 7) (.va 1)) (xc2 17 (.va 7) (.va 2))))) (xc0 10))]) .ret)))))
theorem fn_guiselaw11_StripJoins : (autoPrg Tryd.prog).fn 4 = some LF_guiselaw11_StripJoins := by kernel_rfl
end Go.Proofs.YtblmakgjdenpfaaDoor.AM
namespace Go.Proofs.YtblmakgjdenpfaaDoor.AM
open Go
theorem bs_app11 (X Y : Bytes) : bs X ++ bs Y = bs (X ++ Y) := ba_ext (by rw [ByteArray.data_append, Array.toList_append, bs_l, bs_l, bs_l])
theorem ba_app_l (x y : ByteArray) : (x ++ y).data.toList = x.data.toList ++ y.data.toList := by rw [ByteArray.data_append, Array.toList_append]
theorem strip_size11 {T : Tab} (l : Bytes) : (stripT T l).length ≤ 4 * l.length := by
  have := encs_take_le (D := dropT T) l (keptR (dropT T) l).length
  rw [List.take_length] at this
  exact this
theorem stripJoins_run {h : AH} (u : U8T h) (hg : 2 ≤ h.n) {S : TS} {T : Tab} (t : TabAt h S T) (x : ByteArray) (hx : x.size ≤ 1048576) (y : ByteArray) (hy : y.size ≤ 1048576) :
    WpC PX 4 [.agg S.vs.toArray, .string x, .string y] h fun v _ => v = .bool true := by
  obtain ⟨_, g1, e1, k1, q⟩ := of_spec t u hg
  by_cases hb : goodB T = true
  · rw [if_pos hb] at q
    obtain ⟨k, B, S1, rfl, bk, _, _⟩ := q
    obtain ⟨_, _, e2, rfl, b, hj, rfl⟩ := joins_spec x y g1 (u.kp k1) hx hy
    cases b with
    | false =>
      obtain ⟨_, g4, e7, rfl, k4⟩ := known11_spec (u.kp k1) (Nat.le_trans hg k1.1)
      unfold TS.vs at *
      refine wpc_fn (px_ext rfl) (px_fn fn_guiselaw11_StripJoins) rfl ?_
      unfold LF_guiselaw11_StripJoins
      simp only [argFr]
      (refine W_x (Aj e1 (Aj e2 e7)) ?_; (repeat' first | apply Cj.mk | exact Nl.nl) <;> intros)
      rfl
    | true =>
      have hsp := hj rfl
      have hs1 : stripT T (x.data.toList ++ y.data.toList) = stripT T x.data.toList ++ stripT T y.data.toList := strip_join hsp
      have hk1 := kept_join (D := dropT T) hsp
      have hl1 : (spots (x.data.toList ++ y.data.toList)).length = (spots x.data.toList).length + (spots y.data.toList).length := by rw [hsp, List.length_append]
      have hxy : (x ++ y).size = x.size + y.size := by rw [ba_size, ba_app_l, List.length_append]; rfl
      obtain ⟨_, g2, e3, rfl, k2⟩ := strip_spec bk.bk (x ++ y) (by omega)
      obtain ⟨_, g3, e4, rfl, k3⟩ := strip_spec (bk.kp k2).bk x (by omega)
      obtain ⟨_, g4, e5, rfl, k4⟩ := strip_spec ((bk.kp k2).kp k3).bk y (by omega)
      have bk4 := ((bk.kp k2).kp k3).kp k4
      obtain ⟨_, g5, e6, rfl, k5⟩ := stripCount_spec bk4.bk (x ++ y) (by omega)
      obtain ⟨_, g6, e7, rfl, k6⟩ := stripCount_spec (bk4.kp k5).bk x (by omega)
      obtain ⟨_, g7, e8, rfl, k7⟩ := stripCount_spec ((bk4.kp k5).kp k6).bk y (by omega)
      have kk := k1.trans (k2.trans (k3.trans (k4.trans (k5.trans (k6.trans k7)))))
      obtain ⟨_, g8, e9, rfl, k8⟩ := known11_spec (u.kp kk) (Nat.le_trans hg kk.1)
      have hl1' := kept_le (D := dropT T) x.data.toList
      have hl2' := kept_le (D := dropT T) y.data.toList
      have n1 := spots_len x.data.toList
      have n2 := spots_len y.data.toList
      have z1 : x.data.toList.length = x.size := rfl
      have z2 : y.data.toList.length = y.size := rfl
      have l1 := strip_size11 (T := T) x.data.toList
      have l2 := strip_size11 (T := T) y.data.toList
      have hadd0 := str_add9' (x := x) (y := y) (by omega)
      have hadd := str_add9' (x := bs (stripT T x.data.toList)) (y := bs (stripT T y.data.toList)) (by rw [bs_size, bs_size]; omega)
      rw [bs_app11] at hadd
      rw [ba_app_l, hs1] at e3
      rw [ba_app_l, hk1, hl1] at e6
      have hsum : (((spots x.data.toList).length - (keptR (dropT T) x.data.toList).length : Nat) : Int) + (((spots y.data.toList).length - (keptR (dropT T) y.data.toList).length : Nat) : Int) =
          (((spots x.data.toList).length + (spots y.data.toList).length - ((keptR (dropT T) x.data.toList).length + (keptR (dropT T) y.data.toList).length) : Nat) : Int) := by omega
      have hb1 : (spots x.data.toList).length - (keptR (dropT T) x.data.toList).length ≤ 1048576 := by omega
      have hb2 : (spots y.data.toList).length - (keptR (dropT T) y.data.toList).length ≤ 1048576 := by omega
      generalize bs (stripT T x.data.toList ++ stripT T y.data.toList) = A at *
      generalize bs (stripT T x.data.toList) = A1 at *
      generalize bs (stripT T y.data.toList) = A2 at *
      generalize (spots x.data.toList).length + (spots y.data.toList).length - ((keptR (dropT T) x.data.toList).length + (keptR (dropT T) y.data.toList).length) = m at *
      generalize (spots x.data.toList).length - (keptR (dropT T) x.data.toList).length = m1 at *
      generalize (spots y.data.toList).length - (keptR (dropT T) y.data.toList).length = m2 at *
      unfold TS.vs at *
      refine wpc_fn (px_ext rfl) (px_fn fn_guiselaw11_StripJoins) rfl ?_
      unfold LF_guiselaw11_StripJoins
      simp only [argFr]
      (refine W_x (Aj e1 (Aj e2 (Aj hadd0 (Aj e3 (Aj e4 (Aj e5 (Aj hadd (Aj e6 (Aj e7 (Aj e8 (Aj e9 hsum))))))))))) ?_; (repeat' first | apply Cj.mk | exact Nl.nl) <;> intros)
      rfl
  · rw [if_neg hb] at q
    subst q
    obtain ⟨_, g4, e7, rfl, k4⟩ := known11_spec (u.kp k1) (Nat.le_trans hg k1.1)
    unfold TS.vs at *
    refine wpc_fn (px_ext rfl) (px_fn fn_guiselaw11_StripJoins) rfl ?_
    unfold LF_guiselaw11_StripJoins
    simp only [argFr]
    (refine W_x (Aj e1 e7) ?_; (repeat' first | apply Cj.mk | exact Nl.nl) <;> intros)
    rfl
end Go.Proofs.YtblmakgjdenpfaaDoor.AM
