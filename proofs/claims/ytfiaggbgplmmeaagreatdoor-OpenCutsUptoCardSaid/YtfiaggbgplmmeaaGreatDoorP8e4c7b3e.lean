/- Parts of proofs: lemmas, joined. -/
import Derived.Test.YtfiaggbgplmmeaaGreatDoorP7e142a35
set_option linter.unusedVariables false
set_option linter.unusedSimpArgs false
set_option linter.unusedSectionVars false
namespace Go.Proofs.YtfiaggbgplmmeaaGreatDoor.AM
open Go
theorem runeLen_eq (c : Nat) (hc : RuneN c) (h : AH) : callO PX 83 [.int .i32 c] h = some (.int .i64 (encN c).length, h) := by
  have hle : c ≤ 0x10FFFF := by unfold RuneN at hc; omega
  have hl : (encN c).length = if c < 0x80 then 1 else if c < 0x800 then 2 else if c < 0x10000 then 3 else 4 := by
    unfold encN
    split
    · rfl
    · split
      · rfl
      · split <;> rfl
  unfold RuneN at hc
  apply WpC.eqn
  refine wpc_fn (px_ext rfl) (px_fn fn_utf8_RuneLen) rfl ?_
  unfold LF_utf8_RuneLen
  simp only [argFr]
  (refine W_x trivial ?_; (repeat' first | apply Cj.mk | exact Nl.nl) <;> intros)
  all_goals
    refine ⟨?_, rfl⟩
    rw [hl]
    congr 1
    repeat' split
    all_goals first | rfl | omega
theorem hasPrefix0_eq (a b : ByteArray) (h : AH) : callO PX 124 [.string a, .string b] h = some (.bool (decide (b.size ≤ a.size ∧ a.extract 0 b.size = b)), h) := by
  apply WpC.eqn
  refine wpc_fn (px_ext rfl) (px_fn fn_internal_stringslite_HasPrefix) rfl ?_
  unfold LF_internal_stringslite_HasPrefix
  simp only [argFr]
  (refine W_x trivial ?_; (repeat' first | apply Cj.mk | exact Nl.nl) <;> intros)
  all_goals (refine ⟨?_, rfl⟩; congr 1; symm)
  · rename_i g1 g2; exact decide_eq_true ⟨by omega, g2⟩
  · rename_i g1 g2; exact decide_eq_false (fun h => g2 h.2)
  · rename_i g1; exact decide_eq_false (fun h => g1 (by omega))
theorem hasPrefix_eq (a b : ByteArray) (h : AH) : callO PX 84 [.string a, .string b] h = some (.bool (decide (b.size ≤ a.size ∧ a.extract 0 b.size = b)), h) := by
  have e := hasPrefix0_eq a b
  apply WpC.eqn
  refine wpc_fn (px_ext rfl) (px_fn fn_strings_HasPrefix) rfl ?_
  unfold LF_strings_HasPrefix
  simp only [argFr]
  (refine W_x e ?_; (repeat' first | apply Cj.mk | exact Nl.nl) <;> intros)
  all_goals (refine ⟨?_, rfl⟩; congr 1; symm; first | exact decide_eq_true (by assumption) | exact decide_eq_false (by assumption))
theorem spot_eq (r n : Nat) (h : AH) : callO PX 56 [.int .i32 r, .int .i64 n] h = some (spotV (r, n), h) := by
  apply WpC.eqn
  refine wpc_fn (px_ext rfl) (px_fn fn_utf_spot) rfl ?_
  unfold LF_utf_spot
  simp only [argFr]
  (refine W_x trivial ?_; (repeat' first | apply Cj.mk | exact Nl.nl) <;> intros)
  all_goals
    refine ⟨?_, rfl⟩
    have hb : ∀ t : Bool, (t = true ↔ (r = 65533 ∧ n = 1)) → isBad2 (r, n) = t := fun t ht => by
      unfold isBad2
      rw [Bool.eq_iff_iff, ht]
      simp only [Bool.and_eq_true, beq_iff_eq]
    unfold spotV
    first
    | (have e : r = 65533 ∧ n = 1 := by omega
       rw [hb true (iff_of_true rfl e)]
       done)
    | (have e : ¬ (r = 65533 ∧ n = 1) := by omega
       rw [hb false (iff_of_false (by decide) e)]
       done)
theorem spotsMk_eq (s : ByteArray) (h : AH) : callO PX 49 [.string s] h = some (.func (.func 82) #[] #[.pointer (some ⟨h.n, 0, none⟩)], h.push (.cells false [.string s])) := by
  apply WpC.eqn
  refine wpc_fn (px_ext rfl) (px_fn fn_utf_Spots) rfl ?_
  unfold LF_utf_Spots
  simp only [argFr]
  (refine W_x trivial ?_; (repeat' first | apply Cj.mk | exact Nl.nl) <;> intros)
  exact ⟨rfl, rfl⟩
theorem spots_seq (s : ByteArray) (bx : Nat) (hsz : s.size ≤ 140737488351232) :
    SeqP PX (.func (.func 82) #[] #[.pointer (some ⟨bx, 0, none⟩)]) (spotsL s.data.toList) spotE (fun h => h.get bx = some (.cells false [.string s])) := by
  intro yv I E h hyv hvs hstep hD h0
  have d1 : h.get bx = some (.cells false [.string s]) := hD _ _ h0
  have hset := hyv.set
  have hlc1 := hyv.lc1
  refine wpV_fn ?_
  refine wpc_fn (px_ext rfl) (px_fn fn_utf_Spots_1) rfl ?_
  unfold LF_utf_Spots_1
  simp only [argFr, List.nil_append, List.cons_append]
  obtain ⟨l, hl⟩ : ∃ l, l = s.data.toList := ⟨_, rfl⟩
  rw [← hl] at hstep ⊢
  have hll : l.length = s.size := by rw [hl]; rfl
  (refine W_x (Aj d1 (Aj hset (Aj hlc1 @ev_rngS))) ?_; (repeat' first | apply Cj.mk | exact Nl.nl) <;> intros)
  refine wp_spotsS (fun _ _ => [(0, yv), (1, .pointer (some ⟨bx, 0, none⟩)), (7, .pointer (some ⟨14, 0, some 1⟩))]) (fun n _ => [(14, .siter s n)]) s l (fun i _ h1 => I i h1) (fun _ _ => (none : Option Unit)) () hl (by repeat' first | exact True.intro | refine And.intro rfl ?_) (fun _ _ => rfl) rfl h0 (fun i hil _ h1 hI hit => ?_) fun _ h1 hI fin => ?_
  · have d1 : h1.get bx = some (.cells false [.string s]) := hD _ _ hI
    obtain ⟨p1, p2, p3⟩ := posn_lt hil
    have hst := hstep i (by rw [spotsL_len]; exact hil) h1 hI
    rw [spotsL_get (by rw [spotsL_len]; exact hil)] at hst
    have hdc := dec_cases p3
    have hbad : (spots l)[i].1 = 65533 → ((encN 65533).length ≤ (l.drop (posn l i)).length ∧ (l.drop (posn l i)).take (encN 65533).length = encN 65533 ↔ (spots l)[i].2 = 3) := fun e => by
      rcases hdc with ⟨c, rest, hc, e1, e2⟩ | ⟨e1, e2⟩
      · rw [p2] at e2
        rw [e2] at e
        simp only at e
        subst e
        rw [e2, e1, encN_bad, List.take_left' encN_bad]
        simp [encN_bad]
      · rw [p2] at e1
        rw [e1, encN_bad]
        constructor
        · rintro ⟨h1, h2⟩
          exfalso
          refine e2 65533 ((l.drop (posn l i)).drop 3) rune_bad ?_
          rw [← h2, List.take_append_drop]
        · intro h; simp at h
    have hgood : (spots l)[i].1 ≠ 65533 → (spots l)[i].2 = (encN (spots l)[i].1).length := fun e => by
      rcases hdc with ⟨c, rest, hc, e1, e2⟩ | ⟨e1, e2⟩
      · rw [p2] at e2; rw [e2]
      · rw [p2] at e1; rw [e1] at e; exact absurd rfl e
    have hw3 : (spots l)[i].1 = 65533 → (spots l)[i].2 = 3 ∨ (spots l)[i].2 = 1 := fun e => by
      rcases hdc with ⟨c, rest, hc, e1, e2⟩ | ⟨e1, e2⟩
      · rw [p2] at e2
        rw [e2] at e
        simp only at e
        subst e
        rw [e2]; exact .inl encN_bad
      · rw [p2] at e1; rw [e1]; exact .inr rfl
    have hru : RuneN (spots l)[i].1 := runesB_rune l _ (List.mem_map.2 ⟨_, List.getElem_mem hil, rfl⟩)
    (refine W_x (Aj hset hlc1) ?_; (repeat' first | apply Cj.mk | exact Nl.nl) <;> intros)
    refine wo_next hl rfl hil ?_
    generalize (spots l)[i] = x at hst hbad hgood hw3 hru
    have hcast : ((Utf8.encode ((65533 : Nat) : Int))).data.toList = encN 65533 := encode_eq rune_bad
    have hpre : x.1 = 65533 → (decide ((Utf8.encode (x.1 : Int)).size ≤ (s.extract (posn l i) s.size).size ∧ (s.extract (posn l i) s.size).extract 0 (Utf8.encode (x.1 : Int)).size = Utf8.encode (x.1 : Int))) = decide (x.2 = 3) := fun e => by
      refine decide_eq_decide.2 ?_
      rw [← hbad e, e]
      have z1 : (Utf8.encode ((65533 : Nat) : Int)).size = (encN 65533).length := by rw [ba_size, hcast]
      have z2 : (s.extract (posn l i) s.size).data.toList = l.drop (posn l i) := by
        rw [ba_extract _ _ _ (Nat.le_refl _), ← hl, ← hll, ← List.length_drop, List.take_length]
      have z3 : (s.extract (posn l i) s.size).size = (l.drop (posn l i)).length := by rw [ba_size, z2]
      rw [z1, z3]
      constructor
      · rintro ⟨a, b⟩
        refine ⟨a, ?_⟩
        have : ((s.extract (posn l i) s.size).extract 0 (encN 65533).length).data.toList = (Utf8.encode ((65533 : Nat) : Int)).data.toList := by rw [b]
        rw [ba_extract _ _ _ (by omega), z2, hcast] at this
        simpa using this
      · rintro ⟨a, b⟩
        refine ⟨a, ba_ext ?_⟩
        rw [ba_extract _ _ _ (by omega), z2, hcast]
        simpa using b
    have el := runeLen_eq x.1 hru
    have es := fun n => spot_eq x.1 n
    by_cases e : x.1 = 65533
    · have hpre := hpre e
      have hw4 := hw3 e
      obtain ⟨c, w⟩ := x
      simp only at e hpre hw4 hst
      have hci : (c : Int) = 65533 := by omega
      have el2 : ∀ h, callO PX 83 [.int .i32 c] h = some (.int .i64 3, h) := fun h => by
        have := el h
        simp only at this
        rw [this, e, encN_bad]
        rfl
      have eh2 : ∀ h, callO PX 84 [.string (s.extract (posn l i) s.size), .string (Utf8.encode c)] h = some (.bool (decide (w = 3)), h) := fun h => by
        have := hasPrefix_eq (s.extract (posn l i) s.size) (Utf8.encode (c : Int)) h
        rw [hpre] at this
        exact this
      have es2 : ∀ h, callO PX 56 [.int .i32 c, .int .i64 3] h = some (spotV (c, 3), h) := fun h => spot_eq c 3 h
      have es3 : ∀ h, callO PX 56 [.int .i32 c, .int .i64 1] h = some (spotV (c, 1), h) := fun h => spot_eq c 1 h
      have hpl : ((posn l i : Nat) : Int) ≤ (s.size : Int) := by omega
      rcases hw4 with rfl | rfl
      all_goals
        simp only [decide_true, show decide (1 = 3) = false from rfl] at eh2
        (refine W_x (Aj hset (Aj hlc1 (Aj d1 (Aj el2 (Aj eh2 (Aj es2 es3)))))) ?_; (repeat' first | apply Cj.mk | exact Nl.nl) <;> intros)
        refine wo_callV (fv := yv) rfl rfl rfl ?_
        refine hst.mono ?_
        rintro v h2 hor
        rcases hor with ⟨rfl, hI2⟩ | ⟨rfl, hE⟩
        · (refine W_x (Aj hset hlc1) ?_; (repeat' first | apply Cj.mk | exact Nl.nl) <;> intros)
          exact ⟨rfl, (), (by repeat' first | exact True.intro | refine And.intro rfl ?_), rfl, hI2⟩
        · (refine W_x (Aj hset hlc1) ?_; (repeat' first | apply Cj.mk | exact Nl.nl) <;> intros)
          exact .inr hE
    · have hgd := hgood e
      rw [← hgd] at el
      have es2 := es x.2
      have hne : ¬ (x.1 : Int) = 65533 := by omega
      (refine W_x (Aj hset (Aj hlc1 (Aj el es2))) ?_; (repeat' first | apply Cj.mk | exact Nl.nl) <;> intros)
      refine wo_callV (fv := yv) rfl rfl rfl ?_
      refine hst.mono ?_
      rintro v h2 hor
      rcases hor with ⟨rfl, hI2⟩ | ⟨rfl, hE⟩
      · (refine W_x (Aj hset hlc1) ?_; (repeat' first | apply Cj.mk | exact Nl.nl) <;> intros)
        exact ⟨rfl, (), (by repeat' first | exact True.intro | refine And.intro rfl ?_), rfl, hI2⟩
      · (refine W_x (Aj hset hlc1) ?_; (repeat' first | apply Cj.mk | exact Nl.nl) <;> intros)
        exact .inr hE
  · (refine W_x (Aj hset hlc1) ?_; (repeat' first | apply Cj.mk | exact Nl.nl) <;> intros)
    refine wo_nextE hl rfl ?_
    (refine W_x (Aj hset hlc1) ?_; (repeat' first | apply Cj.mk | exact Nl.nl) <;> intros)
    exact .inl (by rw [spotsL_len]; exact hI)
end Go.Proofs.YtfiaggbgplmmeaaGreatDoor.AM
namespace Go.Proofs.YtfiaggbgplmmeaaGreatDoor.AM
open Go
theorem posn_cons {l : Bytes} (hl : l ≠ []) (i : Nat) : posn l (i + 1) = (dec1 l).2 + posn (l.drop (dec1 l).2) i := by
  unfold posn
  rw [spots_cons hl, List.take_succ_cons, List.map_cons, List.sum_cons]
theorem spots_take : ∀ (i : Nat) (l : Bytes), i ≤ (spots l).length → spots (l.take (posn l i)) = (spots l).take i
  | 0, l, _ => by rw [posn_zero]; simp [spots_nil]
  | i + 1, l, h => by
    have hl : l ≠ [] := fun e => by subst e; simp [spots_nil] at h
    have h' : i ≤ (spots (l.drop (dec1 l).2)).length := by rw [spots_cons hl, List.length_cons] at h; omega
    have ih := spots_take i (l.drop (dec1 l).2) h'
    rw [posn_cons hl, spots_cons hl, List.take_succ_cons, ← ih]
    rcases dec_cases hl with ⟨c, rest, hc, e1, e2⟩ | ⟨e1, e2⟩
    · have hd : l.drop (dec1 l).2 = rest := by rw [e2, e1]; simp
      rw [hd, e2]
      simp only
      conv => lhs; rw [e1]
      rw [List.take_append, List.take_of_length_le (by omega), show (encN c).length + posn rest i - (encN c).length = posn rest i by omega, spots_enc hc]
    · rw [e1]
      simp only
      have hne : l.take (1 + posn (l.drop 1) i) ≠ [] := by
        cases l with
        | nil => exact absurd rfl hl
        | cons a l => simp [Nat.add_comm]
      have hb : dec1 (l.take (1 + posn (l.drop 1) i)) = (0xFFFD, 1) := by
        rcases dec_cases hne with ⟨c, rest, hc, q1, _⟩ | ⟨q1, _⟩
        · exfalso
          refine e2 c (rest ++ l.drop (1 + posn (l.drop 1) i)) hc ?_
          conv => lhs; rw [← List.take_append_drop (1 + posn (l.drop 1) i) l, q1]
          rw [List.append_assoc]
        · exact q1
      rw [spots_cons hne, hb]
      simp only
      rw [List.drop_take, show 1 + posn (l.drop 1) i - 1 = posn (l.drop 1) i by omega]
theorem posn_drop {l : Bytes} {i : Nat} (hi : i ≤ (spots l).length) (k : Nat) (hk : i + k ≤ (spots l).length) : posn (l.drop (posn l i)) k = posn l (i + k) - posn l i := by
  have h := (spots_drop l i hi).1
  unfold posn at h ⊢
  rw [h, List.take_add, List.map_append, List.sum_append]
  omega
theorem runesB_cut {l : Bytes} {i k : Nat} (h : i + k ≤ (spots l).length) : runesB ((l.drop (posn l i)).take (posn l (i + k) - posn l i)) = ((runesB l).drop i).take k := by
  have h1 := (spots_drop l i (by omega)).1
  have h2 := spots_take k (l.drop (posn l i)) (by rw [h1, List.length_drop]; omega)
  rw [posn_drop (by omega) k h] at h2
  unfold runesB
  rw [h2, h1, List.map_take, List.map_drop]
theorem runesB_take' {l : Bytes} {i : Nat} (h : i ≤ (spots l).length) : runesB (l.take (posn l i)) = (runesB l).take i := by
  have := runesB_cut (l := l) (i := 0) (k := i) (by omega)
  rw [posn_zero] at this
  simpa using this
theorem runesB_drop {l : Bytes} {i : Nat} (h : i ≤ (spots l).length) : runesB (l.drop (posn l i)) = (runesB l).drop i := by
  unfold runesB
  rw [(spots_drop l i h).1, List.map_drop]
theorem runesB_append {l : Bytes} {i : Nat} (h : i ≤ (spots l).length) : runesB l = runesB (l.take (posn l i)) ++ runesB (l.drop (posn l i)) := by
  rw [runesB_take' h, runesB_drop h, List.take_append_drop]
end Go.Proofs.YtfiaggbgplmmeaaGreatDoor.AM
namespace Go.Proofs.YtfiaggbgplmmeaaGreatDoor.AM
open Go
def LF_utf_Cut : LFunc :=
  .mk 2 [.tmp 4, .tmp 5] (.seq (R 999 [0, 1] [.set 4 (.cv (.string ⟨#[]⟩)), .set 5 (.cv (.string ⟨#[]⟩))]) (.seq (R 9 [0, 1] [.set 1 (.op (.p (.mm false [.s 0, .s 1])) (.cons (.op
  (.p (.mm true [.s 0, .s 1])) (.cons (.va 1) (xi 0))) (xsl (.va 0))))]) (.seq (.seq (R 14 [0, 1, 6] [.set 6 (.op (.p (.mm true [.s 0, .s 1])) (.cons (xb .add (xb .sub (.va 1) (xi
  4)) (xi 1)) (xi 0)))]) (.block 0 (.loop (.seq (.seq (R 18 [0, 1, 6, 20] [.tmp 20 (xb .lss (.va 6) (.va 1))]) (.cond (.s 20) .skip (.exit 0))) (.seq (.block 1 (.seq (R 24 [0, 1, 6,
  7, 8] [.set 23 (xc1 57 (.op (.p (.slS (.s 0) (some (.s 1)) none)) (.cons (.va 0) (.va 6)))), .tmp 28 (xex 0 (.sl 23)), .tmp 29 (xex 1 (.sl 23)), .set 7
  (.sl 28), .set 8 (.sl 29)]) (.seq (R 30 [0, 1, 6, 42] [.tmp 42 (.and (.and (xb .gtr (.va 8) (xi 1)) (xb .geq (.va 7) (xr 0))) (xb .gtr (xb .add (.va 6) (.va 8)) (.va 1)))]) (.cond
  (.s 42) (R 43 [0, 1, 6] [.set 1 (.va 6)]) .skip)))) (R 21 [0, 1, 6] [.set 6 (xb .add (.va 6) (xi 1))])))))) (.seq (R 44 [4, 5] [.tmp 46 (.op (.p (.slS (.s 0) none (some (.s 1))))
  (.cons (.va 0) (.va 1))), .tmp 49 (.op (.p (.slS (.s 0) (some (.s 1)) none)) (.cons (.va 0) (.va 1))), .set 4 (.sl 46), .set 5 (.sl 49)]) .ret))))
theorem fn_utf_Cut : (autoPrg Tryz.prog).fn 55 = some LF_utf_Cut := by kernel_rfl
def LF_utf_Bound : LFunc :=
  .mk 2 [.tmp 4] (.seq (R 999 [0, 1] [.set 4 (.cv (.bool false))]) (.seq (.seq (R 7 [0, 1, 14] [.tmp 14 (.or (xb .lss (.va 1) (xi 0)) (xb .gtr (.va 1) (xsl (.va 0))))]) (.cond (.s
  14) (.seq (R 999 [4] [.set 4 (.cv (.bool false))]) .ret) .skip)) (.seq (R 16 [1, 5] [.set 15 (xc2 55 (.va 0) (.va 1)), .tmp 19 (xex 0 (.sl 15)), .tmp 20 (xex 1 (.sl 15)),
  .set 5 (.sl 19), .set 6 (.sl 20)]) (.seq (R 21 [4] [.set 4 (xb .eql (xsl (.va 5)) (.va 1))]) .ret))))
theorem fn_utf_Bound : (autoPrg Tryz.prog).fn 31 = some LF_utf_Bound := by kernel_rfl
def LF_utf_First : LFunc :=
  .mk 1 [.cell 2 (some 3), .tmp 3] (.seq (R 2 [0, 2] [.tmp 2 (xnl 2 [.int .i32 0, .int .i64 0, .bool false]), .set 3 (.cv (.bool false))]) (.seq (.seq (R 4 [0, 2, 5] [.tmp 5 (xb
  .eql (.va 0) (.cv (.string ⟨#[]⟩)))]) (.cond (.s 5) (.seq (R 6 [2, 3] [.run (xst 3 (.sl 2) (.op (.p (.build [.int .i32 0, .int .i64 0, .bool false] [])) .nil)), .set 3 (.cv (.bool
  false))]) .ret) .skip)) (.seq (R 7 [2, 3] [.tmp 8 (xc1 57 (.va 0)), .run (xst 3 (.sl 2) (xc2 56 (xex 0 (.sl 8)) (xex 1 (.sl 8)))), .set 3 (.cv
  (.bool true))]) .ret)))
theorem fn_utf_First : (autoPrg Tryz.prog).fn 32 = some LF_utf_First := by kernel_rfl
end Go.Proofs.YtfiaggbgplmmeaaGreatDoor.AM
namespace Go.Proofs.YtfiaggbgplmmeaaGreatDoor.AM
open Go
theorem decode_eq (t : ByteArray) (h : AH) (hT : U8T h) (hsz : t.size < 100000000) (h0 : 0 < t.size) : callO PX 57 [.string t] h = some (.tuple (List.toArray [.int .i32 (dec1 t.data.toList).1, .int .i64 (dec1 t.data.toList).2]), h) := by
  have hne : ¬ t = ⟨#[]⟩ := fun e => by rw [e] at h0; cases h0
  obtain ⟨l, hl⟩ : ∃ l, l = t.data.toList := ⟨_, rfl⟩
  have hll : l.length = t.size := by rw [hl]; rfl
  obtain ⟨x0, q0⟩ : ∃ x, bat l 0 = x := ⟨_, rfl⟩
  by_cases hx : x0 < 128
  · have hd : dec1 t.data.toList = (x0, 1) := by rw [← hl]; unfold dec1; rw [q0, if_pos (by omega)]
    rw [hd]
    apply WpC.eqn
    refine wpc_fn (px_ext rfl) (px_fn fn_utf8_DecodeRuneInString) rfl ?_
    unfold LF_utf8_DecodeRuneInString
    simp only [argFr]
    (refine W_x (Aj hl.symm (Aj q0 hne)) ?_; (repeat' first | apply Cj.mk | exact Nl.nl) <;> intros)
    exact ⟨rfl, rfl⟩
  · have e := decodeSlow_eq t h hT hsz (by rw [← hl, q0]; omega)
    generalize (dec1 t.data.toList).1 = c at e ⊢
    generalize (dec1 t.data.toList).2 = n at e ⊢
    have c0 := bat_lt l 0
    rw [q0] at c0
    apply WpC.eqn
    refine wpc_fn (px_ext rfl) (px_fn fn_utf8_DecodeRuneInString) rfl ?_
    unfold LF_utf8_DecodeRuneInString
    simp only [argFr]
    (refine W_x (Aj hl.symm (Aj q0 (Aj hne e))) ?_; (repeat' first | apply Cj.mk | exact Nl.nl) <;> intros)
    exact ⟨rfl, rfl⟩
theorem utfFirst_eq (t : ByteArray) (h : AH) (hT : U8T h) (hsz : t.size < 100000000) (h0 : 0 < t.size) : callO PX 32 [.string t] h = some (.tuple (List.toArray [spotV (dec1 t.data.toList), .bool true]), h) := by
  have hne : ¬ t = ⟨#[]⟩ := fun e => by rw [e] at h0; cases h0
  have e1 := decode_eq t h hT hsz h0
  have e2 := spot_eq (dec1 t.data.toList).1 (dec1 t.data.toList).2 h
  have e3 : ((dec1 t.data.toList).1, (dec1 t.data.toList).2) = dec1 t.data.toList := rfl
  rw [e3] at e2
  generalize dec1 t.data.toList = d at *
  unfold spotV at e2 ⊢
  apply WpC.eqn
  refine wpc_fn (px_ext rfl) (px_fn fn_utf_First) rfl ?_
  unfold LF_utf_First
  simp only [argFr]
  (refine W_x (Aj hne (Aj e1 e2)) ?_; (repeat' first | apply Cj.mk | exact Nl.nl) <;> intros)
  exact ⟨rfl, rfl⟩
theorem utfFirst_nil (h : AH) : callO PX 32 [.string ⟨#[]⟩] h = some (.tuple (List.toArray [.agg (List.toArray [.int .i32 0, .int .i64 0, .bool false]), .bool false]), h) := by
  apply WpC.eqn
  refine wpc_fn (px_ext rfl) (px_fn fn_utf_First) rfl ?_
  unfold LF_utf_First
  simp only [argFr]
  (refine W_x trivial ?_; (repeat' first | apply Cj.mk | exact Nl.nl) <;> intros)
  exact ⟨rfl, rfl⟩
def freeB (l : Bytes) (p : Nat) : Prop := ∀ f, p - 3 ≤ f → f < p → ¬ (1 < (dec1 (l.drop f)).2 ∧ p < f + (dec1 (l.drop f)).2)
theorem dec1_le4 (l : Bytes) : (dec1 l).2 ≤ 4 := by
  unfold dec1
  repeat' split
  all_goals (dsimp only; omega)
theorem cut_spec (s : ByteArray) (h : AH) (hT : U8T h) (hs : s.size ≤ 1048576) (p : Nat) (hp : p ≤ s.size) : WpC PX 55 [.string s, .int .i64 p] h fun v h' => h' = h ∧ ∃ j : Nat, j ≤ p ∧ (j = p → freeB s.data.toList p) ∧ v = .tuple (List.toArray [.string (s.extract 0 j), .string (s.extract j s.size)]) := by
  refine wpc_fn (px_ext rfl) (px_fn fn_utf_Cut) rfl ?_
  unfold LF_utf_Cut
  simp only [argFr]
  (refine W_x trivial ?_; (repeat' first | apply Cj.mk | exact Nl.nl) <;> intros)
  have m1 : min (max (p : Int) 0) s.size = p := by omega
  have m2 : max ((p : Int) - 4 + 1) 0 = ((p - 3 : Nat) : Int) := by omega
  rw [m1, m2]
  refine wp_loop (fun w fr lc h' => lc = [] ∧ h' = h ∧ ∃ j f : Nat, w = p + 1 - f ∧ f ≤ p ∧ j ≤ p ∧ p - 3 ≤ f ∧ fr = [(0, .string s), (1, .int .i64 j), (6, .int .i64 f)] ∧ ((j = p ∧ ∀ g, p - 3 ≤ g → g < f → ¬ (1 < (dec1 (s.data.toList.drop g)).2 ∧ p < g + (dec1 (s.data.toList.drop g)).2)) ∨ (j < p ∧ f = j + 1)))
    (p + 1 - (p - 3)) ⟨rfl, rfl, p, p - 3, rfl, by omega, by omega, by omega, rfl, .inl ⟨rfl, fun g h1 h2 => by omega⟩⟩ ?_
  rintro w fr lc h' ⟨rfl, rfl, j, f, rfl, hf, hj, hf3, rfl, hor⟩
  have hjs : (j : Int) ≤ s.size := by omega
  rcases hor with ⟨rfl, hno⟩ | ⟨hjp, rfl⟩
  · by_cases hfj : f < j
    · have hfs : (f : Int) ≤ s.size := by omega
      obtain ⟨d1, d2⟩ := ext_drop s f (by omega)
      have e := decode_eq (s.extract f s.size) h' hT (by omega) (by omega)
      rw [d1] at e
      have hc : ∃ c, (dec1 (s.data.toList.drop f)).1 = c := ⟨_, rfl⟩
      obtain ⟨c, hc⟩ := hc
      obtain ⟨n, hn⟩ : ∃ n, (dec1 (s.data.toList.drop f)).2 = n := ⟨_, rfl⟩
      rw [hc, hn] at e
      have hns : n ≤ 4 := by rw [← hn]; exact dec1_le4 _
      by_cases c1 : 1 < n ∧ j < f + n
      · obtain ⟨k1, k2⟩ := c1
        (refine W_x (Aj hfs e) ?_; (repeat' first | apply Cj.mk | exact Nl.nl) <;> intros)
        refine ⟨_, ?_, rfl, rfl, f, f + 1, rfl, by omega, by omega, by omega, rfl, .inr ⟨hfj, rfl⟩⟩
        omega
      · have hno' : ∀ g, j - 3 ≤ g → g < f + 1 → ¬ (1 < (dec1 (s.data.toList.drop g)).2 ∧ j < g + (dec1 (s.data.toList.drop g)).2) := fun g h1 h2 => by
          rcases Nat.lt_or_ge g f with q | q
          · exact hno g h1 q
          · obtain rfl : g = f := by omega
            rw [hn]
            exact c1
        by_cases k1 : 1 < n
        · have k2 : ¬ ((f : Int) + n > j) := by omega
          (refine W_x (Aj hfs e) ?_; (repeat' first | apply Cj.mk | exact Nl.nl) <;> intros)
          refine ⟨_, ?_, rfl, rfl, j, f + 1, rfl, by omega, by omega, by omega, rfl, .inl ⟨rfl, hno'⟩⟩
          omega
        · (refine W_x (Aj hfs e) ?_; (repeat' first | apply Cj.mk | exact Nl.nl) <;> intros)
          refine ⟨_, ?_, rfl, rfl, j, f + 1, rfl, by omega, by omega, by omega, rfl, .inl ⟨rfl, hno'⟩⟩
          omega
    · (refine W_x hjs ?_; (repeat' first | apply Cj.mk | exact Nl.nl) <;> intros)
      refine ⟨rfl, j, by omega, fun _ => ?_, rfl⟩
      intro g h1 h2
      exact hno g h1 (by omega)
  · (refine W_x hjs ?_; (repeat' first | apply Cj.mk | exact Nl.nl) <;> intros)
    exact ⟨rfl, j, by omega, fun q => by omega, rfl⟩
theorem bound_spec (s : ByteArray) (h : AH) (hT : U8T h) (hs : s.size ≤ 1048576) (p : Nat) (hp : p ≤ s.size) : WpC PX 31 [.string s, .int .i64 p] h fun v h' => h' = h ∧ ∃ b : Bool, (b = true → freeB s.data.toList p) ∧ v = .bool b := by
  obtain ⟨_, g, e, rfl, j, hj, hf, rfl⟩ := cut_spec s h hT hs p hp
  have hz : (s.extract 0 j).size = j := by
    rw [ba_size, ba_extract _ _ _ (by omega), List.drop_zero, List.length_take]
    have : s.data.toList.length = s.size := rfl
    omega
  by_cases hjp : j = p
  · subst hjp
    refine wpc_fn (px_ext rfl) (px_fn fn_utf_Bound) rfl ?_
    unfold LF_utf_Bound
    simp only [argFr]
    (refine W_x (Aj e hz) ?_; (repeat' first | apply Cj.mk | exact Nl.nl) <;> intros)
    exact ⟨rfl, true, fun _ => hf rfl, rfl⟩
  · have hjp' : ¬ (j : Int) = p := by omega
    refine wpc_fn (px_ext rfl) (px_fn fn_utf_Bound) rfl ?_
    unfold LF_utf_Bound
    simp only [argFr]
    (refine W_x (Aj e hz) ?_; (repeat' first | apply Cj.mk | exact Nl.nl) <;> intros)
    exact ⟨rfl, false, (fun q => by cases q), rfl⟩
theorem free_posn {l : Bytes} {p : Nat} (hp : p ≤ l.length) (hf : freeB l p) : ∃ i, i ≤ (spots l).length ∧ p = posn l i := by
  have key : ∀ n i, (spots l).length - i ≤ n → i ≤ (spots l).length → posn l i ≤ p → ∃ i, i ≤ (spots l).length ∧ p = posn l i := by
    intro n
    induction n with
    | zero =>
      intro i hn hi hle
      have : i = (spots l).length := by omega
      subst this
      rw [posn_all] at hle
      exact ⟨_, Nat.le_refl _, by rw [posn_all]; omega⟩
    | succ n ih =>
      intro i hn hi hle
      rcases Nat.lt_or_ge i (spots l).length with hil | hil
      · have hs := posn_succ hil
        obtain ⟨p1, p2, p3⟩ := posn_lt hil
        have hw := dec1_le4 (l.drop (posn l i))
        rcases Nat.lt_or_ge p (posn l (i + 1)) with q | q
        · rcases Nat.eq_or_lt_of_le hle with e | e
          · exact ⟨i, hi, e.symm⟩
          · exfalso
            rw [p2] at hw
            have := hf (posn l i) (by omega) e
            rw [p2] at this
            omega
        · exact ih (i + 1) (by omega) hil q
      · have : i = (spots l).length := by omega
        subst this
        rw [posn_all] at hle
        exact ⟨_, Nat.le_refl _, by rw [posn_all]; omega⟩
  exact key _ 0 (Nat.le_refl _) (Nat.zero_le _) (by rw [posn_zero]; omega)
end Go.Proofs.YtfiaggbgplmmeaaGreatDoor.AM
namespace Go.Proofs.YtfiaggbgplmmeaaGreatDoor.AM
open Go
def pairI (T : Tab) (r : Int) : Option (Int × Int) := (wholeO T r).map fun j => (T.pairs.getD j (0, 0, 0)).2
def opI (T : Tab) : Nat → Int → List Int
  | 0, r => [r]
  | f + 1, r => match pairI T r with
    | none => [r]
    | some (b, m) => opI T f b ++ [m]
inductive Op (T : Tab) : Int → List Int → Prop
  | one {r : Int} : pairI T r = none → Op T r [r]
  | more {r b m : Int} {L : List Int} : pairI T r = some (b, m) → Op T b L → Op T r (L ++ [m])
theorem opI_none {T : Tab} {r : Int} (h : pairI T r = none) (k : Nat) : opI T k r = [r] := by
  cases k with
  | zero => rfl
  | succ k => simp only [opI, h]
theorem chain_ge {T : Tab} : ∀ (f n : Nat) (b : Int), 0 ≤ chainN T f n b → (n : Int) ≤ chainN T f n b
  | 0, n, b, h => by simp only [chainN] at h; omega
  | f + 1, n, b, h => by
    simp only [chainN] at h ⊢
    split at h
    · omega
    · have := chain_ge f _ _ h
      omega
theorem op_chain {T : Tab} : ∀ (f n : Nat) (b : Int) (k : Nat), 0 ≤ chainN T f n b → chainN T f n b ≤ (n : Int) + k → Op T b (opI T k b)
  | 0, n, b, k, h, _ => by simp only [chainN] at h; omega
  | f + 1, n, b, k, h, hk => by
    simp only [chainN] at h hk
    cases hw : wholeO T b with
    | none =>
      have hp : pairI T b = none := by unfold pairI; rw [hw]; rfl
      rw [opI_none hp]
      exact .one hp
    | some j =>
      rw [hw] at h hk
      simp only at h hk
      have h2 := chain_ge _ _ _ h
      have hp : pairI T b = some (T.pairs.getD j (0, 0, 0)).2 := by unfold pairI; rw [hw]; rfl
      cases k with
      | zero => omega
      | succ k =>
        have ih := op_chain f (n + 1) _ k h (by omega)
        simp only [opI, hp]
        exact .more hp ih
theorem good_chain {T : Tab} (h : goodB T = true) : ∀ x ∈ T.pairs, 0 ≤ chainN T T.pairs.length 1 x.2.1 ∧ chainN T T.pairs.length 1 x.2.1 ≤ 4 := by
  intro x hx
  have hf := (checkW_none (good_check h)).2.2.2.2.1
  unfold chainsW at hf
  obtain ⟨i, hi, rfl⟩ := List.mem_iff_getElem.1 hx
  have := scanL_none hf i hi
  split at this
  · cases this
  · split at this
    · cases this
    · omega
theorem good_pairs {T : Tab} (h : goodB T = true) : ∀ x ∈ T.pairs, isMark T x.1 = false ∧ isMark T x.2.1 = false ∧ isMark T x.2.2 = true ∧ runeI x.1 = true ∧ runeI x.2.1 = true ∧ runeI x.2.2 = true := by
  intro x hx
  have hn := checkW_none (good_check h)
  have hp := hn.2.2.2.1
  have hf := hn.2.1
  unfold pairsW at hp
  unfold formsW at hf
  simp only [Option.or_eq_none_iff] at hf
  obtain ⟨i, hi, rfl⟩ := List.mem_iff_getElem.1 hx
  have h1 := scanL_none hp i hi
  have h2 := scanL_none hf.2.2.2.1 i hi
  split at h1
  · cases h1
  · rename_i g1
    split at h2
    · cases h2
    · rename_i g2
      simp only [not_or, Bool.not_eq_true, Bool.not_eq_false] at g1 g2
      exact ⟨g1.1, g1.2.1, g1.2.2, g2.1, g2.2.1, g2.2.2⟩
theorem whole_mem {T : Tab} {r : Int} {j : Nat} (h : wholeO T r = some j) : ∃ hj : j < T.pairs.length, (T.pairs[j]).1 = r := by
  obtain ⟨i, hi, e⟩ := scanL_some h
  split at e
  · injection e with e
    subst e
    exact ⟨hi, by assumption⟩
  · cases e
theorem whole_none {T : Tab} {r : Int} (h : wholeO T r = none) : ∀ x ∈ T.pairs, x.1 ≠ r := by
  intro x hx e
  obtain ⟨i, hi, rfl⟩ := List.mem_iff_getElem.1 hx
  have := scanL_none h i hi
  rw [if_pos e] at this
  cases this
theorem pair_mem {T : Tab} {r b m : Int} (h : pairI T r = some (b, m)) : (r, b, m) ∈ T.pairs := by
  unfold pairI at h
  cases hw : wholeO T r with
  | none => rw [hw] at h; cases h
  | some j =>
    rw [hw] at h
    obtain ⟨hj, e⟩ := whole_mem hw
    have h1 : T.pairs.getD j (0, 0, 0) = T.pairs[j] := by simp [List.getD_eq_getElem?_getD, List.getElem?_eq_getElem hj]
    simp only [Option.map_some, h1, Option.some.injEq] at h
    have h2 : T.pairs[j] = (r, b, m) := Prod.ext e h
    rw [← h2]
    exact List.getElem_mem hj
theorem op_all {T : Tab} (h : goodB T = true) (r : Int) : Op T r (opI T 5 r) := by
  cases hp : pairI T r with
  | none => rw [opI_none hp]; exact .one hp
  | some bm =>
    obtain ⟨b, m⟩ := bm
    have hm := good_chain h _ (pair_mem hp)
    simp only [opI, hp]
    have h2 : chainN T T.pairs.length 1 b ≤ 4 := hm.2
    exact .more hp (op_chain _ 1 b 4 hm.1 (by omega))
theorem Op.eq {T : Tab} {r : Int} {L : List Int} (h : Op T r L) : ∀ {M : List Int}, Op T r M → L = M := by
  induction h with
  | one h =>
    intro M hM
    cases hM with
    | one _ => rfl
    | more h2 _ => rw [h] at h2; cases h2
  | more h _ ih =>
    intro M hM
    cases hM with
    | one h2 => rw [h] at h2; cases h2
    | more h2 h3 =>
      rw [h] at h2
      injection h2 with h2
      injection h2 with h2 h4
      subst h2 h4
      rw [ih h3]
theorem op_len {T : Tab} : ∀ (k : Nat) (r : Int), (opI T k r).length ≤ k + 1
  | 0, r => by simp [opI]
  | k + 1, r => by
    simp only [opI]
    split
    · simp
    · have := op_len (T := T) k
      rw [List.length_append, List.length_singleton]
      rename_i b m _
      have := this b
      omega
theorem mark_whole {T : Tab} (h : goodB T = true) {c : Int} (hm : isMark T c = true) : pairI T c = none := by
  cases hp : pairI T c with
  | none => rfl
  | some bm =>
    have := (good_pairs h _ (pair_mem (b := bm.1) (m := bm.2) hp)).1
    simp only at this
    rw [hm] at this
    cases this
theorem Op.facts {T : Tab} (h : goodB T = true) {r : Int} {L : List Int} (o : Op T r L) : ∃ b ms, L = b :: ms ∧ pairI T b = none ∧ (∀ c ∈ ms, isMark T c = true) ∧ isMark T b = isMark T r ∧ (runeI r = true → runeI b = true) ∧ ∀ c ∈ ms, runeI c = true := by
  induction o with
  | @one r hp => exact ⟨r, [], rfl, hp, by simp, rfl, id, by simp⟩
  | @more r b m L hp _ ih =>
    obtain ⟨b0, ms, rfl, h1, h2, h3, h4, h5⟩ := ih
    obtain ⟨g1, g2, g3, g4, g5, g6⟩ := good_pairs h _ (pair_mem hp)
    simp only at g1 g2 g3 g4 g5 g6
    refine ⟨b0, ms ++ [m], rfl, h1, fun c hc => ?_, by rw [h3, g1, g2], fun _ => h4 g5, fun c hc => ?_⟩
    · rcases List.mem_append.1 hc with hc | hc
      · exact h2 c hc
      · rw [List.mem_singleton.1 hc]; exact g3
    · rcases List.mem_append.1 hc with hc | hc
      · exact h5 c hc
      · rw [List.mem_singleton.1 hc]; exact g6
theorem class_mark {T : Tab} (h : goodB T = true) (r : Int) : 0 < classI T r ↔ isMark T r = true := by
  unfold classI isMark
  constructor
  · intro hp
    cases hs : scanL T.marks fun _ x => if x.1 = r then some x.2 else none with
    | none => rw [hs] at hp; simp at hp
    | some w =>
      obtain ⟨i, hi, e⟩ := scanL_some hs
      split at e
      · rename_i hr
        exact List.any_eq_true.2 ⟨_, List.getElem_mem hi, by simpa using hr⟩
      · cases e
  · intro hm
    obtain ⟨x, hx, e⟩ := List.any_eq_true.1 hm
    cases hs : scanL T.marks fun _ x => if x.1 = r then some x.2 else none with
    | none =>
      obtain ⟨i, hi, rfl⟩ := List.mem_iff_getElem.1 hx
      have := scanL_none hs i hi
      rw [if_pos (by simpa using e)] at this
      cases this
    | some w =>
      obtain ⟨i, hi, e⟩ := scanL_some hs
      split at e
      · injection e with e
        have := good_marks h _ (List.getElem_mem hi)
        simp only [Option.getD_some]
        omega
      · cases e
def opN (T : Tab) (c : Nat) : List Nat := (opI T 5 c).map Int.toNat
theorem rune_iff {r : Int} : runeI r = true ↔ 0 ≤ r ∧ RuneN r.toNat := by
  rw [← decide_eq_true_iff (p := RuneN r.toNat), ← runeI_nat]
  unfold runeI
  simp only [decide_eq_true_eq]
  omega
theorem opN_cast {T : Tab} (h : goodB T = true) {c : Nat} (hc : RuneN c) : (opN T c).map (fun n : Nat => (n : Int)) = opI T 5 c ∧ ∀ x ∈ opI T 5 c, runeI x = true := by
  obtain ⟨b, ms, e, h1, h2, h3, h4, h5⟩ := (op_all h (c : Int)).facts h
  have hr : ∀ x ∈ opI T 5 c, runeI x = true := fun x hx => by
    rw [e] at hx
    rcases List.mem_cons.1 hx with rfl | hx
    · exact h4 (rune_iff.2 ⟨by omega, by simpa using hc⟩)
    · exact h5 x hx
  refine ⟨?_, hr⟩
  unfold opN
  rw [List.map_map]
  conv => rhs; rw [← List.map_id (opI T 5 c)]
  refine List.map_congr_left fun x hx => ?_
  have := (rune_iff.1 (hr x hx)).1
  simp only [Function.comp, id]
  omega
theorem opN_facts {T : Tab} (h : goodB T = true) {c : Nat} (hc : RuneN c) : ∃ b ms, opN T c = b :: ms ∧ (0 < clT T b ↔ 0 < clT T c) ∧ (∀ x ∈ ms, 0 < clT T x) ∧ (∀ x ∈ b :: ms, RuneN x ∧ pairI T x = none) ∧ ms.length ≤ 5 ∧ (0 < clT T c → ms = [] ∧ b = c) := by
  obtain ⟨b, ms, e, h1, h2, h3, h4, h5⟩ := (op_all h (c : Int)).facts h
  obtain ⟨g1, g2⟩ := opN_cast h hc
  have hb := rune_iff.1 (g2 b (by rw [e]; simp))
  have hx : ∀ x ∈ ms, ((x.toNat : Nat) : Int) = x ∧ RuneN x.toNat := fun x hx => by
    have := rune_iff.1 (h5 x hx)
    exact ⟨by omega, this.2⟩
  have hbb : ((b.toNat : Nat) : Int) = b := by omega
  refine ⟨b.toNat, ms.map Int.toNat, by unfold opN; rw [e]; rfl, ?_, fun x hx' => ?_, fun x hx' => ?_, ?_, fun hp => ?_⟩
  · show 0 < classI T ((b.toNat : Nat) : Int) ↔ 0 < classI T (c : Int)
    rw [hbb, class_mark h, class_mark h, h3]
  · obtain ⟨y, hy, rfl⟩ := List.mem_map.1 hx'
    show 0 < classI T ((y.toNat : Nat) : Int)
    rw [(hx y hy).1, class_mark h]
    exact h2 y hy
  · rcases List.mem_cons.1 hx' with rfl | hx'
    · exact ⟨hb.2, by rw [hbb]; exact h1⟩
    · obtain ⟨y, hy, rfl⟩ := List.mem_map.1 hx'
      exact ⟨(hx y hy).2, by rw [(hx y hy).1]; exact mark_whole h (h2 y hy)⟩
  · have := op_len (T := T) 5 (c : Int)
    rw [e, List.length_cons] at this
    rw [List.length_map]
    omega
  · have hm := mark_whole h ((class_mark h _).1 hp)
    rw [opI_none hm] at e
    injection e with e1 e2
    subst e1 e2
    exact ⟨rfl, by simp⟩
def isOp (T : Tab) (c : Nat) : Prop := pairI T c = none
theorem opN_open {T : Tab} {c : Nat} (h : isOp T c) : opN T c = [c] := by
  unfold opN
  rw [opI_none h]
  simp
def openF (T : Tab) (B : List Nat) : List Nat := B.flatMap (opN T)
def openL (T : Tab) (B : List Nat) : List Nat := ord (clT T) (openF T B)
def openB (T : Tab) (l : Bytes) : Bytes := encs (openL T (runesB l))
theorem openF_open {T : Tab} : ∀ {B : List Nat}, (∀ c ∈ B, isOp T c) → openF T B = B
  | [], _ => rfl
  | c :: B, h => by
    have ih := openF_open (T := T) (B := B) fun x hx => h x (by simp [hx])
    unfold openF at ih ⊢
    rw [List.flatMap_cons, ih, opN_open (h c (by simp))]
    rfl
theorem openF_all {T : Tab} (h : goodB T = true) {B : List Nat} (hB : ∀ c ∈ B, RuneN c) : ∀ x ∈ openF T B, RuneN x ∧ isOp T x := by
  intro x hx
  obtain ⟨c, hc, hx⟩ := List.mem_flatMap.1 hx
  obtain ⟨b, ms, e, _, _, h3, _⟩ := opN_facts h (hB c hc)
  rw [e] at hx
  exact h3 x hx
theorem openL_all {T : Tab} (h : goodB T = true) {B : List Nat} (hB : ∀ c ∈ B, RuneN c) : ∀ x ∈ openL T B, RuneN x ∧ isOp T x := fun x hx => openF_all h hB x (ord_mem.1 hx)
theorem openL_open {T : Tab} {B : List Nat} (hB : ∀ c ∈ B, isOp T c) (ho : Ordered (clT T) B) : openL T B = B := by
  unfold openL
  rw [openF_open hB, ord_of_ordered ho]
theorem openL_idem {T : Tab} (h : goodB T = true) {B : List Nat} (hB : ∀ c ∈ B, RuneN c) : openL T (openL T B) = openL T B := openL_open (fun c hc => (openL_all h hB c hc).2) (ord_ordered _)
theorem openF_len {T : Tab} (h : goodB T = true) : ∀ {B : List Nat}, (∀ c ∈ B, RuneN c) → B.length ≤ (openF T B).length ∧ (openF T B).length ≤ 6 * B.length
  | [], _ => by simp [openF]
  | c :: B, hB => by
    have ih := openF_len (T := T) h (B := B) fun x hx => hB x (by simp [hx])
    obtain ⟨b, ms, e, _, _, _, h4, _⟩ := opN_facts h (hB c (by simp))
    unfold openF at ih ⊢
    rw [List.flatMap_cons, e]
    simp only [List.length_append, List.length_cons]
    omega
theorem openF_append {T : Tab} (A B : List Nat) : openF T (A ++ B) = openF T A ++ openF T B := by simp [openF]
theorem openL_cut {T : Tab} (h : goodB T = true) {A B : List Nat} (hB : ∀ c ∈ B, RuneN c) (hc : ∀ c, B.head? = some c → clT T c ≤ 0) : openL T (A ++ B) = openL T A ++ openL T B := by
  unfold openL
  rw [openF_append]
  cases B with
  | nil => simp [openF, ord_nil]
  | cons c B =>
    obtain ⟨b, ms, e, h1, _⟩ := opN_facts h (hB c (by simp))
    refine ord_append (.inr (.inr (.inr ⟨b, ms ++ openF T B, ?_, ?_⟩)))
    · unfold openF
      rw [List.flatMap_cons, e]
      rfl
    · have := hc c rfl
      omega
theorem openB_runes {T : Tab} (h : goodB T = true) (l : Bytes) : runesB (openB T l) = openL T (runesB l) := runesB_of_encs fun c hc => (openL_all h (runesB_rune l) c hc).1
theorem openB_idem {T : Tab} (h : goodB T = true) (l : Bytes) : openB T (openB T l) = openB T l := by
  show encs (openL T (runesB (openB T l))) = _
  rw [openB_runes h, openL_idem h (runesB_rune l)]
  rfl
theorem openB_valid {T : Tab} (h : goodB T = true) (l : Bytes) : validB (openB T l) = true := valid_encs fun c hc => (openL_all h (runesB_rune l) c hc).1
def badP (x : Nat × Nat) : Prop := x.1 = 65533 ∧ x.2 = 1
instance (x : Nat × Nat) : Decidable (badP x) := by unfold badP; infer_instance
def firstO (T : Tab) (l : Bytes) : Option (Nat × Nat) := scanL (spots l) fun i x => if badP x ∨ (pairI T x.1).isSome = true ∨ (0 < clT T x.1 ∧ clT T x.1 < prevC T l i) then some (posn l i, i) else none
theorem scanL_end {α β : Type} {l : List α} {g : Nat → α → Option β} (h : ∀ i (hi : i < l.length), g i l[i] = none) : scanL l g = none := scan_end fun j hj => by rw [List.getElem?_eq_getElem hj]; exact h j hj
theorem ordered_get {cl : Nat → Int} : ∀ {l : List Nat}, Ordered cl l → ∀ j (hj : j + 1 < l.length), ¬ (0 < cl l[j + 1] ∧ cl l[j + 1] < cl (l[j]'(by omega)))
  | a :: c :: t, h, 0, _ => h.1
  | a :: c :: t, h, j + 1, hj => ordered_get (l := c :: t) h.2 j (by simpa using hj)
theorem runesB_get {l : Bytes} {i : Nat} (hi : i < (spots l).length) : (runesB l)[i]'(by rw [runesB_len]; exact hi) = ((spots l)[i]).1 := by simp [runesB]
theorem firstO_none {T : Tab} (h : goodB T = true) (l : Bytes) : firstO T l = none ↔ openB T l = l := by
  constructor
  · intro hf
    have key : ∀ i (hi : i < (spots l).length), ¬ (badP (spots l)[i] ∨ (pairI T ((spots l)[i]).1).isSome = true ∨ (0 < clT T ((spots l)[i]).1 ∧ clT T ((spots l)[i]).1 < prevC T l i)) := fun i hi hc => by
      have := scanL_none hf i hi
      rw [if_pos hc] at this
      cases this
    have hv : validB l = true := by
      unfold validB
      rw [List.all_eq_true]
      intro x hx
      obtain ⟨i, hi, rfl⟩ := List.mem_iff_getElem.1 hx
      have := key i hi
      unfold badP at this
      simp only [Bool.not_eq_true', Bool.and_eq_false_iff, beq_eq_false_iff_ne, decide_eq_true_eq, decide_eq_false_iff_not, not_or, not_and] at this ⊢
      rcases Decidable.em (((spots l)[i]).1 = 65533) with e | e
      · exact .inr (this.1 e)
      · exact .inl e
    have ho : ∀ c ∈ runesB l, isOp T c := fun c hc => by
      obtain ⟨i, hi, rfl⟩ := List.mem_iff_getElem.1 hc
      have hi' : i < (spots l).length := by rw [← runesB_len]; exact hi
      rw [runesB_get hi']
      have := key i hi'
      simp only [not_or, Bool.not_eq_true, Option.isSome_eq_false_iff, Option.isNone_iff_eq_none] at this
      exact this.2.1
    have hs : Ordered (clT T) (runesB l) := ordered_of fun j hj hc => by
      have hj' : j + 1 < (spots l).length := by rw [← runesB_len]; exact hj
      rw [runesB_get hj', runesB_get (by omega)] at hc
      have := key (j + 1) hj'
      rw [prevC_succ (by omega)] at this
      exact this (.inr (.inr hc))
    unfold openB
    rw [openL_open ho hs]
    exact (valid_clean l).1 hv
  · intro he
    have hr : runesB l = openL T (runesB l) := by rw [← openB_runes h, he]
    have hv := openB_valid h l
    rw [he] at hv
    have ho := (openL_all h (runesB_rune l))
    rw [← hr] at ho
    have hs : Ordered (clT T) (runesB l) := by rw [hr]; exact ord_ordered _
    refine scanL_end fun i hi => if_neg ?_
    have hi2 : i < (runesB l).length := by rw [runesB_len]; exact hi
    rintro (hb | hb | hb)
    · unfold validB at hv
      have := List.all_eq_true.1 hv _ (List.getElem_mem hi)
      unfold badP at hb
      simp [hb.1, hb.2] at this
    · have := (ho _ (List.getElem_mem hi2)).2
      rw [runesB_get hi] at this
      unfold isOp at this
      rw [this] at hb
      cases hb
    · cases i with
      | zero => simp only [prevC] at hb; omega
      | succ i =>
        rw [prevC_succ (by omega)] at hb
        have := ordered_get hs i hi2
        rw [runesB_get hi, runesB_get (by omega)] at this
        exact this hb
end Go.Proofs.YtfiaggbgplmmeaaGreatDoor.AM
namespace Go.Proofs.YtfiaggbgplmmeaaGreatDoor.AM
open Go
section
variable {p : Prg} {lc : Lc} {h : AH} {H : Value → Lc → AH → Prop}
theorem wo_appO {e by' : Nat} {s : Sl} {y : Value} {xss yss : List (List Value)} {k : Nat} (o : Own h e s xss) (hk : lenV y = some k) (hy : rdSlice ⟨lc, h⟩ e y = some yss.flatten)
    (hyl : yss.length = k) (hye : ∀ x ∈ yss, x.length = e) (k0 : 0 < k) (he : 0 < e) (hb : 0 < by') (hn : (xss.length + k) * by' ≤ 140737488355328)
    (hq : ∀ s' h', Own h' e s' (xss ++ yss) → s'.blk = some h.n → h'.n = h.n + 1 → (∀ b, b < h.n → s.blk ≠ some b → h'.get b = h.get b) → H (s'.val e) lc h') : WpO p (.e (.append e by' (.s 0) (.s 1))) [s.val e, y] lc h H := by
  obtain ⟨s', h', h1, h2, h3, h4, h5⟩ := own_append o hk hy hyl hye k0 he hb hn
  exact wo_e (by simp only [EOp.ev, opd_s, fg0, fg1, h1]) (hq s' h' h2 h3 h4 h5)
theorem wo_app1O {e by' b : Nat} {s : Sl} {xss : List (List Value)} {cs : List Value} (o : Own h e s xss) (hl : lget lc b = some (.cells false cs)) (hc : cs.length = e) (he : 0 < e) (hb : 0 < by') (hn : (xss.length + 1) * by' ≤ 140737488355328)
    (hq : ∀ s' h', Own h' e s' (xss ++ [cs]) → s'.blk = some h.n → h'.n = h.n + 1 → (∀ b, b < h.n → s.blk ≠ some b → h'.get b = h.get b) → H (s'.val e) lc h') : WpO p (.e (.append e by' (.s 0) (.s 1))) [s.val e, .slice (some ⟨b, 0, some 1⟩) 1 e] lc h H := by
  refine wo_appO (yss := [cs]) (k := 1) o rfl ?_ rfl (fun x hx => by rw [List.mem_singleton.1 hx]; exact hc) (by decide) he hb hn hq
  simp only [rdSlice, Nat.one_ne_zero, if_false, Nat.one_mul, rd_loc, hl, List.flatten_cons, List.flatten_nil, List.append_nil]
  rw [if_pos (by omega), List.drop_zero, ← hc, List.take_length]
end
end Go.Proofs.YtfiaggbgplmmeaaGreatDoor.AM
namespace Go.Proofs.YtfiaggbgplmmeaaGreatDoor.AM
open Go
def LF_open_Rune : LFunc :=
  .mk 2 [.tmp 4] (.seq (R 2 [1, 2] [.tmp 2 (xbh 1 (.sl 0)), .set 4 (.cv (.slice none 0 0))]) (.seq (.seq (R 7 [1, 2, 8] [.tmp 8 (.op (.p (.eqk false .ptr (.s 0) (.s 1))) (.cons (xld
  (.sl 2)) (.cv (.pointer none))))]) (.cond (.s 8) (.seq (R 999 [4] [.set 4 (.cv (.slice none 0 0))]) .ret) .skip)) (.seq (R 5 [1, 2, 5] [.tmp 5 (xnh [.slice none 0 0])]) (.seq (R 6
  [1, 2, 5, 6] [.tmp 6 (xnh [.nilFunc])]) (.seq (R 9 [1, 5, 6] [.run (xst 1 (.sl 6) (.op (.p (.mkfn (.func 45) [] [.s 0, .s 1, .s 2])) (.cons (.sl 2) (.cons (.sl 5)
  (.sl 6)))))]) (.seq (R 10 [5] [.tmp 12 (xv1 (xld (.sl 6)) (.va 1))]) (.seq (R 13 [4] [.set 4 (xld (.sl 5))]) .ret)))))))
theorem fn_open_Rune : (autoPrg Tryz.prog).fn 15 = some LF_open_Rune := by kernel_rfl
def LF_open_Rune_1 : LFunc :=
  .mk 4 [] (.seq (R 9 [0, 2, 3, 5, 6, 7] [.set 8 (xc2 29 (xld (.sl 1)) (.va 0)), .tmp 12 (xex 0 (.sl 8)), .tmp 13 (xex 1 (.sl 8)), .tmp 14 (xex 2 (.sl 8)), .set
  5 (.sl 12), .set 6 (.sl 13), .set 7 (.sl 14)]) (.seq (.seq (R 15 [0, 2, 3, 5, 6, 16] [.tmp 16 (xu .not (.va 7))]) (.cond (.s 16) (.seq (R 17 [] [.run (xst 1 (.sl 2) (xap 1 4 (xld
  (.sl 2)) (.op (.e (.litL 19 1 1 [.int .i32 0] [(0, 1, .s 0)])) (.va 0))))]) .ret) .skip)) (.seq (R 21 [2, 6] [.tmp 23 (xv1 (xld (.sl 3)) (.va 5))]) (R 24 [] [.run (xst 1 (.sl 2)
  (xap 1 4 (xld (.sl 2)) (.op (.e (.litL 26 1 1 [.int .i32 0] [(0, 1, .s 0)])) (.va 6))))]))))
theorem fn_open_Rune_1 : (autoPrg Tryz.prog).fn 45 = some LF_open_Rune_1 := by kernel_rfl
def LF_guiseref9_Pair : LFunc :=
  .mk 2 [.tmp 4, .tmp 5, .tmp 6] (.seq (R 2 [1, 2] [.tmp 2 (xbl 2 8 (.sl 0)), .set 4 (xr 0), .set 5 (xr 0), .set 6 (.cv (.bool false))]) (.seq (R 8 [2, 7] [.set 7 (xc2
  85 (xln 8 (.sl 2)) (.va 1))]) (.seq (.seq (R 11 [2, 7, 12] [.tmp 12 (xb .lss (.va 7) (xi 0))]) (.cond (.s 12) (.seq (R 999 [4, 5, 6] [.set 4 (xr 0), .set 5 (xr
  0), .set 6 (.cv (.bool false))]) .ret) .skip)) (.seq (R 13 [4, 5, 6] [.tmp 18 (xld (xfa 1 (xia 3 (xld (xfa 3 (.sl 2))) (.va 7)))), .tmp 24 (xld (xfa 2 (xia 3 (xld (xfa 3 (.sl 2)))
  (.va 7)))), .set 4 (.sl 18), .set 5 (.sl 24), .set 6 (.cv (.bool true))]) .ret))))
theorem fn_guiseref9_Pair : (autoPrg Tryz.prog).fn 51 = some LF_guiseref9_Pair := by kernel_rfl
def LF_guiseref9_Rune : LFunc :=
  .mk 2 [.tmp 4] (.seq (R 2 [1, 2] [.tmp 2 (xbl 2 8 (.sl 0)), .set 4 (.cv (.slice none 0 0))]) (.seq (R 9 [2, 5] [.set 5 (.op (.e (.litH 1 1 [.int .i32 0] [(0, 1, .s 0)])) (.va
  1))]) (.block 0 (.loop (.block 1 (.seq (R 12 [2, 5, 6, 7, 8] [.set 11 (xc2 51 (xln 8 (.sl 2)) (xld (xia 1 (.va 5) (xi 0)))), .tmp 17 (xex 0 (.sl 11)), .tmp 18 (xex
  1 (.sl 11)), .tmp 19 (xex 2 (.sl 11)), .set 6 (.sl 17), .set 7 (.sl 18), .set 8 (.sl 19)]) (.seq (.seq (R 20 [2, 5, 6, 7, 21] [.tmp 21 (xu .not (.va 8))]) (.cond (.s 21) (.seq (R
  22 [4] [.set 4 (.va 5)]) .ret) .skip)) (R 23 [2, 5] [.set 5 (xap 1 4 (.op (.e (.litH 2 1 [.int .i32 0] [(0, 1, .s 0), (1, 1, .s 1)])) (.cons (.va 6) (.va 7))) (.op (.p (.sl 1 (.s
  0) (some (.s 1)) none none)) (.cons (.va 5) (xi 1))))]))))))))
theorem fn_guiseref9_Rune : (autoPrg Tryz.prog).fn 53 = some LF_guiseref9_Rune := by kernel_rfl
def LF_guisebook_Same_rune : LFunc :=
  .mk 2 [.tmp 4] (.seq (R 999 [0, 1] [.set 4 (.cv (.bool false))]) (.seq (.seq (R 6 [0, 1, 10] [.tmp 10 (xb .neq (xlen (.va 0)) (xlen (.va 1)))]) (.cond (.s 10) (.seq (R 999 [4]
  [.set 4 (.cv (.bool false))]) .ret) .skip)) (.seq (.seq (R 999 [0, 1, 5] [.set 5 (xi 0)]) (.block 0 (.loop (.seq (.seq (R 11 [0, 1, 5, 14] [.tmp 14 (xb .lss (.va 5) (xlen (.va
  0)))]) (.cond (.s 14) .skip (.exit 0))) (.seq (.block 1 (.seq (R 17 [0, 1, 5, 25] [.tmp 25 (xb .neq (xld (xia 1 (.va 0) (.va 5))) (xld (xia 1 (.va 1) (.va 5))))]) (.cond (.s 25)
  (.seq (R 999 [4] [.set 4 (.cv (.bool false))]) .ret) .skip))) (R 15 [0, 1, 5] [.set 5 (xb .add (.va 5) (xi 1))])))))) (.seq (R 999 [4] [.set 4 (.cv (.bool true))]) .ret))))
theorem fn_guisebook_Same_rune : (autoPrg Tryz.prog).fn 26 = some LF_guisebook_Same_rune := by kernel_rfl
def LF_open_Open : LFunc :=
  .mk 2 [.tmp 4] (.seq (R 999 [0, 1] [.set 4 (.cv (.string ⟨#[]⟩))]) (.seq (.seq (R 8 [0, 1, 9] [.tmp 9 (.op (.p (.eqk false .ptr (.s 0) (.s 1))) (.cons (.va 0) (.cv (.pointer
  none))))]) (.cond (.s 9) (.seq (R 999 [4] [.set 4 (.cv (.string ⟨#[]⟩))]) .ret) .skip)) (.seq (R 999 [0, 1, 5] [.set 5 (.cv (.slice none 0 0))]) (.seq (.seq (R 10 [0, 5, 11] [.tmp
  11 (.op (.e (.rngS 11 (.s 0))) (.va 1))]) (.block 0 (.loop (.seq (R 12 [0, 5, 11, 12, 13] [.tmp 12 (.op (.e (.nxtS (.s 0))) (.sl 11)), .tmp 13 (xex 0 (.sl 12))]) (.seq (.cond (.s
  13) .skip (.exit 0)) (.block 1 (.seq (R 14 [0, 5, 7, 11] [.set 7 (xex 2 (.sl 12))]) (R 15 [0, 5, 11] [.set 5 (xap 1 4 (.va 5) (xc2 15 (.va 0) (.va 7)))])))))))) (.seq
  (R 20 [4] [.set 4 (xc2 48 (.va 0) (.op (.r (.r2s (.s 0))) (.va 5)))]) .ret)))))
theorem fn_open_Open : (autoPrg Tryz.prog).fn 19 = some LF_open_Open := by kernel_rfl
def LF_open_Twins : LFunc :=
  .mk 3 [.tmp 6] (.seq (R 999 [0, 1, 2] [.set 6 (.cv (.bool false))]) (.seq (R 7 [6] [.set 6 (.and (.op (.p (.eqk true .ptr (.s 0) (.s 1))) (.cons (.va 0) (.cv (.pointer none))))
  (xb .eql (xc2 19 (.va 0) (.va 1)) (xc2 19 (.va 0) (.va 2))))]) .ret))
theorem fn_open_Twins : (autoPrg Tryz.prog).fn 20 = some LF_open_Twins := by kernel_rfl
def LF_tables_Book_Pair : LFunc :=
  .mk 2 [.tmp 4, .tmp 5, .tmp 6] (.seq (R 999 [0, 1] [.set 4 (xr 0), .set 5 (xr 0), .set 6 (.cv (.bool false))]) (.seq (R 9 [6, 7] [.set 8 (.op (.r (.lookup (.one .int) (.agg
  (Array.mk [.int .i32 0, .int .i32 0])) true (.s 0) (.s 1))) (.cons (xld (xfa 9 (xnk (.va 0)))) (.va 1))), .tmp 15 (xex 0 (.sl 8)), .tmp 16 (xex 1 (.sl 8)), .at 7, .tmp 7 (xnl 7
  [.int .i32 0, .int .i32 0]), .run (xst 2 (.sl 7) (.sl 15)), .set 6 (.sl 16)]) (.seq (R 17 [4, 5, 6] [.tmp 18 (xld (.op (.p (.iaddrA 2 1 (.s 0) (.s 1))) (.cons (.sl 7) (xi 0)))),
  .tmp 20 (xld (.op (.p (.iaddrA 2 1 (.s 0) (.s 1))) (.cons (.sl 7) (xi 1)))), .tmp 21 (.va 6), .set 4 (.sl 18), .set 5 (.sl 20), .set 6 (.sl 21)]) .ret)))
theorem fn_tables_Book_Pair : (autoPrg Tryz.prog).fn 29 = some LF_tables_Book_Pair := by kernel_rfl
def LF_guiselaw9_known : LFunc :=
  .mk 0 [.tmp 0] (.seq (R 999 [] [.set 0 (.cv (.bool false))]) (.seq (R 5 [1, 2] [.set 4 (xc1 12 (xc0 18)), .tmp 7 (xex 0 (.sl 4)), .tmp 8 (xex 1 (.sl
  4)), .tmp 9 (xex 2 (.sl 4)), .set 1 (.sl 7), .set 2 (.sl 8), .set 3 (.sl 9)]) (.seq (.seq (R 10 [1, 11] [.tmp 11 (xu .not (.va 2))]) (.cond (.s 11) (.seq (R 999 [0] [.set 0 (.cv
  (.bool false))]) .ret) .skip)) (.seq (R 12 [0] [.set 0 (.and (.and (xb .eql (xc2 19 (.va 1) (.cv (.string ⟨#[195, 169, 204, 163]⟩))) (.cv (.string ⟨#[101, 204, 163,
  204, 129]⟩))) (xc3 20 (.va 1) (.cv (.string ⟨#[225, 186, 191]⟩)) (.cv (.string ⟨#[101, 204, 130, 204, 129]⟩)))) (xu .not (xc3 20 (.va 1) (.cv (.string
  ⟨#[225, 186, 191]⟩)) (.cv (.string ⟨#[101, 204, 129, 204, 130]⟩)))))]) .ret))))
theorem fn_guiselaw9_known : (autoPrg Tryz.prog).fn 13 = some LF_guiselaw9_known := by kernel_rfl
def LF_guiselaw9_house : LFunc :=
  .mk 0 [.cell 0 (some 8)] (.seq (R 0 [0] [.tmp 0 (xnl 0 [.slice none 0 0, .slice none 0 0, .slice none 0 0, .slice none 0 0, .slice none 0 0, .slice none 0 0, .slice none 0 0,
  .slice none 0 0])]) (.seq (R 1 [0] [.run (xst 8 (.sl 0) (xc0 47))]) .ret))
theorem fn_guiselaw9_house : (autoPrg Tryz.prog).fn 18 = some LF_guiselaw9_house := by kernel_rfl
end Go.Proofs.YtfiaggbgplmmeaaGreatDoor.AM
namespace Go.Proofs.YtfiaggbgplmmeaaGreatDoor.AM
open Go
def prV : Option (Int × Int) → Value
  | some (b, m) => .tuple (List.toArray [.int .i32 b, .int .i32 m, .bool true])
  | none => .tuple (List.toArray [.int .i32 0, .int .i32 0, .bool false])
theorem bookPair_eq {h : AH} {k B : Nat} {s6 : Sl} {T : Tab} (bk : BkAt h k B s6 T) (r : Int) : callO PX 29 [.pointer (some ⟨k, 0, none⟩), .int .i32 r] h = some (prV (pairI T r), h) := by
  obtain ⟨x0, x1, x2, x3, x4, x5, x7, hb⟩ := bk.b
  have m2 := m_whole bk.mp r
  unfold pairI
  cases hw : wholeO T r with
  | none =>
    rw [hw] at m2
    simp only [Option.map_none, Option.getD_none, Option.isSome_none] at m2
    simp only [Option.map_none, prV]
    apply WpC.eqn
    refine wpc_fn (px_ext rfl) (px_fn fn_tables_Book_Pair) rfl ?_
    unfold LF_tables_Book_Pair
    simp only [argFr]
    (refine W_x (Aj hb m2) ?_; (repeat' first | apply Cj.mk | exact Nl.nl) <;> intros)
    exact ⟨rfl, rfl⟩
  | some j =>
    rw [hw] at m2
    simp only [Option.map_some, Option.getD_some, Option.isSome_some] at m2
    unfold rowP kP at m2
    rw [Option.map_some]
    generalize (T.pairs.getD j (0, 0, 0)).2 = x at m2 ⊢
    obtain ⟨a, c⟩ := x
    simp only [prV] at m2 ⊢
    apply WpC.eqn
    refine wpc_fn (px_ext rfl) (px_fn fn_tables_Book_Pair) rfl ?_
    unfold LF_tables_Book_Pair
    simp only [argFr]
    (refine W_x (Aj hb m2) ?_; (repeat' first | apply Cj.mk | exact Nl.nl) <;> intros)
    exact ⟨rfl, rfl⟩
theorem refPair_eq {S : TS} {T : Tab} {h : AH} (t : TabAt h S T) (r : Int) : callO PX 51 [.agg S.vs.toArray, .int .i32 r] h = some (prV (pairI T r), h) := by
  have e1 := whole6_eq t r
  have hn := t.fits.n3
  unfold pairI
  unfold TS.vs at e1 ⊢
  cases hw : wholeO T r with
  | none =>
    rw [hw] at e1
    simp only [ixI] at e1
    simp only [Option.map_none, prV]
    apply WpC.eqn
    refine wpc_fn (px_ext rfl) (px_fn fn_guiseref9_Pair) rfl ?_
    unfold LF_guiseref9_Pair
    simp only [argFr]
    (refine W_x e1 ?_; (repeat' first | apply Cj.mk | exact Nl.nl) <;> intros)
    exact ⟨rfl, rfl⟩
  | some j =>
    rw [hw] at e1
    simp only [ixI] at e1
    simp only [Option.map_some, prV]
    obtain ⟨hj, _⟩ := whole_mem hw
    have hg : T.pairs.getD j (0, 0, 0) = T.pairs[j] := by simp [List.getD_eq_getElem?_getD, List.getElem?_eq_getElem hj]
    rw [hg]
    have hs := t.r3.len
    have g1 := fun lc => rd_mapc (lc := lc) t.r3 hj (k := 1) (by decide)
    have g2 := fun lc => rd_mapc (lc := lc) t.r3 hj (k := 2) (by decide)
    generalize T.pairs[j] = x at g1 g2 ⊢
    obtain ⟨w, a, c⟩ := x
    unfold tripV at g1 g2
    apply WpC.eqn
    refine wpc_fn (px_ext rfl) (px_fn fn_guiseref9_Pair) rfl ?_
    unfold LF_guiseref9_Pair
    simp only [argFr]
    (refine W_x (Aj e1 (Aj hs (Aj g1 g2))) ?_; (repeat' first | apply Cj.mk | exact Nl.nl) <;> intros)
    exact ⟨rfl, rfl⟩
abbrev rI (c : Int) : List Value := [.int .i32 c]
def apF (h : AH) : Value := .func (.func 45) #[] #[.pointer (some ⟨h.n, 0, none⟩), .pointer (some ⟨h.n + 1, 0, none⟩), .pointer (some ⟨h.n + 2, 0, none⟩)]
structure ApI (h : AH) (k : Nat) (g : AH) (s : Sl) (D : List (List Value)) : Prop where
  kp : Kp h g
  n : h.n + 3 ≤ g.n
  b0 : g.get h.n = some (.cells false [.pointer (some ⟨k, 0, none⟩)])
  b1 : g.get (h.n + 1) = some (.cells false [s.val 1])
  b2 : g.get (h.n + 2) = some (.cells false [apF h])
  own : Own g 1 s D
  new : ∀ b, s.blk = some b → h.n + 3 ≤ b
theorem ApI.put {h g g' : AH} {k : Nat} {s s' : Sl} {D D' : List (List Value)} (i : ApI h k g s D) (o : Own g' 1 s' D') (hb : s'.blk = some g.n) (hn : g'.n = g.n + 1) (hk : ∀ b, b < g.n → s.blk ≠ some b → g'.get b = g.get b) :
    ApI h k (g'.set (h.n + 1) (.cells false [s'.val 1])) s' D' := by
  have hn3 := i.n
  have hs : ∀ b, b < h.n + 3 → g'.get b = g.get b := fun b hb => hk b (by omega) fun e => by have := i.new b e; omega
  refine ⟨⟨by have := i.kp.1; rw [AH.set_n]; omega, fun b hb => ?_⟩, by rw [AH.set_n]; omega, ?_, AH.get_set_same _ (by omega), ?_, o.same fun b hb2 => ?_, fun b hb2 => ?_⟩
  · rw [AH.get_set_ne _ (by omega), hs b (by omega), i.kp.2 b hb]
  · rw [AH.get_set_ne _ (by omega), hs _ (by omega)]; exact i.b0
  · rw [AH.get_set_ne _ (by omega), hs _ (by omega)]; exact i.b2
  · rw [hb] at hb2; injection hb2 with hb2; exact AH.get_set_ne _ (by omega)
  · rw [hb] at hb2; injection hb2 with hb2; omega
theorem apart_spec {h : AH} {k B : Nat} {s6 : Sl} {T : Tab} (bk : BkAt h k B s6 T) {r : Int} {L : List Int} (op : Op T r L) : ∀ (g : AH) (s : Sl) (D : List (List Value)), ApI h k g s D → D.length + L.length ≤ 1000000 →
    WpC PX 45 [.int .i32 r, .pointer (some ⟨h.n, 0, none⟩), .pointer (some ⟨h.n + 1, 0, none⟩), .pointer (some ⟨h.n + 2, 0, none⟩)] g fun _ g' => ∃ s', ApI h k g' s' (D ++ L.map rI) := by
  induction op with
  | @one r hp =>
    intro g s D i hD
    have e1 := bookPair_eq (bk.kp i.kp) r
    rw [hp] at e1
    simp only [prV] at e1
    have q0 := i.b0
    have q1 := i.b1
    refine wpc_fn (px_ext rfl) (px_fn fn_open_Rune_1) rfl ?_
    unfold LF_open_Rune_1
    simp only [argFr]
    (refine W_x (Aj e1 (Aj q0 q1)) ?_; (repeat' first | apply Cj.mk | exact Nl.nl) <;> intros)
    refine wo_app1O (cs := rI r) i.own rfl rfl (by decide) (by decide) (by simp at hD; omega) fun s' g' o hb hn hk => ?_
    have i2 := i.put o hb hn hk
    have hg1 : g'.get (h.n + 1) = some (.cells false [s.val 1]) := (hk _ (by have := i.n; omega) fun e => by have := i.new _ e; omega).trans i.b1
    (refine W_x hg1 ?_; (repeat' first | apply Cj.mk | exact Nl.nl) <;> intros)
    exact ⟨s', i2⟩
  | @more r b m L hp _ ih =>
    intro g s D i hD
    rw [List.length_append, List.length_singleton] at hD
    have e1 := bookPair_eq (bk.kp i.kp) r
    rw [hp] at e1
    simp only [prV] at e1
    have q0 := i.b0
    have q2 := i.b2
    unfold apF at q2
    obtain ⟨v, g1, e2, s1, i1⟩ := ih g s D i (by omega)
    have p1 := i1.b1
    refine wpc_fn (px_ext rfl) (px_fn fn_open_Rune_1) rfl ?_
    unfold LF_open_Rune_1
    simp only [argFr]
    (refine W_x (Aj e1 (Aj e2 (Aj q0 (Aj q2 p1)))) ?_; (repeat' first | apply Cj.mk | exact Nl.nl) <;> intros)
    refine wo_app1O (cs := rI m) i1.own rfl rfl (by decide) (by decide) (by rw [List.length_append, List.length_map]; omega) fun s' g' o hb hn hk => ?_
    have i2 := i1.put o hb hn hk
    have hg1 : g'.get (h.n + 1) = some (.cells false [s1.val 1]) := (hk _ (by have := i1.n; omega) fun e => by have := i1.new _ e; omega).trans i1.b1
    (refine W_x hg1 ?_; (repeat' first | apply Cj.mk | exact Nl.nl) <;> intros)
    refine ⟨s', ?_⟩
    rw [List.map_append, ← List.append_assoc]
    exact i2
theorem openRune_spec {h : AH} {k B : Nat} {s6 : Sl} {T : Tab} (gd : goodB T = true) (bk : BkAt h k B s6 T) (r : Int) : WpC PX 15 [.pointer (some ⟨k, 0, none⟩), .int .i32 r] h fun v h' => ∃ sl, v = sl.val 1 ∧ FOwn h h' 1 sl ((opI T 5 r).map rI) := by
  have hop := op_all gd r
  have hl := op_len (T := T) 5 r
  have i0 : ApI h k ((((h.push (.cells false [.pointer (some ⟨k, 0, none⟩)])).push (.cells false [.slice none 0 0])).push (.cells false [.nilFunc])).set (h.n + 2) (.cells false [apF h])) .nil [] := by
    refine ⟨(((Kp.refl h).push _).push _ |>.push _).setNew _ (by omega), Nat.le_refl _, ?_, ?_, ?_, ⟨rfl, by simp, trivial⟩, fun b hb => by cases hb⟩
    · simp (disch := first | omega | (simp only [AH.nn_push, AH.nn_set, AH.nn_kill]; omega) | (simp only [AH.nn_push, AH.nn_set, AH.nn_kill]; done) | fail) only [AH.get_push_eq, AH.get_push_ne, AH.get_set_eq, AH.get_set_ne, AH.push_n]
    · rw [AH.get_set_ne _ (by omega), AH.get_push_ne _ (by simp only [AH.push_n]; omega)]
      exact AH.get_push_same (h.push _) _
    · exact AH.get_set_same _ (by simp only [AH.push_n]; omega)
  obtain ⟨v, g, e, s', i1⟩ := apart_spec bk (op_all gd r) _ _ _ i0 (by simp only [List.length_nil]; omega)
  have q1 := i1.b1
  have na := Nat.add_assoc
  have vf : ∀ f a b, vcells (.func f a b) = [.func f a b] := fun _ _ _ => rfl
  unfold apF at e
  refine wpc_fn (px_ext rfl) (px_fn fn_open_Rune) rfl ?_
  unfold LF_open_Rune
  simp only [argFr]
  (refine W_x (Aj na (Aj vf (Aj e q1))) ?_; (repeat' first | apply Cj.mk | exact Nl.nl) <;> intros)
  exact ⟨s', rfl, i1.own, i1.kp, fun b hb => by have := i1.new b hb; omega⟩
theorem FOwn.later {h0 h h' : AH} {e : Nat} {s : Sl} {xss : List (List Value)} (f : FOwn h0 h e s xss) (k : Kp h h') : FOwn h0 h' e s xss := ⟨f.own.keep fun b hb => k.2 b (f.own.lt hb), f.kp.trans k, f.new⟩
theorem refRune_spec {S : TS} {T : Tab} {h : AH} (gd : goodB T = true) (t : TabAt h S T) (r : Int) : WpC PX 53 [.agg S.vs.toArray, .int .i32 r] h fun v h' => ∃ sl, v = sl.val 1 ∧ FOwn h h' 1 sl ((opI T 5 r).map rI) := by
  have hop := op_all gd r
  have hl := op_len (T := T) 5 r
  generalize hM : opI T 5 r = M at *
  refine wpc_fn (px_ext rfl) (px_fn fn_guiseref9_Rune) rfl ?_
  unfold LF_guiseref9_Rune
  simp only [argFr]
  unfold TS.vs
  (refine W_x trivial ?_; (repeat' first | apply Cj.mk | exact Nl.nl) <;> intros)
  have f0 : FOwn h (h.push (.cells false [.int .i32 r])) 1 (.at h.n 0 1) [rI r] := ⟨⟨rfl, by simp, [], AH.get_push_same _ _, rfl⟩, (Kp.refl h).push _, fun b hb => by injection hb with hb; omega⟩
  generalize h.push (.cells false [.int .i32 r]) = g0 at f0 ⊢
  refine wp_loop (fun w fr lc g => ∃ (c : Int) (ms L : List Int) (sl : Sl), w = L.length ∧ Op T c L ∧ L ++ ms = M ∧ FOwn h g 1 sl ((c :: ms).map rI) ∧ fr = [(2, .pointer (some ⟨4, 0, some 1⟩)), (5, sl.val 1)] ∧
    lc = [(4, .cells false [S.s0.val 2, S.s1.val 2, S.s2.val 2, S.s3.val 3, S.s4.val 2, S.s5.val 2, S.s6.val 2, S.s7.val 2])]) M.length ⟨r, [], M, .at h.n 0 1, rfl, hop, by simp, f0, rfl, rfl⟩ ?_
  rintro w fr lc g ⟨c, ms, L, sl, rfl, op, hLm, fo, rfl, rfl⟩
  have sll := fo.own.1
  rw [List.length_map, List.length_cons] at sll
  have g1 := fun lc => rd_map (lc := lc) fo.reads (i := 0) (by simp)
  simp only [List.getElem_cons_zero] at g1
  have e1 := refPair_eq (t.kp fo.kp) c
  unfold TS.vs at e1
  cases op with
  | one hp =>
    rw [hp] at e1
    simp only [prV] at e1
    (refine W_x (Aj sll (Aj g1 e1)) ?_; (repeat' first | apply Cj.mk | exact Nl.nl) <;> intros)
    refine ⟨sl, rfl, ?_⟩
    rw [← hLm]
    exact fo
  | @more _ b m L hp op =>
    rw [hp] at e1
    simp only [prV] at e1
    have hlen := congrArg List.length hLm
    rw [List.length_append, List.length_append, List.length_singleton] at hlen
    (refine W_x (Aj sll (Aj g1 e1)) ?_; (repeat' first | apply Cj.mk | exact Nl.nl) <;> intros)
    have rdd := (fo.reads (h := g)).drop (k := 1) (by simp)
    have f1 : FOwn h (g.push (.cells false [.int .i32 b, .int .i32 m])) 1 (.at g.n 0 2) [rI b, rI m] := ⟨⟨rfl, by simp, [], AH.get_push_same _ _, rfl⟩, fo.kp.push _, fun x hx => by injection hx with hx; have := fo.kp.1; omega⟩
    have rd2 := rdd.kp ((Kp.refl g).push (.cells false [.int .i32 b, .int .i32 m]))
    refine wo_appL (s := .at g.n 0 2) f1 rd2 (by decide) (by decide) (by simp; omega) fun s3 h3 f3 => ?_
    (refine W_x trivial ?_; (repeat' first | apply Cj.mk | exact Nl.nl) <;> intros)
    exact ⟨_, by rw [List.length_append, List.length_singleton]; omega, b, m :: ms, L, s3, rfl, op, by rw [← hLm]; simp, by simpa using f3, rfl, rfl⟩
theorem sameI_eq {a c : Sl} {A C : List Int} {h : AH} (ra : Reads h 1 a (A.map rI)) (rc : Reads h 1 c (C.map rI)) (hn : A.length ≤ 1000000) (hn2 : C.length ≤ 1000000) : callO PX 26 [a.val 1, c.val 1] h = some (.bool (decide (A = C)), h) := by
  have al := ra.len
  have cl := rc.len
  apply WpC.eqn
  refine wpc_fn (px_ext rfl) (px_fn fn_guisebook_Same_rune) rfl ?_
  unfold LF_guisebook_Same_rune
  simp only [argFr]
  by_cases hl : A.length = C.length
  · (refine W_x (Aj al cl) ?_; (repeat' first | apply Cj.mk | exact Nl.nl) <;> intros)
    refine wp_scanF 5 A (fun i x => if x ≠ C.getD i 0 then some () else none) (by intro n; simp only [setF, push_cast, Nat.reduceEqDiff, ↓reduceIte, reduceCtorEq, Nat.reduceAdd, Nat.reduceMul, Nat.reduceLeDiff]; rfl) rfl (fun i hi hit => ?_) fun fin => ?_
    · have hi2 : i < C.length := by omega
      have g0 := fun lc => rd_map (lc := lc) ra hi
      have g1 := fun lc => rd_map (lc := lc) rc hi2
      have hd : C.getD i 0 = C[i] := by simp [List.getD_eq_getElem?_getD, List.getElem?_eq_getElem hi2]
      rw [hd] at hit ⊢
      have hne : A[i] ≠ C[i] → A ≠ C := fun q e => q (by simp only [e])
      generalize A[i] = x at g0 hit hne ⊢
      generalize C[i] = y at g1 hit hne ⊢
      (refine W_x (Aj al (Aj cl (Aj g0 g1))) ?_; (repeat' first | apply Cj.mk | exact Nl.nl) <;> intros)
      · rename_i q
        exact ⟨if_neg (by simpa using q), rfl, rfl, rfl⟩
      · exact ⟨by rw [decide_eq_false (hne (by assumption))], rfl⟩
    · (refine W_x al ?_; (repeat' first | apply Cj.mk | exact Nl.nl) <;> intros)
      refine ⟨?_, rfl⟩
      rw [decide_eq_true]
      apply List.ext_getElem hl
      intro i h1 h2
      have := scanL_none fin i h1
      have hd : C.getD i 0 = C[i] := by simp [List.getD_eq_getElem?_getD, List.getElem?_eq_getElem h2]
      rw [hd] at this
      by_cases q : A[i] = C[i]
      · exact q
      · rw [if_pos q] at this; cases this
  · (refine W_x (Aj al cl) ?_; (repeat' first | apply Cj.mk | exact Nl.nl) <;> intros)
    exact ⟨by rw [decide_eq_false (fun e => hl (by rw [e]))], rfl⟩
end Go.Proofs.YtfiaggbgplmmeaaGreatDoor.AM
namespace Go.Proofs.YtfiaggbgplmmeaaGreatDoor.AM
open Go
theorem rI_rnV {T : Tab} (gd : goodB T = true) {c : Nat} (hc : RuneN c) : (opI T 5 (c : Int)).map rI = (opN T c).map rnV := by
  rw [← (opN_cast gd hc).1, List.map_map]
  rfl
theorem openF_snoc {T : Tab} {B : List Nat} {i : Nat} (hi : i < B.length) : openF T (B.take (i + 1)) = openF T (B.take i) ++ opN T B[i] := by
  rw [take_snoc hi, openF_append]
  simp [openF]
theorem openF_take_len {T : Tab} (gd : goodB T = true) {B : List Nat} (hB : ∀ c ∈ B, RuneN c) (i : Nat) : (openF T (B.take i)).length ≤ 6 * B.length := by
  have := (openF_len gd (B := B.take i) fun c hc => hB c (List.mem_of_mem_take hc)).2
  rw [List.length_take] at this
  omega
theorem openOpen_spec {h : AH} {k B : Nat} {s6 : Sl} {T : Tab} (gd : goodB T = true) (bk : BkAt h k B s6 T) (s : ByteArray) (hs : s.size ≤ 1048576) : WpC PX 19 [.pointer (some ⟨k, 0, none⟩), .string s] h fun v h' => v = .string (bs (openB T s.data.toList)) ∧ Kp h h' := by
  have hz : s.data.toList.length = s.size := rfl
  have hn := spots_len s.data.toList
  have hrl := runesB_len s.data.toList
  have hrr := runesB_rune s.data.toList
  refine wpc_fn (px_ext rfl) (px_fn fn_open_Open) rfl ?_
  unfold LF_open_Open
  simp only [argFr]
  (refine W_x @ev_rngS ?_; (repeat' first | apply Cj.mk | exact Nl.nl) <;> intros)
  refine wp_spotsS (fun i sl => [(0, .pointer (some ⟨k, 0, none⟩)), (5, sl.val 1), (11, .pointer (some ⟨22, 0, some 1⟩))]) (fun n _ => [(22, .siter s n)]) s s.data.toList (fun i sl h' => FOwn h h' 1 sl ((openF T ((runesB s.data.toList).take i)).map rnV)) (fun _ _ => (none : Option Unit)) Sl.nil rfl (by repeat' first | exact True.intro | refine And.intro rfl ?_) (fun _ _ => rfl) rfl (by simpa [openF] using FOwn.nil (Kp.refl h))
    (fun i hi sl h1 fo hit => ?_) fun sl h1 fo fin => ?_
  · (refine W_x trivial ?_; (repeat' first | apply Cj.mk | exact Nl.nl) <;> intros)
    refine wo_next rfl rfl hi ?_
    have hi2 : i < (runesB s.data.toList).length := by omega
    have hx := runesB_get hi
    have hr := hrr _ (List.getElem_mem hi2)
    have hsn := openF_snoc (T := T) hi2
    have hle := openF_take_len gd hrr i
    rw [hx] at hr hsn
    generalize (spots s.data.toList)[i] = x at hr hsn
    obtain ⟨_, g, e, s2, rfl, f2⟩ := openRune_spec gd (bk.kp fo.kp) (x.1 : Nat)
    rw [rI_rnV gd hr] at f2
    obtain ⟨b0, ms, q1, _, _, _, q5, _⟩ := opN_facts gd hr
    (refine W_x e ?_; (repeat' first | apply Cj.mk | exact Nl.nl) <;> intros)
    refine wo_appL (fo.later f2.kp) f2.reads (by decide) (by decide) (by rw [List.length_map, List.length_map, q1, List.length_cons]; omega) fun s3 h3 f3 => ?_
    (refine W_x trivial ?_; (repeat' first | apply Cj.mk | exact Nl.nl) <;> intros)
    refine ⟨rfl, s3, (by repeat' first | exact True.intro | refine And.intro rfl ?_), rfl, ?_⟩
    rw [hsn, List.map_append]
    exact f3
  · (refine W_x trivial ?_; (repeat' first | apply Cj.mk | exact Nl.nl) <;> intros)
    refine wo_nextE rfl rfl ?_
    rw [← hrl, List.take_length] at fo
    have hF := openF_all gd hrr
    have hl := openF_len gd hrr
    have hg := fun lc => r2s_own (lc := lc) fo.own fun x hx => (hF x hx).1
    have hsz := encs_lenle (openF T (runesB s.data.toList))
    obtain ⟨_, g2, e2, rfl, k2⟩ := marksOrder_spec (bk.kp fo.kp) (bs (encs (openF T (runesB s.data.toList)))) (by rw [bs_size]; omega)
    rw [bs_l, orderB_encs T fun x hx => (hF x hx).1] at e2
    (refine W_x (Aj hg e2) ?_; (repeat' first | apply Cj.mk | exact Nl.nl) <;> intros)
    exact ⟨rfl, fo.kp.trans k2⟩
theorem openTwins_spec {h : AH} {k B : Nat} {s6 : Sl} {T : Tab} (gd : goodB T = true) (bk : BkAt h k B s6 T) (s u : ByteArray) (hs : s.size ≤ 1048576) (hu : u.size ≤ 1048576) : WpC PX 20 [.pointer (some ⟨k, 0, none⟩), .string s, .string u] h fun v h' =>
    v = .bool (decide (openB T s.data.toList = openB T u.data.toList)) ∧ Kp h h' := by
  obtain ⟨_, g1, e1, rfl, k1⟩ := openOpen_spec gd bk s hs
  obtain ⟨_, g2, e2, rfl, k2⟩ := openOpen_spec gd (bk.kp k1) u hu
  have hd : decide (bs (openB T s.data.toList) = bs (openB T u.data.toList)) = decide (openB T s.data.toList = openB T u.data.toList) := decide_eq_decide.2 bs_inj
  by_cases q : openB T s.data.toList = openB T u.data.toList
  · rw [decide_eq_true q] at hd ⊢
    refine wpc_fn (px_ext rfl) (px_fn fn_open_Twins) rfl ?_
    unfold LF_open_Twins
    simp only [argFr]
    (refine W_x (Aj e1 (Aj e2 hd)) ?_; (repeat' first | apply Cj.mk | exact Nl.nl) <;> intros)
    exact ⟨rfl, k1.trans k2⟩
  · rw [decide_eq_false q] at hd ⊢
    refine wpc_fn (px_ext rfl) (px_fn fn_open_Twins) rfl ?_
    unfold LF_open_Twins
    simp only [argFr]
    (refine W_x (Aj e1 (Aj e2 hd)) ?_; (repeat' first | apply Cj.mk | exact Nl.nl) <;> intros)
    exact ⟨rfl, k1.trans k2⟩
theorem house9_spec (h : AH) : WpC PX 18 [] h fun v h' => ∃ S, v = .agg S.vs.toArray ∧ TabAt h' S houseT ∧ Kp h h' := by
  obtain ⟨_, g, e, S, rfl, t, k⟩ := house_spec h
  unfold TS.vs at e
  refine wpc_fn (px_ext rfl) (px_fn fn_guiselaw9_house) rfl ?_
  unfold LF_guiselaw9_house
  simp only [argFr]
  (refine W_x e ?_; (repeat' first | apply Cj.mk | exact Nl.nl) <;> intros)
  exact ⟨S, rfl, t, k⟩
set_option maxRecDepth 100000 in
theorem known9_a : openB houseT [195, 169, 204, 163] = [101, 204, 163, 204, 129] := by decide +kernel
set_option maxRecDepth 100000 in
theorem known9_b : openB houseT [225, 186, 191] = openB houseT [101, 204, 130, 204, 129] := by decide +kernel
set_option maxRecDepth 100000 in
theorem known9_c : openB houseT [225, 186, 191] ≠ openB houseT [101, 204, 129, 204, 130] := by decide +kernel
theorem known9_spec {h : AH} (u : U8T h) (hg : 2 ≤ h.n) : WpC PX 13 [] h fun v h' => v = .bool true ∧ Kp h h' := by
  obtain ⟨_, g, e, S, rfl, t, k⟩ := house9_spec h
  obtain ⟨_, g1, e1, k1, kk, B, S1, rfl, bk, _, _⟩ := of_house t (u.kp k) (Nat.le_trans hg k.1)
  obtain ⟨_, g2, e2, rfl, k2⟩ := openOpen_spec house_good bk.bk ⟨#[195, 169, 204, 163]⟩ (by decide)
  obtain ⟨_, g3, e3, rfl, k3⟩ := openTwins_spec house_good (bk.kp k2).bk ⟨#[225, 186, 191]⟩ ⟨#[101, 204, 130, 204, 129]⟩ (by decide) (by decide)
  obtain ⟨_, g4, e4, rfl, k4⟩ := openTwins_spec house_good ((bk.kp k2).kp k3).bk ⟨#[225, 186, 191]⟩ ⟨#[101, 204, 129, 204, 130]⟩ (by decide) (by decide)
  have q2 : bs (openB houseT [195, 169, 204, 163]) = ⟨#[101, 204, 163, 204, 129]⟩ := by rw [known9_a]; rfl
  have q3 := decide_eq_true known9_b
  have q4 := decide_eq_false known9_c
  simp only [q2] at e2
  simp only [q3] at e3
  simp only [q4] at e4
  unfold TS.vs at *
  refine wpc_fn (px_ext rfl) (px_fn fn_guiselaw9_known) rfl ?_
  unfold LF_guiselaw9_known
  simp only [argFr]
  (refine W_x (Aj e (Aj e1 (Aj e2 (Aj e3 e4)))) ?_; (repeat' first | apply Cj.mk | exact Nl.nl) <;> intros)
  exact ⟨rfl, (((k.trans k1).trans k2).trans k3).trans k4⟩
end Go.Proofs.YtfiaggbgplmmeaaGreatDoor.AM
namespace Go.Proofs.YtfiaggbgplmmeaaGreatDoor.AM
open Go
def LF_open_First : LFunc :=
  .mk 2 [.cell 4 (some 2), .cell 5 none] (.seq (R 2 [1, 2, 4, 5] [.tmp 2 (xbh 1 (.sl 0)), .at 4, .tmp 4 (xnh [.int .i64 0, .int .i64 0]), .tmp 5 (xnh [.bool false])]) (.seq (.seq (R
  14 [1, 2, 4, 5, 15] [.tmp 15 (.op (.p (.eqk false .ptr (.s 0) (.s 1))) (.cons (xld (.sl 2)) (.cv (.pointer none))))]) (.cond (.s 15) (.seq (R 16 [4, 5] [.run (xst 2 (.sl 4) (.op
  (.p (.build [.int .i64 0, .int .i64 0] [])) .nil)), .run (xst 1 (.sl 5) (.cv (.bool false)))]) .ret) .skip)) (.seq (R 6 [1, 2, 4, 5, 6, 7] [.tmp 6 (xnh [.int .i64 0]), .tmp 7 (xnh
  [.int .i64 0]), .run (xst 1 (.sl 6) (xi 0)), .run (xst 1 (.sl 7) (xi 0))]) (.seq (.seq (R 17 [2, 4, 5, 6, 7, 18] [.tmp 18 (xc1 49 (.va 1))]) (.block 0 (.rangeF (.s 18)
  [19, 20] (.seq (R 8 [2, 4, 5, 6, 7, 8, 20] [.tmp 8 (.va 19)]) (R 9 [2, 4, 5, 6, 7, 8, 9] [.tmp 9 (xnl 9 [.int .i32 0, .int .i64 0, .bool false]), .run (xst 3 (.sl 9) (.sl 20))]))
  (.block 1 (.seq (R 21 [2, 4, 5, 6, 7, 8, 9, 10] [.set 10 (xc2 33 (xld (.sl 2)) (xld (xfa 0 (.sl 9))))]) (.seq (R 26 [4, 5, 6, 7, 8, 9, 10, 13] [.set 25 (xc2
  29 (xld (.sl 2)) (xld (xfa 0 (.sl 9)))), .tmp 30 (xex 0 (.sl 25)), .tmp 31 (xex 1 (.sl 25)), .tmp 32 (xex 2 (.sl 25)), .set 11 (.sl 30), .set 12 (.sl 31),
  .set 13 (.sl 32)]) (.seq (.seq (R 33 [4, 5, 6, 7, 8, 10, 46] [.tmp 46 (.or (.or (xld (xfa 2 (.sl 9))) (.va 13)) (.and (xb .gtr (.va 10) (xi 0)) (xb .lss (.va 10) (xld (.sl
  6)))))]) (.cond (.s 46) (.seq (R 47 [] [.run (xst 2 (.sl 4) (.op (.p (.build [.int .i64 0, .int .i64 0] [(0, 1, .s 0), (1, 1, .s 1)])) (.cons (.va 8) (xld (.sl 7))))), .run (xst 1
  (.sl 5) (.cv (.bool true)))]) .ret) .skip)) (.seq (R 50 [7] [.run (xst 1 (.sl 6) (.va 10))]) (R 51 [] [.run (xst 1 (.sl 7) (xb .add (xld (.sl 7)) (xi 1)))]))))))))) (.seq (R 53
  [4, 5] [.run (xst 2 (.sl 4) (.op (.p (.build [.int .i64 0, .int .i64 0] [])) .nil)), .run (xst 1 (.sl 5) (.cv (.bool false)))]) .ret)))))
theorem fn_open_First : (autoPrg Tryz.prog).fn 21 = some LF_open_First := by kernel_rfl
def LF_guiseref9_First : LFunc :=
  .mk 2 [.cell 4 (some 2), .tmp 5] (.seq (R 2 [1, 2, 4] [.tmp 2 (xbl 2 8 (.sl 0)), .at 4, .tmp 4 (xnl 4 [.int .i64 0, .int .i64 0]), .set 5 (.cv (.bool false))]) (.seq (R 999 [1, 2,
  4, 6] [.set 6 (xi 0)]) (.seq (R 999 [1, 2, 4, 6, 7] [.set 7 (xi 0)]) (.seq (.seq (R 14 [1, 2, 4, 6, 7, 15] [.tmp 15 (.op (.e (.rngS 15 (.s 0))) (.va 1))]) (.block 0 (.loop (.seq
  (R 16 [1, 2, 4, 6, 7, 15, 16, 17] [.tmp 16 (.op (.e (.nxtS (.s 0))) (.sl 15)), .tmp 17 (xex 0 (.sl 16))]) (.seq (.cond (.s 17) .skip (.exit 0)) (.block 1 (.seq (R 18 [1, 2, 4, 6,
  7, 8, 9, 15] [.tmp 18 (xex 1 (.sl 16)), .tmp 19 (xex 2 (.sl 16)), .set 8 (.sl 18), .set 9 (.sl 19)]) (.seq (R 20 [1, 2, 4, 6, 7, 8, 9, 10, 15] [.set 10 (xc2 50
  (xln 8 (.sl 2)) (.va 9))]) (.seq (R 24 [1, 2, 4, 6, 7, 8, 10, 13, 15] [.set 23 (xc2 51 (xln 8 (.sl 2)) (.va 9)), .tmp 27 (xex 0 (.sl 23)), .tmp 28 (xex 1 (.sl
  23)), .tmp 29 (xex 2 (.sl 23)), .set 11 (.sl 27), .set 12 (.sl 28), .set 13 (.sl 29)]) (.seq (.seq (R 30 [1, 2, 4, 7, 8, 10, 15, 44] [.tmp 44 (.or (.or (xc2 52 (.va
  1) (.va 8)) (.va 13)) (.and (xb .gtr (.va 10) (xi 0)) (xb .lss (.va 10) (.va 6))))]) (.cond (.s 44) (.seq (R 45 [4, 5] [.run (xst 2 (.sl 4) (.op (.p (.build [.int .i64 0, .int
  .i64 0] [(0, 1, .s 0), (1, 1, .s 1)])) (.cons (.va 8) (.va 7)))), .set 5 (.cv (.bool true))]) .ret) .skip)) (.seq (R 48 [1, 2, 4, 6, 7, 15] [.set 6 (.va 10)]) (R 49 [1, 2, 4, 6,
  7, 15] [.set 7 (xb .add (.va 7) (xi 1))])))))))))))) (.seq (R 51 [4, 5] [.run (xst 2 (.sl 4) (.op (.p (.build [.int .i64 0, .int .i64 0] [])) .nil)), .set 5 (.cv (.bool false))])
  .ret)))))
theorem fn_guiseref9_First : (autoPrg Tryz.prog).fn 23 = some LF_guiseref9_First := by kernel_rfl
def LF_guiseref8_Bad : LFunc :=
  .mk 2 [.tmp 4] (.seq (R 999 [0, 1] [.set 4 (.cv (.bool false))]) (.seq (.seq (R 7 [0, 1, 10] [.tmp 10 (.op (.e (.rngS 10 (.s 0))) (.op (.p (.slS (.s 0) (some (.s 1)) none)) (.cons
  (.va 0) (.va 1))))]) (.block 0 (.loop (.seq (R 11 [0, 1, 11, 12] [.tmp 11 (.op (.e (.nxtS (.s 0))) (.sl 10)), .tmp 12 (xex 0 (.sl 11))]) (.seq (.cond (.s 12) .skip (.exit 0))
  (.block 1 (.seq (R 13 [0, 1, 6] [.set 6 (xex 2 (.sl 11))]) (.seq (R 14 [4] [.set 4 (.and (xb .eql (.va 6) (xr 65533)) (.or (xb .lss (xb .sub (xsl (.va 0)) (.va 1)) (xi 3)) (xb
  .neq (.op (.p (.slS (.s 0) (some (.s 1)) (some (.s 2)))) (.cons (.va 0) (.cons (.va 1) (xb .add (.va 1) (xi 3))))) (.cv (.string ⟨#[239, 191, 189]⟩)))))]) .ret)))))))) (.seq (R
  999 [4] [.set 4 (.cv (.bool false))]) .ret)))
theorem fn_guiseref8_Bad : (autoPrg Tryz.prog).fn 52 = some LF_guiseref8_Bad := by kernel_rfl
def LF_guiseref9_Open : LFunc :=
  .mk 2 [.tmp 4] (.seq (R 2 [1, 2] [.tmp 2 (xbl 2 8 (.sl 0)), .set 4 (.cv (.slice none 0 0))]) (.seq (R 999 [1, 2, 5] [.set 5 (.cv (.slice none 0 0))]) (.seq (.seq (R 8 [2, 5, 9]
  [.tmp 9 (.op (.e (.rngS 9 (.s 0))) (.va 1))]) (.block 0 (.loop (.seq (R 10 [2, 5, 9, 10, 11] [.tmp 10 (.op (.e (.nxtS (.s 0))) (.sl 9)), .tmp 11 (xex 0 (.sl 10))]) (.seq (.cond
  (.s 11) .skip (.exit 0)) (.block 1 (.seq (R 12 [2, 5, 7, 9] [.set 7 (xex 2 (.sl 10))]) (R 13 [2, 5, 9] [.set 5 (xap 1 4 (.va 5) (xc2 53 (xln 8 (.sl 2)) (.va
  7)))])))))))) (.seq (R 18 [4] [.set 4 (xc2 54 (xln 8 (.sl 2)) (.va 5))]) .ret))))
theorem fn_guiseref9_Open : (autoPrg Tryz.prog).fn 24 = some LF_guiseref9_Open := by kernel_rfl
end Go.Proofs.YtfiaggbgplmmeaaGreatDoor.AM
namespace Go.Proofs.YtfiaggbgplmmeaaGreatDoor.AM
open Go
def bdO (T : Tab) (l : Bytes) (i : Nat) (x : Nat × Nat) : Prop := badP x ∨ (pairI T x.1).isSome = true ∨ (0 < clT T x.1 ∧ clT T x.1 < prevC T l i)
theorem scanL_hit {α β : Type} {l : List α} {g : Nat → α → Option β} {i : Nat} (hi : i < l.length) (h : ∀ j (hj : j < l.length), j < i → g j l[j] = none) {w : β} (hw : g i l[i] = some w) : scanL l g = some w :=
  scan_hit (fun j hj => by rw [List.getElem?_eq_getElem (by omega)]; exact h j (by omega) hj) hi (by rw [List.getElem?_eq_getElem hi]; exact hw)
def bdO' (ib : Bool) (pr : Option (Int × Int)) (c pc : Int) : Prop := ib = true ∨ pr.isSome = true ∨ (0 < c ∧ c < pc)
theorem isBad_iff (x : Nat × Nat) : isBad2 x = true ↔ badP x := by simp [isBad2, badP]
theorem openFirst_spec {h : AH} {k B : Nat} {s6 : Sl} {T : Tab} (gd : goodB T = true) (bk : BkAt h k B s6 T) (s : ByteArray) (hs : s.size ≤ 1048576) : WpC PX 21 [.pointer (some ⟨k, 0, none⟩), .string s] h fun v h' => v = plV (firstO T s.data.toList) ∧ Kp h h' := by
  have hz : s.data.toList.length = s.size := rfl
  have hn := spots_len s.data.toList
  have e1 := fun h => spotsMk_eq s h
  refine wpc_fn (px_ext rfl) (px_fn fn_open_First) rfl ?_
  unfold LF_open_First
  simp only [argFr]
  (refine W_x e1 ?_; (repeat' first | apply Cj.mk | exact Nl.nl) <;> intros)
  generalize hH0 : ((((((((h.push (.cells false [.pointer (some ⟨k, 0, none⟩)])).push (.cells false [.int .i64 0, .int .i64 0])).push (.cells false [.bool false])).push (.cells false [.int .i64 0])).push (.cells false [.int .i64 0])).set (h.n + 1 + 1 + 1) (.cells false [.int .i64 0])).set (h.n + 1 + 1 + 1 + 1) (.cells false [.int .i64 0])).push (.cells false [.string s])) = H0
  simp only [Nat.add_assoc, Nat.reduceAdd] at hH0 ⊢
  have n0 : H0.n = h.n + 6 := by rw [← hH0]; simp only [AH.push_n, AH.set_n]
  have a0 : H0.get h.n = some (.cells false [.pointer (some ⟨k, 0, none⟩)]) := by rw [← hH0]; simp (disch := first | omega | (simp only [AH.nn_push, AH.nn_set, AH.nn_kill]; omega) | (simp only [AH.nn_push, AH.nn_set, AH.nn_kill]; done) | fail) only [AH.get_push_eq, AH.get_push_ne, AH.get_set_eq, AH.get_set_ne]
  have a1 : H0.get (h.n + 1) = some (.cells false [.int .i64 0, .int .i64 0]) := by rw [← hH0]; simp (disch := first | omega | (simp only [AH.nn_push, AH.nn_set, AH.nn_kill]; omega) | (simp only [AH.nn_push, AH.nn_set, AH.nn_kill]; done) | fail) only [AH.get_push_eq, AH.get_push_ne, AH.get_set_eq, AH.get_set_ne]
  have a2 : H0.get (h.n + 2) = some (.cells false [.bool false]) := by rw [← hH0]; simp (disch := first | omega | (simp only [AH.nn_push, AH.nn_set, AH.nn_kill]; omega) | (simp only [AH.nn_push, AH.nn_set, AH.nn_kill]; done) | fail) only [AH.get_push_eq, AH.get_push_ne, AH.get_set_eq, AH.get_set_ne]
  have a3 : H0.get (h.n + 3) = some (.cells false [.int .i64 0]) := by rw [← hH0]; simp (disch := first | omega | (simp only [AH.nn_push, AH.nn_set, AH.nn_kill]; omega) | (simp only [AH.nn_push, AH.nn_set, AH.nn_kill]; done) | fail) only [AH.get_push_eq, AH.get_push_ne, AH.get_set_eq, AH.get_set_ne]
  have a4 : H0.get (h.n + 4) = some (.cells false [.int .i64 0]) := by rw [← hH0]; simp (disch := first | omega | (simp only [AH.nn_push, AH.nn_set, AH.nn_kill]; omega) | (simp only [AH.nn_push, AH.nn_set, AH.nn_kill]; done) | fail) only [AH.get_push_eq, AH.get_push_ne, AH.get_set_eq, AH.get_set_ne]
  have a5 : H0.get (h.n + 5) = some (.cells false [.string s]) := by rw [← hH0]; simp (disch := first | omega | (simp only [AH.nn_push, AH.nn_set, AH.nn_kill]; omega) | (simp only [AH.nn_push, AH.nn_set, AH.nn_kill]; done) | fail) only [AH.get_push_eq, AH.get_push_ne, AH.get_set_eq, AH.get_set_ne]
  have ak : ∀ b, b < h.n → H0.get b = h.get b := fun b hb => by rw [← hH0]; simp (disch := first | omega | (simp only [AH.nn_push, AH.nn_set, AH.nn_kill]; omega) | (simp only [AH.nn_push, AH.nn_set, AH.nn_kill]; done) | fail) only [AH.get_push_eq, AH.get_push_ne, AH.get_set_eq, AH.get_set_ne]
  clear hH0
  refine wp_rangeP (xs := spotsL s.data.toList) (enc := spotE) (D := fun h1 => h1.get (h.n + 5) = some (.cells false [.string s])) rfl (spots_seq s (h.n + 5) (by omega)) (fun _ => rfl)
    (fun i h1 => (∀ b, b < h.n → h1.get b = h.get b) ∧ h.n + 6 ≤ h1.n ∧ h1.get h.n = some (.cells false [.pointer (some ⟨k, 0, none⟩)]) ∧ h1.get (h.n + 1) = some (.cells false [.int .i64 0, .int .i64 0]) ∧ h1.get (h.n + 2) = some (.cells false [.bool false]) ∧
      h1.get (h.n + 3) = some (.cells false [.int .i64 (prevC T s.data.toList i)]) ∧ h1.get (h.n + 4) = some (.cells false [.int .i64 i]) ∧ h1.get (h.n + 5) = some (.cells false [.string s]) ∧ ∀ j (hj : j < (spots s.data.toList).length), j < i → ¬ bdO T s.data.toList j (spots s.data.toList)[j])
    (fun ex h1 => ex = .ret ∧ (∀ b, b < h.n → h1.get b = h.get b) ∧ h.n + 6 ≤ h1.n ∧ ∃ a b : Nat, firstO T s.data.toList = some (a, b) ∧ h1.get (h.n + 1) = some (.cells false [.int .i64 a, .int .i64 b]) ∧ h1.get (h.n + 2) = some (.cells false [.bool true]))
    (fun y => [(2, .pointer (some ⟨h.n, 0, none⟩)), (4, .pointer (some ⟨h.n + 1, 0, none⟩)), (5, .pointer (some ⟨h.n + 2, 0, none⟩)), (6, .pointer (some ⟨h.n + 3, 0, none⟩)), (7, .pointer (some ⟨h.n + 4, 0, none⟩)), (8, .int .i64 y.1), (9, .pointer (some ⟨18, 0, some 1⟩))])
    (fun y => [(18, .cells false [.int .i32 y.2.1, .int .i64 y.2.2, .bool (isBad2 y.2)])]) ?_ ?_ ?_ ?_ ?_ ?_ ?_ ?_
  · rw [n0]
    rintro i h1 h2 ⟨f0, fn, f1, f2, f3, f4, f5, f6, f7⟩ k
    exact ⟨fun b hb => by rw [k.get b (by omega)]; exact f0 b hb, by rw [k.n]; exact fn, by rw [k.get _ (by omega)]; exact f1, by rw [k.get _ (by omega)]; exact f2, by rw [k.get _ (by omega)]; exact f3, by rw [k.get _ (by omega)]; exact f4, by rw [k.get _ (by omega)]; exact f5, by rw [k.get _ (by omega)]; exact f6, f7⟩
  · rw [n0]
    rintro ex h1 h2 ⟨rfl, f0, fn, a, b, q, f1, f2⟩ k
    exact ⟨rfl, fun b hb => by rw [k.get b (by omega)]; exact f0 b hb, by rw [k.n]; exact fn, a, b, q, by rw [k.get _ (by omega)]; exact f1, by rw [k.get _ (by omega)]; exact f2⟩
  · exact fun i h1 f => f.2.2.2.2.2.2.2.1
  · intro y h1
    unfold spotE spotV
    simp only [List.zip_cons_cons, List.zip_nil_right, List.reverse_cons, List.reverse_nil, List.nil_append, List.cons_append, okFr_cons, okFr_nil, okV_eq, isLoc_ptr, isLoc_func, Bool.not_false, if_true]
    (refine W_x trivial ?_; (repeat' first | apply Cj.mk | exact Nl.nl) <;> intros)
    exact ⟨rfl, rfl, rfl, rfl⟩
  · intro o
    have k : ∀ b, b < h.n + 6 → (H0.push o).get b = H0.get b := fun b hb => AH.get_push_ne _ (by omega)
    exact ⟨fun b hb => (k b (by omega)).trans (ak b hb), by rw [AH.push_n, n0]; omega, (k _ (by omega)).trans a0, (k _ (by omega)).trans a1, (k _ (by omega)).trans a2, (k _ (by omega)).trans a3, (k _ (by omega)).trans a4, (k _ (by omega)).trans a5, fun j hj hlt => absurd hlt (by omega)⟩
  · rw [n0]
    rintro i hi h1 o ⟨f0, fn, f1, f2, f3, f4, f5, f6, f7⟩ ho
    have l4 := AH.get_lt ho
    have hil : i < (spots s.data.toList).length := by rw [← spotsL_len]; exact hi
    rw [spotsL_get hi]
    have bk1 : BkAt h1 k B s6 T := bk.kp ⟨by omega, f0⟩
    have hps := posn_lt hil
    have hpc : prevC T s.data.toList (i + 1) = clT T ((spots s.data.toList)[i]).1 := by simp [prevC, List.getD_eq_getElem?_getD, List.getElem?_eq_getElem hil]
    have hhit : ∀ (_ : bdO T s.data.toList i (spots s.data.toList)[i]), firstO T s.data.toList = some (posn s.data.toList i, i) := fun hb => scanL_hit hil (fun j hj hlt => if_neg (f7 j hj hlt)) (if_pos hb)
    have hnx : ¬ bdO T s.data.toList i (spots s.data.toList)[i] → ∀ j (hj : j < (spots s.data.toList).length), j < i + 1 → ¬ bdO T s.data.toList j (spots s.data.toList)[j] := fun hb j hj hlt => by
      rcases Nat.lt_or_ge j i with q | q
      · exact f7 j hj q
      · obtain rfl : j = i := by omega
        exact hb
    generalize hx : (spots s.data.toList)[i] = x at *
    have e2 := class_eq bk1 (x.1 : Nat)
    have e3 := bookPair_eq bk1 (x.1 : Nat)
    rw [show classI T (x.1 : Nat) = clT T x.1 from rfl] at e2
    have hbi := isBad_iff x
    unfold bdO at hhit hnx
    generalize isBad2 x = ib at hbi
    generalize pairI T x.1 = pr at e3 hhit hnx
    generalize prevC T s.data.toList i = pc at f4 hhit hnx
    dsimp only
    have hret : bdO' ib pr (clT T x.1) pc → ∀ (h2 : AH), h2 = (h1.set (h.n + 1) (.cells false [.int .i64 (posn s.data.toList i), .int .i64 i])).set (h.n + 2) (.cells false [.bool true]) → h2.get (h.n + 6) = some o ∧ (∀ b, b < h.n → h2.get b = h.get b) ∧ h.n + 6 ≤ h2.n ∧ ∃ a b : Nat, firstO T s.data.toList = some (a, b) ∧ h2.get (h.n + 1) = some (.cells false [.int .i64 a, .int .i64 b]) ∧ h2.get (h.n + 2) = some (.cells false [.bool true]) := by
      rintro hb h2 rfl
      refine ⟨by rw [AH.get_set_ne _ (by omega), AH.get_set_ne _ (by omega)]; exact ho, fun b hb => by rw [AH.get_set_ne _ (by omega), AH.get_set_ne _ (by omega)]; exact f0 b hb, by rw [AH.set_n, AH.set_n]; exact fn, _, _, hhit (hb.imp hbi.1 id), ?_, ?_⟩
      · rw [AH.get_set_ne _ (by omega), AH.get_set_same _ (by omega)]
      · exact AH.get_set_same _ (by rw [AH.set_n]; omega)
    have hnorm : ¬ bdO' ib pr (clT T x.1) pc → ∀ (h2 : AH), h2 = (h1.set (h.n + 3) (.cells false [.int .i64 (clT T x.1)])).set (h.n + 4) (.cells false [.int .i64 ((i : Int) + 1)]) → h2.get (h.n + 6) = some o ∧ (∀ b, b < h.n → h2.get b = h.get b) ∧ h.n + 6 ≤ h2.n ∧ h2.get h.n = some (.cells false [.pointer (some ⟨k, 0, none⟩)]) ∧ h2.get (h.n + 1) = some (.cells false [.int .i64 0, .int .i64 0]) ∧ h2.get (h.n + 2) = some (.cells false [.bool false]) ∧
        h2.get (h.n + 3) = some (.cells false [.int .i64 (clT T x.1)]) ∧ h2.get (h.n + 4) = some (.cells false [.int .i64 ((i + 1 : Nat) : Int)]) ∧ h2.get (h.n + 5) = some (.cells false [.string s]) ∧ ∀ j (hj : j < (spots s.data.toList).length), j < i + 1 → ¬ bdO T s.data.toList j (spots s.data.toList)[j] := by
      rintro hb h2 rfl
      refine ⟨by rw [AH.get_set_ne _ (by omega), AH.get_set_ne _ (by omega)]; exact ho, fun b hb => by rw [AH.get_set_ne _ (by omega), AH.get_set_ne _ (by omega)]; exact f0 b hb, by rw [AH.set_n, AH.set_n]; exact fn, ?_, ?_, ?_, ?_, ?_, ?_, hnx fun q => hb (q.imp hbi.2 id)⟩
      · rw [AH.get_set_ne _ (by omega), AH.get_set_ne _ (by omega)]; exact f1
      · rw [AH.get_set_ne _ (by omega), AH.get_set_ne _ (by omega)]; exact f2
      · rw [AH.get_set_ne _ (by omega), AH.get_set_ne _ (by omega)]; exact f3
      · rw [AH.get_set_ne _ (by omega), AH.get_set_same _ (by omega)]
      · exact AH.get_set_same _ (by rw [AH.set_n]; omega)
      · rw [AH.get_set_ne _ (by omega), AH.get_set_ne _ (by omega)]; exact f6
    rw [hpc]
    cases ib with
    | true =>
      have hr := hret (.inl rfl) _ rfl
      rcases pr with _ | ⟨p, q⟩
      all_goals
        simp only [prV] at e3
        (refine W_x (Aj f1 (Aj f2 (Aj f3 (Aj f4 (Aj f5 (Aj e2 e3)))))) ?_; (repeat' first | apply Cj.mk | exact Nl.nl) <;> intros)
        exact ⟨hr.1, rfl, hr.2⟩
    | false =>
      rcases pr with _ | ⟨p, q⟩
      · simp only [prV] at e3
        by_cases hc : 0 < clT T x.1 ∧ clT T x.1 < pc
        · have hr := hret (.inr (.inr hc)) _ rfl
          obtain ⟨c1, c2⟩ := hc
          (refine W_x (Aj f1 (Aj f2 (Aj f3 (Aj f4 (Aj f5 (Aj e2 e3)))))) ?_; (repeat' first | apply Cj.mk | exact Nl.nl) <;> intros)
          exact ⟨hr.1, rfl, hr.2⟩
        · have hr := hnorm (by rintro (q | q | q); cases q; cases q; exact hc q) _ rfl
          have hle : i < 1048576 := by omega
          (refine W_x (Aj f1 (Aj f2 (Aj f3 (Aj f4 (Aj f5 (Aj e2 e3)))))) ?_; (repeat' first | apply Cj.mk | exact Nl.nl) <;> intros)
          all_goals first | exact hr | (exfalso; omega)
      · have hr := hret (.inr (.inl rfl)) _ rfl
        simp only [prV] at e3
        (refine W_x (Aj f1 (Aj f2 (Aj f3 (Aj f4 (Aj f5 (Aj e2 e3)))))) ?_; (repeat' first | apply Cj.mk | exact Nl.nl) <;> intros)
        exact ⟨hr.1, rfl, hr.2⟩
  · rintro h1 ⟨f0, fn, f1, f2, f3, f4, f5, f6, f7⟩
    rw [spotsL_len] at f7
    have hno : firstO T s.data.toList = none := scanL_end fun j hj => if_neg (f7 j hj hj)
    rw [hno]
    (refine W_x (Aj f1 (Aj f2 f3)) ?_; (repeat' first | apply Cj.mk | exact Nl.nl) <;> intros)
    refine ⟨rfl, by rw [AH.set_n, AH.set_n]; omega, fun b hb => ?_⟩
    rw [AH.get_set_ne _ (by omega), AH.get_set_ne _ (by omega)]
    exact f0 b hb
  · rintro ex h1 hne ⟨rfl, f0, fn, a, b, q, f1, f2⟩
    rw [q]
    (refine W_x (Aj f1 f2) ?_; (repeat' first | apply Cj.mk | exact Nl.nl) <;> intros)
    exact ⟨rfl, by omega, f0⟩
end Go.Proofs.YtfiaggbgplmmeaaGreatDoor.AM
namespace Go.Proofs.YtfiaggbgplmmeaaGreatDoor.AM
open Go
theorem bad_at {l : Bytes} {i : Nat} (hil : i < (spots l).length) : badP (spots l)[i] ↔ ((spots l)[i]).1 = 65533 ∧ ¬ (3 ≤ l.length - posn l i ∧ (l.drop (posn l i)).take 3 = [239, 191, 189]) := by
  obtain ⟨p1, p2, p3⟩ := posn_lt hil
  have hdc := dec_cases p3
  have e3 : encN 65533 = [239, 191, 189] := by decide
  generalize hx : (spots l)[i] = x at *
  rw [← List.length_drop]
  generalize l.drop (posn l i) = m at *
  unfold badP
  rcases hdc with ⟨c, rest, hc, e1, e2⟩ | ⟨e1, e2⟩
  · rw [p2] at e2
    subst e2
    refine ⟨fun ⟨a, b⟩ => ?_, fun ⟨a, b⟩ => ?_⟩
    · simp only at a b
      subst a
      rw [encN_bad] at b
      cases b
    · simp only at a
      subst a
      exfalso
      apply b
      rw [e1, e3]
      simp
  · rw [p2] at e1
    subst e1
    refine ⟨fun _ => ⟨rfl, fun ⟨a, b⟩ => ?_⟩, fun _ => ⟨rfl, rfl⟩⟩
    refine e2 65533 (m.drop 3) rune_bad ?_
    rw [e3, ← b, List.take_append_drop]
theorem bad_eq (s : ByteArray) (hs : s.size ≤ 1048576) {i : Nat} (hil : i < (spots s.data.toList).length) (h : AH) : callO PX 52 [.string s, .int .i64 (posn s.data.toList i)] h = some (.bool (decide (badP (spots s.data.toList)[i])), h) := by
  have hz : s.data.toList.length = s.size := rfl
  obtain ⟨p1, p2, p3⟩ := posn_lt hil
  have hb := bad_at hil
  have hpl : ((posn s.data.toList i : Nat) : Int) ≤ (s.size : Int) := by omega
  have hd := (spots_drop s.data.toList i (by omega)).1
  obtain ⟨z, hze⟩ : ∃ z, z = s.extract (posn s.data.toList i) s.size := ⟨_, rfl⟩
  have hzl : z.data.toList = s.data.toList.drop (posn s.data.toList i) := by
    rw [hze, ba_extract _ _ _ (Nat.le_refl _), ← hz, ← List.length_drop, List.take_length]
  have h0 : 0 < (spots z.data.toList).length := by rw [hzl, hd, List.length_drop]; omega
  have hx0 : (spots z.data.toList)[0] = (spots s.data.toList)[i] := by simp only [hzl, hd, List.getElem_drop, Nat.add_zero]
  apply WpC.eqn
  refine wpc_fn (px_ext rfl) (px_fn fn_guiseref8_Bad) rfl ?_
  unfold LF_guiseref8_Bad
  simp only [argFr]
  (refine W_x (Aj @ev_rngS (Aj hpl hze.symm)) ?_; (repeat' first | apply Cj.mk | exact Nl.nl) <;> intros)
  refine wp_spotsG (fun _ => [(0, .string s), (1, .int .i64 (posn s.data.toList i)), (10, .pointer (some ⟨20, 0, some 1⟩))]) 20 z z.data.toList (fun j h' => j = 0 ∧ h' = h)
    (fun _ _ => (none : Option Unit)) rfl (by repeat' first | exact True.intro | refine And.intro rfl ?_) (fun _ => rfl) (by intro n; simp only [setL, push_cast, Nat.reduceEqDiff, ↓reduceIte, reduceCtorEq, Nat.reduceAdd, Nat.reduceMul, Nat.reduceLeDiff]; rfl) rfl ⟨rfl, rfl⟩ (fun j hj h1 hh hit => ?_) fun h1 hh fin => ?_
  · obtain ⟨rfl, rfl⟩ := hh
    (refine W_x trivial ?_; (repeat' first | apply Cj.mk | exact Nl.nl) <;> intros)
    refine wo_next rfl rfl hj ?_
    rw [hx0]
    have hq : posn s.data.toList i + 3 ≤ s.size → (s.extract (posn s.data.toList i) (posn s.data.toList i + 3) = ⟨#[239, 191, 189]⟩ ↔ (s.data.toList.drop (posn s.data.toList i)).take 3 = [239, 191, 189]) := fun h3 => by
      have e : (s.extract (posn s.data.toList i) (posn s.data.toList i + 3)).data.toList = (s.data.toList.drop (posn s.data.toList i)).take 3 := by
        rw [ba_extract _ _ _ (by omega)]
        congr 1
        omega
      rw [← e]
      exact ⟨fun q => by rw [q], fun q => ba_ext q⟩
    rw [hz] at hb
    generalize hx : (spots s.data.toList)[i] = x at *
    generalize posn s.data.toList i = p at *
    have ht : ((p : Int) + 3).toNat = p + 3 := by omega
    by_cases c1 : x.1 = 65533
    · have c1' : (x.1 : Int) = 65533 := by omega
      by_cases c2 : 3 ≤ s.size - p
      · have c3 : (p : Int) + 3 ≤ s.size := by omega
        have hq := hq (by omega)
        by_cases c4 : (s.data.toList.drop p).take 3 = [239, 191, 189]
        · have hd := decide_eq_false (show ¬ badP x from fun q => (hb.1 q).2 ⟨c2, c4⟩)
          have c5 := hq.2 c4
          rw [hd]
          (refine W_x (Aj c1' (Aj c3 (Aj ht c5))) ?_; (repeat' first | apply Cj.mk | exact Nl.nl) <;> intros)
          exact ⟨rfl, rfl⟩
        · have hd := decide_eq_true (show badP x from hb.2 ⟨c1, fun q => c4 q.2⟩)
          have c5 : ¬ s.extract p (p + 3) = ⟨#[239, 191, 189]⟩ := fun q => c4 (hq.1 q)
          rw [hd]
          (refine W_x (Aj c1' (Aj c3 (Aj ht c5))) ?_; (repeat' first | apply Cj.mk | exact Nl.nl) <;> intros)
          exact ⟨rfl, rfl⟩
      · have hd := decide_eq_true (show badP x from hb.2 ⟨c1, fun q => c2 q.1⟩)
        rw [hd]
        (refine W_x c1' ?_; (repeat' first | apply Cj.mk | exact Nl.nl) <;> intros)
        exact ⟨rfl, rfl⟩
    · have hd := decide_eq_false (show ¬ badP x from fun q => c1 (hb.1 q).1)
      have c1' : ¬ (x.1 : Int) = 65533 := by omega
      rw [hd]
      (refine W_x c1' ?_; (repeat' first | apply Cj.mk | exact Nl.nl) <;> intros)
      exact ⟨rfl, rfl⟩
  · exact absurd hh.1 (by omega)
theorem ref9First_eq {S : TS} {T : Tab} {h : AH} (t : TabAt h S T) (s : ByteArray) (hs : s.size ≤ 1048576) : callO PX 23 [.agg S.vs.toArray, .string s] h = some (plV (firstO T s.data.toList), h) := by
  have e1 := class6_eq t
  have e0 := refPair_eq t
  have hz : s.data.toList.length = s.size := rfl
  have hn := spots_len s.data.toList
  apply WpC.eqn
  refine wpc_fn (px_ext rfl) (px_fn fn_guiseref9_First) rfl ?_
  unfold LF_guiseref9_First
  simp only [argFr]
  unfold TS.vs at e0 e1 ⊢
  (refine W_x @ev_rngS ?_; (repeat' first | apply Cj.mk | exact Nl.nl) <;> intros)
  refine wp_spotsG (fun i => [(1, .string s), (2, .pointer (some ⟨4, 0, some 1⟩)), (4, .pointer (some ⟨8, 0, some 1⟩)), (6, .int .i64 (prevC T s.data.toList i)), (7, .int .i64 i), (15, .pointer (some ⟨30, 0, some 1⟩))]) 30 s s.data.toList (fun _ h' => h' = h)
    (fun i x => if badP x ∨ (pairI T x.1).isSome = true ∨ (0 < clT T x.1 ∧ clT T x.1 < prevC T s.data.toList i) then some (posn s.data.toList i, i) else none) rfl (by repeat' first | exact True.intro | refine And.intro rfl ?_) (fun _ => rfl) (by intro n; simp only [setL, push_cast, Nat.reduceEqDiff, ↓reduceIte, reduceCtorEq, Nat.reduceAdd, Nat.reduceMul, Nat.reduceLeDiff]; rfl) rfl rfl (fun i hi h1 hh hit => ?_) fun h1 hh fin => ?_
  · subst hh
    (refine W_x trivial ?_; (repeat' first | apply Cj.mk | exact Nl.nl) <;> intros)
    refine wo_next rfl rfl hi ?_
    have hp := prevC_succ (T := T) hi
    have hpn : posn s.data.toList i ≤ 1048576 := by have := (posn_lt hi).1; omega
    have eb := bad_eq s hs hi h1
    unfold firstO
    generalize (spots s.data.toList)[i] = y at hit hp eb
    have e2 := e1 (y.1 : Nat)
    rw [show classI T (y.1 : Nat) = clT T y.1 from rfl] at e2
    have e3 := e0 (y.1 : Nat)
    generalize pairI T y.1 = pr at hit e3
    rw [hp]
    by_cases hb : badP y
    · rw [decide_eq_true hb] at eb
      have hw := hit _ (if_pos (.inl hb))
      rw [hw]
      rcases pr with _ | ⟨a, b⟩
      all_goals
        simp only [prV] at e3
        (refine W_x (Aj e2 (Aj e3 eb)) ?_; (repeat' first | apply Cj.mk | exact Nl.nl) <;> intros)
        exact ⟨rfl, rfl⟩
    · rw [decide_eq_false hb] at eb
      rcases pr with _ | ⟨a, b⟩
      · simp only [prV] at e3
        by_cases hc : 0 < clT T y.1 ∧ clT T y.1 < prevC T s.data.toList i
        · rw [hit _ (if_pos (.inr (.inr hc)))]
          obtain ⟨c1, c2⟩ := hc
          (refine W_x (Aj e2 (Aj e3 eb)) ?_; (repeat' first | apply Cj.mk | exact Nl.nl) <;> intros)
          exact ⟨rfl, rfl⟩
        · have hno : ¬ (badP y ∨ (none : Option (Int × Int)).isSome = true ∨ (0 < clT T y.1 ∧ clT T y.1 < prevC T s.data.toList i)) := by
            rintro (q | q | q)
            · exact hb q
            · cases q
            · exact hc q
          (refine W_x (Aj e2 (Aj e3 eb)) ?_; (repeat' first | apply Cj.mk | exact Nl.nl) <;> intros)
          all_goals first | exact ⟨if_neg hno, (by repeat' first | exact True.intro | refine And.intro rfl ?_), rfl, rfl⟩ | (exfalso; omega)
      · simp only [prV] at e3
        rw [hit _ (if_pos (.inr (.inl rfl)))]
        (refine W_x (Aj e2 (Aj e3 eb)) ?_; (repeat' first | apply Cj.mk | exact Nl.nl) <;> intros)
        exact ⟨rfl, rfl⟩
  · subst hh
    (refine W_x trivial ?_; (repeat' first | apply Cj.mk | exact Nl.nl) <;> intros)
    refine wo_nextE rfl rfl ?_
    (refine W_x trivial ?_; (repeat' first | apply Cj.mk | exact Nl.nl) <;> intros)
    have : firstO T s.data.toList = none := fin
    rw [this]
    exact ⟨rfl, rfl⟩
end Go.Proofs.YtfiaggbgplmmeaaGreatDoor.AM
namespace Go.Proofs.YtfiaggbgplmmeaaGreatDoor.AM
open Go
def LFfew : LFunc :=
  .mk 2 [.tmp 4] (.seq (R 999 [0, 1] [.set 4 (.cv (.string ⟨#[]⟩))]) (.seq (.seq (R 5 [0, 1, 8] [.tmp 8 (xb .gtr (xsl (.va 0)) (.va 1))]) (.cond (.s 8) (.seq (R 9 [4] [.set 4 (.op
  (.p (.slS (.s 0) none (some (.s 1)))) (.cons (.va 0) (.va 1)))]) .ret) .skip)) (.seq (R 12 [4] [.set 4 (.va 0)]) .ret)))
theorem fewG_eq {f : FuncId} (hf : PX.fn f = some LFfew) (hx : PX.ext f = none) (s : ByteArray) (hs : s.size ≤ 1048576) {m : Int} (n : Nat) (hm : m = n) (hn : n ≤ 1048576) (h : AH) : callO PX f [.string s, .int .i64 m] h = some (.string (fewB s n), h) := by
  subst hm
  apply WpC.eqn
  refine wpc_fn hx hf rfl ?_
  unfold LFfew
  simp only [argFr]
  unfold fewB
  (refine W_x trivial ?_; (repeat' first | apply Cj.mk | exact Nl.nl) <;> intros)
  · rw [if_pos (by omega)]
    exact ⟨rfl, rfl⟩
  · rw [if_neg (by omega)]
    exact ⟨rfl, rfl⟩
end Go.Proofs.YtfiaggbgplmmeaaGreatDoor.AM
