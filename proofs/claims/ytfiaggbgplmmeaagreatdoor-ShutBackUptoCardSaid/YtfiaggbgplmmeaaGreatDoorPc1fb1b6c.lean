/- Parts of proofs: lemmas, joined. -/
import Derived.Test.YtfiaggbgplmmeaaGreatDoorP205ab9a7
set_option linter.unusedVariables false
set_option linter.unusedSimpArgs false
set_option linter.unusedSectionVars false
namespace Go.Proofs.YtfiaggbgplmmeaaGreatDoor.AM
open Go
theorem runeLen_eq (c : Nat) (hc : RuneN c) (h : AH) : callO PX 83 [.int .i32 c] h = some (.int .i64 (encN c).length, h) := by
  have hle : c ≤ 0x10FFFF := by unfold RuneN at hc; omega
  have hl : (encN c).length = if c < 0x80 then 1 else if c < 0x800 then 2 else if c < 0x10000 then 3 else 4 := by
    unfold encN
    split
    · rfl
    · split
      · rfl
      · split <;> rfl
  unfold RuneN at hc
  apply WpC.eqn
  refine wpc_fn (px_ext rfl) (px_fn fn_utf8_RuneLen) rfl ?_
  unfold LF_utf8_RuneLen
  simp only [argFr]
  (refine W_x trivial ?_; (repeat' first | apply Cj.mk | exact Nl.nl) <;> intros)
  all_goals
    refine ⟨?_, rfl⟩
    rw [hl]
    congr 1
    repeat' split
    all_goals first | rfl | omega
theorem hasPrefix0_eq (a b : ByteArray) (h : AH) : callO PX 124 [.string a, .string b] h = some (.bool (decide (b.size ≤ a.size ∧ a.extract 0 b.size = b)), h) := by
  apply WpC.eqn
  refine wpc_fn (px_ext rfl) (px_fn fn_internal_stringslite_HasPrefix) rfl ?_
  unfold LF_internal_stringslite_HasPrefix
  simp only [argFr]
  (refine W_x trivial ?_; (repeat' first | apply Cj.mk | exact Nl.nl) <;> intros)
  all_goals (refine ⟨?_, rfl⟩; congr 1; symm)
  · rename_i g1 g2; exact decide_eq_true ⟨by omega, g2⟩
  · rename_i g1 g2; exact decide_eq_false (fun h => g2 h.2)
  · rename_i g1; exact decide_eq_false (fun h => g1 (by omega))
theorem hasPrefix_eq (a b : ByteArray) (h : AH) : callO PX 84 [.string a, .string b] h = some (.bool (decide (b.size ≤ a.size ∧ a.extract 0 b.size = b)), h) := by
  have e := hasPrefix0_eq a b
  apply WpC.eqn
  refine wpc_fn (px_ext rfl) (px_fn fn_strings_HasPrefix) rfl ?_
  unfold LF_strings_HasPrefix
  simp only [argFr]
  (refine W_x e ?_; (repeat' first | apply Cj.mk | exact Nl.nl) <;> intros)
  all_goals (refine ⟨?_, rfl⟩; congr 1; symm; first | exact decide_eq_true (by assumption) | exact decide_eq_false (by assumption))
theorem spot_eq (r n : Nat) (h : AH) : callO PX 56 [.int .i32 r, .int .i64 n] h = some (spotV (r, n), h) := by
  apply WpC.eqn
  refine wpc_fn (px_ext rfl) (px_fn fn_utf_spot) rfl ?_
  unfold LF_utf_spot
  simp only [argFr]
  (refine W_x trivial ?_; (repeat' first | apply Cj.mk | exact Nl.nl) <;> intros)
  all_goals
    refine ⟨?_, rfl⟩
    have hb : ∀ t : Bool, (t = true ↔ (r = 65533 ∧ n = 1)) → isBad2 (r, n) = t := fun t ht => by
      unfold isBad2
      rw [Bool.eq_iff_iff, ht]
      simp only [Bool.and_eq_true, beq_iff_eq]
    unfold spotV
    first
    | (have e : r = 65533 ∧ n = 1 := by omega
       rw [hb true (iff_of_true rfl e)]
       done)
    | (have e : ¬ (r = 65533 ∧ n = 1) := by omega
       rw [hb false (iff_of_false (by decide) e)]
       done)
theorem spotsMk_eq (s : ByteArray) (h : AH) : callO PX 49 [.string s] h = some (.func (.func 82) #[] #[.pointer (some ⟨h.n, 0, none⟩)], h.push (.cells false [.string s])) := by
  apply WpC.eqn
  refine wpc_fn (px_ext rfl) (px_fn fn_utf_Spots) rfl ?_
  unfold LF_utf_Spots
  simp only [argFr]
  (refine W_x trivial ?_; (repeat' first | apply Cj.mk | exact Nl.nl) <;> intros)
  exact ⟨rfl, rfl⟩
theorem spots_seq (s : ByteArray) (bx : Nat) (hsz : s.size ≤ 140737488351232) :
    SeqP PX (.func (.func 82) #[] #[.pointer (some ⟨bx, 0, none⟩)]) (spotsL s.data.toList) spotE (fun h => h.get bx = some (.cells false [.string s])) := by
  intro yv I E h hyv hvs hstep hD h0
  have d1 : h.get bx = some (.cells false [.string s]) := hD _ _ h0
  have hset := hyv.set
  have hlc1 := hyv.lc1
  refine wpV_fn ?_
  refine wpc_fn (px_ext rfl) (px_fn fn_utf_Spots_1) rfl ?_
  unfold LF_utf_Spots_1
  simp only [argFr, List.nil_append, List.cons_append]
  obtain ⟨l, hl⟩ : ∃ l, l = s.data.toList := ⟨_, rfl⟩
  rw [← hl] at hstep ⊢
  have hll : l.length = s.size := by rw [hl]; rfl
  (refine W_x (Aj d1 (Aj hset (Aj hlc1 @ev_rngS))) ?_; (repeat' first | apply Cj.mk | exact Nl.nl) <;> intros)
  refine wp_spotsS (fun _ _ => [(0, yv), (1, .pointer (some ⟨bx, 0, none⟩)), (7, .pointer (some ⟨14, 0, some 1⟩))]) (fun n _ => [(14, .siter s n)]) s l (fun i _ h1 => I i h1) (fun _ _ => (none : Option Unit)) () hl (by repeat' first | exact True.intro | refine And.intro rfl ?_) (fun _ _ => rfl) rfl h0 (fun i hil _ h1 hI hit => ?_) fun _ h1 hI fin => ?_
  · have d1 : h1.get bx = some (.cells false [.string s]) := hD _ _ hI
    obtain ⟨p1, p2, p3⟩ := posn_lt hil
    have hst := hstep i (by rw [spotsL_len]; exact hil) h1 hI
    rw [spotsL_get (by rw [spotsL_len]; exact hil)] at hst
    have hdc := dec_cases p3
    have hbad : (spots l)[i].1 = 65533 → ((encN 65533).length ≤ (l.drop (posn l i)).length ∧ (l.drop (posn l i)).take (encN 65533).length = encN 65533 ↔ (spots l)[i].2 = 3) := fun e => by
      rcases hdc with ⟨c, rest, hc, e1, e2⟩ | ⟨e1, e2⟩
      · rw [p2] at e2
        rw [e2] at e
        simp only at e
        subst e
        rw [e2, e1, encN_bad, List.take_left' encN_bad]
        simp [encN_bad]
      · rw [p2] at e1
        rw [e1, encN_bad]
        constructor
        · rintro ⟨h1, h2⟩
          exfalso
          refine e2 65533 ((l.drop (posn l i)).drop 3) rune_bad ?_
          rw [← h2, List.take_append_drop]
        · intro h; simp at h
    have hgood : (spots l)[i].1 ≠ 65533 → (spots l)[i].2 = (encN (spots l)[i].1).length := fun e => by
      rcases hdc with ⟨c, rest, hc, e1, e2⟩ | ⟨e1, e2⟩
      · rw [p2] at e2; rw [e2]
      · rw [p2] at e1; rw [e1] at e; exact absurd rfl e
    have hw3 : (spots l)[i].1 = 65533 → (spots l)[i].2 = 3 ∨ (spots l)[i].2 = 1 := fun e => by
      rcases hdc with ⟨c, rest, hc, e1, e2⟩ | ⟨e1, e2⟩
      · rw [p2] at e2
        rw [e2] at e
        simp only at e
        subst e
        rw [e2]; exact .inl encN_bad
      · rw [p2] at e1; rw [e1]; exact .inr rfl
    have hru : RuneN (spots l)[i].1 := runesB_rune l _ (List.mem_map.2 ⟨_, List.getElem_mem hil, rfl⟩)
    (refine W_x (Aj hset hlc1) ?_; (repeat' first | apply Cj.mk | exact Nl.nl) <;> intros)
    refine wo_next hl rfl hil ?_
    generalize (spots l)[i] = x at hst hbad hgood hw3 hru
    have hcast : ((Utf8.encode ((65533 : Nat) : Int))).data.toList = encN 65533 := encode_eq rune_bad
    have hpre : x.1 = 65533 → (decide ((Utf8.encode (x.1 : Int)).size ≤ (s.extract (posn l i) s.size).size ∧ (s.extract (posn l i) s.size).extract 0 (Utf8.encode (x.1 : Int)).size = Utf8.encode (x.1 : Int))) = decide (x.2 = 3) := fun e => by
      refine decide_eq_decide.2 ?_
      rw [← hbad e, e]
      have z1 : (Utf8.encode ((65533 : Nat) : Int)).size = (encN 65533).length := by rw [ba_size, hcast]
      have z2 : (s.extract (posn l i) s.size).data.toList = l.drop (posn l i) := by
        rw [ba_extract _ _ _ (Nat.le_refl _), ← hl, ← hll, ← List.length_drop, List.take_length]
      have z3 : (s.extract (posn l i) s.size).size = (l.drop (posn l i)).length := by rw [ba_size, z2]
      rw [z1, z3]
      constructor
      · rintro ⟨a, b⟩
        refine ⟨a, ?_⟩
        have : ((s.extract (posn l i) s.size).extract 0 (encN 65533).length).data.toList = (Utf8.encode ((65533 : Nat) : Int)).data.toList := by rw [b]
        rw [ba_extract _ _ _ (by omega), z2, hcast] at this
        simpa using this
      · rintro ⟨a, b⟩
        refine ⟨a, ba_ext ?_⟩
        rw [ba_extract _ _ _ (by omega), z2, hcast]
        simpa using b
    have el := runeLen_eq x.1 hru
    have es := fun n => spot_eq x.1 n
    by_cases e : x.1 = 65533
    · have hpre := hpre e
      have hw4 := hw3 e
      obtain ⟨c, w⟩ := x
      simp only at e hpre hw4 hst
      have hci : (c : Int) = 65533 := by omega
      have el2 : ∀ h, callO PX 83 [.int .i32 c] h = some (.int .i64 3, h) := fun h => by
        have := el h
        simp only at this
        rw [this, e, encN_bad]
        rfl
      have eh2 : ∀ h, callO PX 84 [.string (s.extract (posn l i) s.size), .string (Utf8.encode c)] h = some (.bool (decide (w = 3)), h) := fun h => by
        have := hasPrefix_eq (s.extract (posn l i) s.size) (Utf8.encode (c : Int)) h
        rw [hpre] at this
        exact this
      have es2 : ∀ h, callO PX 56 [.int .i32 c, .int .i64 3] h = some (spotV (c, 3), h) := fun h => spot_eq c 3 h
      have es3 : ∀ h, callO PX 56 [.int .i32 c, .int .i64 1] h = some (spotV (c, 1), h) := fun h => spot_eq c 1 h
      have hpl : ((posn l i : Nat) : Int) ≤ (s.size : Int) := by omega
      rcases hw4 with rfl | rfl
      all_goals
        simp only [decide_true, show decide (1 = 3) = false from rfl] at eh2
        (refine W_x (Aj hset (Aj hlc1 (Aj d1 (Aj el2 (Aj eh2 (Aj es2 es3)))))) ?_; (repeat' first | apply Cj.mk | exact Nl.nl) <;> intros)
        refine wo_callV (fv := yv) rfl rfl rfl ?_
        refine hst.mono ?_
        rintro v h2 hor
        rcases hor with ⟨rfl, hI2⟩ | ⟨rfl, hE⟩
        · (refine W_x (Aj hset hlc1) ?_; (repeat' first | apply Cj.mk | exact Nl.nl) <;> intros)
          exact ⟨rfl, (), (by repeat' first | exact True.intro | refine And.intro rfl ?_), rfl, hI2⟩
        · (refine W_x (Aj hset hlc1) ?_; (repeat' first | apply Cj.mk | exact Nl.nl) <;> intros)
          exact .inr hE
    · have hgd := hgood e
      rw [← hgd] at el
      have es2 := es x.2
      have hne : ¬ (x.1 : Int) = 65533 := by omega
      (refine W_x (Aj hset (Aj hlc1 (Aj el es2))) ?_; (repeat' first | apply Cj.mk | exact Nl.nl) <;> intros)
      refine wo_callV (fv := yv) rfl rfl rfl ?_
      refine hst.mono ?_
      rintro v h2 hor
      rcases hor with ⟨rfl, hI2⟩ | ⟨rfl, hE⟩
      · (refine W_x (Aj hset hlc1) ?_; (repeat' first | apply Cj.mk | exact Nl.nl) <;> intros)
        exact ⟨rfl, (), (by repeat' first | exact True.intro | refine And.intro rfl ?_), rfl, hI2⟩
      · (refine W_x (Aj hset hlc1) ?_; (repeat' first | apply Cj.mk | exact Nl.nl) <;> intros)
        exact .inr hE
  · (refine W_x (Aj hset hlc1) ?_; (repeat' first | apply Cj.mk | exact Nl.nl) <;> intros)
    refine wo_nextE hl rfl ?_
    (refine W_x (Aj hset hlc1) ?_; (repeat' first | apply Cj.mk | exact Nl.nl) <;> intros)
    exact .inl (by rw [spotsL_len]; exact hI)
end Go.Proofs.YtfiaggbgplmmeaaGreatDoor.AM
namespace Go.Proofs.YtfiaggbgplmmeaaGreatDoor.AM
open Go
def LF_guiseref9_First : LFunc :=
  .mk 2 [.cell 4 (some 2), .tmp 5] (.seq (R 2 [1, 2, 4] [.tmp 2 (xbl 2 8 (.sl 0)), .at 4, .tmp 4 (xnl 4 [.int .i64 0, .int .i64 0]), .set 5 (.cv (.bool false))]) (.seq (R 999 [1, 2,
  4, 6] [.set 6 (xi 0)]) (.seq (R 999 [1, 2, 4, 6, 7] [.set 7 (xi 0)]) (.seq (.seq (R 14 [1, 2, 4, 6, 7, 15] [.tmp 15 (.op (.e (.rngS 15 (.s 0))) (.va 1))]) (.block 0 (.loop (.seq
  (R 16 [1, 2, 4, 6, 7, 15, 16, 17] [.tmp 16 (.op (.e (.nxtS (.s 0))) (.sl 15)), .tmp 17 (xex 0 (.sl 16))]) (.seq (.cond (.s 17) .skip (.exit 0)) (.block 1 (.seq (R 18 [1, 2, 4, 6,
  7, 8, 9, 15] [.tmp 18 (xex 1 (.sl 16)), .tmp 19 (xex 2 (.sl 16)), .set 8 (.sl 18), .set 9 (.sl 19)]) (.seq (R 20 [1, 2, 4, 6, 7, 8, 9, 10, 15] [.set 10 (xc2 50
  (xln 8 (.sl 2)) (.va 9))]) (.seq (R 24 [1, 2, 4, 6, 7, 8, 10, 13, 15] [.set 23 (xc2 51 (xln 8 (.sl 2)) (.va 9)), .tmp 27 (xex 0 (.sl 23)), .tmp 28 (xex 1 (.sl
  23)), .tmp 29 (xex 2 (.sl 23)), .set 11 (.sl 27), .set 12 (.sl 28), .set 13 (.sl 29)]) (.seq (.seq (R 30 [1, 2, 4, 7, 8, 10, 15, 44] [.tmp 44 (.or (.or (xc2 52 (.va
  1) (.va 8)) (.va 13)) (.and (xb .gtr (.va 10) (xi 0)) (xb .lss (.va 10) (.va 6))))]) (.cond (.s 44) (.seq (R 45 [4, 5] [.run (xst 2 (.sl 4) (.op (.p (.build [.int .i64 0, .int
  .i64 0] [(0, 1, .s 0), (1, 1, .s 1)])) (.cons (.va 8) (.va 7)))), .set 5 (.cv (.bool true))]) .ret) .skip)) (.seq (R 48 [1, 2, 4, 6, 7, 15] [.set 6 (.va 10)]) (R 49 [1, 2, 4, 6,
  7, 15] [.set 7 (xb .add (.va 7) (xi 1))])))))))))))) (.seq (R 51 [4, 5] [.run (xst 2 (.sl 4) (.op (.p (.build [.int .i64 0, .int .i64 0] [])) .nil)), .set 5 (.cv (.bool false))])
  .ret)))))
theorem fn_guiseref9_First : (autoPrg Tryz.prog).fn 23 = some LF_guiseref9_First := by kernel_rfl
def LF_guiseref8_Bad : LFunc :=
  .mk 2 [.tmp 4] (.seq (R 999 [0, 1] [.set 4 (.cv (.bool false))]) (.seq (.seq (R 7 [0, 1, 10] [.tmp 10 (.op (.e (.rngS 10 (.s 0))) (.op (.p (.slS (.s 0) (some (.s 1)) none)) (.cons
  (.va 0) (.va 1))))]) (.block 0 (.loop (.seq (R 11 [0, 1, 11, 12] [.tmp 11 (.op (.e (.nxtS (.s 0))) (.sl 10)), .tmp 12 (xex 0 (.sl 11))]) (.seq (.cond (.s 12) .skip (.exit 0))
  (.block 1 (.seq (R 13 [0, 1, 6] [.set 6 (xex 2 (.sl 11))]) (.seq (R 14 [4] [.set 4 (.and (xb .eql (.va 6) (xr 65533)) (.or (xb .lss (xb .sub (xsl (.va 0)) (.va 1)) (xi 3)) (xb
  .neq (.op (.p (.slS (.s 0) (some (.s 1)) (some (.s 2)))) (.cons (.va 0) (.cons (.va 1) (xb .add (.va 1) (xi 3))))) (.cv (.string ⟨#[239, 191, 189]⟩)))))]) .ret)))))))) (.seq (R
  999 [4] [.set 4 (.cv (.bool false))]) .ret)))
theorem fn_guiseref8_Bad : (autoPrg Tryz.prog).fn 52 = some LF_guiseref8_Bad := by kernel_rfl
def LF_guiseref9_Open : LFunc :=
  .mk 2 [.tmp 4] (.seq (R 2 [1, 2] [.tmp 2 (xbl 2 8 (.sl 0)), .set 4 (.cv (.slice none 0 0))]) (.seq (R 999 [1, 2, 5] [.set 5 (.cv (.slice none 0 0))]) (.seq (.seq (R 8 [2, 5, 9]
  [.tmp 9 (.op (.e (.rngS 9 (.s 0))) (.va 1))]) (.block 0 (.loop (.seq (R 10 [2, 5, 9, 10, 11] [.tmp 10 (.op (.e (.nxtS (.s 0))) (.sl 9)), .tmp 11 (xex 0 (.sl 10))]) (.seq (.cond
  (.s 11) .skip (.exit 0)) (.block 1 (.seq (R 12 [2, 5, 7, 9] [.set 7 (xex 2 (.sl 10))]) (R 13 [2, 5, 9] [.set 5 (xap 1 4 (.va 5) (xc2 53 (xln 8 (.sl 2)) (.va
  7)))])))))))) (.seq (R 18 [4] [.set 4 (xc2 54 (xln 8 (.sl 2)) (.va 5))]) .ret))))
theorem fn_guiseref9_Open : (autoPrg Tryz.prog).fn 24 = some LF_guiseref9_Open := by kernel_rfl
end Go.Proofs.YtfiaggbgplmmeaaGreatDoor.AM
namespace Go.Proofs.YtfiaggbgplmmeaaGreatDoor.AM
open Go
theorem scanL_hit {α β : Type} {l : List α} {g : Nat → α → Option β} {i : Nat} (hi : i < l.length) (h : ∀ j (hj : j < l.length), j < i → g j l[j] = none) {w : β} (hw : g i l[i] = some w) : scanL l g = some w :=
  scan_hit (fun j hj => by rw [List.getElem?_eq_getElem (by omega)]; exact h j (by omega) hj) hi (by rw [List.getElem?_eq_getElem hi]; exact hw)
theorem isBad_iff (x : Nat × Nat) : isBad2 x = true ↔ badP x := by simp [isBad2, badP]
end Go.Proofs.YtfiaggbgplmmeaaGreatDoor.AM
namespace Go.Proofs.YtfiaggbgplmmeaaGreatDoor.AM
open Go
def joinN (T : Tab) (b m : Nat) : Option Nat := (joinO T b m).map Int.toNat
structure Lay where
  pre : List Nat
  seat : Option Nat
  beh : List Nat
def Lay.out (s : Lay) : List Nat := s.pre ++ s.seat.toList ++ s.beh
def blocks (T : Tab) (K : List Nat) (c : Nat) : Prop := ∃ k, K.getLast? = some k ∧ clT T c ≤ clT T k
instance (T : Tab) (K : List Nat) (c : Nat) : Decidable (blocks T K c) := by
  unfold blocks
  cases K.getLast? with
  | none => exact .isFalse (by simp)
  | some k => exact if h : clT T c ≤ clT T k then .isTrue ⟨k, rfl, h⟩ else .isFalse (by rintro ⟨k', e, h'⟩; injection e with e; subst e; exact h h')
def layS (T : Tab) (s : Lay) (c : Nat) : Lay :=
  if clT T c = 0 then ⟨s.out, some c, []⟩
  else match s.seat with
    | none => ⟨s.pre, none, s.beh ++ [c]⟩
    | some b => if blocks T s.beh c then ⟨s.pre, some b, s.beh ++ [c]⟩ else
      match joinN T b c with
      | some w => ⟨s.pre, some w, s.beh⟩
      | none => ⟨s.pre, some b, s.beh ++ [c]⟩
def layL (T : Tab) (B : List Nat) : Lay := B.foldl (layS T) ⟨[], none, []⟩
def laid (T : Tab) (B : List Nat) : List Nat := (layL T B).out
theorem join_mem {T : Tab} {b m w : Int} (h : joinO T b m = some w) : (w, b, m) ∈ T.pairs := by
  obtain ⟨i, hi, e⟩ := scanL_some h
  split at e
  · rename_i q
    injection e with e
    have : T.pairs[i] = (w, b, m) := Prod.ext e (Prod.ext q.1 q.2)
    rw [← this]
    exact List.getElem_mem hi
  · cases e
theorem pairs_once {T : Tab} (h : goodB T = true) {i j : Nat} (hi : i < T.pairs.length) (hj : j < T.pairs.length) (e : (T.pairs[i]).1 = (T.pairs[j]).1) : i = j := by
  have hf := (checkW_none (good_check h)).2.2.1
  unfold twiceW at hf
  simp only [Option.or_eq_none_iff] at hf
  have key : ∀ {i j : Nat} (hi : i < T.pairs.length) (hj : j < T.pairs.length), (T.pairs[i]).1 = (T.pairs[j]).1 → ¬ i < j := fun {i j} hi hj e hlt => by
    have := scanL_none hf.2.2.1 j hj
    rw [if_pos ⟨T.pairs[i], List.mem_take_iff_getElem.2 ⟨i, by omega, rfl⟩, .inl e.symm⟩] at this
    cases this
  have h1 := key hi hj e
  have h2 := key hj hi e.symm
  omega
theorem pair_of_mem {T : Tab} (h : goodB T = true) {w b m : Int} (hm : (w, b, m) ∈ T.pairs) : pairI T w = some (b, m) := by
  obtain ⟨i, hi, e⟩ := List.mem_iff_getElem.1 hm
  unfold pairI
  cases hw : wholeO T w with
  | none => exact absurd (by rw [e]) (whole_none hw _ (List.getElem_mem hi))
  | some j =>
    obtain ⟨hj, e2⟩ := whole_mem hw
    have : i = j := pairs_once h hi hj (by rw [e, e2])
    subst this
    simp [List.getD_eq_getElem?_getD, List.getElem?_eq_getElem hi, e]
theorem join_opN {T : Tab} (h : goodB T = true) {b m w : Nat} (hb : RuneN b) (hj : joinN T b m = some w) : RuneN w ∧ clT T w = 0 ∧ opN T w = opN T b ++ [m] := by
  unfold joinN at hj
  obtain ⟨v, hv, e⟩ := Option.map_eq_some_iff.1 hj
  have hm := join_mem hv
  obtain ⟨g1, g2, g3, g4, g5, g6⟩ := good_pairs h _ hm
  simp only at g1 g2 g3 g4 g5 g6
  have hr := rune_iff.1 g4
  have hvw : (w : Int) = v := by omega
  have hp := pair_of_mem h hm
  refine ⟨by rw [← e]; exact hr.2, ?_, ?_⟩
  · show classI T (w : Int) = 0
    have := class_range h (w : Int)
    have hn : ¬ 0 < classI T (w : Int) := fun q => by rw [class_mark h, hvw, g1] at q; cases q
    omega
  · unfold opN
    have h1 := op_all h (w : Int)
    rw [hvw] at h1 ⊢
    have h2 : Op T v (opI T 5 (b : Int) ++ [(m : Int)]) := .more hp (op_all h _)
    rw [h1.eq h2, List.map_append]
    simp
theorem ord_push {cl : Nat → Int} {X : List Nat} {c : Nat} (h : ∀ a, (ord cl X).getLast? = some a → ¬ (0 < cl c ∧ cl c < cl a)) : ord cl (X ++ [c]) = ord cl X ++ [c] := by
  rw [ord_snoc]
  have e : insR cl (ord cl X).reverse c = c :: (ord cl X).reverse := by
    cases hr : (ord cl X).reverse with
    | nil => rfl
    | cons a t =>
      simp only [insR]
      rw [if_neg (h a (by rw [← List.head?_reverse, hr]; rfl))]
  rw [e]
  simp
theorem ord_past {cl : Nat → Int} {c : Nat} : ∀ (K p : List Nat), (∀ k ∈ K, 0 < cl k ∧ cl k < cl c) → ord cl (p ++ c :: K) = ord cl (p ++ K ++ [c])
  | [], p, _ => by simp
  | k :: K, p, h => by
    have hk := h k (by simp)
    rw [ord_swap hk.1 hk.2 p K]
    have := ord_past K (p ++ [k]) fun x hx => h x (by simp [hx])
    simpa using this
structure LayOk (T : Tab) (P : List Nat) (s : Lay) : Prop where
  run : ∀ x ∈ s.out, RuneN x
  beh : ∀ x ∈ s.beh, 0 < clT T x
  len : s.out.length ≤ P.length
  up : s.beh.Pairwise fun a c => clT T a ≤ clT T c
  le : ∀ x ∈ s.beh, ∀ c, P.getLast? = some c → clT T x ≤ clT T c
  cs : (s.seat = none ∧ s.pre = [] ∧ s.beh = P) ∨ ∃ b P0 P1, s.seat = some b ∧ clT T b = 0 ∧ P = P0 ++ P1 ∧ P1 ≠ [] ∧ openL T s.pre = P0 ∧ ord (clT T) (opN T b ++ s.beh) = P1
theorem ordered_last {cl : Nat → Int} : ∀ {P : List Nat} {c : Nat}, Ordered cl (P ++ [c]) → ∀ a, P.getLast? = some a → ¬ (0 < cl c ∧ cl c < cl a)
  | [a], c, h, x, hx => by simp at hx; subst hx; exact h.1
  | a :: b :: P, c, h, x, hx => ordered_last (P := b :: P) h.2 x (by rw [List.getLast?_cons_cons] at hx; exact hx)
theorem ordered_init {cl : Nat → Int} : ∀ {P Q : List Nat}, Ordered cl (P ++ Q) → Ordered cl P
  | [], _, _ => trivial
  | [a], _, _ => trivial
  | a :: b :: P, Q, h => ⟨h.1, ordered_init (P := b :: P) h.2⟩
theorem lay_step {T : Tab} (h : goodB T = true) {P : List Nat} {c : Nat} {s : Lay} (ho : Ordered (clT T) (P ++ [c])) (hop : ∀ x ∈ P ++ [c], isOp T x) (hrn : RuneN c) (k : LayOk T P s) : LayOk T (P ++ [c]) (layS T s c) := by
  have hoc := hop c (by simp)
  have hlast := ordered_last ho
  have h0c : 0 ≤ clT T c := (class_range h _).1
  unfold layS
  by_cases h0 : clT T c = 0
  · rw [if_pos h0]
    refine ⟨fun x hx => ?_, by simp, ?_, by simp, by simp, .inr ⟨c, P, [c], rfl, h0, rfl, by simp, ?_, ?_⟩⟩
    · simp only [Lay.out, Option.toList_some, List.append_nil] at hx
      rcases List.mem_append.1 hx with hx | hx
      · exact k.run x hx
      · rw [List.mem_singleton.1 hx]; exact hrn
    · have := k.len
      simp only [Lay.out, Option.toList_some, List.append_nil, List.length_append, List.length_singleton] at this ⊢
      omega
    · rcases k.cs with ⟨e1, e2, e3⟩ | ⟨b, P0, P1, e1, e2, e3, e4, e5, e6⟩
      · show openL T (s.pre ++ s.seat.toList ++ s.beh) = P
        rw [e1, e2, e3]
        exact openL_open (fun x hx => hop x (by simpa using .inl hx)) (by simpa using ordered_init ho)
      · show openL T (s.pre ++ s.seat.toList ++ s.beh) = P
        have hrb : RuneN b := k.run b (by simp [Lay.out, e1])
        obtain ⟨a, ms, q1, q2, _⟩ := opN_facts h hrb
        have hbeh : openF T s.beh = s.beh := openF_open fun x hx => mark_whole h ((class_mark h _).1 (k.beh x hx))
        unfold openL
        rw [openF_append, openF_append, e1, hbeh]
        have hb : openF T (some b).toList = opN T b := by simp [openF]
        rw [hb, List.append_assoc, ord_append (.inr (.inr (.inr ⟨a, ms ++ s.beh, by rw [q1]; rfl, by omega⟩))), e6, e3]
        congr 1
    · have : opN T c ++ [] = [c] := by rw [List.append_nil]; exact opN_open hoc
      rw [this]
      exact ord_of_ordered (l := [c]) trivial
  · rw [if_neg h0]
    have hc : 0 < clT T c := by omega
    rcases k.cs with ⟨e1, e2, e3⟩ | ⟨b, P0, P1, e1, e2, e3, e4, e5, e6⟩
    · rw [e1]
      simp only
      have hbl : ∀ x ∈ s.beh, clT T x ≤ clT T c := fun x hx => by
        have hne : P ≠ [] := fun q => by rw [e3, q] at hx; cases hx
        have hl := k.le x hx _ (List.getLast?_eq_some_getLast hne)
        have := hlast _ (List.getLast?_eq_some_getLast hne)
        omega
      refine ⟨fun x hx => ?_, fun x hx => ?_, ?_, ?_, fun x hx d hd => ?_, .inl ⟨rfl, e2, by rw [e3]⟩⟩
      · simp only [Lay.out, Option.toList_none, List.append_nil] at hx
        rcases List.mem_append.1 hx with hx | hx
        · exact k.run x (by simp [Lay.out, hx])
        · rcases List.mem_append.1 hx with hx | hx
          · exact k.run x (by simp [Lay.out, hx])
          · rw [List.mem_singleton.1 hx]; exact hrn
      · rcases List.mem_append.1 hx with hx | hx
        · exact k.beh x hx
        · rw [List.mem_singleton.1 hx]; exact hc
      · simp only [Lay.out, e2, e3, Option.toList_none, List.append_nil, List.nil_append, List.length_append, List.length_singleton]
        omega
      · refine List.pairwise_append.2 ⟨k.up, by simp, fun x hx d hd => ?_⟩
        rw [List.mem_singleton.1 hd]
        exact hbl x hx
      · rw [List.getLast?_concat] at hd
        injection hd with hd
        subst hd
        rcases List.mem_append.1 hx with hx | hx
        · exact hbl x hx
        · rw [List.mem_singleton.1 hx]; exact Int.le_refl _
    · rw [e1]
      simp only
      have hrb : RuneN b := k.run b (by simp [Lay.out, e1])
      have hPl : P.getLast? = P1.getLast? := by
        rw [e3, List.getLast?_append]
        cases hg : P1.getLast? with
        | none => exact absurd (List.getLast?_eq_none_iff.1 hg) e4
        | some a => simp
      have hbl : ∀ x ∈ s.beh, clT T x ≤ clT T c := fun x hx => by
        have hne : P ≠ [] := fun q => by rw [e3] at q; exact e4 (List.append_eq_nil_iff.1 q).2
        have hl := k.le x hx _ (List.getLast?_eq_some_getLast hne)
        have := hlast _ (List.getLast?_eq_some_getLast hne)
        omega
      have hpush : ∀ X, ord (clT T) X = P1 → ord (clT T) (X ++ [c]) = P1 ++ [c] := fun X e => by
        rw [ord_push fun a ha => hlast a (by rw [hPl, ← e]; exact ha), e]
      have plain : LayOk T (P ++ [c]) ⟨s.pre, some b, s.beh ++ [c]⟩ := by
        refine ⟨fun x hx => ?_, fun x hx => ?_, ?_, ?_, fun x hx d hd => ?_, .inr ⟨b, P0, P1 ++ [c], rfl, e2, by rw [e3, List.append_assoc], by simp, e5, ?_⟩⟩
        · have hx : x ∈ s.out ++ [c] := by simpa [Lay.out, e1] using hx
          rcases List.mem_append.1 hx with hx | hx
          · exact k.run x hx
          · rw [List.mem_singleton.1 hx]; exact hrn
        · rcases List.mem_append.1 hx with hx | hx
          · exact k.beh x hx
          · rw [List.mem_singleton.1 hx]; exact hc
        · have := k.len
          simp only [Lay.out, e1, Option.toList_some, List.length_append, List.length_singleton] at this ⊢
          omega
        · refine List.pairwise_append.2 ⟨k.up, by simp, fun x hx d hd => ?_⟩
          rw [List.mem_singleton.1 hd]
          exact hbl x hx
        · rw [List.getLast?_concat] at hd
          injection hd with hd
          subst hd
          rcases List.mem_append.1 hx with hx | hx
          · exact hbl x hx
          · rw [List.mem_singleton.1 hx]; exact Int.le_refl _
        · rw [← List.append_assoc]
          exact hpush _ e6
      split
      · exact plain
      · rename_i hnb
        split
        · rename_i w hw
          obtain ⟨j1, j2, j3⟩ := join_opN h hrb hw
          have hlt : ∀ x ∈ s.beh, 0 < clT T x ∧ clT T x < clT T c := fun x hx => by
            refine ⟨k.beh x hx, ?_⟩
            have hne : s.beh ≠ [] := fun q => by rw [q] at hx; cases hx
            have hgl := List.getLast?_eq_some_getLast hne
            have h1 : ¬ clT T c ≤ clT T (s.beh.getLast hne) := fun q => hnb ⟨_, hgl, q⟩
            have h2 : clT T x ≤ clT T (s.beh.getLast hne) := by
              have hd := List.dropLast_concat_getLast hne
              have hu := k.up
              rw [← hd] at hu hx
              rcases List.mem_append.1 hx with hx | hx
              · exact (List.pairwise_append.1 hu).2.2 x hx _ (by simp)
              · rw [List.mem_singleton.1 hx]; exact Int.le_refl _
            omega
          refine ⟨fun x hx => ?_, k.beh, ?_, k.up, fun x hx d hd => ?_, .inr ⟨w, P0, P1 ++ [c], rfl, j2, by rw [e3, List.append_assoc], by simp, e5, ?_⟩⟩
          · have hx : x ∈ s.pre ∨ x = w ∨ x ∈ s.beh := by simpa [Lay.out] using hx
            rcases hx with hx | rfl | hx
            · exact k.run x (by simp [Lay.out, hx])
            · exact j1
            · exact k.run x (by simp [Lay.out, hx])
          · have := k.len
            simp only [Lay.out, e1, Option.toList_some, List.length_append, List.length_singleton] at this ⊢
            omega
          · rw [List.getLast?_concat] at hd
            injection hd with hd
            subst hd
            exact hbl x hx
          · rw [j3, List.append_assoc, List.singleton_append, ord_past _ _ hlt]
            exact hpush _ e6
        · exact plain
theorem lay_all {T : Tab} (h : goodB T = true) : ∀ (Q P : List Nat) (s : Lay), Ordered (clT T) (P ++ Q) → (∀ x ∈ P ++ Q, isOp T x ∧ RuneN x) → LayOk T P s → LayOk T (P ++ Q) (Q.foldl (layS T) s)
  | [], P, s, _, _, k => by rw [List.append_nil]; exact k
  | c :: Q, P, s, ho, hop, k => by
    have e : P ++ c :: Q = (P ++ [c]) ++ Q := by simp
    rw [e] at ho hop ⊢
    exact lay_all h Q (P ++ [c]) _ ho hop (lay_step h (ordered_init ho) (fun x hx => (hop x (List.mem_append_left _ hx)).1) (hop c (by simp)).2 k)
theorem lay_ok {T : Tab} (h : goodB T = true) {P : List Nat} (ho : Ordered (clT T) P) (hop : ∀ x ∈ P, isOp T x ∧ RuneN x) : LayOk T P (layL T P) :=
  lay_all h P [] ⟨[], none, []⟩ ho hop ⟨by simp [Lay.out], by simp, by simp [Lay.out], by simp, by simp, .inl ⟨rfl, rfl, rfl⟩⟩
theorem laid_back {T : Tab} (h : goodB T = true) {P : List Nat} (ho : Ordered (clT T) P) (hop : ∀ x ∈ P, isOp T x ∧ RuneN x) : openL T (laid T P) = P ∧ (∀ x ∈ laid T P, RuneN x) ∧ (laid T P).length ≤ P.length := by
  have k := lay_ok h ho hop
  refine ⟨?_, k.run, k.len⟩
  rcases k.cs with ⟨e1, e2, e3⟩ | ⟨b, P0, P1, e1, e2, e3, e4, e5, e6⟩
  · unfold laid Lay.out
    rw [e1, e2, e3]
    exact openL_open (fun x hx => (hop x (by simpa using hx)).1) (by simpa using ho)
  · have hrb : RuneN b := k.run b (by simp [Lay.out, e1])
    obtain ⟨a, ms, q1, q2, _⟩ := opN_facts h hrb
    have hbeh : openF T (layL T P).beh = (layL T P).beh := openF_open fun x hx => mark_whole h ((class_mark h _).1 (k.beh x hx))
    unfold laid Lay.out openL
    rw [openF_append, openF_append, e1, hbeh]
    have hb : openF T (some b).toList = opN T b := by simp [openF]
    rw [hb, List.append_assoc, ord_append (.inr (.inr (.inr ⟨a, ms ++ (layL T P).beh, by rw [q1]; rfl, by omega⟩))), e6, show ord (clT T) (openF T (layL T P).pre) = P0 from e5]
    exact e3.symm
theorem layS_pre {T : Tab} (X : List Nat) (s : Lay) (c : Nat) (hs : s.seat ≠ none ∨ clT T c = 0) : layS T ⟨X ++ s.pre, s.seat, s.beh⟩ c = ⟨X ++ (layS T s c).pre, (layS T s c).seat, (layS T s c).beh⟩ ∧ (layS T s c).seat ≠ none := by
  unfold layS
  by_cases h0 : clT T c = 0
  · rw [if_pos h0, if_pos h0]
    exact ⟨by simp [Lay.out], by simp⟩
  · rw [if_neg h0, if_neg h0]
    obtain ⟨pre, seat, beh⟩ := s
    cases seat with
    | none => exact absurd rfl (hs.resolve_right h0)
    | some b =>
      simp only
      split
      · exact ⟨rfl, by simp⟩
      · split <;> exact ⟨rfl, by simp⟩
theorem foldl_pre {T : Tab} (X : List Nat) : ∀ (B : List Nat) (s : Lay), (s.seat ≠ none ∨ ∃ c B', B = c :: B' ∧ clT T c = 0) → B ≠ [] ∨ s.seat ≠ none → B.foldl (layS T) ⟨X ++ s.pre, s.seat, s.beh⟩ = ⟨X ++ (B.foldl (layS T) s).pre, (B.foldl (layS T) s).seat, (B.foldl (layS T) s).beh⟩
  | [], s, _, _ => rfl
  | c :: B, s, h, _ => by
    have hs : s.seat ≠ none ∨ clT T c = 0 := h.imp id fun ⟨c', B', e, q⟩ => by injection e with e1 e2; rw [e1]; exact q
    obtain ⟨h1, h2⟩ := layS_pre X s c hs
    rw [List.foldl_cons, List.foldl_cons, h1]
    exact foldl_pre X B (layS T s c) (.inl h2) (.inr h2)
theorem laid_cut {T : Tab} {A B : List Nat} (hc : ∀ c, B.head? = some c → clT T c = 0) : laid T (A ++ B) = laid T A ++ laid T B := by
  cases B with
  | nil => simp [laid, layL, Lay.out]
  | cons c B =>
    have h0 := hc c rfl
    unfold laid layL
    rw [List.foldl_append, List.foldl_cons, List.foldl_cons]
    generalize A.foldl (layS T) ⟨[], none, []⟩ = s
    have e1 : layS T s c = ⟨s.out ++ [], some c, []⟩ := by unfold layS; rw [if_pos h0, List.append_nil]
    have e2 : layS T ⟨[], none, []⟩ c = ⟨[], some c, []⟩ := by unfold layS; rw [if_pos h0]; rfl
    rw [e1, e2]
    have := foldl_pre (T := T) s.out B ⟨[], some c, []⟩ (.inl (by simp)) (.inr (by simp))
    simp only at this
    rw [this]
    simp [Lay.out]
def shutB (T : Tab) (l : Bytes) : Bytes := encs (laid T (openL T (runesB l)))
theorem shut_facts {T : Tab} (h : goodB T = true) (l : Bytes) : openL T (laid T (openL T (runesB l))) = openL T (runesB l) ∧ (∀ x ∈ laid T (openL T (runesB l)), RuneN x) ∧ (laid T (openL T (runesB l))).length ≤ (openL T (runesB l)).length :=
  laid_back h (ord_ordered _) fun x hx => (openL_all h (runesB_rune l) x hx).symm
theorem shutB_runes {T : Tab} (h : goodB T = true) (l : Bytes) : runesB (shutB T l) = laid T (openL T (runesB l)) := runesB_of_encs (shut_facts h l).2.1
theorem open_shut {T : Tab} (h : goodB T = true) (l : Bytes) : openB T (shutB T l) = openB T l := by
  show encs (openL T (runesB (shutB T l))) = _
  rw [shutB_runes h, (shut_facts h l).1]
  rfl
theorem shut_of_open {T : Tab} {l m : Bytes} (h : goodB T = true) (e : openB T l = openB T m) : shutB T l = shutB T m := by
  have : openL T (runesB l) = openL T (runesB m) := by rw [← openB_runes h, ← openB_runes h, e]
  unfold shutB
  rw [this]
theorem shut_shut {T : Tab} (h : goodB T = true) (l : Bytes) : shutB T (shutB T l) = shutB T l := shut_of_open h (open_shut h l)
theorem shut_open {T : Tab} (h : goodB T = true) (l : Bytes) : shutB T (openB T l) = shutB T l := shut_of_open h (openB_idem h l)
theorem shut_valid {T : Tab} (h : goodB T = true) (l : Bytes) : validB (shutB T l) = true := valid_encs (shut_facts h l).2.1
theorem shut_cut {T : Tab} (h : goodB T = true) {A B : List Nat} (hA : ∀ c ∈ A, RuneN c) (hB : ∀ c ∈ B, RuneN c) (hc : ∀ c, B.head? = some c → clT T c ≤ 0) : laid T (openL T (A ++ B)) = laid T (openL T A) ++ laid T (openL T B) := by
  rw [openL_cut h hB hc]
  refine laid_cut fun c hcc => ?_
  cases B with
  | nil => simp [openL, openF, ord_nil] at hcc
  | cons d B =>
    obtain ⟨b, ms, e, q1, _⟩ := opN_facts h (hB d (by simp))
    have hd := hc d rfl
    have hb : clT T b ≤ 0 := by omega
    have he : openL T (d :: B) = b :: ord (clT T) (ms ++ openF T B) := by
      unfold openL openF
      rw [List.flatMap_cons, e, List.cons_append, ord_base0 hb]
    rw [he] at hcc
    injection hcc with hcc
    subst hcc
    have := (class_range h (b : Int)).1
    show classI T (b : Int) = 0
    have hb' : classI T (b : Int) ≤ 0 := hb
    omega
end Go.Proofs.YtfiaggbgplmmeaaGreatDoor.AM
namespace Go.Proofs.YtfiaggbgplmmeaaGreatDoor.AM
open Go
def LF_shut_Shut : LFunc :=
  .mk 2 [.tmp 4] (.seq (R 999 [0, 1] [.set 4 (.cv (.string ⟨#[]⟩))]) (.seq (.seq (R 14 [0, 1, 15] [.tmp 15 (.op (.p (.eqk false .ptr (.s 0) (.s 1))) (.cons (.va 0) (.cv (.pointer
  none))))]) (.cond (.s 15) (.seq (R 999 [4] [.set 4 (.cv (.string ⟨#[]⟩))]) .ret) .skip)) (.seq (R 999 [0, 1, 5] [.set 5 (.cv (.slice none 0 0))]) (.seq (R 999 [0, 1, 5, 6] [.set 6
  (xi (-1))]) (.seq (.seq (R 16 [0, 5, 6, 19] [.tmp 19 (.op (.e (.rngS 19 (.s 0))) (xc2 19 (.va 0) (.va 1)))]) (.block 0 (.loop (.seq (R 20 [0, 5, 6, 19, 20, 21] [.tmp 20
  (.op (.e (.nxtS (.s 0))) (.sl 19)), .tmp 21 (xex 0 (.sl 20))]) (.seq (.cond (.s 21) .skip (.exit 0)) (.block 1 (.seq (R 22 [0, 5, 6, 8, 19] [.set 8 (xex 2 (.sl 20))]) (.seq (R 23
  [0, 5, 6, 8, 9, 19] [.set 9 (xc2 33 (.va 0) (.va 8))]) (.seq (.seq (R 26 [0, 5, 6, 8, 9, 19, 27] [.tmp 27 (xb .eql (.va 9) (xi 0))]) (.cond (.s 27) (.seq (R
  28 [0, 5, 19] [.set 5 (xap 1 4 (.va 5) (.op (.e (.litL 30 1 1 [.int .i32 0] [(0, 1, .s 0)])) (.va 8)))]) (.seq (R 32 [0, 5, 6, 19] [.set 6 (xb .sub (xlen (.va 5)) (xi 1))]) (.exit
  1))) .skip)) (.seq (R 35 [0, 5, 6, 8, 9, 10, 19] [.set 10 (.op (.p (.sl 1 (.s 0) (some (.s 1)) (some (.s 2)) (some (.s 3)))) (.cons (.va 5) (.cons (xb .add (.va 6) (xi 1)) (.cons
  (xlen (.va 5)) (xlen (.va 5))))))]) (.seq (R 43 [0, 5, 6, 8, 11, 19] [.set 11 (.or (xb .lss (.va 6) (xi 0)) (.and (xb .gtr (xlen (.va 10)) (xi 0)) (xb .geq (xc2
  33 (.va 0) (xld (xia 1 (.va 10) (xb .sub (xlen (.va 10)) (xi 1))))) (.va 9))))]) (.seq (.seq (R 62 [0, 5, 6, 8, 19, 63] [.tmp 63 (xu .not (.va 11))]) (.cond
  (.s 63) (.seq (R 65 [0, 5, 6, 8, 12, 13, 19] [.set 64 (xc3 58 (.va 0) (xld (xia 1 (.va 5) (.va 6))) (.va 8)), .tmp 72 (xex 0 (.sl 64)), .tmp 73 (xex 1 (.sl
  64)), .set 12 (.sl 72), .set 13 (.sl 73)]) (.seq (R 74 [0, 5, 6, 8, 12, 19, 74] [.tmp 74 (.va 13)]) (.cond (.s 74) (.seq (R 75 [0, 5, 6, 19] [.tmp 75 (.va 5), .tmp 76 (.va 6),
  .tmp 77 (.va 12), .run (xst 1 (xia 1 (.sl 75) (.sl 76)) (.sl 77))]) (.exit 1)) .skip))) .skip)) (R 79 [0, 5, 6, 19] [.set 5 (xap 1 4 (.va 5) (.op (.e (.litL 81 1 1 [.int .i32 0]
  [(0, 1, .s 0)])) (.va 8)))]))))))))))))) (.seq (R 83 [4] [.set 4 (.op (.r (.r2s (.s 0))) (.va 5))]) .ret))))))
theorem fn_shut_Shut : (autoPrg Tryz.prog).fn 35 = some LF_shut_Shut := by kernel_rfl
def LF_tables_Book_Joined : LFunc :=
  .mk 3 [.tmp 6, .tmp 7] (.seq (R 999 [0, 1, 2] [.set 6 (xr 0), .set 7 (.cv (.bool false))]) (.seq (R 11 [8, 9] [.set 10 (.op (.r (.lookup (.agg [.int, .int]) (.int .i32 0) true (.s
  0) (.s 1))) (.cons (xld (xfa 10 (xnk (.va 0)))) (.op (.p (.build [.int .i32 0, .int .i32 0] [(0, 1, .s 0), (1, 1, .s 1)])) (.cons (.va 1) (.va 2))))), .tmp 19 (xex 0 (.sl 10)),
  .tmp 20 (xex 1 (.sl 10)), .set 8 (.sl 19), .set 9 (.sl 20)]) (.seq (R 21 [6, 7] [.tmp 21 (.va 8), .tmp 22 (.va 9), .set 6 (.sl 21), .set 7 (.sl 22)]) .ret)))
theorem fn_tables_Book_Joined : (autoPrg Tryz.prog).fn 58 = some LF_tables_Book_Joined := by kernel_rfl
def LF_guiselaw10_known : LFunc :=
  .mk 0 [.tmp 0] (.seq (R 999 [] [.set 0 (.cv (.bool false))]) (.seq (R 5 [1, 2] [.set 4 (xc1 12 (xc0 34)), .tmp 7 (xex 0 (.sl 4)), .tmp 8 (xex 1
  (.sl 4)), .tmp 9 (xex 2 (.sl 4)), .set 1 (.sl 7), .set 2 (.sl 8), .set 3 (.sl 9)]) (.seq (.seq (R 10 [1, 11] [.tmp 11 (xu .not (.va 2))]) (.cond (.s 11) (.seq (R 999 [0] [.set 0
  (.cv (.bool false))]) .ret) .skip)) (.seq (R 12 [0] [.set 0 (.and (.and (xb .eql (xc2 35 (.va 1) (.cv (.string ⟨#[101, 204, 130, 204, 129]⟩))) (.cv (.string ⟨#[225,
  186, 191]⟩))) (xb .eql (xc2 35 (.va 1) (.cv (.string ⟨#[101, 204, 129, 204, 163]⟩))) (.cv (.string ⟨#[225, 186, 185, 204, 129]⟩)))) (xb .eql (xc2 35 (.va 1)
  (.cv (.string ⟨#[101, 204, 129, 204, 129]⟩))) (.cv (.string ⟨#[195, 169, 204, 129]⟩))))]) .ret))))
theorem fn_guiselaw10_known : (autoPrg Tryz.prog).fn 37 = some LF_guiselaw10_known := by kernel_rfl
def LF_guiselaw10_house : LFunc :=
  .mk 0 [.cell 0 (some 8)] (.seq (R 0 [0] [.tmp 0 (xnl 0 [.slice none 0 0, .slice none 0 0, .slice none 0 0, .slice none 0 0, .slice none 0 0, .slice none 0 0, .slice none 0 0,
  .slice none 0 0])]) (.seq (R 1 [0] [.run (xst 8 (.sl 0) (xc0 47))]) .ret))
theorem fn_guiselaw10_house : (autoPrg Tryz.prog).fn 34 = some LF_guiselaw10_house := by kernel_rfl
end Go.Proofs.YtfiaggbgplmmeaaGreatDoor.AM
namespace Go.Proofs.YtfiaggbgplmmeaaGreatDoor.AM
open Go
theorem bookJoined_eq {h : AH} {k B : Nat} {s6 : Sl} {T : Tab} (bk : BkAt h k B s6 T) (b m : Int) : callO PX 58 [.pointer (some ⟨k, 0, none⟩), .int .i32 b, .int .i32 m] h = some (.tuple (List.toArray [.int .i32 ((joinO T b m).getD 0), .bool (joinO T b m).isSome]), h) := by
  obtain ⟨x0, x1, x2, x3, x4, x5, x7, hb⟩ := bk.b
  have m2 := m_join bk.mp b m
  generalize (joinO T b m).getD 0 = x at m2 ⊢
  generalize (joinO T b m).isSome = y at m2 ⊢
  apply WpC.eqn
  refine wpc_fn (px_ext rfl) (px_fn fn_tables_Book_Joined) rfl ?_
  unfold LF_tables_Book_Joined
  simp only [argFr]
  (refine W_x (Aj hb m2) ?_; (repeat' first | apply Cj.mk | exact Nl.nl) <;> intros)
  exact ⟨rfl, rfl⟩
theorem sl3_drop {s : Sl} {i j m : Int} (h0 : 0 ≤ i) (h1 : i ≤ s.len) (h2 : j = s.len) (h3 : m = s.len) : sl3 1 (s.val 1) (.int .i64 i) (.int .i64 j) (.int .i64 m) = some ((s.drop 1 i.toNat).val 1) := by
  subst h2 h3
  cases s with
  | nil =>
    have : i = 0 := by simp [Sl.len] at h1; omega
    subst this
    rfl
  | «at» b o n =>
    simp only [Sl.len] at h1
    have := sl3_val (bk := b) (o := o) (n := n) (i := i) (j := n) (m := n) h0 h1 (by omega) (by omega)
    show sl3 1 ((Sl.at b o n).val 1) _ (.int .i64 (n : Int)) (.int .i64 (n : Int)) = _
    rw [this]
    simp only [Sl.drop, Nat.mul_one]
    congr 3
    omega
theorem drop_len {s : Sl} {e i : Nat} : (s.drop e i).len = s.len - i := by cases s <;> simp [Sl.drop, Sl.len]
def seatI (s : Lay) : Int := match s.seat with
  | some _ => s.pre.length
  | none => -1
theorem layL_snoc {T : Tab} {P : List Nat} {i : Nat} (hi : i < P.length) : layL T (P.take (i + 1)) = layS T (layL T (P.take i)) P[i] := by
  unfold layL
  rw [take_snoc hi, List.foldl_append]
  rfl
set_option maxHeartbeats 1000000 in
theorem shutShut_spec {h : AH} {k B : Nat} {s6 : Sl} {T : Tab} (gd : goodB T = true) (bk : BkAt h k B s6 T) (s : ByteArray) (hs : s.size ≤ 1048576) : WpC PX 35 [.pointer (some ⟨k, 0, none⟩), .string s] h fun v h' => v = .string (bs (shutB T s.data.toList)) ∧ Kp h h' := by
  have hz : s.data.toList.length = s.size := rfl
  have hn := spots_len s.data.toList
  have hrl := runesB_len s.data.toList
  have hrr := runesB_rune s.data.toList
  obtain ⟨_, g1, e1, rfl, k1⟩ := openOpen_spec gd bk s hs
  have hor := openB_runes gd s.data.toList
  have hol := openF_len gd hrr
  have hF := (shut_facts gd s.data.toList).2.1
  have hPr := openL_all gd hrr
  have hlay : ∀ i, LayOk T ((openL T (runesB s.data.toList)).take i) (layL T ((openL T (runesB s.data.toList)).take i)) := fun i => lay_ok gd (ordered_init (Q := (openL T (runesB s.data.toList)).drop i) (by rw [List.take_append_drop]; exact ord_ordered _)) fun x hx => (hPr x (List.mem_of_mem_take hx)).symm
  have hP : (openL T (runesB s.data.toList)).length ≤ 6291456 := by unfold openL; rw [ord_length]; omega
  unfold shutB laid at *
  generalize hO : bs (openB T s.data.toList) = O at e1
  have hOl : O.data.toList = openB T s.data.toList := by rw [← hO, bs_l]
  rw [← hOl] at hor
  generalize openL T (runesB s.data.toList) = P at *
  have hsp : (spots O.data.toList).length = P.length := by rw [← runesB_len, hor]
  have bk1 := bk.kp k1
  refine wpc_fn (px_ext rfl) (px_fn fn_shut_Shut) rfl ?_
  unfold LF_shut_Shut
  simp only [argFr]
  (refine W_x (Aj e1 @ev_rngS) ?_; (repeat' first | apply Cj.mk | exact Nl.nl) <;> intros)
  refine wp_spotsS (fun i sl => [(0, .pointer (some ⟨k, 0, none⟩)), (5, sl.val 1), (6, .int .i64 (seatI (layL T (P.take i)))), (19, .pointer (some ⟨38, 0, some 1⟩))]) (fun n _ => [(38, .siter O n)]) O O.data.toList (fun i sl h' => FOwn g1 h' 1 sl ((layL T (P.take i)).out.map rnV)) (fun _ _ => (none : Option Unit)) Sl.nil rfl (by repeat' first | exact True.intro | refine And.intro rfl ?_) (fun _ _ => rfl) rfl (FOwn.nil (Kp.refl g1))
    (fun i hi sl h1 fo hit => ?_) fun sl h1 fo fin => ?_
  · (refine W_x trivial ?_; (repeat' first | apply Cj.mk | exact Nl.nl) <;> intros)
    refine wo_next rfl rfl hi ?_
    have hi2 : i < P.length := by omega
    have hx : ((spots O.data.toList)[i]).1 = P[i] := by
      have := runesB_get hi
      rw [← this]
      simp only [hor]
    rw [hx]
    have hsn := layL_snoc (T := T) hi2
    have hrc := (hPr _ (List.getElem_mem hi2)).1
    have ok := hlay i
    have hlen := ok.len
    rw [List.length_take] at hlen
    generalize P[i] = c at hsn hrc ⊢
    generalize layL T (P.take i) = st at hsn ok fo hlen ⊢
    rw [hsn]
    have sll := fo.own.1
    rw [List.length_map] at sll
    have ec := class_eq (bk1.kp fo.kp)
    have e2 := ec (c : Nat)
    rw [show classI T (c : Nat) = clT T c from rfl] at e2
    have hcn : 0 ≤ clT T c := (class_range gd _).1
    by_cases h0 : clT T c = 0
    · have hst : layS T st c = ⟨st.out, some c, []⟩ := by unfold layS; rw [if_pos h0]
      rw [hst]
      (refine W_x e2 ?_; (repeat' first | apply Cj.mk | exact Nl.nl) <;> intros)
      refine wo_app1 (cs := rnV c) fo rfl rfl (by decide) (by decide) (by rw [List.length_map]; omega) fun s2 h2 f2 => ?_
      have s2l := f2.own.1
      rw [List.length_append, List.length_map, List.length_singleton] at s2l
      (refine W_x s2l ?_; (repeat' first | apply Cj.mk | exact Nl.nl) <;> intros)
      rw [show ((st.out.length : Int) + 1 - 1) = seatI ⟨st.out, some c, []⟩ from by simp only [seatI]; omega]
      exact ⟨rfl, s2, (by repeat' first | exact True.intro | refine And.intro rfl ?_), rfl, by simpa [Lay.out] using f2⟩
    · have hc0 : 0 < clT T c := by omega
      have happ : ∀ (s2 : Sl) (h2 : AH), FOwn g1 h2 1 s2 (st.out.map rnV ++ [rnV c]) → FOwn g1 h2 1 s2 ((Lay.out ⟨st.pre, st.seat, st.beh ++ [c]⟩).map rnV) := fun s2 h2 f => by
        have : Lay.out ⟨st.pre, st.seat, st.beh ++ [c]⟩ = st.out ++ [c] := by simp [Lay.out]
        rw [this, List.map_append]
        exact f
      cases hseat : st.seat with
      | none =>
        have hsI : seatI st = -1 := by unfold seatI; rw [hseat]
        have hst : layS T st c = ⟨st.pre, st.seat, st.beh ++ [c]⟩ := by unfold layS; rw [if_neg h0, hseat]
        have hsI2 : seatI ⟨st.pre, st.seat, st.beh ++ [c]⟩ = -1 := by unfold seatI; simp only [hseat]
        have e3 := sl3_drop (s := sl) (i := 0) (j := st.out.length) (m := st.out.length) (by omega) (by omega) (by omega) (by omega)
        have hm1 : (-1 + 1 : Int) = 0 := rfl
        rw [hst, hsI, hsI2]
        (refine W_x (Aj e2 (Aj sll e3)) ?_; (repeat' first | apply Cj.mk | exact Nl.nl) <;> intros)
        refine wo_app1 (cs := rnV c) fo rfl rfl (by decide) (by decide) (by rw [List.length_map]; omega) fun s2 h2 f2 => ?_
        (refine W_x trivial ?_; (repeat' first | apply Cj.mk | exact Nl.nl) <;> intros)
        exact ⟨rfl, s2, (by repeat' first | exact True.intro | refine And.intro rfl ?_), rfl, happ _ _ f2⟩
      | some b =>
        have hsI : seatI st = st.pre.length := by unfold seatI; rw [hseat]
        have hout : st.out = st.pre ++ b :: st.beh := by simp [Lay.out, hseat]
        have hol2 : st.out.length = st.pre.length + 1 + st.beh.length := by rw [hout]; simp; omega
        have e3 := sl3_drop (s := sl) (i := (st.pre.length : Int) + 1) (j := st.out.length) (m := st.out.length) (by omega) (by omega) (by omega) (by omega)
        have hti : ((st.pre.length : Int) + 1).toNat = st.pre.length + 1 := by omega
        rw [hti] at e3
        have hdl : (sl.drop 1 (st.pre.length + 1)).len = st.beh.length := by rw [drop_len]; omega
        have rdd := fo.reads.drop (k := st.pre.length + 1) (by rw [List.length_map]; omega)
        have hdr : (st.out.map rnV).drop (st.pre.length + 1) = st.beh.map rnV := by rw [hout, ← List.map_drop]; simp
        rw [hdr] at rdd
        have hi3 : st.pre.length < st.out.length := by omega
        have gb := fun lc => rd_map (lc := lc) fo.reads hi3
        have hgb : st.out[st.pre.length] = b := by simp [hout]
        rw [hgb] at gb
        have hrb : RuneN b := ok.run b (by rw [hout]; simp)
        have ej := bookJoined_eq (bk1.kp fo.kp) (b : Nat) (c : Nat)
        have hplain : layS T st c = ⟨st.pre, st.seat, st.beh ++ [c]⟩ → seatI (layS T st c) = st.pre.length := fun e => by rw [e]; unfold seatI; simp only [hseat]
        have hbl : (st.beh = [] ∧ ¬ blocks T st.beh c) ∨ ∃ z, (∀ lc, Mem.rd ⟨lc, h1⟩ ((sl.drop 1 (st.pre.length + 1)).adr 1 (st.beh.length - 1)) 1 = some (rnV z)) ∧ 0 < st.beh.length ∧ (blocks T st.beh c ↔ clT T c ≤ clT T z) := by
          rcases Nat.eq_zero_or_pos st.beh.length with hz0 | hz0
          · have : st.beh = [] := List.eq_nil_of_length_eq_zero hz0
            exact .inl ⟨this, by rw [this]; simp [blocks]⟩
          · have hlt : st.beh.length - 1 < st.beh.length := by omega
            refine .inr ⟨st.beh[st.beh.length - 1], fun lc => rd_map (lc := lc) rdd hlt, hz0, ?_⟩
            have hgl : st.beh.getLast? = some st.beh[st.beh.length - 1] := by rw [List.getLast?_eq_getElem?, List.getElem?_eq_getElem hlt]
            unfold blocks
            rw [hgl]
            simp
        unfold rnV at gb
        by_cases hB : blocks T st.beh c
        · have hst : layS T st c = ⟨st.pre, st.seat, st.beh ++ [c]⟩ := by unfold layS; rw [if_neg h0, hseat]; simp only; rw [if_pos hB]
          have hs2 := hplain hst
          rcases hbl with ⟨_, q⟩ | ⟨z, q1, q2, q3⟩
          · exact absurd hB q
          · have q4 := q3.1 hB
            have e5 := ec (z : Nat)
            rw [show classI T (z : Nat) = clT T z from rfl] at e5
            unfold rnV at q1
            have hx1 : ((st.beh.length : Int) - 1).toNat = st.beh.length - 1 := by omega
            rw [hs2, hst, hsI]
            (refine W_x (Aj e2 (Aj sll (Aj e3 (Aj hdl (Aj hx1 (Aj q1 e5)))))) ?_; (repeat' first | apply Cj.mk | exact Nl.nl) <;> intros)
            refine wo_app1 (cs := rnV c) fo rfl rfl (by decide) (by decide) (by rw [List.length_map]; omega) fun s2 h2 f2 => ?_
            (refine W_x trivial ?_; (repeat' first | apply Cj.mk | exact Nl.nl) <;> intros)
            exact ⟨rfl, s2, (by repeat' first | exact True.intro | refine And.intro rfl ?_), rfl, happ _ _ f2⟩
        · cases hj : joinO T b c with
          | none =>
            have hst : layS T st c = ⟨st.pre, st.seat, st.beh ++ [c]⟩ := by
              unfold layS; rw [if_neg h0, hseat]; simp only; rw [if_neg hB]
              unfold joinN; rw [hj]; rfl
            have hs2 := hplain hst
            rw [hj] at ej
            simp only [Option.getD_none, Option.isSome_none] at ej
            rw [hs2, hst, hsI]
            rcases hbl with ⟨q, _⟩ | ⟨z, q1, q2, q3⟩
            · rw [q, List.length_nil] at hdl
              (refine W_x (Aj e2 (Aj sll (Aj e3 (Aj hdl (Aj gb ej))))) ?_; (repeat' first | apply Cj.mk | exact Nl.nl) <;> intros)
              refine wo_app1 (cs := rnV c) fo rfl rfl (by decide) (by decide) (by rw [List.length_map]; omega) fun s2 h2 f2 => ?_
              (refine W_x trivial ?_; (repeat' first | apply Cj.mk | exact Nl.nl) <;> intros)
              exact ⟨rfl, s2, (by repeat' first | exact True.intro | refine And.intro rfl ?_), rfl, happ _ _ f2⟩
            · have q4 : ¬ clT T c ≤ clT T z := fun q => hB (q3.2 q)
              have e5 := ec (z : Nat)
              rw [show classI T (z : Nat) = clT T z from rfl] at e5
              unfold rnV at q1
              have hx1 : ((st.beh.length : Int) - 1).toNat = st.beh.length - 1 := by omega
              (refine W_x (Aj e2 (Aj sll (Aj e3 (Aj hdl (Aj hx1 (Aj q1 (Aj e5 (Aj gb ej)))))))) ?_; (repeat' first | apply Cj.mk | exact Nl.nl) <;> intros)
              refine wo_app1 (cs := rnV c) fo rfl rfl (by decide) (by decide) (by rw [List.length_map]; omega) fun s2 h2 f2 => ?_
              (refine W_x trivial ?_; (repeat' first | apply Cj.mk | exact Nl.nl) <;> intros)
              exact ⟨rfl, s2, (by repeat' first | exact True.intro | refine And.intro rfl ?_), rfl, happ _ _ f2⟩
          | some w =>
            have hw0 := (rune_iff.1 (good_pairs gd _ (join_mem hj)).2.2.2.1).1
            simp only at hw0
            have hwn : ((w.toNat : Nat) : Int) = w := by omega
            have hst : layS T st c = ⟨st.pre, some w.toNat, st.beh⟩ := by
              unfold layS; rw [if_neg h0, hseat]; simp only; rw [if_neg hB]
              unfold joinN; rw [hj]; rfl
            have hs2 : seatI ⟨st.pre, some w.toNat, st.beh⟩ = st.pre.length := rfl
            rw [hj] at ej
            simp only [Option.getD_some, Option.isSome_some] at ej
            rw [hst, hs2, hsI]
            obtain ⟨h2, hw1, f2⟩ := fo.set (i := st.pre.length) (by rw [List.length_map]; exact hi3) (vs := rnV w.toNat) rfl
            have hset : (st.out.map rnV).set st.pre.length (rnV w.toNat) = (Lay.out ⟨st.pre, some w.toNat, st.beh⟩).map rnV := by
              rw [← List.map_set, hout]
              simp [Lay.out]
            rw [hset] at f2
            unfold rnV at hw1
            rw [hwn] at hw1
            rcases hbl with ⟨q, _⟩ | ⟨z, q1, q2, q3⟩
            · rw [q, List.length_nil] at hdl
              (refine W_x (Aj e2 (Aj sll (Aj e3 (Aj hdl (Aj gb (Aj ej hw1)))))) ?_; (repeat' first | apply Cj.mk | exact Nl.nl) <;> intros)
              exact ⟨rfl, sl, (by repeat' first | exact True.intro | refine And.intro rfl ?_), rfl, f2⟩
            · have q4 : ¬ clT T c ≤ clT T z := fun q => hB (q3.2 q)
              have e5 := ec (z : Nat)
              rw [show classI T (z : Nat) = clT T z from rfl] at e5
              unfold rnV at q1
              have hx1 : ((st.beh.length : Int) - 1).toNat = st.beh.length - 1 := by omega
              (refine W_x (Aj e2 (Aj sll (Aj e3 (Aj hdl (Aj hx1 (Aj q1 (Aj e5 (Aj gb (Aj ej hw1))))))))) ?_; (repeat' first | apply Cj.mk | exact Nl.nl) <;> intros)
              exact ⟨rfl, sl, (by repeat' first | exact True.intro | refine And.intro rfl ?_), rfl, f2⟩
  · (refine W_x trivial ?_; (repeat' first | apply Cj.mk | exact Nl.nl) <;> intros)
    refine wo_nextE rfl rfl ?_
    rw [hsp, List.take_length] at fo
    have hg := fun lc => r2s_own (lc := lc) fo.own hF
    (refine W_x hg ?_; (repeat' first | apply Cj.mk | exact Nl.nl) <;> intros)
    exact ⟨rfl, k1.trans fo.kp⟩
end Go.Proofs.YtfiaggbgplmmeaaGreatDoor.AM
namespace Go.Proofs.YtfiaggbgplmmeaaGreatDoor.AM
open Go
def LF_shut_First : LFunc :=
  .mk 2 [.cell 4 (some 2), .tmp 5] (.seq (R 4 [0, 1, 4] [.tmp 4 (xnl 4 [.int .i64 0, .int .i64 0]), .set 5 (.cv (.bool false))]) (.seq (.seq (R 6 [0, 1, 4, 7] [.tmp 7 (.op (.p (.eqk
  false .ptr (.s 0) (.s 1))) (.cons (.va 0) (.cv (.pointer none))))]) (.cond (.s 7) (.seq (R 8 [4, 5] [.run (xst 2 (.sl 4) (.op (.p (.build [.int .i64 0, .int .i64 0] [])) .nil)),
  .set 5 (.cv (.bool false))]) .ret) .skip)) (.seq (R 9 [4, 5] [.tmp 13 (xc2 59 (.va 1) (xc2 35 (.va 0) (.va 1))), .tmp 14 (xex 0 (.sl 13)), .tmp 15 (xex 1
  (.sl 13)), .run (xst 2 (.sl 4) (.sl 14)), .set 5 (.sl 15)]) .ret)))
theorem fn_shut_First : (autoPrg Tryz.prog).fn 36 = some LF_shut_First := by kernel_rfl
def LF_shut_unlike : LFunc :=
  .mk 2 [.cell 4 (some 2), .cell 5 none] (.seq (R 2 [2, 3, 4, 5] [.tmp 2 (xbh 1 (.sl 0)), .tmp 3 (xbh 1 (.sl 1)), .tmp 4 (xnh [.int .i64 0, .int .i64 0]), .tmp 5 (xnh [.bool
  false])]) (.seq (R 6 [2, 3, 4, 5, 6] [.tmp 6 (xnh [.int .i64 0]), .run (xst 1 (.sl 6) (xi 0))]) (.seq (.seq (R 10 [2, 3, 4, 5, 6, 11] [.tmp 11 (xc1 49 (xld (.sl 2)))])
  (.block 0 (.rangeF (.s 11) [12, 13] (.seq (R 7 [2, 3, 4, 5, 6, 7, 13] [.tmp 7 (.va 12)]) (R 8 [2, 3, 4, 5, 6, 7, 8] [.tmp 8 (xnl 8 [.int .i32 0, .int .i64 0, .bool false]), .run
  (xst 3 (.sl 8) (.sl 13))])) (.block 1 (.seq (R 14 [2, 3, 4, 5, 6, 7, 8, 9] [.set 9 (xb .add (.va 7) (xld (xfa 1 (.sl 8))))]) (.seq (.seq (R 18 [4, 5, 6, 7, 36] [.tmp 36 (.or (.or
  (xld (xfa 2 (.sl 8))) (xb .gtr (.va 9) (xsl (xld (.sl 3))))) (xb .neq (.op (.p (.slS (.s 0) (some (.s 1)) (some (.s 2)))) (.cons (xld (.sl 2)) (.cons (.va 7) (.va 9)))) (.op (.p
  (.slS (.s 0) (some (.s 1)) (some (.s 2)))) (.cons (xld (.sl 3)) (.cons (.va 7) (.va 9))))))]) (.cond (.s 36) (.seq (R 37 [] [.run (xst 2 (.sl 4) (.op (.p (.build [.int .i64 0,
  .int .i64 0] [(0, 1, .s 0), (1, 1, .s 1)])) (.cons (.va 7) (xld (.sl 6))))), .run (xst 1 (.sl 5) (.cv (.bool true)))]) .ret) .skip)) (R 40 [] [.run (xst 1 (.sl 6) (xb .add (xld
  (.sl 6)) (xi 1)))]))))))) (.seq (R 42 [4, 5] [.run (xst 2 (.sl 4) (.op (.p (.build [.int .i64 0, .int .i64 0] [])) .nil)), .run (xst 1 (.sl 5) (.cv (.bool false)))]) .ret))))
theorem fn_shut_unlike : (autoPrg Tryz.prog).fn 59 = some LF_shut_unlike := by kernel_rfl
def LF_guiseref10_Laid : LFunc :=
  .mk 2 [.tmp 4] (.seq (R 2 [1, 2] [.tmp 2 (xbl 2 8 (.sl 0)), .set 4 (.cv (.slice none 0 0))]) (.seq (R 14 [2, 5] [.set 5 (xc2 24 (xln 8 (.sl 2)) (.va 1))]) (.seq (R
  999 [2, 5, 6] [.set 6 (.cv (.slice none 0 0))]) (.seq (R 999 [2, 5, 6, 7] [.set 7 (xi (-1))]) (.seq (.seq (R 999 [2, 5, 6, 7, 8] [.set 8 (xi 0)]) (.block 0 (.loop (.seq (.seq (R
  17 [2, 5, 6, 7, 8, 20] [.tmp 20 (xb .lss (.va 8) (xlen (.va 5)))]) (.cond (.s 20) .skip (.exit 0))) (.seq (.block 1 (.seq (R 23 [2, 5, 6, 7, 8, 9] [.set 9 (xc2 50
  (xln 8 (.sl 2)) (xld (xia 1 (.va 5) (.va 8))))]) (.seq (.seq (R 29 [2, 5, 6, 7, 8, 9, 30] [.tmp 30 (xb .eql (.va 9) (xi 0))]) (.cond (.s 30) (.seq (R 31 [2, 5, 6, 7, 8] [.set 7
  (xlen (.va 6))]) (.seq (R 33 [2, 5, 6, 7, 8] [.set 6 (xap 1 4 (.va 6) (.op (.e (.litL 38 1 1 [.int .i32 0] [(0, 1, .s 0)])) (xld (xia 1 (.va 5) (.va 8)))))]) (.exit 1))) .skip))
  (.seq (R 40 [2, 5, 6, 7, 8, 9, 10] [.set 10 (xb .lss (.va 7) (xi 0))]) (.seq (.seq (R 42 [2, 5, 6, 7, 8, 10, 58] [.tmp 58 (.and (xb .gtr (xb .sub (xlen (.va 6)) (xi 1)) (.va 7))
  (xb .geq (xc2 50 (xln 8 (.sl 2)) (xld (xia 1 (.va 6) (xb .sub (xlen (.va 6)) (xi 1))))) (.va 9)))]) (.cond (.s 58) (R 999 [2, 5, 6, 7, 8, 10] [.set 10 (.cv (.bool
  true))]) .skip)) (.seq (R 999 [2, 5, 6, 7, 8, 10, 11] [.set 11 (.cv (.bool false))]) (.seq (.seq (R 59 [2, 5, 6, 7, 8, 11, 60] [.tmp 60 (xu .not (.va 10))]) (.cond (.s 60) (.seq
  (R 62 [2, 5, 6, 7, 8, 11, 12, 13] [.set 61 (xc3 87 (xln 8 (.sl 2)) (xld (xia 1 (.va 6) (.va 7))) (xld (xia 1 (.va 5) (.va 8)))), .tmp 72 (xex 0 (.sl 61)), .tmp
  73 (xex 1 (.sl 61)), .set 12 (.sl 72), .set 13 (.sl 73)]) (.seq (R 74 [2, 5, 6, 7, 8, 11, 12, 74] [.tmp 74 (.va 13)]) (.cond (.s 74) (.seq (R 75 [2, 5, 6, 7, 8] [.tmp 75 (.va 6),
  .tmp 76 (.va 7), .tmp 77 (.va 12), .run (xst 1 (xia 1 (.sl 75) (.sl 76)) (.sl 77))]) (R 999 [2, 5, 6, 7, 8, 11] [.set 11 (.cv (.bool true))])) .skip))) .skip)) (.seq (R 79 [2, 5,
  6, 7, 8, 80] [.tmp 80 (xu .not (.va 11))]) (.cond (.s 80) (R 81 [2, 5, 6, 7, 8] [.set 6 (xap 1 4 (.va 6) (.op (.e (.litL 86 1 1 [.int .i32 0] [(0, 1, .s 0)])) (xld (xia 1 (.va 5)
  (.va 8)))))]) .skip))))))))) (R 21 [2, 5, 6, 7, 8] [.set 8 (xb .add (.va 8) (xi 1))])))))) (.seq (R 88 [4] [.set 4 (.va 6)]) .ret))))))
theorem fn_guiseref10_Laid : (autoPrg Tryz.prog).fn 61 = some LF_guiseref10_Laid := by kernel_rfl
def LF_guiseref10_Shut : LFunc :=
  .mk 2 [.tmp 4] (.seq (R 2 [1, 2] [.tmp 2 (xbl 2 8 (.sl 0)), .set 4 (.cv (.string ⟨#[]⟩))]) (.seq (R 5 [4] [.set 4 (xc1 25 (xc2 61 (xln 8 (.sl 2))
  (.va 1)))]) .ret))
theorem fn_guiseref10_Shut : (autoPrg Tryz.prog).fn 40 = some LF_guiseref10_Shut := by kernel_rfl
def LF_guiseref10_Unlike : LFunc :=
  .mk 2 [.cell 4 (some 2), .tmp 5] (.seq (R 4 [0, 1, 4] [.tmp 4 (xnl 4 [.int .i64 0, .int .i64 0]), .set 5 (.cv (.bool false))]) (.seq (R 999 [0, 1, 4, 6] [.set 6 (xi 0)]) (.seq
  (.seq (R 10 [0, 1, 4, 6, 11] [.tmp 11 (.op (.e (.rngS 11 (.s 0))) (.va 0))]) (.block 0 (.loop (.seq (R 12 [0, 1, 4, 6, 11, 12, 13] [.tmp 12 (.op (.e (.nxtS (.s 0))) (.sl 11)),
  .tmp 13 (xex 0 (.sl 12))]) (.seq (.cond (.s 13) .skip (.exit 0)) (.block 1 (.seq (R 14 [0, 1, 4, 6, 7, 8, 11] [.tmp 14 (xex 1 (.sl 12)), .tmp 15 (xex 2 (.sl 12)), .set 7 (.sl 14),
  .set 8 (.sl 15)]) (.seq (.seq (R 16 [0, 1, 4, 6, 7, 8, 11, 18] [.tmp 18 (xc2 52 (.va 0) (.va 7))]) (.cond (.s 18) (.seq (R 19 [4, 5] [.run (xst 2 (.sl 4) (.op (.p
  (.build [.int .i64 0, .int .i64 0] [(0, 1, .s 0), (1, 1, .s 1)])) (.cons (.va 7) (.va 6)))), .set 5 (.cv (.bool true))]) .ret) .skip)) (.seq (R 22 [0, 1, 4, 6, 7, 9, 11] [.set 9
  (xsl (.op (.p (.i2s (.s 0))) (.va 8)))]) (.seq (.seq (R 25 [0, 1, 4, 6, 7, 11, 45] [.tmp 45 (.or (xb .lss (xsl (.va 1)) (xb .add (.va 7) (.va 9))) (xb .neq (.op (.p (.slS (.s 0)
  (some (.s 1)) (some (.s 2)))) (.cons (.va 1) (.cons (.va 7) (xb .add (.va 7) (.va 9))))) (.op (.p (.slS (.s 0) (some (.s 1)) (some (.s 2)))) (.cons (.va 0) (.cons (.va 7) (xb .add
  (.va 7) (.va 9)))))))]) (.cond (.s 45) (.seq (R 46 [4, 5] [.run (xst 2 (.sl 4) (.op (.p (.build [.int .i64 0, .int .i64 0] [(0, 1, .s 0), (1, 1, .s 1)])) (.cons (.va 7) (.va
  6)))), .set 5 (.cv (.bool true))]) .ret) .skip)) (R 49 [0, 1, 4, 6, 11] [.set 6 (xb .add (.va 6) (xi 1))]))))))))))) (.seq (R 51 [4, 5] [.run (xst 2 (.sl 4) (.op (.p (.build [.int
  .i64 0, .int .i64 0] [])) .nil)), .set 5 (.cv (.bool false))]) .ret))))
theorem fn_guiseref10_Unlike : (autoPrg Tryz.prog).fn 60 = some LF_guiseref10_Unlike := by kernel_rfl
def LF_guiseref10_First : LFunc :=
  .mk 2 [.cell 4 (some 2), .tmp 5] (.seq (R 2 [1, 2, 4] [.tmp 2 (xbl 2 8 (.sl 0)), .at 4, .tmp 4 (xnl 4 [.int .i64 0, .int .i64 0]), .set 5 (.cv (.bool false))]) (.seq (R 6 [4, 5]
  [.tmp 10 (xc2 60 (.va 1) (xc2 40 (xln 8 (.sl 2)) (.va 1))), .tmp 11 (xex 0 (.sl 10)), .tmp 12 (xex 1 (.sl 10)), .run (xst 2 (.sl 4) (.sl 11)),
  .set 5 (.sl 12)]) .ret))
theorem fn_guiseref10_First : (autoPrg Tryz.prog).fn 39 = some LF_guiseref10_First := by kernel_rfl
def LF_guiseref6_Joined : LFunc :=
  .mk 3 [.tmp 6, .tmp 7] (.seq (R 3 [1, 2, 3] [.tmp 3 (xbl 3 8 (.sl 0)), .set 6 (xr 0), .set 7 (.cv (.bool false))]) (.seq (.seq (R 999 [1, 2, 3, 8] [.set 8 (xi 0)]) (.block 0
  (.loop (.seq (.seq (R 9 [1, 2, 3, 8, 13] [.tmp 13 (xb .lss (.va 8) (xlen (xld (xfa 3 (.sl 3)))))]) (.cond (.s 13) .skip (.exit 0))) (.seq (.block 1 (.seq (R 16 [1, 2, 3, 8, 33]
  [.tmp 33 (.and (xb .eql (xld (xfa 1 (xia 3 (xld (xfa 3 (.sl 3))) (.va 8)))) (.va 1)) (xb .eql (xld (xfa 2 (xia 3 (xld (xfa 3 (.sl 3))) (.va 8)))) (.va 2)))]) (.cond (.s 33) (.seq
  (R 34 [6, 7] [.set 6 (xld (xfa 0 (xia 3 (xld (xfa 3 (.sl 3))) (.va 8)))), .set 7 (.cv (.bool true))]) .ret) .skip))) (R 14 [1, 2, 3, 8] [.set 8 (xb .add (.va 8) (xi 1))]))))))
  (.seq (R 999 [6, 7] [.set 6 (xr 0), .set 7 (.cv (.bool false))]) .ret)))
theorem fn_guiseref6_Joined : (autoPrg Tryz.prog).fn 87 = some LF_guiseref6_Joined := by kernel_rfl
end Go.Proofs.YtfiaggbgplmmeaaGreatDoor.AM
namespace Go.Proofs.YtfiaggbgplmmeaaGreatDoor.AM
open Go
def bdU (s t : ByteArray) (p : Nat) (x : Nat × Nat) : Prop := badP x ∨ t.size < p + x.2 ∨ s.extract p (p + x.2) ≠ t.extract p (p + x.2)
instance (s t : ByteArray) (p : Nat) (x : Nat × Nat) : Decidable (bdU s t p x) := by unfold bdU; infer_instance
def unlikeO (s t : ByteArray) : Option (Nat × Nat) := scanL (spots s.data.toList) fun i x => if bdU s t (posn s.data.toList i) x then some (posn s.data.toList i, i) else none
theorem unlike_spec {h : AH} (s t : ByteArray) (hs : s.size ≤ 1048576) (ht : t.size ≤ 100000000) : WpC PX 59 [.string s, .string t] h fun v h' => v = plV (unlikeO s t) ∧ Kp h h' := by
  have hz : s.data.toList.length = s.size := rfl
  have hn := spots_len s.data.toList
  have e1 := fun h => spotsMk_eq s h
  refine wpc_fn (px_ext rfl) (px_fn fn_shut_unlike) rfl ?_
  unfold LF_shut_unlike
  simp only [argFr]
  (refine W_x e1 ?_; (repeat' first | apply Cj.mk | exact Nl.nl) <;> intros)
  generalize hH0 : ((((((h.push (.cells false [.string s])).push (.cells false [.string t])).push (.cells false [.int .i64 0, .int .i64 0])).push (.cells false [.bool false])).push (.cells false [.int .i64 0])).set (h.n + 1 + 1 + 1 + 1) (.cells false [.int .i64 0])).push (.cells false [.string s]) = H0
  simp only [Nat.add_assoc, Nat.reduceAdd] at hH0 ⊢
  have n0 : H0.n = h.n + 6 := by rw [← hH0]; simp only [AH.push_n, AH.set_n]
  have a0 : H0.get h.n = some (.cells false [.string s]) := by rw [← hH0]; simp (disch := first | omega | (simp only [AH.nn_push, AH.nn_set, AH.nn_kill]; omega) | (simp only [AH.nn_push, AH.nn_set, AH.nn_kill]; done) | fail) only [AH.get_push_eq, AH.get_push_ne, AH.get_set_eq, AH.get_set_ne]
  have a1 : H0.get (h.n + 1) = some (.cells false [.string t]) := by rw [← hH0]; simp (disch := first | omega | (simp only [AH.nn_push, AH.nn_set, AH.nn_kill]; omega) | (simp only [AH.nn_push, AH.nn_set, AH.nn_kill]; done) | fail) only [AH.get_push_eq, AH.get_push_ne, AH.get_set_eq, AH.get_set_ne]
  have a2 : H0.get (h.n + 2) = some (.cells false [.int .i64 0, .int .i64 0]) := by rw [← hH0]; simp (disch := first | omega | (simp only [AH.nn_push, AH.nn_set, AH.nn_kill]; omega) | (simp only [AH.nn_push, AH.nn_set, AH.nn_kill]; done) | fail) only [AH.get_push_eq, AH.get_push_ne, AH.get_set_eq, AH.get_set_ne]
  have a3 : H0.get (h.n + 3) = some (.cells false [.bool false]) := by rw [← hH0]; simp (disch := first | omega | (simp only [AH.nn_push, AH.nn_set, AH.nn_kill]; omega) | (simp only [AH.nn_push, AH.nn_set, AH.nn_kill]; done) | fail) only [AH.get_push_eq, AH.get_push_ne, AH.get_set_eq, AH.get_set_ne]
  have a4 : H0.get (h.n + 4) = some (.cells false [.int .i64 0]) := by rw [← hH0]; simp (disch := first | omega | (simp only [AH.nn_push, AH.nn_set, AH.nn_kill]; omega) | (simp only [AH.nn_push, AH.nn_set, AH.nn_kill]; done) | fail) only [AH.get_push_eq, AH.get_push_ne, AH.get_set_eq, AH.get_set_ne]
  have a5 : H0.get (h.n + 5) = some (.cells false [.string s]) := by rw [← hH0]; simp (disch := first | omega | (simp only [AH.nn_push, AH.nn_set, AH.nn_kill]; omega) | (simp only [AH.nn_push, AH.nn_set, AH.nn_kill]; done) | fail) only [AH.get_push_eq, AH.get_push_ne, AH.get_set_eq, AH.get_set_ne]
  have ak : ∀ b, b < h.n → H0.get b = h.get b := fun b hb => by rw [← hH0]; simp (disch := first | omega | (simp only [AH.nn_push, AH.nn_set, AH.nn_kill]; omega) | (simp only [AH.nn_push, AH.nn_set, AH.nn_kill]; done) | fail) only [AH.get_push_eq, AH.get_push_ne, AH.get_set_eq, AH.get_set_ne]
  clear hH0
  refine wp_rangeP (xs := spotsL s.data.toList) (enc := spotE) (D := fun h1 => h1.get (h.n + 5) = some (.cells false [.string s])) rfl (spots_seq s (h.n + 5) (by omega)) (fun _ => rfl)
    (fun i h1 => (∀ b, b < h.n → h1.get b = h.get b) ∧ h.n + 6 ≤ h1.n ∧ h1.get h.n = some (.cells false [.string s]) ∧ h1.get (h.n + 1) = some (.cells false [.string t]) ∧ h1.get (h.n + 2) = some (.cells false [.int .i64 0, .int .i64 0]) ∧ h1.get (h.n + 3) = some (.cells false [.bool false]) ∧
      h1.get (h.n + 4) = some (.cells false [.int .i64 i]) ∧ h1.get (h.n + 5) = some (.cells false [.string s]) ∧ ∀ j (hj : j < (spots s.data.toList).length), j < i → ¬ bdU s t (posn s.data.toList j) (spots s.data.toList)[j])
    (fun ex h1 => ex = .ret ∧ (∀ b, b < h.n → h1.get b = h.get b) ∧ h.n + 6 ≤ h1.n ∧ ∃ a b : Nat, unlikeO s t = some (a, b) ∧ h1.get (h.n + 2) = some (.cells false [.int .i64 a, .int .i64 b]) ∧ h1.get (h.n + 3) = some (.cells false [.bool true]))
    (fun y => [(2, .pointer (some ⟨h.n, 0, none⟩)), (3, .pointer (some ⟨h.n + 1, 0, none⟩)), (4, .pointer (some ⟨h.n + 2, 0, none⟩)), (5, .pointer (some ⟨h.n + 3, 0, none⟩)), (6, .pointer (some ⟨h.n + 4, 0, none⟩)), (7, .int .i64 y.1), (8, .pointer (some ⟨16, 0, some 1⟩))])
    (fun y => [(16, .cells false [.int .i32 y.2.1, .int .i64 y.2.2, .bool (isBad2 y.2)])]) ?_ ?_ ?_ ?_ ?_ ?_ ?_ ?_
  · rw [n0]
    rintro i h1 h2 ⟨f0, fn, f1, f2, f3, f4, f5, f6, f7⟩ k
    exact ⟨fun b hb => by rw [k.get b (by omega)]; exact f0 b hb, by rw [k.n]; exact fn, by rw [k.get _ (by omega)]; exact f1, by rw [k.get _ (by omega)]; exact f2, by rw [k.get _ (by omega)]; exact f3, by rw [k.get _ (by omega)]; exact f4, by rw [k.get _ (by omega)]; exact f5, by rw [k.get _ (by omega)]; exact f6, f7⟩
  · rw [n0]
    rintro ex h1 h2 ⟨rfl, f0, fn, a, b, q, f1, f2⟩ k
    exact ⟨rfl, fun b hb => by rw [k.get b (by omega)]; exact f0 b hb, by rw [k.n]; exact fn, a, b, q, by rw [k.get _ (by omega)]; exact f1, by rw [k.get _ (by omega)]; exact f2⟩
  · exact fun i h1 f => f.2.2.2.2.2.2.2.1
  · intro y h1
    unfold spotE spotV
    simp only [List.zip_cons_cons, List.zip_nil_right, List.reverse_cons, List.reverse_nil, List.nil_append, List.cons_append, okFr_cons, okFr_nil, okV_eq, isLoc_ptr, isLoc_func, Bool.not_false, if_true]
    (refine W_x trivial ?_; (repeat' first | apply Cj.mk | exact Nl.nl) <;> intros)
    exact ⟨rfl, rfl, rfl, rfl⟩
  · intro o
    have k : ∀ b, b < h.n + 6 → (H0.push o).get b = H0.get b := fun b hb => AH.get_push_ne _ (by omega)
    exact ⟨fun b hb => (k b (by omega)).trans (ak b hb), by rw [AH.push_n, n0]; omega, (k _ (by omega)).trans a0, (k _ (by omega)).trans a1, (k _ (by omega)).trans a2, (k _ (by omega)).trans a3, (k _ (by omega)).trans a4, (k _ (by omega)).trans a5, fun j hj hlt => absurd hlt (by omega)⟩
  · rw [n0]
    rintro i hi h1 o ⟨f0, fn, f1, f2, f3, f4, f5, f6, f7⟩ ho
    have l4 := AH.get_lt ho
    have hil : i < (spots s.data.toList).length := by rw [← spotsL_len]; exact hi
    rw [spotsL_get hi]
    have hps := posn_lt hil
    have hpn := posn_succ hil
    have hpl := (spots_drop s.data.toList (i + 1) (by omega)).2
    have hhit : ∀ (_ : bdU s t (posn s.data.toList i) (spots s.data.toList)[i]), unlikeO s t = some (posn s.data.toList i, i) := fun hb => scanL_hit hil (fun j hj hlt => if_neg (f7 j hj hlt)) (if_pos hb)
    have hnx : ¬ bdU s t (posn s.data.toList i) (spots s.data.toList)[i] → ∀ j (hj : j < (spots s.data.toList).length), j < i + 1 → ¬ bdU s t (posn s.data.toList j) (spots s.data.toList)[j] := fun hb j hj hlt => by
      rcases Nat.lt_or_ge j i with q | q
      · exact f7 j hj q
      · obtain rfl : j = i := by omega
        exact hb
    generalize hx : (spots s.data.toList)[i] = x at *
    have hbi := isBad_iff x
    unfold bdU at hhit hnx
    generalize isBad2 x = ib at hbi
    dsimp only
    have hte : ((posn s.data.toList i : Int) + x.2).toNat = posn s.data.toList i + x.2 := by omega
    have hsl : (posn s.data.toList i : Int) + x.2 ≤ s.size := by omega
    have hret : (badP x ∨ t.size < posn s.data.toList i + x.2 ∨ s.extract (posn s.data.toList i) (posn s.data.toList i + x.2) ≠ t.extract (posn s.data.toList i) (posn s.data.toList i + x.2)) → ∀ (h2 : AH), h2 = (h1.set (h.n + 2) (.cells false [.int .i64 (posn s.data.toList i), .int .i64 i])).set (h.n + 3) (.cells false [.bool true]) → h2.get (h.n + 6) = some o ∧ (∀ b, b < h.n → h2.get b = h.get b) ∧ h.n + 6 ≤ h2.n ∧ ∃ a b : Nat, unlikeO s t = some (a, b) ∧ h2.get (h.n + 2) = some (.cells false [.int .i64 a, .int .i64 b]) ∧ h2.get (h.n + 3) = some (.cells false [.bool true]) := by
      rintro hb h2 rfl
      refine ⟨by rw [AH.get_set_ne _ (by omega), AH.get_set_ne _ (by omega)]; exact ho, fun b hb => by rw [AH.get_set_ne _ (by omega), AH.get_set_ne _ (by omega)]; exact f0 b hb, by rw [AH.set_n, AH.set_n]; exact fn, _, _, hhit hb, ?_, ?_⟩
      · rw [AH.get_set_ne _ (by omega), AH.get_set_same _ (by omega)]
      · exact AH.get_set_same _ (by rw [AH.set_n]; omega)
    have hnorm : ¬ (badP x ∨ t.size < posn s.data.toList i + x.2 ∨ s.extract (posn s.data.toList i) (posn s.data.toList i + x.2) ≠ t.extract (posn s.data.toList i) (posn s.data.toList i + x.2)) → ∀ (h2 : AH), h2 = h1.set (h.n + 4) (.cells false [.int .i64 ((i : Int) + 1)]) → h2.get (h.n + 6) = some o ∧ (∀ b, b < h.n → h2.get b = h.get b) ∧ h.n + 6 ≤ h2.n ∧ h2.get h.n = some (.cells false [.string s]) ∧ h2.get (h.n + 1) = some (.cells false [.string t]) ∧ h2.get (h.n + 2) = some (.cells false [.int .i64 0, .int .i64 0]) ∧ h2.get (h.n + 3) = some (.cells false [.bool false]) ∧
        h2.get (h.n + 4) = some (.cells false [.int .i64 ((i + 1 : Nat) : Int)]) ∧ h2.get (h.n + 5) = some (.cells false [.string s]) ∧ ∀ j (hj : j < (spots s.data.toList).length), j < i + 1 → ¬ bdU s t (posn s.data.toList j) (spots s.data.toList)[j] := by
      rintro hb h2 rfl
      refine ⟨by rw [AH.get_set_ne _ (by omega)]; exact ho, fun b hb => by rw [AH.get_set_ne _ (by omega)]; exact f0 b hb, by rw [AH.set_n]; exact fn, ?_, ?_, ?_, ?_, ?_, ?_, hnx hb⟩
      · rw [AH.get_set_ne _ (by omega)]; exact f1
      · rw [AH.get_set_ne _ (by omega)]; exact f2
      · rw [AH.get_set_ne _ (by omega)]; exact f3
      · rw [AH.get_set_ne _ (by omega)]; exact f4
      · exact AH.get_set_same _ (by omega)
      · rw [AH.get_set_ne _ (by omega)]; exact f6
    have hle : i < 1048576 := by omega
    cases ib with
    | true =>
      have hr := hret (.inl (hbi.1 rfl)) _ rfl
      (refine W_x (Aj f1 (Aj f2 (Aj f3 (Aj f4 (Aj f5 hte))))) ?_; (repeat' first | apply Cj.mk | exact Nl.nl) <;> intros)
      exact ⟨hr.1, rfl, hr.2⟩
    | false =>
      have hnb : ¬ badP x := fun q => by have := hbi.2 q; cases this
      by_cases c1 : t.size < posn s.data.toList i + x.2
      · have hr := hret (.inr (.inl c1)) _ rfl
        have c1' : (t.size : Int) < posn s.data.toList i + x.2 := by omega
        (refine W_x (Aj f1 (Aj f2 (Aj f3 (Aj f4 (Aj f5 (Aj hte c1')))))) ?_; (repeat' first | apply Cj.mk | exact Nl.nl) <;> intros)
        exact ⟨hr.1, rfl, hr.2⟩
      · have c1' : ¬ ((t.size : Int) < posn s.data.toList i + x.2) := by omega
        have c1'' : (posn s.data.toList i : Int) + x.2 ≤ t.size := by omega
        by_cases c2 : s.extract (posn s.data.toList i) (posn s.data.toList i + x.2) = t.extract (posn s.data.toList i) (posn s.data.toList i + x.2)
        · have hr := hnorm (by rintro (q | q | q); exact hnb q; exact c1 q; exact q c2) _ rfl
          (refine W_x (Aj f1 (Aj f2 (Aj f3 (Aj f4 (Aj f5 (Aj hte (Aj c1' (Aj c1'' (Aj hsl c2))))))))) ?_; (repeat' first | apply Cj.mk | exact Nl.nl) <;> intros)
          exact hr
        · have hr := hret (.inr (.inr c2)) _ rfl
          (refine W_x (Aj f1 (Aj f2 (Aj f3 (Aj f4 (Aj f5 (Aj hte (Aj c1' (Aj c1'' (Aj hsl c2))))))))) ?_; (repeat' first | apply Cj.mk | exact Nl.nl) <;> intros)
          exact ⟨hr.1, rfl, hr.2⟩
  · rintro h1 ⟨f0, fn, f1, f2, f3, f4, f5, f6, f7⟩
    rw [spotsL_len] at f7
    have hno : unlikeO s t = none := scanL_end fun j hj => if_neg (f7 j hj hj)
    rw [hno]
    (refine W_x (Aj f3 f4) ?_; (repeat' first | apply Cj.mk | exact Nl.nl) <;> intros)
    refine ⟨rfl, by rw [AH.set_n, AH.set_n]; omega, fun b hb => ?_⟩
    rw [AH.get_set_ne _ (by omega), AH.get_set_ne _ (by omega)]
    exact f0 b hb
  · rintro ex h1 hne ⟨rfl, f0, fn, a, b, q, f1, f2⟩
    rw [q]
    (refine W_x (Aj f1 f2) ?_; (repeat' first | apply Cj.mk | exact Nl.nl) <;> intros)
    exact ⟨rfl, by omega, f0⟩
end Go.Proofs.YtfiaggbgplmmeaaGreatDoor.AM
namespace Go.Proofs.YtfiaggbgplmmeaaGreatDoor.AM
open Go
def LFfew : LFunc :=
  .mk 2 [.tmp 4] (.seq (R 999 [0, 1] [.set 4 (.cv (.string ⟨#[]⟩))]) (.seq (.seq (R 5 [0, 1, 8] [.tmp 8 (xb .gtr (xsl (.va 0)) (.va 1))]) (.cond (.s 8) (.seq (R 9 [4] [.set 4 (.op
  (.p (.slS (.s 0) none (some (.s 1)))) (.cons (.va 0) (.va 1)))]) .ret) .skip)) (.seq (R 12 [4] [.set 4 (.va 0)]) .ret)))
theorem fewG_eq {f : FuncId} (hf : PX.fn f = some LFfew) (hx : PX.ext f = none) (s : ByteArray) (hs : s.size ≤ 1048576) {m : Int} (n : Nat) (hm : m = n) (hn : n ≤ 1048576) (h : AH) : callO PX f [.string s, .int .i64 m] h = some (.string (fewB s n), h) := by
  subst hm
  apply WpC.eqn
  refine wpc_fn hx hf rfl ?_
  unfold LFfew
  simp only [argFr]
  unfold fewB
  (refine W_x trivial ?_; (repeat' first | apply Cj.mk | exact Nl.nl) <;> intros)
  · rw [if_pos (by omega)]
    exact ⟨rfl, rfl⟩
  · rw [if_neg (by omega)]
    exact ⟨rfl, rfl⟩
end Go.Proofs.YtfiaggbgplmmeaaGreatDoor.AM
namespace Go.Proofs.YtfiaggbgplmmeaaGreatDoor.AM
open Go
theorem house10_spec (h : AH) : WpC PX 34 [] h fun v h' => ∃ S, v = .agg S.vs.toArray ∧ TabAt h' S houseT ∧ Kp h h' := by
  obtain ⟨_, g, e, S, rfl, t, k⟩ := house_spec h
  unfold TS.vs at e
  refine wpc_fn (px_ext rfl) (px_fn fn_guiselaw10_house) rfl ?_
  unfold LF_guiselaw10_house
  simp only [argFr]
  (refine W_x e ?_; (repeat' first | apply Cj.mk | exact Nl.nl) <;> intros)
  exact ⟨S, rfl, t, k⟩
theorem few10_eq (s : ByteArray) (hs : s.size ≤ 1048576) {m : Int} (n : Nat) (hm : m = n) (hn : n ≤ 1048576) (h : AH) : callO PX 38 [.string s, .int .i64 m] h = some (.string (fewB s n), h) := fewG_eq (px_fn (by kernel_rfl)) (px_ext rfl) s hs n hm hn h
set_option maxRecDepth 100000 in
theorem known10_a : shutB houseT [101, 204, 130, 204, 129] = [225, 186, 191] := by decide +kernel
set_option maxRecDepth 100000 in
theorem known10_b : shutB houseT [101, 204, 129, 204, 163] = [225, 186, 185, 204, 129] := by decide +kernel
set_option maxRecDepth 100000 in
theorem known10_c : shutB houseT [101, 204, 129, 204, 129] = [195, 169, 204, 129] := by decide +kernel
theorem known10_spec {h : AH} (u : U8T h) (hg : 2 ≤ h.n) : WpC PX 37 [] h fun v h' => v = .bool true ∧ Kp h h' := by
  obtain ⟨_, g, e, S, rfl, t, k⟩ := house10_spec h
  obtain ⟨_, g1, e1, k1, kk, B, S1, rfl, bk, _, _⟩ := of_house t (u.kp k) (Nat.le_trans hg k.1)
  obtain ⟨_, g2, e2, rfl, k2⟩ := shutShut_spec house_good bk.bk ⟨#[101, 204, 130, 204, 129]⟩ (by decide)
  obtain ⟨_, g3, e3, rfl, k3⟩ := shutShut_spec house_good (bk.kp k2).bk ⟨#[101, 204, 129, 204, 163]⟩ (by decide)
  obtain ⟨_, g4, e4, rfl, k4⟩ := shutShut_spec house_good ((bk.kp k2).kp k3).bk ⟨#[101, 204, 129, 204, 129]⟩ (by decide)
  have q2 : bs (shutB houseT [101, 204, 130, 204, 129]) = ⟨#[225, 186, 191]⟩ := by rw [known10_a]; rfl
  have q3 : bs (shutB houseT [101, 204, 129, 204, 163]) = ⟨#[225, 186, 185, 204, 129]⟩ := by rw [known10_b]; rfl
  have q4 : bs (shutB houseT [101, 204, 129, 204, 129]) = ⟨#[195, 169, 204, 129]⟩ := by rw [known10_c]; rfl
  simp only [q2] at e2
  simp only [q3] at e3
  simp only [q4] at e4
  unfold TS.vs at *
  refine wpc_fn (px_ext rfl) (px_fn fn_guiselaw10_known) rfl ?_
  unfold LF_guiselaw10_known
  simp only [argFr]
  (refine W_x (Aj e (Aj e1 (Aj e2 (Aj e3 e4)))) ?_; (repeat' first | apply Cj.mk | exact Nl.nl) <;> intros)
  exact ⟨rfl, (((k.trans k1).trans k2).trans k3).trans k4⟩
end Go.Proofs.YtfiaggbgplmmeaaGreatDoor.AM
namespace Go.Proofs.YtfiaggbgplmmeaaGreatDoor.AM
open Go
def LF_utf_Count : LFunc :=
  .mk 1 [.tmp 2] (.seq (R 999 [0] [.set 2 (xi 0)]) (.seq (R 999 [0, 3] [.set 3 (xi 0)]) (.seq (.seq (R 4 [3, 5] [.tmp 5 (.op (.e (.rngS 5 (.s 0))) (.va 0))]) (.block 0 (.loop (.seq
  (R 6 [3, 5, 7] [.tmp 7 (xex 0 (.op (.e (.nxtS (.s 0))) (.sl 5)))]) (.seq (.cond (.s 7) .skip (.exit 0)) (.block 1 (R 8 [3, 5] [.set 3 (xb .add (.va 3) (xi 1))]))))))) (.seq (R 10
  [2] [.set 2 (.va 3)]) .ret))))
theorem fn_utf_Count : (autoPrg Tryz.prog).fn 41 = some LF_utf_Count := by kernel_rfl
end Go.Proofs.YtfiaggbgplmmeaaGreatDoor.AM
namespace Go.Proofs.YtfiaggbgplmmeaaGreatDoor.AM
open Go
theorem utfCount_eq (s : ByteArray) (hs : s.size ≤ 16777216) (h : AH) : callO PX 41 [.string s] h = some (.int .i64 (spots s.data.toList).length, h) := by
  have hz : s.data.toList.length = s.size := rfl
  have hn := spots_len s.data.toList
  apply WpC.eqn
  refine wpc_fn (px_ext rfl) (px_fn fn_utf_Count) rfl ?_
  unfold LF_utf_Count
  simp only [argFr]
  (refine W_x @ev_rngS ?_; (repeat' first | apply Cj.mk | exact Nl.nl) <;> intros)
  refine wp_spotsS (fun i _ => [(3, .int .i64 i), (5, .pointer (some ⟨10, 0, some 1⟩))]) (fun n _ => [(10, .siter s n)]) s s.data.toList (fun _ _ h' => h' = h) (fun _ _ => (none : Option Unit)) () rfl (by repeat' first | exact True.intro | refine And.intro rfl ?_) (fun _ _ => rfl) rfl rfl (fun i hi _ h1 hh hit => ?_) fun _ h1 hh fin => ?_
  · subst hh
    (refine W_x trivial ?_; (repeat' first | apply Cj.mk | exact Nl.nl) <;> intros)
    refine wo_next rfl rfl hi ?_
    (refine W_x trivial ?_; (repeat' first | apply Cj.mk | exact Nl.nl) <;> intros)
    exact ⟨rfl, (), (by repeat' first | exact True.intro | refine And.intro rfl ?_), rfl, rfl⟩
  · subst hh
    (refine W_x trivial ?_; (repeat' first | apply Cj.mk | exact Nl.nl) <;> intros)
    refine wo_nextE rfl rfl ?_
    (refine W_x trivial ?_; (repeat' first | apply Cj.mk | exact Nl.nl) <;> intros)
    exact ⟨rfl, rfl⟩
end Go.Proofs.YtfiaggbgplmmeaaGreatDoor.AM
namespace Go.Proofs.YtfiaggbgplmmeaaGreatDoor.AM
open Go
def LF_utf_Valid : LFunc :=
  .mk 1 [.cell 2 (some 2), .cell 3 none] (.seq (R 2 [0, 2, 3] [.tmp 2 (xnh [.int .i64 0, .int .i64 0]), .tmp 3 (xnh [.bool false])]) (.seq (R 4 [0, 2, 3, 4] [.tmp 4 (xnh [.int .i64
  0]), .run (xst 1 (.sl 4) (xi 0))]) (.seq (.seq (R 7 [2, 3, 4, 8] [.tmp 8 (xc1 49 (.va 0))]) (.block 0 (.rangeF (.s 8) [9, 10] (.seq (R 5 [2, 3, 4, 5, 10] [.tmp 5 (.va
  9)]) (R 6 [2, 3, 4, 5, 6] [.tmp 6 (xnl 6 [.int .i32 0, .int .i64 0, .bool false]), .run (xst 3 (.sl 6) (.sl 10))])) (.block 1 (.seq (.seq (R 11 [2, 3, 4, 5, 12] [.tmp 12 (xld (xfa
  2 (.sl 6)))]) (.cond (.s 12) (.seq (R 13 [] [.run (xst 2 (.sl 2) (.op (.p (.build [.int .i64 0, .int .i64 0] [(0, 1, .s 0), (1, 1, .s 1)])) (.cons (.va 5) (xld (.sl 4))))), .run
  (xst 1 (.sl 3) (.cv (.bool false)))]) .ret) .skip)) (R 16 [] [.run (xst 1 (.sl 4) (xb .add (xld (.sl 4)) (xi 1)))])))))) (.seq (R 18 [2, 3] [.run (xst 2 (.sl 2) (.op (.p (.build
  [.int .i64 0, .int .i64 0] [])) .nil)), .run (xst 1 (.sl 3) (.cv (.bool true)))]) .ret))))
theorem fn_utf_Valid : (autoPrg Tryz.prog).fn 27 = some LF_utf_Valid := by kernel_rfl
end Go.Proofs.YtfiaggbgplmmeaaGreatDoor.AM
namespace Go.Proofs.YtfiaggbgplmmeaaGreatDoor.AM
open Go
theorem valid_spec (x : ByteArray) (hx : x.size ≤ 140737488351232) (hv : validB x.data.toList = true) (h : AH) :
    WpC PX 27 [.string x] h fun v h' => v = .tuple (List.toArray [.agg (List.toArray [.int .i64 0, .int .i64 0]), .bool true]) ∧ h.n ≤ h'.n ∧ ∀ b, b < h.n → h'.get b = h.get b := by
  have e2 := fun h => spotsMk_eq x h
  have hseq := spots_seq x (h.n + 3) hx
  refine wpc_fn (px_ext rfl) (px_fn fn_utf_Valid) rfl ?_
  unfold LF_utf_Valid
  simp only [argFr]
  (refine W_x e2 ?_; (repeat' first | apply Cj.mk | exact Nl.nl) <;> intros)
  generalize hH0 : ((((h.push (AObj.cells false [Value.int IntKind.i64 0, Value.int IntKind.i64 0])).push (AObj.cells false [Value.bool false])).push (AObj.cells false [Value.int IntKind.i64 0])).set (h.n + 1 + 1) (AObj.cells false [Value.int IntKind.i64 0])).push (AObj.cells false [Value.string x]) = H0
  have n0 : H0.n = h.n + 4 := by rw [← hH0]; simp only [AH.push_n, AH.set_n]
  have a0 : H0.get h.n = some (.cells false [.int .i64 0, .int .i64 0]) := by rw [← hH0]; simp (disch := first | omega | (simp only [AH.nn_push, AH.nn_set, AH.nn_kill]; omega) | (simp only [AH.nn_push, AH.nn_set, AH.nn_kill]; done) | fail) only [AH.get_push_eq, AH.get_push_ne, AH.get_set_eq, AH.get_set_ne]
  have a1 : H0.get (h.n + 1) = some (.cells false [.bool false]) := by rw [← hH0]; simp (disch := first | omega | (simp only [AH.nn_push, AH.nn_set, AH.nn_kill]; omega) | (simp only [AH.nn_push, AH.nn_set, AH.nn_kill]; done) | fail) only [AH.get_push_eq, AH.get_push_ne, AH.get_set_eq, AH.get_set_ne]
  have a2 : H0.get (h.n + 2) = some (.cells false [.int .i64 0]) := by rw [← hH0]; simp (disch := first | omega | (simp only [AH.nn_push, AH.nn_set, AH.nn_kill]; omega) | (simp only [AH.nn_push, AH.nn_set, AH.nn_kill]; done) | fail) only [AH.get_push_eq, AH.get_push_ne, AH.get_set_eq, AH.get_set_ne]
  have a3 : H0.get (h.n + 3) = some (.cells false [.string x]) := by rw [← hH0]; simp (disch := first | omega | (simp only [AH.nn_push, AH.nn_set, AH.nn_kill]; omega) | (simp only [AH.nn_push, AH.nn_set, AH.nn_kill]; done) | fail) only [AH.get_push_eq, AH.get_push_ne, AH.get_set_eq, AH.get_set_ne]
  have ak : ∀ b, b < h.n → H0.get b = h.get b := fun b hb => by rw [← hH0]; simp (disch := first | omega | (simp only [AH.nn_push, AH.nn_set, AH.nn_kill]; omega) | (simp only [AH.nn_push, AH.nn_set, AH.nn_kill]; done) | fail) only [AH.get_push_eq, AH.get_push_ne, AH.get_set_eq, AH.get_set_ne]
  clear hH0
  refine wp_rangeP (xs := spotsL x.data.toList) (enc := spotE) (D := fun h1 => h1.get (h.n + 3) = some (.cells false [.string x])) rfl hseq (fun _ => rfl)
    (fun i h1 => (∀ b, b < h.n → h1.get b = h.get b) ∧ h.n + 4 ≤ h1.n ∧ h1.get h.n = some (.cells false [.int .i64 0, .int .i64 0]) ∧ h1.get (h.n + 1) = some (.cells false [.bool false]) ∧ h1.get (h.n + 2) = some (.cells false [.int .i64 i]) ∧ h1.get (h.n + 3) = some (.cells false [.string x]))
    (fun ex h1 => False)
    (fun y => [(2, .pointer (some ⟨h.n, 0, none⟩)), (3, .pointer (some ⟨h.n + 1, 0, none⟩)), (4, .pointer (some ⟨h.n + 2, 0, none⟩)), (5, .int .i64 y.1), (6, .pointer (some ⟨12, 0, some 1⟩))]) (fun y => [(12, .cells false [.int .i32 y.2.1, .int .i64 y.2.2, .bool (isBad2 y.2)])]) ?_ ?_ ?_ ?_ ?_ ?_ ?_ ?_
  · rw [n0]
    rintro i h1 h2 ⟨f0, fn, f1, f2, f3, f4⟩ k
    exact ⟨fun b hb => by rw [k.get b (by omega)]; exact f0 b hb, by rw [k.n]; exact fn, by rw [k.get _ (by omega)]; exact f1, by rw [k.get _ (by omega)]; exact f2, by rw [k.get _ (by omega)]; exact f3, by rw [k.get _ (by omega)]; exact f4⟩
  · exact fun _ _ _ h => h.elim
  · exact fun i h1 f => f.2.2.2.2.2
  · intro y h1
    unfold spotE spotV
    simp only [List.zip_cons_cons, List.zip_nil_right, List.reverse_cons, List.reverse_nil, List.nil_append, List.cons_append, okFr_cons, okFr_nil, okV_eq, isLoc_ptr, isLoc_func, Bool.not_false, if_true]
    (refine W_x trivial ?_; (repeat' first | apply Cj.mk | exact Nl.nl) <;> intros)
    exact ⟨rfl, rfl, rfl, rfl⟩
  · intro o
    have k : ∀ b, b < h.n + 4 → (H0.push o).get b = H0.get b := fun b hb => AH.get_push_ne _ (by omega)
    exact ⟨fun b hb => (k b (by omega)).trans (ak b hb), by rw [AH.push_n, n0]; omega, (k _ (by omega)).trans a0, (k _ (by omega)).trans a1, (k _ (by omega)).trans a2, (k _ (by omega)).trans a3⟩
  · rw [n0]
    rintro i hi h1 o ⟨f0, fn, f1, f2, f3, f4⟩ ho
    have l4 := AH.get_lt ho
    have hbad : isBad2 (spotsL x.data.toList)[i].2 = false := by
      rw [spotsL_get hi]
      have := List.all_eq_true.1 hv _ (List.getElem_mem (by rw [← spotsL_len]; exact hi : i < (spots x.data.toList).length))
      unfold isBad2
      rw [Bool.not_eq_true'] at this
      exact this
    rw [hbad]
    have hil : i < 9223372036854775806 := by
      have h1 := spots_len x.data.toList
      rw [spotsL_len] at hi
      have h2 : x.data.toList.length = x.size := rfl
      omega
    generalize (spotsL x.data.toList)[i] = y
    (refine W_x (Aj f1 (Aj f2 (Aj f3 f4))) ?_; (repeat' first | apply Cj.mk | exact Nl.nl) <;> intros)
    refine ⟨by rw [AH.get_set_ne _ (by omega)]; exact ho, fun b hb => by rw [AH.get_set_ne _ (by omega)]; exact f0 b hb, by rw [AH.set_n]; exact fn, by rw [AH.get_set_ne _ (by omega)]; exact f1, by rw [AH.get_set_ne _ (by omega)]; exact f2, AH.get_set_same _ (by omega), by rw [AH.get_set_ne _ (by omega)]; exact f4⟩
  · rintro h1 ⟨f0, fn, f1, f2, f3, f4⟩
    (refine W_x (Aj f1 (Aj f2 (Aj f3 f4))) ?_; (repeat' first | apply Cj.mk | exact Nl.nl) <;> intros)
    refine ⟨rfl, by rw [AH.set_n, AH.set_n]; omega, fun b hb => ?_⟩
    rw [AH.get_set_ne _ (by omega), AH.get_set_ne _ (by omega)]
    exact f0 b hb
  · exact fun _ _ _ h => h.elim
end Go.Proofs.YtfiaggbgplmmeaaGreatDoor.AM
namespace Go.Proofs.YtfiaggbgplmmeaaGreatDoor.AM
open Go
def LF_guiselaw10_ShutBack : LFunc :=
  .mk 2 [.tmp 4] (.seq (R 2 [1, 2] [.tmp 2 (xbl 2 8 (.sl 0)), .set 4 (.cv (.bool false))]) (.seq (R 15 [1, 5, 6, 7] [.set 14 (xc1 12 (xln 8 (.sl 2))), .tmp 17 (xex 0
  (.sl 14)), .tmp 18 (xex 1 (.sl 14)), .tmp 19 (xex 2 (.sl 14)), .set 5 (.sl 17), .set 6 (.sl 18), .set 7 (.sl 19)]) (.seq (.seq (R 20 [1, 5, 7, 21] [.tmp 21 (xu .not (.va 6))])
  (.cond (.s 21) (.seq (R 22 [4] [.set 4 (.and (.va 7) (xc0 37))]) .ret) .skip)) (.seq (R 26 [1, 5] [.set 1 (xc2 38 (.va 1) (xi 2000))]) (.seq (R
  28 [1, 5, 8] [.set 8 (xc2 19 (.va 5) (.va 1))]) (.seq (R 31 [5, 8, 9] [.set 9 (xc2 35 (.va 5) (.va 1))]) (.seq (R 35 [5, 8, 9, 11] [.set 34 (xc2
  36 (.va 5) (.va 9)), .tmp 38 (xex 0 (.sl 34)), .tmp 39 (xex 1 (.sl 34)), .at 10, .run (xst 2 (xnl 10 [.int .i64 0, .int .i64 0]) (.sl 38)), .tmp 11 (.va 39)]) (.seq (R
  41 [5, 8, 9, 11, 13] [.set 40 (xc1 27 (.va 9)), .tmp 43 (xex 0 (.sl 40)), .tmp 44 (xex 1 (.sl 40)), .at 12, .run (xst 2 (xnl 12 [.int .i64 0, .int .i64 0]) (.sl 43)),
  .tmp 13 (.va 44)]) (.seq (R 45 [4] [.set 4 (.and (.and (.and (.and (.and (.and (xb .eql (xc2 19 (.va 5) (.va 9)) (.va 8)) (xb .eql (xc2 35 (.va 5) (.va 9))
  (.va 9))) (xb .eql (xc2 35 (.va 5) (.va 8)) (.va 9))) (xu .not (.va 11))) (.va 13)) (xb .leq (xc1 41 (.va 9)) (xc1 41 (.va 8)))) (xc0
  37))]) .ret)))))))))
theorem fn_guiselaw10_ShutBack : (autoPrg Tryz.prog).fn 10 = some LF_guiselaw10_ShutBack := by kernel_rfl
end Go.Proofs.YtfiaggbgplmmeaaGreatDoor.AM
namespace Go.Proofs.YtfiaggbgplmmeaaGreatDoor.AM
open Go
theorem shutFirst_spec {h : AH} {k B : Nat} {s6 : Sl} {T : Tab} (gd : goodB T = true) (bk : BkAt h k B s6 T) (s : ByteArray) (hs : s.size ≤ 1048576) : WpC PX 36 [.pointer (some ⟨k, 0, none⟩), .string s] h fun v h' => v = plV (unlikeO s (bs (shutB T s.data.toList))) ∧ Kp h h' := by
  have hz : s.data.toList.length = s.size := rfl
  have hn := spots_len s.data.toList
  have hrl := runesB_len s.data.toList
  have hol := openF_len gd (runesB_rune s.data.toList)
  have hF := shut_facts gd s.data.toList
  have hno : (openL T (runesB s.data.toList)).length = (openF T (runesB s.data.toList)).length := by unfold openL; rw [ord_length]
  have hen := encs_lenle (laid T (openL T (runesB s.data.toList)))
  obtain ⟨_, g1, e1, rfl, k1⟩ := shutShut_spec gd bk s hs
  obtain ⟨_, g2, e2, rfl, k2⟩ := unlike_spec (h := g1) s (bs (shutB T s.data.toList)) hs (by rw [bs_size]; unfold shutB; omega)
  refine wpc_fn (px_ext rfl) (px_fn fn_shut_First) rfl ?_
  unfold LF_shut_First
  simp only [argFr]
  cases hu : unlikeO s (bs (shutB T s.data.toList)) with
  | none =>
    rw [hu] at e2
    simp only [plV] at e2 ⊢
    (refine W_x (Aj e1 e2) ?_; (repeat' first | apply Cj.mk | exact Nl.nl) <;> intros)
    exact ⟨rfl, k1.trans k2⟩
  | some p =>
    obtain ⟨a, b⟩ := p
    rw [hu] at e2
    simp only [plV] at e2 ⊢
    (refine W_x (Aj e1 e2) ?_; (repeat' first | apply Cj.mk | exact Nl.nl) <;> intros)
    exact ⟨rfl, k1.trans k2⟩
theorem unlike_self {s : ByteArray} (hv : validB s.data.toList = true) : unlikeO s s = none := by
  refine scanL_end fun i hi => if_neg ?_
  rintro (q | q | q)
  · have := List.all_eq_true.1 hv _ (List.getElem_mem hi)
    unfold badP at q
    simp [q.1, q.2] at this
  · have h1 := posn_succ hi
    have h2 := (spots_drop s.data.toList (i + 1) (by omega)).2
    have hz : s.data.toList.length = s.size := rfl
    omega
  · exact q rfl
theorem shutBack_run {h : AH} (u : U8T h) (hg : 2 ≤ h.n) {S : TS} {T : Tab} (t : TabAt h S T) (x : ByteArray) (hx : x.size ≤ 1048576) :
    WpC PX 10 [.agg S.vs.toArray, .string x] h fun v _ => v = .bool true := by
  obtain ⟨_, g1, e1, k1, q⟩ := of_spec t u hg
  by_cases hb : goodB T = true
  · rw [if_pos hb] at q
    obtain ⟨k, B, S1, rfl, bk, _, _⟩ := q
    have e2 := few10_eq x hx (m := 2000) 2000 rfl (by decide) g1
    have fx := few_le x 2000
    generalize fewB x 2000 = a at e2 fx
    have hz : a.data.toList.length = a.size := rfl
    have sa := spots_len a.data.toList
    have la := runesB_len a.data.toList
    have ra := runesB_rune a.data.toList
    have oa := openF_len hb ra
    have na : (openL T (runesB a.data.toList)).length = (openF T (runesB a.data.toList)).length := by unfold openL; rw [ord_length]
    have hF := shut_facts hb a.data.toList
    have hen := encs_lenle (openL T (runesB a.data.toList))
    have hen2 := encs_lenle (laid T (openL T (runesB a.data.toList)))
    rw [show encs (openL T (runesB a.data.toList)) = openB T a.data.toList from rfl] at hen
    rw [show encs (laid T (openL T (runesB a.data.toList))) = shutB T a.data.toList from rfl] at hen2
    have i1 := open_shut hb a.data.toList
    have i2 := shut_shut hb a.data.toList
    have i3 := shut_open hb a.data.toList
    have hva := shut_valid hb a.data.toList
    have r1 := openB_runes hb a.data.toList
    have r2 := shutB_runes hb a.data.toList
    have n1 := runesB_len (openB T a.data.toList)
    have n2 := runesB_len (shutB T a.data.toList)
    rw [r1] at n1
    rw [r2] at n2
    have hos : (bs (openB T a.data.toList)).size ≤ 48000 := by rw [bs_size]; omega
    have hxs : (bs (shutB T a.data.toList)).size ≤ 48000 := by rw [bs_size]; omega
    have hun := unlike_self (s := bs (shutB T a.data.toList)) (by rw [bs_l]; exact hva)
    obtain ⟨_, g2, e3, rfl, k2⟩ := openOpen_spec hb bk.bk a (by omega)
    obtain ⟨_, g3, e4, rfl, k3⟩ := shutShut_spec hb (bk.kp k2).bk a (by omega)
    have bk3 := (bk.kp k2).kp k3
    obtain ⟨_, g4, e5, rfl, k4⟩ := shutFirst_spec hb bk3.bk (bs (shutB T a.data.toList)) (by omega)
    rw [bs_l, i2, hun] at e5
    simp only [plV] at e5
    obtain ⟨_, g5, e6, rfl, k5⟩ := valid_spec (bs (shutB T a.data.toList)) (by omega) (by rw [bs_l]; exact hva) g4
    have bk5 := (bk3.kp k4).kp k5
    obtain ⟨_, g6, e7, rfl, k6⟩ := openOpen_spec hb bk5.bk (bs (shutB T a.data.toList)) (by omega)
    rw [bs_l, i1] at e7
    obtain ⟨_, g7, e8, rfl, k7⟩ := shutShut_spec hb (bk5.kp k6).bk (bs (shutB T a.data.toList)) (by omega)
    rw [bs_l, i2] at e8
    obtain ⟨_, g8, e9, rfl, k8⟩ := shutShut_spec hb ((bk5.kp k6).kp k7).bk (bs (openB T a.data.toList)) (by omega)
    rw [bs_l, i3] at e9
    have e10 := utfCount_eq (bs (shutB T a.data.toList)) (by omega) g8
    have e11 := utfCount_eq (bs (openB T a.data.toList)) (by omega) g8
    rw [bs_l] at e10 e11
    have hle : ((spots (shutB T a.data.toList)).length : Int) ≤ (spots (openB T a.data.toList)).length := by omega
    have kk := (((((((k1.trans k2).trans k3).trans k4).trans k5).trans k6).trans k7).trans k8)
    obtain ⟨_, g9, e12, rfl, k9⟩ := known10_spec (u.kp kk) (Nat.le_trans hg kk.1)
    generalize bs (openB T a.data.toList) = o at *
    generalize bs (shutB T a.data.toList) = y at *
    unfold TS.vs at *
    refine wpc_fn (px_ext rfl) (px_fn fn_guiselaw10_ShutBack) rfl ?_
    unfold LF_guiselaw10_ShutBack
    simp only [argFr]
    (refine W_x (Aj e1 (Aj e2 (Aj e3 (Aj e4 (Aj e5 (Aj e6 (Aj e7 (Aj e8 (Aj e9 (Aj e10 (Aj e11 (Aj hle e12)))))))))))) ?_; (repeat' first | apply Cj.mk | exact Nl.nl) <;> intros)
    rfl
  · rw [if_neg hb] at q
    subst q
    obtain ⟨_, g4, e7, rfl, k4⟩ := known10_spec (u.kp k1) (Nat.le_trans hg k1.1)
    unfold TS.vs at *
    refine wpc_fn (px_ext rfl) (px_fn fn_guiselaw10_ShutBack) rfl ?_
    unfold LF_guiselaw10_ShutBack
    simp only [argFr]
    (refine W_x (Aj e1 e7) ?_; (repeat' first | apply Cj.mk | exact Nl.nl) <;> intros)
    rfl
end Go.Proofs.YtfiaggbgplmmeaaGreatDoor.AM
