/- Parts of proofs: lemmas, joined. -/
import Derived.Test.YtfiaggbgplmmeaaGreatDoorP31959261
set_option linter.unusedVariables false
set_option linter.unusedSimpArgs false
set_option linter.unusedSectionVars false
namespace Go.Proofs.YtfiaggbgplmmeaaGreatDoor.AM
open Go
theorem rI_rnV {T : Tab} (gd : goodB T = true) {c : Nat} (hc : RuneN c) : (opI T 5 (c : Int)).map rI = (opN T c).map rnV := by
  rw [← (opN_cast gd hc).1, List.map_map]
  rfl
theorem openF_snoc {T : Tab} {B : List Nat} {i : Nat} (hi : i < B.length) : openF T (B.take (i + 1)) = openF T (B.take i) ++ opN T B[i] := by
  rw [take_snoc hi, openF_append]
  simp [openF]
theorem openF_take_len {T : Tab} (gd : goodB T = true) {B : List Nat} (hB : ∀ c ∈ B, RuneN c) (i : Nat) : (openF T (B.take i)).length ≤ 6 * B.length := by
  have := (openF_len gd (B := B.take i) fun c hc => hB c (List.mem_of_mem_take hc)).2
  rw [List.length_take] at this
  omega
theorem openOpen_spec {h : AH} {k B : Nat} {s6 : Sl} {T : Tab} (gd : goodB T = true) (bk : BkAt h k B s6 T) (s : ByteArray) (hs : s.size ≤ 1048576) : WpC PX 19 [.pointer (some ⟨k, 0, none⟩), .string s] h fun v h' => v = .string (bs (openB T s.data.toList)) ∧ Kp h h' := by
  have hz : s.data.toList.length = s.size := rfl
  have hn := spots_len s.data.toList
  have hrl := runesB_len s.data.toList
  have hrr := runesB_rune s.data.toList
  refine wpc_fn (px_ext rfl) (px_fn fn_open_Open) rfl ?_
  unfold LF_open_Open
  simp only [argFr]
  (refine W_x @ev_rngS ?_; (repeat' first | apply Cj.mk | exact Nl.nl) <;> intros)
  refine wp_spotsS (fun i sl => [(0, .pointer (some ⟨k, 0, none⟩)), (5, sl.val 1), (11, .pointer (some ⟨22, 0, some 1⟩))]) (fun n _ => [(22, .siter s n)]) s s.data.toList (fun i sl h' => FOwn h h' 1 sl ((openF T ((runesB s.data.toList).take i)).map rnV)) (fun _ _ => (none : Option Unit)) Sl.nil rfl (by repeat' first | exact True.intro | refine And.intro rfl ?_) (fun _ _ => rfl) rfl (by simpa [openF] using FOwn.nil (Kp.refl h))
    (fun i hi sl h1 fo hit => ?_) fun sl h1 fo fin => ?_
  · (refine W_x trivial ?_; (repeat' first | apply Cj.mk | exact Nl.nl) <;> intros)
    refine wo_next rfl rfl hi ?_
    have hi2 : i < (runesB s.data.toList).length := by omega
    have hx := runesB_get hi
    have hr := hrr _ (List.getElem_mem hi2)
    have hsn := openF_snoc (T := T) hi2
    have hle := openF_take_len gd hrr i
    rw [hx] at hr hsn
    generalize (spots s.data.toList)[i] = x at hr hsn
    obtain ⟨_, g, e, s2, rfl, f2⟩ := openRune_spec gd (bk.kp fo.kp) (x.1 : Nat)
    rw [rI_rnV gd hr] at f2
    obtain ⟨b0, ms, q1, _, _, _, q5, _⟩ := opN_facts gd hr
    (refine W_x e ?_; (repeat' first | apply Cj.mk | exact Nl.nl) <;> intros)
    refine wo_appL (fo.later f2.kp) f2.reads (by decide) (by decide) (by rw [List.length_map, List.length_map, q1, List.length_cons]; omega) fun s3 h3 f3 => ?_
    (refine W_x trivial ?_; (repeat' first | apply Cj.mk | exact Nl.nl) <;> intros)
    refine ⟨rfl, s3, (by repeat' first | exact True.intro | refine And.intro rfl ?_), rfl, ?_⟩
    rw [hsn, List.map_append]
    exact f3
  · (refine W_x trivial ?_; (repeat' first | apply Cj.mk | exact Nl.nl) <;> intros)
    refine wo_nextE rfl rfl ?_
    rw [← hrl, List.take_length] at fo
    have hF := openF_all gd hrr
    have hl := openF_len gd hrr
    have hg := fun lc => r2s_own (lc := lc) fo.own fun x hx => (hF x hx).1
    have hsz := encs_lenle (openF T (runesB s.data.toList))
    obtain ⟨_, g2, e2, rfl, k2⟩ := marksOrder_spec (bk.kp fo.kp) (bs (encs (openF T (runesB s.data.toList)))) (by rw [bs_size]; omega)
    rw [bs_l, orderB_encs T fun x hx => (hF x hx).1] at e2
    (refine W_x (Aj hg e2) ?_; (repeat' first | apply Cj.mk | exact Nl.nl) <;> intros)
    exact ⟨rfl, fo.kp.trans k2⟩
theorem openTwins_spec {h : AH} {k B : Nat} {s6 : Sl} {T : Tab} (gd : goodB T = true) (bk : BkAt h k B s6 T) (s u : ByteArray) (hs : s.size ≤ 1048576) (hu : u.size ≤ 1048576) : WpC PX 20 [.pointer (some ⟨k, 0, none⟩), .string s, .string u] h fun v h' =>
    v = .bool (decide (openB T s.data.toList = openB T u.data.toList)) ∧ Kp h h' := by
  obtain ⟨_, g1, e1, rfl, k1⟩ := openOpen_spec gd bk s hs
  obtain ⟨_, g2, e2, rfl, k2⟩ := openOpen_spec gd (bk.kp k1) u hu
  have hd : decide (bs (openB T s.data.toList) = bs (openB T u.data.toList)) = decide (openB T s.data.toList = openB T u.data.toList) := decide_eq_decide.2 bs_inj
  by_cases q : openB T s.data.toList = openB T u.data.toList
  · rw [decide_eq_true q] at hd ⊢
    refine wpc_fn (px_ext rfl) (px_fn fn_open_Twins) rfl ?_
    unfold LF_open_Twins
    simp only [argFr]
    (refine W_x (Aj e1 (Aj e2 hd)) ?_; (repeat' first | apply Cj.mk | exact Nl.nl) <;> intros)
    exact ⟨rfl, k1.trans k2⟩
  · rw [decide_eq_false q] at hd ⊢
    refine wpc_fn (px_ext rfl) (px_fn fn_open_Twins) rfl ?_
    unfold LF_open_Twins
    simp only [argFr]
    (refine W_x (Aj e1 (Aj e2 hd)) ?_; (repeat' first | apply Cj.mk | exact Nl.nl) <;> intros)
    exact ⟨rfl, k1.trans k2⟩
theorem house9_spec (h : AH) : WpC PX 18 [] h fun v h' => ∃ S, v = .agg S.vs.toArray ∧ TabAt h' S houseT ∧ Kp h h' := by
  obtain ⟨_, g, e, S, rfl, t, k⟩ := house_spec h
  unfold TS.vs at e
  refine wpc_fn (px_ext rfl) (px_fn fn_guiselaw9_house) rfl ?_
  unfold LF_guiselaw9_house
  simp only [argFr]
  (refine W_x e ?_; (repeat' first | apply Cj.mk | exact Nl.nl) <;> intros)
  exact ⟨S, rfl, t, k⟩
set_option maxRecDepth 100000 in
theorem known9_a : openB houseT [195, 169, 204, 163] = [101, 204, 163, 204, 129] := by decide +kernel
set_option maxRecDepth 100000 in
theorem known9_b : openB houseT [225, 186, 191] = openB houseT [101, 204, 130, 204, 129] := by decide +kernel
set_option maxRecDepth 100000 in
theorem known9_c : openB houseT [225, 186, 191] ≠ openB houseT [101, 204, 129, 204, 130] := by decide +kernel
theorem known9_spec {h : AH} (u : U8T h) (hg : 2 ≤ h.n) : WpC PX 13 [] h fun v h' => v = .bool true ∧ Kp h h' := by
  obtain ⟨_, g, e, S, rfl, t, k⟩ := house9_spec h
  obtain ⟨_, g1, e1, k1, kk, B, S1, rfl, bk, _, _⟩ := of_house t (u.kp k) (Nat.le_trans hg k.1)
  obtain ⟨_, g2, e2, rfl, k2⟩ := openOpen_spec house_good bk.bk ⟨#[195, 169, 204, 163]⟩ (by decide)
  obtain ⟨_, g3, e3, rfl, k3⟩ := openTwins_spec house_good (bk.kp k2).bk ⟨#[225, 186, 191]⟩ ⟨#[101, 204, 130, 204, 129]⟩ (by decide) (by decide)
  obtain ⟨_, g4, e4, rfl, k4⟩ := openTwins_spec house_good ((bk.kp k2).kp k3).bk ⟨#[225, 186, 191]⟩ ⟨#[101, 204, 129, 204, 130]⟩ (by decide) (by decide)
  have q2 : bs (openB houseT [195, 169, 204, 163]) = ⟨#[101, 204, 163, 204, 129]⟩ := by rw [known9_a]; rfl
  have q3 := decide_eq_true known9_b
  have q4 := decide_eq_false known9_c
  simp only [q2] at e2
  simp only [q3] at e3
  simp only [q4] at e4
  unfold TS.vs at *
  refine wpc_fn (px_ext rfl) (px_fn fn_guiselaw9_known) rfl ?_
  unfold LF_guiselaw9_known
  simp only [argFr]
  (refine W_x (Aj e (Aj e1 (Aj e2 (Aj e3 e4)))) ?_; (repeat' first | apply Cj.mk | exact Nl.nl) <;> intros)
  exact ⟨rfl, (((k.trans k1).trans k2).trans k3).trans k4⟩
end Go.Proofs.YtfiaggbgplmmeaaGreatDoor.AM
namespace Go.Proofs.YtfiaggbgplmmeaaGreatDoor.AM
open Go
def LF_utf_Spots : LFunc :=
  .mk 1 [.tmp 2] (.seq (R 1 [1] [.tmp 1 (xbh 1 (.sl 0)), .set 2 (.cv .nilFunc)]) (.seq (R 3 [2] [.set 2 (.op (.p (.mkfn (.func 82) [] [.s 0])) (.sl 1))]) .ret))
theorem fn_utf_Spots : (autoPrg Tryz.prog).fn 49 = some LF_utf_Spots := by kernel_rfl
def LF_utf_Spots_1 : LFunc :=
  .mk 2 [] (.seq (R 6 [0, 1, 7] [.tmp 7 (.op (.e (.rngS 7 (.s 0))) (xld (.sl 1)))]) (.block 0 (.loop (.seq (R 8 [0, 1, 7, 8, 9] [.tmp 8 (.op (.e (.nxtS (.s 0))) (.sl 7)), .tmp 9
  (xex 0 (.sl 8))]) (.seq (.cond (.s 9) .skip (.exit 0)) (.block 1 (.seq (R 10 [0, 1, 3, 4, 7] [.tmp 10 (xex 1 (.sl 8)), .tmp 11 (xex 2 (.sl 8)), .set 3 (.sl 10), .set 4 (.sl 11)])
  (.seq (R 12 [0, 1, 3, 4, 5, 7] [.set 5 (xc1 83 (.va 4))]) (.seq (.seq (R 14 [0, 1, 3, 4, 5, 7, 24] [.tmp 24 (.and (xb .eql (.va 4) (xr 65533)) (xu .not (xc2
  84 (.op (.p (.slS (.s 0) (some (.s 1)) none)) (.cons (xld (.sl 1)) (.va 3))) (.op (.p (.i2s (.s 0))) (.va 4)))))]) (.cond (.s 24) (R 999 [0, 1, 3, 4, 5, 7]
  [.set 5 (xi 1)]) .skip)) (.seq (R 25 [0, 1, 7, 31] [.tmp 31 (xu .not (xv2 (.va 0) (.va 3) (xc2 56 (.va 4) (.va 5))))]) (.cond (.s 31) .ret .skip)))))))))))
theorem fn_utf_Spots_1 : (autoPrg Tryz.prog).fn 82 = some LF_utf_Spots_1 := by kernel_rfl
def LF_utf8_RuneLen : LFunc :=
  .mk 1 [.tmp 2] (.seq (R 999 [0] [.set 2 (xi 0)]) (.seq (.block 0 (.seq (R 4 [0, 3] [.set 3 (xb .lss (.va 0) (xr 0))]) (.cond (.s 3) (.seq (R 999 [2] [.set 2 (xi (-1))]) .ret)
  (.seq (R 7 [0, 6] [.set 6 (xb .leq (.va 0) (xr 127))]) (.cond (.s 6) (.seq (R 999 [2] [.set 2 (xi 1)]) .ret) (.seq (R 10 [0, 9] [.set 9 (xb .leq (.va 0) (xr 2047))]) (.cond (.s 9)
  (.seq (R 999 [2] [.set 2 (xi 2)]) .ret) (.seq (R 13 [0, 12] [.set 12 (.and (xb .leq (xr 55296) (.va 0)) (xb .leq (.va 0) (xr 57343)))]) (.cond (.s 12) (.seq (R 999 [2] [.set 2 (xi
  (-1))]) .ret) (.seq (R 20 [0, 19] [.set 19 (xb .leq (.va 0) (xr 65535))]) (.cond (.s 19) (.seq (R 999 [2] [.set 2 (xi 3)]) .ret) (.seq (R 23 [22] [.set 22 (xb .leq (.va 0) (xr
  1114111))]) (.cond (.s 22) (.seq (R 999 [2] [.set 2 (xi 4)]) .ret) .skip))))))))))))) (.seq (R 999 [2] [.set 2 (xi (-1))]) .ret)))
theorem fn_utf8_RuneLen : (autoPrg Tryz.prog).fn 83 = some LF_utf8_RuneLen := by kernel_rfl
def LF_strings_HasPrefix : LFunc :=
  .mk 2 [.tmp 4] (.seq (R 999 [0, 1] [.set 4 (.cv (.bool false))]) (.seq (R 5 [4] [.set 4 (xc2 124 (.va 0) (.va 1))]) .ret))
theorem fn_strings_HasPrefix : (autoPrg Tryz.prog).fn 84 = some LF_strings_HasPrefix := by kernel_rfl
def LF_internal_stringslite_HasPrefix : LFunc :=
  .mk 2 [.tmp 4] (.seq (R 999 [0, 1] [.set 4 (.cv (.bool false))]) (.seq (R 5 [4] [.set 4 (.and (xb .geq (xsl (.va 0)) (xsl (.va 1))) (xb .eql (.op (.p (.slS (.s 0) none (some (.s
  1)))) (.cons (.va 0) (xsl (.va 1)))) (.va 1)))]) .ret))
theorem fn_internal_stringslite_HasPrefix : (autoPrg Tryz.prog).fn 124 = some LF_internal_stringslite_HasPrefix := by kernel_rfl
def LF_utf_spot : LFunc :=
  .mk 2 [.cell 4 (some 3)] (.seq (R 4 [0, 1, 4] [.tmp 4 (xnl 4 [.int .i32 0, .int .i64 0, .bool false])]) (.seq (R 5 [4] [.run (xst 3 (.sl 4) (.op (.p (.build [.int .i32 0, .int
  .i64 0, .bool false] [(0, 1, .s 0), (1, 1, .s 1), (2, 1, .s 2)])) (.cons (.va 0) (.cons (.va 1) (.and (xb .eql (.va 0) (xr 65533)) (xb .eql (.va 1) (xi 1)))))))]) .ret))
theorem fn_utf_spot : (autoPrg Tryz.prog).fn 56 = some LF_utf_spot := by kernel_rfl
end Go.Proofs.YtfiaggbgplmmeaaGreatDoor.AM
namespace Go.Proofs.YtfiaggbgplmmeaaGreatDoor.AM
open Go
theorem runeLen_eq (c : Nat) (hc : RuneN c) (h : AH) : callO PX 83 [.int .i32 c] h = some (.int .i64 (encN c).length, h) := by
  have hle : c ≤ 0x10FFFF := by unfold RuneN at hc; omega
  have hl : (encN c).length = if c < 0x80 then 1 else if c < 0x800 then 2 else if c < 0x10000 then 3 else 4 := by
    unfold encN
    split
    · rfl
    · split
      · rfl
      · split <;> rfl
  unfold RuneN at hc
  apply WpC.eqn
  refine wpc_fn (px_ext rfl) (px_fn fn_utf8_RuneLen) rfl ?_
  unfold LF_utf8_RuneLen
  simp only [argFr]
  (refine W_x trivial ?_; (repeat' first | apply Cj.mk | exact Nl.nl) <;> intros)
  all_goals
    refine ⟨?_, rfl⟩
    rw [hl]
    congr 1
    repeat' split
    all_goals first | rfl | omega
theorem hasPrefix0_eq (a b : ByteArray) (h : AH) : callO PX 124 [.string a, .string b] h = some (.bool (decide (b.size ≤ a.size ∧ a.extract 0 b.size = b)), h) := by
  apply WpC.eqn
  refine wpc_fn (px_ext rfl) (px_fn fn_internal_stringslite_HasPrefix) rfl ?_
  unfold LF_internal_stringslite_HasPrefix
  simp only [argFr]
  (refine W_x trivial ?_; (repeat' first | apply Cj.mk | exact Nl.nl) <;> intros)
  all_goals (refine ⟨?_, rfl⟩; congr 1; symm)
  · rename_i g1 g2; exact decide_eq_true ⟨by omega, g2⟩
  · rename_i g1 g2; exact decide_eq_false (fun h => g2 h.2)
  · rename_i g1; exact decide_eq_false (fun h => g1 (by omega))
theorem hasPrefix_eq (a b : ByteArray) (h : AH) : callO PX 84 [.string a, .string b] h = some (.bool (decide (b.size ≤ a.size ∧ a.extract 0 b.size = b)), h) := by
  have e := hasPrefix0_eq a b
  apply WpC.eqn
  refine wpc_fn (px_ext rfl) (px_fn fn_strings_HasPrefix) rfl ?_
  unfold LF_strings_HasPrefix
  simp only [argFr]
  (refine W_x e ?_; (repeat' first | apply Cj.mk | exact Nl.nl) <;> intros)
  all_goals (refine ⟨?_, rfl⟩; congr 1; symm; first | exact decide_eq_true (by assumption) | exact decide_eq_false (by assumption))
theorem spot_eq (r n : Nat) (h : AH) : callO PX 56 [.int .i32 r, .int .i64 n] h = some (spotV (r, n), h) := by
  apply WpC.eqn
  refine wpc_fn (px_ext rfl) (px_fn fn_utf_spot) rfl ?_
  unfold LF_utf_spot
  simp only [argFr]
  (refine W_x trivial ?_; (repeat' first | apply Cj.mk | exact Nl.nl) <;> intros)
  all_goals
    refine ⟨?_, rfl⟩
    have hb : ∀ t : Bool, (t = true ↔ (r = 65533 ∧ n = 1)) → isBad2 (r, n) = t := fun t ht => by
      unfold isBad2
      rw [Bool.eq_iff_iff, ht]
      simp only [Bool.and_eq_true, beq_iff_eq]
    unfold spotV
    first
    | (have e : r = 65533 ∧ n = 1 := by omega
       rw [hb true (iff_of_true rfl e)]
       done)
    | (have e : ¬ (r = 65533 ∧ n = 1) := by omega
       rw [hb false (iff_of_false (by decide) e)]
       done)
theorem spotsMk_eq (s : ByteArray) (h : AH) : callO PX 49 [.string s] h = some (.func (.func 82) #[] #[.pointer (some ⟨h.n, 0, none⟩)], h.push (.cells false [.string s])) := by
  apply WpC.eqn
  refine wpc_fn (px_ext rfl) (px_fn fn_utf_Spots) rfl ?_
  unfold LF_utf_Spots
  simp only [argFr]
  (refine W_x trivial ?_; (repeat' first | apply Cj.mk | exact Nl.nl) <;> intros)
  exact ⟨rfl, rfl⟩
theorem spots_seq (s : ByteArray) (bx : Nat) (hsz : s.size ≤ 140737488351232) :
    SeqP PX (.func (.func 82) #[] #[.pointer (some ⟨bx, 0, none⟩)]) (spotsL s.data.toList) spotE (fun h => h.get bx = some (.cells false [.string s])) := by
  intro yv I E h hyv hvs hstep hD h0
  have d1 : h.get bx = some (.cells false [.string s]) := hD _ _ h0
  have hset := hyv.set
  have hlc1 := hyv.lc1
  refine wpV_fn ?_
  refine wpc_fn (px_ext rfl) (px_fn fn_utf_Spots_1) rfl ?_
  unfold LF_utf_Spots_1
  simp only [argFr, List.nil_append, List.cons_append]
  obtain ⟨l, hl⟩ : ∃ l, l = s.data.toList := ⟨_, rfl⟩
  rw [← hl] at hstep ⊢
  have hll : l.length = s.size := by rw [hl]; rfl
  (refine W_x (Aj d1 (Aj hset (Aj hlc1 @ev_rngS))) ?_; (repeat' first | apply Cj.mk | exact Nl.nl) <;> intros)
  refine wp_spotsS (fun _ _ => [(0, yv), (1, .pointer (some ⟨bx, 0, none⟩)), (7, .pointer (some ⟨14, 0, some 1⟩))]) (fun n _ => [(14, .siter s n)]) s l (fun i _ h1 => I i h1) (fun _ _ => (none : Option Unit)) () hl (by repeat' first | exact True.intro | refine And.intro rfl ?_) (fun _ _ => rfl) rfl h0 (fun i hil _ h1 hI hit => ?_) fun _ h1 hI fin => ?_
  · have d1 : h1.get bx = some (.cells false [.string s]) := hD _ _ hI
    obtain ⟨p1, p2, p3⟩ := posn_lt hil
    have hst := hstep i (by rw [spotsL_len]; exact hil) h1 hI
    rw [spotsL_get (by rw [spotsL_len]; exact hil)] at hst
    have hdc := dec_cases p3
    have hbad : (spots l)[i].1 = 65533 → ((encN 65533).length ≤ (l.drop (posn l i)).length ∧ (l.drop (posn l i)).take (encN 65533).length = encN 65533 ↔ (spots l)[i].2 = 3) := fun e => by
      rcases hdc with ⟨c, rest, hc, e1, e2⟩ | ⟨e1, e2⟩
      · rw [p2] at e2
        rw [e2] at e
        simp only at e
        subst e
        rw [e2, e1, encN_bad, List.take_left' encN_bad]
        simp [encN_bad]
      · rw [p2] at e1
        rw [e1, encN_bad]
        constructor
        · rintro ⟨h1, h2⟩
          exfalso
          refine e2 65533 ((l.drop (posn l i)).drop 3) rune_bad ?_
          rw [← h2, List.take_append_drop]
        · intro h; simp at h
    have hgood : (spots l)[i].1 ≠ 65533 → (spots l)[i].2 = (encN (spots l)[i].1).length := fun e => by
      rcases hdc with ⟨c, rest, hc, e1, e2⟩ | ⟨e1, e2⟩
      · rw [p2] at e2; rw [e2]
      · rw [p2] at e1; rw [e1] at e; exact absurd rfl e
    have hw3 : (spots l)[i].1 = 65533 → (spots l)[i].2 = 3 ∨ (spots l)[i].2 = 1 := fun e => by
      rcases hdc with ⟨c, rest, hc, e1, e2⟩ | ⟨e1, e2⟩
      · rw [p2] at e2
        rw [e2] at e
        simp only at e
        subst e
        rw [e2]; exact .inl encN_bad
      · rw [p2] at e1; rw [e1]; exact .inr rfl
    have hru : RuneN (spots l)[i].1 := runesB_rune l _ (List.mem_map.2 ⟨_, List.getElem_mem hil, rfl⟩)
    (refine W_x (Aj hset hlc1) ?_; (repeat' first | apply Cj.mk | exact Nl.nl) <;> intros)
    refine wo_next hl rfl hil ?_
    generalize (spots l)[i] = x at hst hbad hgood hw3 hru
    have hcast : ((Utf8.encode ((65533 : Nat) : Int))).data.toList = encN 65533 := encode_eq rune_bad
    have hpre : x.1 = 65533 → (decide ((Utf8.encode (x.1 : Int)).size ≤ (s.extract (posn l i) s.size).size ∧ (s.extract (posn l i) s.size).extract 0 (Utf8.encode (x.1 : Int)).size = Utf8.encode (x.1 : Int))) = decide (x.2 = 3) := fun e => by
      refine decide_eq_decide.2 ?_
      rw [← hbad e, e]
      have z1 : (Utf8.encode ((65533 : Nat) : Int)).size = (encN 65533).length := by rw [ba_size, hcast]
      have z2 : (s.extract (posn l i) s.size).data.toList = l.drop (posn l i) := by
        rw [ba_extract _ _ _ (Nat.le_refl _), ← hl, ← hll, ← List.length_drop, List.take_length]
      have z3 : (s.extract (posn l i) s.size).size = (l.drop (posn l i)).length := by rw [ba_size, z2]
      rw [z1, z3]
      constructor
      · rintro ⟨a, b⟩
        refine ⟨a, ?_⟩
        have : ((s.extract (posn l i) s.size).extract 0 (encN 65533).length).data.toList = (Utf8.encode ((65533 : Nat) : Int)).data.toList := by rw [b]
        rw [ba_extract _ _ _ (by omega), z2, hcast] at this
        simpa using this
      · rintro ⟨a, b⟩
        refine ⟨a, ba_ext ?_⟩
        rw [ba_extract _ _ _ (by omega), z2, hcast]
        simpa using b
    have el := runeLen_eq x.1 hru
    have es := fun n => spot_eq x.1 n
    by_cases e : x.1 = 65533
    · have hpre := hpre e
      have hw4 := hw3 e
      obtain ⟨c, w⟩ := x
      simp only at e hpre hw4 hst
      have hci : (c : Int) = 65533 := by omega
      have el2 : ∀ h, callO PX 83 [.int .i32 c] h = some (.int .i64 3, h) := fun h => by
        have := el h
        simp only at this
        rw [this, e, encN_bad]
        rfl
      have eh2 : ∀ h, callO PX 84 [.string (s.extract (posn l i) s.size), .string (Utf8.encode c)] h = some (.bool (decide (w = 3)), h) := fun h => by
        have := hasPrefix_eq (s.extract (posn l i) s.size) (Utf8.encode (c : Int)) h
        rw [hpre] at this
        exact this
      have es2 : ∀ h, callO PX 56 [.int .i32 c, .int .i64 3] h = some (spotV (c, 3), h) := fun h => spot_eq c 3 h
      have es3 : ∀ h, callO PX 56 [.int .i32 c, .int .i64 1] h = some (spotV (c, 1), h) := fun h => spot_eq c 1 h
      have hpl : ((posn l i : Nat) : Int) ≤ (s.size : Int) := by omega
      rcases hw4 with rfl | rfl
      all_goals
        simp only [decide_true, show decide (1 = 3) = false from rfl] at eh2
        (refine W_x (Aj hset (Aj hlc1 (Aj d1 (Aj el2 (Aj eh2 (Aj es2 es3)))))) ?_; (repeat' first | apply Cj.mk | exact Nl.nl) <;> intros)
        refine wo_callV (fv := yv) rfl rfl rfl ?_
        refine hst.mono ?_
        rintro v h2 hor
        rcases hor with ⟨rfl, hI2⟩ | ⟨rfl, hE⟩
        · (refine W_x (Aj hset hlc1) ?_; (repeat' first | apply Cj.mk | exact Nl.nl) <;> intros)
          exact ⟨rfl, (), (by repeat' first | exact True.intro | refine And.intro rfl ?_), rfl, hI2⟩
        · (refine W_x (Aj hset hlc1) ?_; (repeat' first | apply Cj.mk | exact Nl.nl) <;> intros)
          exact .inr hE
    · have hgd := hgood e
      rw [← hgd] at el
      have es2 := es x.2
      have hne : ¬ (x.1 : Int) = 65533 := by omega
      (refine W_x (Aj hset (Aj hlc1 (Aj el es2))) ?_; (repeat' first | apply Cj.mk | exact Nl.nl) <;> intros)
      refine wo_callV (fv := yv) rfl rfl rfl ?_
      refine hst.mono ?_
      rintro v h2 hor
      rcases hor with ⟨rfl, hI2⟩ | ⟨rfl, hE⟩
      · (refine W_x (Aj hset hlc1) ?_; (repeat' first | apply Cj.mk | exact Nl.nl) <;> intros)
        exact ⟨rfl, (), (by repeat' first | exact True.intro | refine And.intro rfl ?_), rfl, hI2⟩
      · (refine W_x (Aj hset hlc1) ?_; (repeat' first | apply Cj.mk | exact Nl.nl) <;> intros)
        exact .inr hE
  · (refine W_x (Aj hset hlc1) ?_; (repeat' first | apply Cj.mk | exact Nl.nl) <;> intros)
    refine wo_nextE hl rfl ?_
    (refine W_x (Aj hset hlc1) ?_; (repeat' first | apply Cj.mk | exact Nl.nl) <;> intros)
    exact .inl (by rw [spotsL_len]; exact hI)
end Go.Proofs.YtfiaggbgplmmeaaGreatDoor.AM
namespace Go.Proofs.YtfiaggbgplmmeaaGreatDoor.AM
open Go
def LF_open_First : LFunc :=
  .mk 2 [.cell 4 (some 2), .cell 5 none] (.seq (R 2 [1, 2, 4, 5] [.tmp 2 (xbh 1 (.sl 0)), .at 4, .tmp 4 (xnh [.int .i64 0, .int .i64 0]), .tmp 5 (xnh [.bool false])]) (.seq (.seq (R
  14 [1, 2, 4, 5, 15] [.tmp 15 (.op (.p (.eqk false .ptr (.s 0) (.s 1))) (.cons (xld (.sl 2)) (.cv (.pointer none))))]) (.cond (.s 15) (.seq (R 16 [4, 5] [.run (xst 2 (.sl 4) (.op
  (.p (.build [.int .i64 0, .int .i64 0] [])) .nil)), .run (xst 1 (.sl 5) (.cv (.bool false)))]) .ret) .skip)) (.seq (R 6 [1, 2, 4, 5, 6, 7] [.tmp 6 (xnh [.int .i64 0]), .tmp 7 (xnh
  [.int .i64 0]), .run (xst 1 (.sl 6) (xi 0)), .run (xst 1 (.sl 7) (xi 0))]) (.seq (.seq (R 17 [2, 4, 5, 6, 7, 18] [.tmp 18 (xc1 49 (.va 1))]) (.block 0 (.rangeF (.s 18)
  [19, 20] (.seq (R 8 [2, 4, 5, 6, 7, 8, 20] [.tmp 8 (.va 19)]) (R 9 [2, 4, 5, 6, 7, 8, 9] [.tmp 9 (xnl 9 [.int .i32 0, .int .i64 0, .bool false]), .run (xst 3 (.sl 9) (.sl 20))]))
  (.block 1 (.seq (R 21 [2, 4, 5, 6, 7, 8, 9, 10] [.set 10 (xc2 33 (xld (.sl 2)) (xld (xfa 0 (.sl 9))))]) (.seq (R 26 [4, 5, 6, 7, 8, 9, 10, 13] [.set 25 (xc2
  29 (xld (.sl 2)) (xld (xfa 0 (.sl 9)))), .tmp 30 (xex 0 (.sl 25)), .tmp 31 (xex 1 (.sl 25)), .tmp 32 (xex 2 (.sl 25)), .set 11 (.sl 30), .set 12 (.sl 31),
  .set 13 (.sl 32)]) (.seq (.seq (R 33 [4, 5, 6, 7, 8, 10, 46] [.tmp 46 (.or (.or (xld (xfa 2 (.sl 9))) (.va 13)) (.and (xb .gtr (.va 10) (xi 0)) (xb .lss (.va 10) (xld (.sl
  6)))))]) (.cond (.s 46) (.seq (R 47 [] [.run (xst 2 (.sl 4) (.op (.p (.build [.int .i64 0, .int .i64 0] [(0, 1, .s 0), (1, 1, .s 1)])) (.cons (.va 8) (xld (.sl 7))))), .run (xst 1
  (.sl 5) (.cv (.bool true)))]) .ret) .skip)) (.seq (R 50 [7] [.run (xst 1 (.sl 6) (.va 10))]) (R 51 [] [.run (xst 1 (.sl 7) (xb .add (xld (.sl 7)) (xi 1)))]))))))))) (.seq (R 53
  [4, 5] [.run (xst 2 (.sl 4) (.op (.p (.build [.int .i64 0, .int .i64 0] [])) .nil)), .run (xst 1 (.sl 5) (.cv (.bool false)))]) .ret)))))
theorem fn_open_First : (autoPrg Tryz.prog).fn 21 = some LF_open_First := by kernel_rfl
def LF_guiseref9_First : LFunc :=
  .mk 2 [.cell 4 (some 2), .tmp 5] (.seq (R 2 [1, 2, 4] [.tmp 2 (xbl 2 8 (.sl 0)), .at 4, .tmp 4 (xnl 4 [.int .i64 0, .int .i64 0]), .set 5 (.cv (.bool false))]) (.seq (R 999 [1, 2,
  4, 6] [.set 6 (xi 0)]) (.seq (R 999 [1, 2, 4, 6, 7] [.set 7 (xi 0)]) (.seq (.seq (R 14 [1, 2, 4, 6, 7, 15] [.tmp 15 (.op (.e (.rngS 15 (.s 0))) (.va 1))]) (.block 0 (.loop (.seq
  (R 16 [1, 2, 4, 6, 7, 15, 16, 17] [.tmp 16 (.op (.e (.nxtS (.s 0))) (.sl 15)), .tmp 17 (xex 0 (.sl 16))]) (.seq (.cond (.s 17) .skip (.exit 0)) (.block 1 (.seq (R 18 [1, 2, 4, 6,
  7, 8, 9, 15] [.tmp 18 (xex 1 (.sl 16)), .tmp 19 (xex 2 (.sl 16)), .set 8 (.sl 18), .set 9 (.sl 19)]) (.seq (R 20 [1, 2, 4, 6, 7, 8, 9, 10, 15] [.set 10 (xc2 50
  (xln 8 (.sl 2)) (.va 9))]) (.seq (R 24 [1, 2, 4, 6, 7, 8, 10, 13, 15] [.set 23 (xc2 51 (xln 8 (.sl 2)) (.va 9)), .tmp 27 (xex 0 (.sl 23)), .tmp 28 (xex 1 (.sl
  23)), .tmp 29 (xex 2 (.sl 23)), .set 11 (.sl 27), .set 12 (.sl 28), .set 13 (.sl 29)]) (.seq (.seq (R 30 [1, 2, 4, 7, 8, 10, 15, 44] [.tmp 44 (.or (.or (xc2 52 (.va
  1) (.va 8)) (.va 13)) (.and (xb .gtr (.va 10) (xi 0)) (xb .lss (.va 10) (.va 6))))]) (.cond (.s 44) (.seq (R 45 [4, 5] [.run (xst 2 (.sl 4) (.op (.p (.build [.int .i64 0, .int
  .i64 0] [(0, 1, .s 0), (1, 1, .s 1)])) (.cons (.va 8) (.va 7)))), .set 5 (.cv (.bool true))]) .ret) .skip)) (.seq (R 48 [1, 2, 4, 6, 7, 15] [.set 6 (.va 10)]) (R 49 [1, 2, 4, 6,
  7, 15] [.set 7 (xb .add (.va 7) (xi 1))])))))))))))) (.seq (R 51 [4, 5] [.run (xst 2 (.sl 4) (.op (.p (.build [.int .i64 0, .int .i64 0] [])) .nil)), .set 5 (.cv (.bool false))])
  .ret)))))
theorem fn_guiseref9_First : (autoPrg Tryz.prog).fn 23 = some LF_guiseref9_First := by kernel_rfl
def LF_guiseref8_Bad : LFunc :=
  .mk 2 [.tmp 4] (.seq (R 999 [0, 1] [.set 4 (.cv (.bool false))]) (.seq (.seq (R 7 [0, 1, 10] [.tmp 10 (.op (.e (.rngS 10 (.s 0))) (.op (.p (.slS (.s 0) (some (.s 1)) none)) (.cons
  (.va 0) (.va 1))))]) (.block 0 (.loop (.seq (R 11 [0, 1, 11, 12] [.tmp 11 (.op (.e (.nxtS (.s 0))) (.sl 10)), .tmp 12 (xex 0 (.sl 11))]) (.seq (.cond (.s 12) .skip (.exit 0))
  (.block 1 (.seq (R 13 [0, 1, 6] [.set 6 (xex 2 (.sl 11))]) (.seq (R 14 [4] [.set 4 (.and (xb .eql (.va 6) (xr 65533)) (.or (xb .lss (xb .sub (xsl (.va 0)) (.va 1)) (xi 3)) (xb
  .neq (.op (.p (.slS (.s 0) (some (.s 1)) (some (.s 2)))) (.cons (.va 0) (.cons (.va 1) (xb .add (.va 1) (xi 3))))) (.cv (.string ⟨#[239, 191, 189]⟩)))))]) .ret)))))))) (.seq (R
  999 [4] [.set 4 (.cv (.bool false))]) .ret)))
theorem fn_guiseref8_Bad : (autoPrg Tryz.prog).fn 52 = some LF_guiseref8_Bad := by kernel_rfl
def LF_guiseref9_Open : LFunc :=
  .mk 2 [.tmp 4] (.seq (R 2 [1, 2] [.tmp 2 (xbl 2 8 (.sl 0)), .set 4 (.cv (.slice none 0 0))]) (.seq (R 999 [1, 2, 5] [.set 5 (.cv (.slice none 0 0))]) (.seq (.seq (R 8 [2, 5, 9]
  [.tmp 9 (.op (.e (.rngS 9 (.s 0))) (.va 1))]) (.block 0 (.loop (.seq (R 10 [2, 5, 9, 10, 11] [.tmp 10 (.op (.e (.nxtS (.s 0))) (.sl 9)), .tmp 11 (xex 0 (.sl 10))]) (.seq (.cond
  (.s 11) .skip (.exit 0)) (.block 1 (.seq (R 12 [2, 5, 7, 9] [.set 7 (xex 2 (.sl 10))]) (R 13 [2, 5, 9] [.set 5 (xap 1 4 (.va 5) (xc2 53 (xln 8 (.sl 2)) (.va
  7)))])))))))) (.seq (R 18 [4] [.set 4 (xc2 54 (xln 8 (.sl 2)) (.va 5))]) .ret))))
theorem fn_guiseref9_Open : (autoPrg Tryz.prog).fn 24 = some LF_guiseref9_Open := by kernel_rfl
end Go.Proofs.YtfiaggbgplmmeaaGreatDoor.AM
namespace Go.Proofs.YtfiaggbgplmmeaaGreatDoor.AM
open Go
def bdO (T : Tab) (l : Bytes) (i : Nat) (x : Nat × Nat) : Prop := badP x ∨ (pairI T x.1).isSome = true ∨ (0 < clT T x.1 ∧ clT T x.1 < prevC T l i)
theorem scanL_hit {α β : Type} {l : List α} {g : Nat → α → Option β} {i : Nat} (hi : i < l.length) (h : ∀ j (hj : j < l.length), j < i → g j l[j] = none) {w : β} (hw : g i l[i] = some w) : scanL l g = some w :=
  scan_hit (fun j hj => by rw [List.getElem?_eq_getElem (by omega)]; exact h j (by omega) hj) hi (by rw [List.getElem?_eq_getElem hi]; exact hw)
def bdO' (ib : Bool) (pr : Option (Int × Int)) (c pc : Int) : Prop := ib = true ∨ pr.isSome = true ∨ (0 < c ∧ c < pc)
theorem isBad_iff (x : Nat × Nat) : isBad2 x = true ↔ badP x := by simp [isBad2, badP]
theorem openFirst_spec {h : AH} {k B : Nat} {s6 : Sl} {T : Tab} (gd : goodB T = true) (bk : BkAt h k B s6 T) (s : ByteArray) (hs : s.size ≤ 1048576) : WpC PX 21 [.pointer (some ⟨k, 0, none⟩), .string s] h fun v h' => v = plV (firstO T s.data.toList) ∧ Kp h h' := by
  have hz : s.data.toList.length = s.size := rfl
  have hn := spots_len s.data.toList
  have e1 := fun h => spotsMk_eq s h
  refine wpc_fn (px_ext rfl) (px_fn fn_open_First) rfl ?_
  unfold LF_open_First
  simp only [argFr]
  (refine W_x e1 ?_; (repeat' first | apply Cj.mk | exact Nl.nl) <;> intros)
  generalize hH0 : ((((((((h.push (.cells false [.pointer (some ⟨k, 0, none⟩)])).push (.cells false [.int .i64 0, .int .i64 0])).push (.cells false [.bool false])).push (.cells false [.int .i64 0])).push (.cells false [.int .i64 0])).set (h.n + 1 + 1 + 1) (.cells false [.int .i64 0])).set (h.n + 1 + 1 + 1 + 1) (.cells false [.int .i64 0])).push (.cells false [.string s])) = H0
  simp only [Nat.add_assoc, Nat.reduceAdd] at hH0 ⊢
  have n0 : H0.n = h.n + 6 := by rw [← hH0]; simp only [AH.push_n, AH.set_n]
  have a0 : H0.get h.n = some (.cells false [.pointer (some ⟨k, 0, none⟩)]) := by rw [← hH0]; simp (disch := first | omega | (simp only [AH.nn_push, AH.nn_set, AH.nn_kill]; omega) | (simp only [AH.nn_push, AH.nn_set, AH.nn_kill]; done) | fail) only [AH.get_push_eq, AH.get_push_ne, AH.get_set_eq, AH.get_set_ne]
  have a1 : H0.get (h.n + 1) = some (.cells false [.int .i64 0, .int .i64 0]) := by rw [← hH0]; simp (disch := first | omega | (simp only [AH.nn_push, AH.nn_set, AH.nn_kill]; omega) | (simp only [AH.nn_push, AH.nn_set, AH.nn_kill]; done) | fail) only [AH.get_push_eq, AH.get_push_ne, AH.get_set_eq, AH.get_set_ne]
  have a2 : H0.get (h.n + 2) = some (.cells false [.bool false]) := by rw [← hH0]; simp (disch := first | omega | (simp only [AH.nn_push, AH.nn_set, AH.nn_kill]; omega) | (simp only [AH.nn_push, AH.nn_set, AH.nn_kill]; done) | fail) only [AH.get_push_eq, AH.get_push_ne, AH.get_set_eq, AH.get_set_ne]
  have a3 : H0.get (h.n + 3) = some (.cells false [.int .i64 0]) := by rw [← hH0]; simp (disch := first | omega | (simp only [AH.nn_push, AH.nn_set, AH.nn_kill]; omega) | (simp only [AH.nn_push, AH.nn_set, AH.nn_kill]; done) | fail) only [AH.get_push_eq, AH.get_push_ne, AH.get_set_eq, AH.get_set_ne]
  have a4 : H0.get (h.n + 4) = some (.cells false [.int .i64 0]) := by rw [← hH0]; simp (disch := first | omega | (simp only [AH.nn_push, AH.nn_set, AH.nn_kill]; omega) | (simp only [AH.nn_push, AH.nn_set, AH.nn_kill]; done) | fail) only [AH.get_push_eq, AH.get_push_ne, AH.get_set_eq, AH.get_set_ne]
  have a5 : H0.get (h.n + 5) = some (.cells false [.string s]) := by rw [← hH0]; simp (disch := first | omega | (simp only [AH.nn_push, AH.nn_set, AH.nn_kill]; omega) | (simp only [AH.nn_push, AH.nn_set, AH.nn_kill]; done) | fail) only [AH.get_push_eq, AH.get_push_ne, AH.get_set_eq, AH.get_set_ne]
  have ak : ∀ b, b < h.n → H0.get b = h.get b := fun b hb => by rw [← hH0]; simp (disch := first | omega | (simp only [AH.nn_push, AH.nn_set, AH.nn_kill]; omega) | (simp only [AH.nn_push, AH.nn_set, AH.nn_kill]; done) | fail) only [AH.get_push_eq, AH.get_push_ne, AH.get_set_eq, AH.get_set_ne]
  clear hH0
  refine wp_rangeP (xs := spotsL s.data.toList) (enc := spotE) (D := fun h1 => h1.get (h.n + 5) = some (.cells false [.string s])) rfl (spots_seq s (h.n + 5) (by omega)) (fun _ => rfl)
    (fun i h1 => (∀ b, b < h.n → h1.get b = h.get b) ∧ h.n + 6 ≤ h1.n ∧ h1.get h.n = some (.cells false [.pointer (some ⟨k, 0, none⟩)]) ∧ h1.get (h.n + 1) = some (.cells false [.int .i64 0, .int .i64 0]) ∧ h1.get (h.n + 2) = some (.cells false [.bool false]) ∧
      h1.get (h.n + 3) = some (.cells false [.int .i64 (prevC T s.data.toList i)]) ∧ h1.get (h.n + 4) = some (.cells false [.int .i64 i]) ∧ h1.get (h.n + 5) = some (.cells false [.string s]) ∧ ∀ j (hj : j < (spots s.data.toList).length), j < i → ¬ bdO T s.data.toList j (spots s.data.toList)[j])
    (fun ex h1 => ex = .ret ∧ (∀ b, b < h.n → h1.get b = h.get b) ∧ h.n + 6 ≤ h1.n ∧ ∃ a b : Nat, firstO T s.data.toList = some (a, b) ∧ h1.get (h.n + 1) = some (.cells false [.int .i64 a, .int .i64 b]) ∧ h1.get (h.n + 2) = some (.cells false [.bool true]))
    (fun y => [(2, .pointer (some ⟨h.n, 0, none⟩)), (4, .pointer (some ⟨h.n + 1, 0, none⟩)), (5, .pointer (some ⟨h.n + 2, 0, none⟩)), (6, .pointer (some ⟨h.n + 3, 0, none⟩)), (7, .pointer (some ⟨h.n + 4, 0, none⟩)), (8, .int .i64 y.1), (9, .pointer (some ⟨18, 0, some 1⟩))])
    (fun y => [(18, .cells false [.int .i32 y.2.1, .int .i64 y.2.2, .bool (isBad2 y.2)])]) ?_ ?_ ?_ ?_ ?_ ?_ ?_ ?_
  · rw [n0]
    rintro i h1 h2 ⟨f0, fn, f1, f2, f3, f4, f5, f6, f7⟩ k
    exact ⟨fun b hb => by rw [k.get b (by omega)]; exact f0 b hb, by rw [k.n]; exact fn, by rw [k.get _ (by omega)]; exact f1, by rw [k.get _ (by omega)]; exact f2, by rw [k.get _ (by omega)]; exact f3, by rw [k.get _ (by omega)]; exact f4, by rw [k.get _ (by omega)]; exact f5, by rw [k.get _ (by omega)]; exact f6, f7⟩
  · rw [n0]
    rintro ex h1 h2 ⟨rfl, f0, fn, a, b, q, f1, f2⟩ k
    exact ⟨rfl, fun b hb => by rw [k.get b (by omega)]; exact f0 b hb, by rw [k.n]; exact fn, a, b, q, by rw [k.get _ (by omega)]; exact f1, by rw [k.get _ (by omega)]; exact f2⟩
  · exact fun i h1 f => f.2.2.2.2.2.2.2.1
  · intro y h1
    unfold spotE spotV
    simp only [List.zip_cons_cons, List.zip_nil_right, List.reverse_cons, List.reverse_nil, List.nil_append, List.cons_append, okFr_cons, okFr_nil, okV_eq, isLoc_ptr, isLoc_func, Bool.not_false, if_true]
    (refine W_x trivial ?_; (repeat' first | apply Cj.mk | exact Nl.nl) <;> intros)
    exact ⟨rfl, rfl, rfl, rfl⟩
  · intro o
    have k : ∀ b, b < h.n + 6 → (H0.push o).get b = H0.get b := fun b hb => AH.get_push_ne _ (by omega)
    exact ⟨fun b hb => (k b (by omega)).trans (ak b hb), by rw [AH.push_n, n0]; omega, (k _ (by omega)).trans a0, (k _ (by omega)).trans a1, (k _ (by omega)).trans a2, (k _ (by omega)).trans a3, (k _ (by omega)).trans a4, (k _ (by omega)).trans a5, fun j hj hlt => absurd hlt (by omega)⟩
  · rw [n0]
    rintro i hi h1 o ⟨f0, fn, f1, f2, f3, f4, f5, f6, f7⟩ ho
    have l4 := AH.get_lt ho
    have hil : i < (spots s.data.toList).length := by rw [← spotsL_len]; exact hi
    rw [spotsL_get hi]
    have bk1 : BkAt h1 k B s6 T := bk.kp ⟨by omega, f0⟩
    have hps := posn_lt hil
    have hpc : prevC T s.data.toList (i + 1) = clT T ((spots s.data.toList)[i]).1 := by simp [prevC, List.getD_eq_getElem?_getD, List.getElem?_eq_getElem hil]
    have hhit : ∀ (_ : bdO T s.data.toList i (spots s.data.toList)[i]), firstO T s.data.toList = some (posn s.data.toList i, i) := fun hb => scanL_hit hil (fun j hj hlt => if_neg (f7 j hj hlt)) (if_pos hb)
    have hnx : ¬ bdO T s.data.toList i (spots s.data.toList)[i] → ∀ j (hj : j < (spots s.data.toList).length), j < i + 1 → ¬ bdO T s.data.toList j (spots s.data.toList)[j] := fun hb j hj hlt => by
      rcases Nat.lt_or_ge j i with q | q
      · exact f7 j hj q
      · obtain rfl : j = i := by omega
        exact hb
    generalize hx : (spots s.data.toList)[i] = x at *
    have e2 := class_eq bk1 (x.1 : Nat)
    have e3 := bookPair_eq bk1 (x.1 : Nat)
    rw [show classI T (x.1 : Nat) = clT T x.1 from rfl] at e2
    have hbi := isBad_iff x
    unfold bdO at hhit hnx
    generalize isBad2 x = ib at hbi
    generalize pairI T x.1 = pr at e3 hhit hnx
    generalize prevC T s.data.toList i = pc at f4 hhit hnx
    dsimp only
    have hret : bdO' ib pr (clT T x.1) pc → ∀ (h2 : AH), h2 = (h1.set (h.n + 1) (.cells false [.int .i64 (posn s.data.toList i), .int .i64 i])).set (h.n + 2) (.cells false [.bool true]) → h2.get (h.n + 6) = some o ∧ (∀ b, b < h.n → h2.get b = h.get b) ∧ h.n + 6 ≤ h2.n ∧ ∃ a b : Nat, firstO T s.data.toList = some (a, b) ∧ h2.get (h.n + 1) = some (.cells false [.int .i64 a, .int .i64 b]) ∧ h2.get (h.n + 2) = some (.cells false [.bool true]) := by
      rintro hb h2 rfl
      refine ⟨by rw [AH.get_set_ne _ (by omega), AH.get_set_ne _ (by omega)]; exact ho, fun b hb => by rw [AH.get_set_ne _ (by omega), AH.get_set_ne _ (by omega)]; exact f0 b hb, by rw [AH.set_n, AH.set_n]; exact fn, _, _, hhit (hb.imp hbi.1 id), ?_, ?_⟩
      · rw [AH.get_set_ne _ (by omega), AH.get_set_same _ (by omega)]
      · exact AH.get_set_same _ (by rw [AH.set_n]; omega)
    have hnorm : ¬ bdO' ib pr (clT T x.1) pc → ∀ (h2 : AH), h2 = (h1.set (h.n + 3) (.cells false [.int .i64 (clT T x.1)])).set (h.n + 4) (.cells false [.int .i64 ((i : Int) + 1)]) → h2.get (h.n + 6) = some o ∧ (∀ b, b < h.n → h2.get b = h.get b) ∧ h.n + 6 ≤ h2.n ∧ h2.get h.n = some (.cells false [.pointer (some ⟨k, 0, none⟩)]) ∧ h2.get (h.n + 1) = some (.cells false [.int .i64 0, .int .i64 0]) ∧ h2.get (h.n + 2) = some (.cells false [.bool false]) ∧
        h2.get (h.n + 3) = some (.cells false [.int .i64 (clT T x.1)]) ∧ h2.get (h.n + 4) = some (.cells false [.int .i64 ((i + 1 : Nat) : Int)]) ∧ h2.get (h.n + 5) = some (.cells false [.string s]) ∧ ∀ j (hj : j < (spots s.data.toList).length), j < i + 1 → ¬ bdO T s.data.toList j (spots s.data.toList)[j] := by
      rintro hb h2 rfl
      refine ⟨by rw [AH.get_set_ne _ (by omega), AH.get_set_ne _ (by omega)]; exact ho, fun b hb => by rw [AH.get_set_ne _ (by omega), AH.get_set_ne _ (by omega)]; exact f0 b hb, by rw [AH.set_n, AH.set_n]; exact fn, ?_, ?_, ?_, ?_, ?_, ?_, hnx fun q => hb (q.imp hbi.2 id)⟩
      · rw [AH.get_set_ne _ (by omega), AH.get_set_ne _ (by omega)]; exact f1
      · rw [AH.get_set_ne _ (by omega), AH.get_set_ne _ (by omega)]; exact f2
      · rw [AH.get_set_ne _ (by omega), AH.get_set_ne _ (by omega)]; exact f3
      · rw [AH.get_set_ne _ (by omega), AH.get_set_same _ (by omega)]
      · exact AH.get_set_same _ (by rw [AH.set_n]; omega)
      · rw [AH.get_set_ne _ (by omega), AH.get_set_ne _ (by omega)]; exact f6
    rw [hpc]
    cases ib with
    | true =>
      have hr := hret (.inl rfl) _ rfl
      rcases pr with _ | ⟨p, q⟩
      all_goals
        simp only [prV] at e3
        (refine W_x (Aj f1 (Aj f2 (Aj f3 (Aj f4 (Aj f5 (Aj e2 e3)))))) ?_; (repeat' first | apply Cj.mk | exact Nl.nl) <;> intros)
        exact ⟨hr.1, rfl, hr.2⟩
    | false =>
      rcases pr with _ | ⟨p, q⟩
      · simp only [prV] at e3
        by_cases hc : 0 < clT T x.1 ∧ clT T x.1 < pc
        · have hr := hret (.inr (.inr hc)) _ rfl
          obtain ⟨c1, c2⟩ := hc
          (refine W_x (Aj f1 (Aj f2 (Aj f3 (Aj f4 (Aj f5 (Aj e2 e3)))))) ?_; (repeat' first | apply Cj.mk | exact Nl.nl) <;> intros)
          exact ⟨hr.1, rfl, hr.2⟩
        · have hr := hnorm (by rintro (q | q | q); cases q; cases q; exact hc q) _ rfl
          have hle : i < 1048576 := by omega
          (refine W_x (Aj f1 (Aj f2 (Aj f3 (Aj f4 (Aj f5 (Aj e2 e3)))))) ?_; (repeat' first | apply Cj.mk | exact Nl.nl) <;> intros)
          all_goals first | exact hr | (exfalso; omega)
      · have hr := hret (.inr (.inl rfl)) _ rfl
        simp only [prV] at e3
        (refine W_x (Aj f1 (Aj f2 (Aj f3 (Aj f4 (Aj f5 (Aj e2 e3)))))) ?_; (repeat' first | apply Cj.mk | exact Nl.nl) <;> intros)
        exact ⟨hr.1, rfl, hr.2⟩
  · rintro h1 ⟨f0, fn, f1, f2, f3, f4, f5, f6, f7⟩
    rw [spotsL_len] at f7
    have hno : firstO T s.data.toList = none := scanL_end fun j hj => if_neg (f7 j hj hj)
    rw [hno]
    (refine W_x (Aj f1 (Aj f2 f3)) ?_; (repeat' first | apply Cj.mk | exact Nl.nl) <;> intros)
    refine ⟨rfl, by rw [AH.set_n, AH.set_n]; omega, fun b hb => ?_⟩
    rw [AH.get_set_ne _ (by omega), AH.get_set_ne _ (by omega)]
    exact f0 b hb
  · rintro ex h1 hne ⟨rfl, f0, fn, a, b, q, f1, f2⟩
    rw [q]
    (refine W_x (Aj f1 f2) ?_; (repeat' first | apply Cj.mk | exact Nl.nl) <;> intros)
    exact ⟨rfl, by omega, f0⟩
end Go.Proofs.YtfiaggbgplmmeaaGreatDoor.AM
namespace Go.Proofs.YtfiaggbgplmmeaaGreatDoor.AM
open Go
theorem bad_at {l : Bytes} {i : Nat} (hil : i < (spots l).length) : badP (spots l)[i] ↔ ((spots l)[i]).1 = 65533 ∧ ¬ (3 ≤ l.length - posn l i ∧ (l.drop (posn l i)).take 3 = [239, 191, 189]) := by
  obtain ⟨p1, p2, p3⟩ := posn_lt hil
  have hdc := dec_cases p3
  have e3 : encN 65533 = [239, 191, 189] := by decide
  generalize hx : (spots l)[i] = x at *
  rw [← List.length_drop]
  generalize l.drop (posn l i) = m at *
  unfold badP
  rcases hdc with ⟨c, rest, hc, e1, e2⟩ | ⟨e1, e2⟩
  · rw [p2] at e2
    subst e2
    refine ⟨fun ⟨a, b⟩ => ?_, fun ⟨a, b⟩ => ?_⟩
    · simp only at a b
      subst a
      rw [encN_bad] at b
      cases b
    · simp only at a
      subst a
      exfalso
      apply b
      rw [e1, e3]
      simp
  · rw [p2] at e1
    subst e1
    refine ⟨fun _ => ⟨rfl, fun ⟨a, b⟩ => ?_⟩, fun _ => ⟨rfl, rfl⟩⟩
    refine e2 65533 (m.drop 3) rune_bad ?_
    rw [e3, ← b, List.take_append_drop]
theorem bad_eq (s : ByteArray) (hs : s.size ≤ 1048576) {i : Nat} (hil : i < (spots s.data.toList).length) (h : AH) : callO PX 52 [.string s, .int .i64 (posn s.data.toList i)] h = some (.bool (decide (badP (spots s.data.toList)[i])), h) := by
  have hz : s.data.toList.length = s.size := rfl
  obtain ⟨p1, p2, p3⟩ := posn_lt hil
  have hb := bad_at hil
  have hpl : ((posn s.data.toList i : Nat) : Int) ≤ (s.size : Int) := by omega
  have hd := (spots_drop s.data.toList i (by omega)).1
  obtain ⟨z, hze⟩ : ∃ z, z = s.extract (posn s.data.toList i) s.size := ⟨_, rfl⟩
  have hzl : z.data.toList = s.data.toList.drop (posn s.data.toList i) := by
    rw [hze, ba_extract _ _ _ (Nat.le_refl _), ← hz, ← List.length_drop, List.take_length]
  have h0 : 0 < (spots z.data.toList).length := by rw [hzl, hd, List.length_drop]; omega
  have hx0 : (spots z.data.toList)[0] = (spots s.data.toList)[i] := by simp only [hzl, hd, List.getElem_drop, Nat.add_zero]
  apply WpC.eqn
  refine wpc_fn (px_ext rfl) (px_fn fn_guiseref8_Bad) rfl ?_
  unfold LF_guiseref8_Bad
  simp only [argFr]
  (refine W_x (Aj @ev_rngS (Aj hpl hze.symm)) ?_; (repeat' first | apply Cj.mk | exact Nl.nl) <;> intros)
  refine wp_spotsG (fun _ => [(0, .string s), (1, .int .i64 (posn s.data.toList i)), (10, .pointer (some ⟨20, 0, some 1⟩))]) 20 z z.data.toList (fun j h' => j = 0 ∧ h' = h)
    (fun _ _ => (none : Option Unit)) rfl (by repeat' first | exact True.intro | refine And.intro rfl ?_) (fun _ => rfl) (by intro n; simp only [setL, push_cast, Nat.reduceEqDiff, ↓reduceIte, reduceCtorEq, Nat.reduceAdd, Nat.reduceMul, Nat.reduceLeDiff]; rfl) rfl ⟨rfl, rfl⟩ (fun j hj h1 hh hit => ?_) fun h1 hh fin => ?_
  · obtain ⟨rfl, rfl⟩ := hh
    (refine W_x trivial ?_; (repeat' first | apply Cj.mk | exact Nl.nl) <;> intros)
    refine wo_next rfl rfl hj ?_
    rw [hx0]
    have hq : posn s.data.toList i + 3 ≤ s.size → (s.extract (posn s.data.toList i) (posn s.data.toList i + 3) = ⟨#[239, 191, 189]⟩ ↔ (s.data.toList.drop (posn s.data.toList i)).take 3 = [239, 191, 189]) := fun h3 => by
      have e : (s.extract (posn s.data.toList i) (posn s.data.toList i + 3)).data.toList = (s.data.toList.drop (posn s.data.toList i)).take 3 := by
        rw [ba_extract _ _ _ (by omega)]
        congr 1
        omega
      rw [← e]
      exact ⟨fun q => by rw [q], fun q => ba_ext q⟩
    rw [hz] at hb
    generalize hx : (spots s.data.toList)[i] = x at *
    generalize posn s.data.toList i = p at *
    have ht : ((p : Int) + 3).toNat = p + 3 := by omega
    by_cases c1 : x.1 = 65533
    · have c1' : (x.1 : Int) = 65533 := by omega
      by_cases c2 : 3 ≤ s.size - p
      · have c3 : (p : Int) + 3 ≤ s.size := by omega
        have hq := hq (by omega)
        by_cases c4 : (s.data.toList.drop p).take 3 = [239, 191, 189]
        · have hd := decide_eq_false (show ¬ badP x from fun q => (hb.1 q).2 ⟨c2, c4⟩)
          have c5 := hq.2 c4
          rw [hd]
          (refine W_x (Aj c1' (Aj c3 (Aj ht c5))) ?_; (repeat' first | apply Cj.mk | exact Nl.nl) <;> intros)
          exact ⟨rfl, rfl⟩
        · have hd := decide_eq_true (show badP x from hb.2 ⟨c1, fun q => c4 q.2⟩)
          have c5 : ¬ s.extract p (p + 3) = ⟨#[239, 191, 189]⟩ := fun q => c4 (hq.1 q)
          rw [hd]
          (refine W_x (Aj c1' (Aj c3 (Aj ht c5))) ?_; (repeat' first | apply Cj.mk | exact Nl.nl) <;> intros)
          exact ⟨rfl, rfl⟩
      · have hd := decide_eq_true (show badP x from hb.2 ⟨c1, fun q => c2 q.1⟩)
        rw [hd]
        (refine W_x c1' ?_; (repeat' first | apply Cj.mk | exact Nl.nl) <;> intros)
        exact ⟨rfl, rfl⟩
    · have hd := decide_eq_false (show ¬ badP x from fun q => c1 (hb.1 q).1)
      have c1' : ¬ (x.1 : Int) = 65533 := by omega
      rw [hd]
      (refine W_x c1' ?_; (repeat' first | apply Cj.mk | exact Nl.nl) <;> intros)
      exact ⟨rfl, rfl⟩
  · exact absurd hh.1 (by omega)
theorem ref9First_eq {S : TS} {T : Tab} {h : AH} (t : TabAt h S T) (s : ByteArray) (hs : s.size ≤ 1048576) : callO PX 23 [.agg S.vs.toArray, .string s] h = some (plV (firstO T s.data.toList), h) := by
  have e1 := class6_eq t
  have e0 := refPair_eq t
  have hz : s.data.toList.length = s.size := rfl
  have hn := spots_len s.data.toList
  apply WpC.eqn
  refine wpc_fn (px_ext rfl) (px_fn fn_guiseref9_First) rfl ?_
  unfold LF_guiseref9_First
  simp only [argFr]
  unfold TS.vs at e0 e1 ⊢
  (refine W_x @ev_rngS ?_; (repeat' first | apply Cj.mk | exact Nl.nl) <;> intros)
  refine wp_spotsG (fun i => [(1, .string s), (2, .pointer (some ⟨4, 0, some 1⟩)), (4, .pointer (some ⟨8, 0, some 1⟩)), (6, .int .i64 (prevC T s.data.toList i)), (7, .int .i64 i), (15, .pointer (some ⟨30, 0, some 1⟩))]) 30 s s.data.toList (fun _ h' => h' = h)
    (fun i x => if badP x ∨ (pairI T x.1).isSome = true ∨ (0 < clT T x.1 ∧ clT T x.1 < prevC T s.data.toList i) then some (posn s.data.toList i, i) else none) rfl (by repeat' first | exact True.intro | refine And.intro rfl ?_) (fun _ => rfl) (by intro n; simp only [setL, push_cast, Nat.reduceEqDiff, ↓reduceIte, reduceCtorEq, Nat.reduceAdd, Nat.reduceMul, Nat.reduceLeDiff]; rfl) rfl rfl (fun i hi h1 hh hit => ?_) fun h1 hh fin => ?_
  · subst hh
    (refine W_x trivial ?_; (repeat' first | apply Cj.mk | exact Nl.nl) <;> intros)
    refine wo_next rfl rfl hi ?_
    have hp := prevC_succ (T := T) hi
    have hpn : posn s.data.toList i ≤ 1048576 := by have := (posn_lt hi).1; omega
    have eb := bad_eq s hs hi h1
    unfold firstO
    generalize (spots s.data.toList)[i] = y at hit hp eb
    have e2 := e1 (y.1 : Nat)
    rw [show classI T (y.1 : Nat) = clT T y.1 from rfl] at e2
    have e3 := e0 (y.1 : Nat)
    generalize pairI T y.1 = pr at hit e3
    rw [hp]
    by_cases hb : badP y
    · rw [decide_eq_true hb] at eb
      have hw := hit _ (if_pos (.inl hb))
      rw [hw]
      rcases pr with _ | ⟨a, b⟩
      all_goals
        simp only [prV] at e3
        (refine W_x (Aj e2 (Aj e3 eb)) ?_; (repeat' first | apply Cj.mk | exact Nl.nl) <;> intros)
        exact ⟨rfl, rfl⟩
    · rw [decide_eq_false hb] at eb
      rcases pr with _ | ⟨a, b⟩
      · simp only [prV] at e3
        by_cases hc : 0 < clT T y.1 ∧ clT T y.1 < prevC T s.data.toList i
        · rw [hit _ (if_pos (.inr (.inr hc)))]
          obtain ⟨c1, c2⟩ := hc
          (refine W_x (Aj e2 (Aj e3 eb)) ?_; (repeat' first | apply Cj.mk | exact Nl.nl) <;> intros)
          exact ⟨rfl, rfl⟩
        · have hno : ¬ (badP y ∨ (none : Option (Int × Int)).isSome = true ∨ (0 < clT T y.1 ∧ clT T y.1 < prevC T s.data.toList i)) := by
            rintro (q | q | q)
            · exact hb q
            · cases q
            · exact hc q
          (refine W_x (Aj e2 (Aj e3 eb)) ?_; (repeat' first | apply Cj.mk | exact Nl.nl) <;> intros)
          all_goals first | exact ⟨if_neg hno, (by repeat' first | exact True.intro | refine And.intro rfl ?_), rfl, rfl⟩ | (exfalso; omega)
      · simp only [prV] at e3
        rw [hit _ (if_pos (.inr (.inl rfl)))]
        (refine W_x (Aj e2 (Aj e3 eb)) ?_; (repeat' first | apply Cj.mk | exact Nl.nl) <;> intros)
        exact ⟨rfl, rfl⟩
  · subst hh
    (refine W_x trivial ?_; (repeat' first | apply Cj.mk | exact Nl.nl) <;> intros)
    refine wo_nextE rfl rfl ?_
    (refine W_x trivial ?_; (repeat' first | apply Cj.mk | exact Nl.nl) <;> intros)
    have : firstO T s.data.toList = none := fin
    rw [this]
    exact ⟨rfl, rfl⟩
end Go.Proofs.YtfiaggbgplmmeaaGreatDoor.AM
namespace Go.Proofs.YtfiaggbgplmmeaaGreatDoor.AM
open Go
def LFfew : LFunc :=
  .mk 2 [.tmp 4] (.seq (R 999 [0, 1] [.set 4 (.cv (.string ⟨#[]⟩))]) (.seq (.seq (R 5 [0, 1, 8] [.tmp 8 (xb .gtr (xsl (.va 0)) (.va 1))]) (.cond (.s 8) (.seq (R 9 [4] [.set 4 (.op
  (.p (.slS (.s 0) none (some (.s 1)))) (.cons (.va 0) (.va 1)))]) .ret) .skip)) (.seq (R 12 [4] [.set 4 (.va 0)]) .ret)))
theorem fewG_eq {f : FuncId} (hf : PX.fn f = some LFfew) (hx : PX.ext f = none) (s : ByteArray) (hs : s.size ≤ 1048576) {m : Int} (n : Nat) (hm : m = n) (hn : n ≤ 1048576) (h : AH) : callO PX f [.string s, .int .i64 m] h = some (.string (fewB s n), h) := by
  subst hm
  apply WpC.eqn
  refine wpc_fn hx hf rfl ?_
  unfold LFfew
  simp only [argFr]
  unfold fewB
  (refine W_x trivial ?_; (repeat' first | apply Cj.mk | exact Nl.nl) <;> intros)
  · rw [if_pos (by omega)]
    exact ⟨rfl, rfl⟩
  · rw [if_neg (by omega)]
    exact ⟨rfl, rfl⟩
end Go.Proofs.YtfiaggbgplmmeaaGreatDoor.AM
namespace Go.Proofs.YtfiaggbgplmmeaaGreatDoor.AM
open Go
def LF_guiselaw9_OpenOpens : LFunc :=
  .mk 3 [.tmp 6] (.seq (R 3 [1, 2, 3] [.tmp 3 (xbl 3 8 (.sl 0)), .set 6 (.cv (.bool false))]) (.seq (R 16 [1, 2, 3, 7, 8, 9] [.set 15 (xc1 12 (xln 8 (.sl 3))), .tmp 18
  (xex 0 (.sl 15)), .tmp 19 (xex 1 (.sl 15)), .tmp 20 (xex 2 (.sl 15)), .set 7 (.sl 18), .set 8 (.sl 19), .set 9 (.sl 20)]) (.seq (.seq (R 21 [1, 2, 3, 7, 9, 22] [.tmp 22 (xu .not
  (.va 8))]) (.cond (.s 22) (.seq (R 23 [6] [.set 6 (.and (.va 9) (xc0 13))]) .ret) .skip)) (.seq (R 27 [1, 2, 3, 7] [.set 1 (xc2 22 (.va 1) (xi
  2000))]) (.seq (R 29 [1, 2, 3, 7] [.set 2 (xc2 22 (.va 2) (xi 2000))]) (.seq (R 32 [1, 2, 3, 7, 10, 11] [.set 31 (xc2 21 (.va 7) (.va 1)), .tmp 35 (xex
  0 (.sl 31)), .tmp 36 (xex 1 (.sl 31)), .at 10, .tmp 10 (xnl 10 [.int .i64 0, .int .i64 0]), .run (xst 2 (.sl 10) (.sl 35)), .tmp 11 (.va 36)]) (.seq (R 38 [1, 2, 3, 7, 10, 11, 12,
  13] [.set 37 (xc2 23 (xln 8 (.sl 3)) (.va 1)), .tmp 41 (xex 0 (.sl 37)), .tmp 42 (xex 1 (.sl 37)), .at 12, .tmp 12 (xnl 12 [.int .i64 0, .int .i64 0]), .run (xst
  2 (.sl 12) (.sl 41)), .tmp 13 (.va 42)]) (.seq (R 43 [1, 2, 3, 7, 10, 11, 12, 13, 14] [.set 14 (xc2 24 (xln 8 (.sl 3)) (.va 1))]) (.seq (.region [.mk (some 46) (.p
  (.mv (.s 7))) none, .mk (some 47) (.p (.mv (.s 1))) none, .mk (some 48) (.e (.call 19 [.s 46, .s 47])) none, .mk (some 49) (.p (.mv (.s 14))) none, .mk (some 50) (.e
  (.call 25 [.s 49])) none, .mk (some 51) (.p (.bin .eql (.s 48) (.s 50))) none, .mk (some 52) (.p (.mv (.s 51))) none, .mk (some 53) (.r (.load (some 2) (.s 10)))
  (some (52, true)), .mk (some 54) (.r (.load (some 2) (.s 12))) (some (52, true)), .mk (some 55) (.p (.eqA false [.int, .int] (.s 53) (.s 54))) (some (52, true)), .mk (some 56) (.p
  (.pick (.s 52) (.s 55) (.c (.bool false)))) none, .mk (some 57) (.p (.mv (.s 56))) none, .mk (some 58) (.p (.mv (.s 11))) (some (57, true)), .mk (some 59) (.p (.mv (.s 13))) (some
  (57, true)), .mk (some 60) (.p (.eqk false .bool (.s 58) (.s 59))) (some (57, true)), .mk (some 61) (.p (.pick (.s 57) (.s 60) (.c (.bool false)))) none, .mk (some 62) (.p (.mv
  (.s 61))) none, .mk (some 63) (.p (.mv (.s 7))) (some (62, true)), .mk (some 64) (.p (.mv (.s 1))) (some (62, true)), .mk (some 65) (.p (.mv (.s 2))) (some (62, true)), .mk (some
  66) (.e (.call 20 [.s 63, .s 64, .s 65])) (some (62, true)), .mk (some 67) (.p (.mv (.s 14))) (some (62, true)), .mk (some 68) (.r (.load (some 8) (.s 3))) (some (62,
  true)), .mk (some 69) (.p (.mv (.s 2))) (some (62, true)), .mk (some 70) (.e (.call 24 [.s 68, .s 69])) (some (62, true)), .mk (some 71) (.e (.call
  26 [.s 67, .s 70])) (some (62, true)), .mk (some 72) (.p (.eqk false .bool (.s 66) (.s 71))) (some (62, true)), .mk (some 73) (.p (.pick (.s 62) (.s 72) (.c
  (.bool false)))) none, .mk (some 74) (.p (.mv (.s 73))) none, .mk (some 75) (.e (.call 13 [])) (some (74, true)), .mk (some 76) (.p (.pick (.s 74) (.s 75) (.c
  (.bool false)))) none, .mk (some 6) (.p (.mv (.s 76))) none] [6] [(22, 5)]) .ret)))))))))
theorem fn_guiselaw9_OpenOpens : (autoPrg Tryz.prog).fn 5 = some LF_guiselaw9_OpenOpens := by kernel_rfl
end Go.Proofs.YtfiaggbgplmmeaaGreatDoor.AM
namespace Go.Proofs.YtfiaggbgplmmeaaGreatDoor.AM
open Go
theorem few9_eq (s : ByteArray) (hs : s.size ≤ 1048576) {m : Int} (n : Nat) (hm : m = n) (hn : n ≤ 1048576) (h : AH) : callO PX 22 [.string s, .int .i64 m] h = some (.string (fewB s n), h) := fewG_eq (px_fn (by kernel_rfl)) (px_ext rfl) s hs n hm hn h
theorem FOwn.older {h0 h1 h : AH} {e : Nat} {s : Sl} {xss : List (List Value)} (f : FOwn h1 h e s xss) (k : Kp h0 h1) : FOwn h0 h e s xss := ⟨f.own, k.trans f.kp, fun b hb => Nat.le_trans k.1 (f.new b hb)⟩
theorem ref9Open_spec {h : AH} {S : TS} {T : Tab} (gd : goodB T = true) (t : TabAt h S T) (s : ByteArray) (hs : s.size ≤ 1048576) : WpC PX 24 [.agg S.vs.toArray, .string s] h fun v h' => ∃ sl, v = sl.val 1 ∧ FOwn h h' 1 sl ((openL T (runesB s.data.toList)).map rnV) := by
  have hz : s.data.toList.length = s.size := rfl
  have hn := spots_len s.data.toList
  have hrl := runesB_len s.data.toList
  have hrr := runesB_rune s.data.toList
  refine wpc_fn (px_ext rfl) (px_fn fn_guiseref9_Open) rfl ?_
  unfold LF_guiseref9_Open
  simp only [argFr]
  unfold TS.vs
  (refine W_x @ev_rngS ?_; (repeat' first | apply Cj.mk | exact Nl.nl) <;> intros)
  refine wp_spotsS (fun i sl => [(2, .pointer (some ⟨4, 0, some 1⟩)), (5, sl.val 1), (9, .pointer (some ⟨18, 0, some 1⟩))]) (fun n _ => [(4, .cells false [S.s0.val 2, S.s1.val 2, S.s2.val 2, S.s3.val 3, S.s4.val 2, S.s5.val 2, S.s6.val 2, S.s7.val 2]), (18, .siter s n)]) s s.data.toList (fun i sl h' => FOwn h h' 1 sl ((openF T ((runesB s.data.toList).take i)).map rnV)) (fun _ _ => (none : Option Unit)) Sl.nil rfl (by repeat' first | exact True.intro | refine And.intro rfl ?_) (fun _ _ => rfl) rfl (by simpa [openF] using FOwn.nil (Kp.refl h))
    (fun i hi sl h1 fo hit => ?_) fun sl h1 fo fin => ?_
  · (refine W_x trivial ?_; (repeat' first | apply Cj.mk | exact Nl.nl) <;> intros)
    refine wo_next rfl rfl hi ?_
    have hi2 : i < (runesB s.data.toList).length := by omega
    have hx := runesB_get hi
    have hr := hrr _ (List.getElem_mem hi2)
    have hsn := openF_snoc (T := T) hi2
    have hle := openF_take_len gd hrr i
    rw [hx] at hr hsn
    generalize (spots s.data.toList)[i] = x at hr hsn
    obtain ⟨_, g, e, s2, rfl, f2⟩ := refRune_spec gd (t.kp fo.kp) (x.1 : Nat)
    rw [rI_rnV gd hr] at f2
    obtain ⟨b0, ms, q1, _, _, _, q5, _⟩ := opN_facts gd hr
    unfold TS.vs at e
    (refine W_x e ?_; (repeat' first | apply Cj.mk | exact Nl.nl) <;> intros)
    refine wo_appL (fo.later f2.kp) f2.reads (by decide) (by decide) (by rw [List.length_map, List.length_map, q1, List.length_cons]; omega) fun s3 h3 f3 => ?_
    (refine W_x trivial ?_; (repeat' first | apply Cj.mk | exact Nl.nl) <;> intros)
    refine ⟨rfl, s3, (by repeat' first | exact True.intro | refine And.intro rfl ?_), rfl, ?_⟩
    rw [hsn, List.map_append]
    exact f3
  · (refine W_x trivial ?_; (repeat' first | apply Cj.mk | exact Nl.nl) <;> intros)
    refine wo_nextE rfl rfl ?_
    rw [← hrl, List.take_length] at fo
    have hl := openF_len gd hrr
    obtain ⟨_, g2, e2, s2, rfl, f2⟩ := ref8Sorted_spec (t.kp fo.kp) fo.reads (by omega)
    unfold TS.vs at e2
    (refine W_x e2 ?_; (repeat' first | apply Cj.mk | exact Nl.nl) <;> intros)
    refine ⟨s2, rfl, ?_⟩
    exact f2.older fo.kp
end Go.Proofs.YtfiaggbgplmmeaaGreatDoor.AM
namespace Go.Proofs.YtfiaggbgplmmeaaGreatDoor.AM
open Go
def LF_utf_Valid : LFunc :=
  .mk 1 [.cell 2 (some 2), .cell 3 none] (.seq (R 2 [0, 2, 3] [.tmp 2 (xnh [.int .i64 0, .int .i64 0]), .tmp 3 (xnh [.bool false])]) (.seq (R 4 [0, 2, 3, 4] [.tmp 4 (xnh [.int .i64
  0]), .run (xst 1 (.sl 4) (xi 0))]) (.seq (.seq (R 7 [2, 3, 4, 8] [.tmp 8 (xc1 49 (.va 0))]) (.block 0 (.rangeF (.s 8) [9, 10] (.seq (R 5 [2, 3, 4, 5, 10] [.tmp 5 (.va
  9)]) (R 6 [2, 3, 4, 5, 6] [.tmp 6 (xnl 6 [.int .i32 0, .int .i64 0, .bool false]), .run (xst 3 (.sl 6) (.sl 10))])) (.block 1 (.seq (.seq (R 11 [2, 3, 4, 5, 12] [.tmp 12 (xld (xfa
  2 (.sl 6)))]) (.cond (.s 12) (.seq (R 13 [] [.run (xst 2 (.sl 2) (.op (.p (.build [.int .i64 0, .int .i64 0] [(0, 1, .s 0), (1, 1, .s 1)])) (.cons (.va 5) (xld (.sl 4))))), .run
  (xst 1 (.sl 3) (.cv (.bool false)))]) .ret) .skip)) (R 16 [] [.run (xst 1 (.sl 4) (xb .add (xld (.sl 4)) (xi 1)))])))))) (.seq (R 18 [2, 3] [.run (xst 2 (.sl 2) (.op (.p (.build
  [.int .i64 0, .int .i64 0] [])) .nil)), .run (xst 1 (.sl 3) (.cv (.bool true)))]) .ret))))
theorem fn_utf_Valid : (autoPrg Tryz.prog).fn 27 = some LF_utf_Valid := by kernel_rfl
end Go.Proofs.YtfiaggbgplmmeaaGreatDoor.AM
namespace Go.Proofs.YtfiaggbgplmmeaaGreatDoor.AM
open Go
theorem valid_spec (x : ByteArray) (hx : x.size ≤ 140737488351232) (hv : validB x.data.toList = true) (h : AH) :
    WpC PX 27 [.string x] h fun v h' => v = .tuple (List.toArray [.agg (List.toArray [.int .i64 0, .int .i64 0]), .bool true]) ∧ h.n ≤ h'.n ∧ ∀ b, b < h.n → h'.get b = h.get b := by
  have e2 := fun h => spotsMk_eq x h
  have hseq := spots_seq x (h.n + 3) hx
  refine wpc_fn (px_ext rfl) (px_fn fn_utf_Valid) rfl ?_
  unfold LF_utf_Valid
  simp only [argFr]
  (refine W_x e2 ?_; (repeat' first | apply Cj.mk | exact Nl.nl) <;> intros)
  generalize hH0 : ((((h.push (AObj.cells false [Value.int IntKind.i64 0, Value.int IntKind.i64 0])).push (AObj.cells false [Value.bool false])).push (AObj.cells false [Value.int IntKind.i64 0])).set (h.n + 1 + 1) (AObj.cells false [Value.int IntKind.i64 0])).push (AObj.cells false [Value.string x]) = H0
  have n0 : H0.n = h.n + 4 := by rw [← hH0]; simp only [AH.push_n, AH.set_n]
  have a0 : H0.get h.n = some (.cells false [.int .i64 0, .int .i64 0]) := by rw [← hH0]; simp (disch := first | omega | (simp only [AH.nn_push, AH.nn_set, AH.nn_kill]; omega) | (simp only [AH.nn_push, AH.nn_set, AH.nn_kill]; done) | fail) only [AH.get_push_eq, AH.get_push_ne, AH.get_set_eq, AH.get_set_ne]
  have a1 : H0.get (h.n + 1) = some (.cells false [.bool false]) := by rw [← hH0]; simp (disch := first | omega | (simp only [AH.nn_push, AH.nn_set, AH.nn_kill]; omega) | (simp only [AH.nn_push, AH.nn_set, AH.nn_kill]; done) | fail) only [AH.get_push_eq, AH.get_push_ne, AH.get_set_eq, AH.get_set_ne]
  have a2 : H0.get (h.n + 2) = some (.cells false [.int .i64 0]) := by rw [← hH0]; simp (disch := first | omega | (simp only [AH.nn_push, AH.nn_set, AH.nn_kill]; omega) | (simp only [AH.nn_push, AH.nn_set, AH.nn_kill]; done) | fail) only [AH.get_push_eq, AH.get_push_ne, AH.get_set_eq, AH.get_set_ne]
  have a3 : H0.get (h.n + 3) = some (.cells false [.string x]) := by rw [← hH0]; simp (disch := first | omega | (simp only [AH.nn_push, AH.nn_set, AH.nn_kill]; omega) | (simp only [AH.nn_push, AH.nn_set, AH.nn_kill]; done) | fail) only [AH.get_push_eq, AH.get_push_ne, AH.get_set_eq, AH.get_set_ne]
  have ak : ∀ b, b < h.n → H0.get b = h.get b := fun b hb => by rw [← hH0]; simp (disch := first | omega | (simp only [AH.nn_push, AH.nn_set, AH.nn_kill]; omega) | (simp only [AH.nn_push, AH.nn_set, AH.nn_kill]; done) | fail) only [AH.get_push_eq, AH.get_push_ne, AH.get_set_eq, AH.get_set_ne]
  clear hH0
  refine wp_rangeP (xs := spotsL x.data.toList) (enc := spotE) (D := fun h1 => h1.get (h.n + 3) = some (.cells false [.string x])) rfl hseq (fun _ => rfl)
    (fun i h1 => (∀ b, b < h.n → h1.get b = h.get b) ∧ h.n + 4 ≤ h1.n ∧ h1.get h.n = some (.cells false [.int .i64 0, .int .i64 0]) ∧ h1.get (h.n + 1) = some (.cells false [.bool false]) ∧ h1.get (h.n + 2) = some (.cells false [.int .i64 i]) ∧ h1.get (h.n + 3) = some (.cells false [.string x]))
    (fun ex h1 => False)
    (fun y => [(2, .pointer (some ⟨h.n, 0, none⟩)), (3, .pointer (some ⟨h.n + 1, 0, none⟩)), (4, .pointer (some ⟨h.n + 2, 0, none⟩)), (5, .int .i64 y.1), (6, .pointer (some ⟨12, 0, some 1⟩))]) (fun y => [(12, .cells false [.int .i32 y.2.1, .int .i64 y.2.2, .bool (isBad2 y.2)])]) ?_ ?_ ?_ ?_ ?_ ?_ ?_ ?_
  · rw [n0]
    rintro i h1 h2 ⟨f0, fn, f1, f2, f3, f4⟩ k
    exact ⟨fun b hb => by rw [k.get b (by omega)]; exact f0 b hb, by rw [k.n]; exact fn, by rw [k.get _ (by omega)]; exact f1, by rw [k.get _ (by omega)]; exact f2, by rw [k.get _ (by omega)]; exact f3, by rw [k.get _ (by omega)]; exact f4⟩
  · exact fun _ _ _ h => h.elim
  · exact fun i h1 f => f.2.2.2.2.2
  · intro y h1
    unfold spotE spotV
    simp only [List.zip_cons_cons, List.zip_nil_right, List.reverse_cons, List.reverse_nil, List.nil_append, List.cons_append, okFr_cons, okFr_nil, okV_eq, isLoc_ptr, isLoc_func, Bool.not_false, if_true]
    (refine W_x trivial ?_; (repeat' first | apply Cj.mk | exact Nl.nl) <;> intros)
    exact ⟨rfl, rfl, rfl, rfl⟩
  · intro o
    have k : ∀ b, b < h.n + 4 → (H0.push o).get b = H0.get b := fun b hb => AH.get_push_ne _ (by omega)
    exact ⟨fun b hb => (k b (by omega)).trans (ak b hb), by rw [AH.push_n, n0]; omega, (k _ (by omega)).trans a0, (k _ (by omega)).trans a1, (k _ (by omega)).trans a2, (k _ (by omega)).trans a3⟩
  · rw [n0]
    rintro i hi h1 o ⟨f0, fn, f1, f2, f3, f4⟩ ho
    have l4 := AH.get_lt ho
    have hbad : isBad2 (spotsL x.data.toList)[i].2 = false := by
      rw [spotsL_get hi]
      have := List.all_eq_true.1 hv _ (List.getElem_mem (by rw [← spotsL_len]; exact hi : i < (spots x.data.toList).length))
      unfold isBad2
      rw [Bool.not_eq_true'] at this
      exact this
    rw [hbad]
    have hil : i < 9223372036854775806 := by
      have h1 := spots_len x.data.toList
      rw [spotsL_len] at hi
      have h2 : x.data.toList.length = x.size := rfl
      omega
    generalize (spotsL x.data.toList)[i] = y
    (refine W_x (Aj f1 (Aj f2 (Aj f3 f4))) ?_; (repeat' first | apply Cj.mk | exact Nl.nl) <;> intros)
    refine ⟨by rw [AH.get_set_ne _ (by omega)]; exact ho, fun b hb => by rw [AH.get_set_ne _ (by omega)]; exact f0 b hb, by rw [AH.set_n]; exact fn, by rw [AH.get_set_ne _ (by omega)]; exact f1, by rw [AH.get_set_ne _ (by omega)]; exact f2, AH.get_set_same _ (by omega), by rw [AH.get_set_ne _ (by omega)]; exact f4⟩
  · rintro h1 ⟨f0, fn, f1, f2, f3, f4⟩
    (refine W_x (Aj f1 (Aj f2 (Aj f3 f4))) ?_; (repeat' first | apply Cj.mk | exact Nl.nl) <;> intros)
    refine ⟨rfl, by rw [AH.set_n, AH.set_n]; omega, fun b hb => ?_⟩
    rw [AH.get_set_ne _ (by omega), AH.get_set_ne _ (by omega)]
    exact f0 b hb
  · exact fun _ _ _ h => h.elim
end Go.Proofs.YtfiaggbgplmmeaaGreatDoor.AM
namespace Go.Proofs.YtfiaggbgplmmeaaGreatDoor.AM
open Go
def LF_guiselaw9_OpenStays : LFunc :=
  .mk 2 [.tmp 4] (.seq (R 2 [1, 2] [.tmp 2 (xbl 2 8 (.sl 0)), .set 4 (.cv (.bool false))]) (.seq (R 21 [1, 5, 6, 7] [.set 20 (xc1 12 (xln 8 (.sl 2))), .tmp 23 (xex 0
  (.sl 20)), .tmp 24 (xex 1 (.sl 20)), .tmp 25 (xex 2 (.sl 20)), .set 5 (.sl 23), .set 6 (.sl 24), .set 7 (.sl 25)]) (.seq (.seq (R 26 [1, 5, 7, 27] [.tmp 27 (xu .not (.va 6))])
  (.cond (.s 27) (.seq (R 28 [4] [.set 4 (.and (.va 7) (xc0 13))]) .ret) .skip)) (.seq (R 32 [1, 5] [.set 1 (xc2 22 (.va 1) (xi 2000))]) (.seq (R 34
  [1, 5, 8] [.set 8 (xc2 19 (.va 5) (.va 1))]) (.seq (R 38 [1, 5, 8, 10] [.set 37 (xc2 21 (.va 5) (.va 8)), .tmp 41 (xex 0 (.sl 37)), .tmp 42 (xex 1 (.sl
  37)), .at 9, .run (xst 2 (xnl 9 [.int .i64 0, .int .i64 0]) (.sl 41)), .tmp 10 (.va 42)]) (.seq (R 44 [1, 5, 8, 10, 12] [.set 43 (xc2 21 (.va 5) (.va 1)), .tmp 47 (xex
  0 (.sl 43)), .tmp 48 (xex 1 (.sl 43)), .at 11, .run (xst 2 (xnl 11 [.int .i64 0, .int .i64 0]) (.sl 47)), .tmp 12 (.va 48)]) (.seq (R 50 [1, 5, 8, 10, 12, 14] [.set 49 (xc1
  27 (.va 8)), .tmp 52 (xex 0 (.sl 49)), .tmp 53 (xex 1 (.sl 49)), .at 13, .run (xst 2 (xnl 13 [.int .i64 0, .int .i64 0]) (.sl 52)), .tmp 14 (.va 53)]) (.seq (.seq (R 54
  [5, 8, 79] [.tmp 79 (.or (.or (.or (.or (.va 10) (xu .not (.va 14))) (xb .neq (xc2 19 (.va 5) (.va 8)) (.va 8))) (.op (.p (.eqk false .bool (.s 0) (.s 1))) (.cons (.va
  12) (xb .eql (.va 8) (.va 1))))) (xu .not (xc3 20 (.va 5) (.va 1) (.va 8))))]) (.cond (.s 79) (.seq (R 999 [4] [.set 4 (.cv (.bool false))]) .ret) .skip)) (.seq (R 80
  [5, 15] [.set 15 (xc1 28 (.va 8))]) (.seq (.seq (R 999 [5, 15, 16] [.set 16 (xi 0)]) (.block 0 (.loop (.seq (.seq (R 82 [5, 15, 16, 85] [.tmp 85 (xb .lss (.va 16) (xlen
  (.va 15)))]) (.cond (.s 85) .skip (.exit 0))) (.seq (.block 1 (.seq (R 89 [5, 15, 16, 19] [.set 88 (xc2 29 (.va 5) (xld (xia 1 (.va 15) (.va 16)))), .tmp 95
  (xex 0 (.sl 88)), .tmp 96 (xex 1 (.sl 88)), .tmp 97 (xex 2 (.sl 88)), .set 17 (.sl 95), .set 18 (.sl 96), .set 19 (.sl 97)]) (.seq (R 98 [5, 15, 16, 98] [.tmp 98 (.va 19)]) (.cond
  (.s 98) (.seq (R 999 [4] [.set 4 (.cv (.bool false))]) .ret) .skip)))) (R 86 [5, 15, 16] [.set 16 (xb .add (.va 16) (xi 1))])))))) (.seq (R 99 [4] [.set 4 (xc0
  13)]) .ret))))))))))))
theorem fn_guiselaw9_OpenStays : (autoPrg Tryz.prog).fn 6 = some LF_guiselaw9_OpenStays := by kernel_rfl
end Go.Proofs.YtfiaggbgplmmeaaGreatDoor.AM
namespace Go.Proofs.YtfiaggbgplmmeaaGreatDoor.AM
open Go
theorem openStays_run {h : AH} (u : U8T h) (hg : 2 ≤ h.n) {S : TS} {T : Tab} (t : TabAt h S T) (x : ByteArray) (hx : x.size ≤ 1048576) :
    WpC PX 6 [.agg S.vs.toArray, .string x] h fun v _ => v = .bool true := by
  obtain ⟨_, g1, e1, k1, q⟩ := of_spec t u hg
  by_cases hb : goodB T = true
  · rw [if_pos hb] at q
    obtain ⟨k, B, S1, rfl, bk, _, _⟩ := q
    have e2 := few9_eq x hx (m := 2000) 2000 rfl (by decide) g1
    have fx := few_le x 2000
    generalize fewB x 2000 = a at e2 fx
    have hz : a.data.toList.length = a.size := rfl
    have sa := spots_len a.data.toList
    have la := runesB_len a.data.toList
    have ra := runesB_rune a.data.toList
    have oa := openF_len hb ra
    have na : (openL T (runesB a.data.toList)).length = (openF T (runesB a.data.toList)).length := by unfold openL; rw [ord_length]
    have ua := openL_all hb ra
    have hen := encs_lenle (openL T (runesB a.data.toList))
    rw [show encs (openL T (runesB a.data.toList)) = openB T a.data.toList from rfl] at hen
    have hid := openB_idem hb a.data.toList
    have hva := openB_valid hb a.data.toList
    have hfo := (firstO_none hb (openB T a.data.toList)).2 hid
    have hfa := firstO_none hb a.data.toList
    have hor := openB_runes hb a.data.toList
    have hos : (bs (openB T a.data.toList)).size ≤ 48000 := by rw [bs_size]; omega
    have hoa : bs (openB T a.data.toList) = a ↔ openB T a.data.toList = a.data.toList := ⟨fun e => by rw [← bs_l (openB T a.data.toList), e], fun e => by rw [e]; exact ba_ext (bs_l _)⟩
    obtain ⟨_, g2, e3, rfl, k2⟩ := openOpen_spec hb bk.bk a (by omega)
    obtain ⟨_, g3, e4, rfl, k3⟩ := openFirst_spec hb (bk.kp k2).bk (bs (openB T a.data.toList)) (by omega)
    obtain ⟨_, g4, e5, rfl, k4⟩ := openFirst_spec hb ((bk.kp k2).kp k3).bk a (by omega)
    obtain ⟨_, g5, e6, rfl, k5⟩ := valid_spec (bs (openB T a.data.toList)) (by omega) (by rw [bs_l]; exact hva) g4
    have bk5 := (((bk.kp k2).kp k3).kp k4).kp k5
    obtain ⟨_, g6, e7, rfl, k6⟩ := openOpen_spec hb bk5.bk (bs (openB T a.data.toList)) (by omega)
    obtain ⟨_, g7, e8, rfl, k7⟩ := openTwins_spec hb (bk5.kp k6).bk a (bs (openB T a.data.toList)) (by omega) (by omega)
    obtain ⟨_, g8, e9, sl, rfl, f8⟩ := utfRunes_spec (bs (openB T a.data.toList)) (by omega) g7
    rw [bs_l, hfo] at e4
    rw [bs_l, hid] at e7
    rw [bs_l, hid, decide_eq_true rfl] at e8
    rw [bs_l, hor] at f8
    have bk8 := ((bk5.kp k6).kp k7).kp f8.kp
    have kk := ((((((k1.trans k2).trans k3).trans k4).trans k5).trans k6).trans k7).trans f8.kp
    obtain ⟨_, g9, e10, rfl, k9⟩ := known9_spec (u.kp kk) (Nat.le_trans hg kk.1)
    have sll := f8.own.1
    rw [List.length_map] at sll
    have ep := bookPair_eq bk8.bk
    simp only [plV] at e4
    generalize openL T (runesB a.data.toList) = L at *
    unfold TS.vs at *
    refine wpc_fn (px_ext rfl) (px_fn fn_guiselaw9_OpenStays) rfl ?_
    unfold LF_guiselaw9_OpenStays
    simp only [argFr]
    cases hf : firstO T a.data.toList with
    | none =>
      rw [hf] at e5
      simp only [plV] at e5
      have h1 := hoa.2 (hfa.1 hf)
      generalize bs (openB T a.data.toList) = o at *
      subst h1
      (refine W_x (Aj e1 (Aj e2 (Aj e3 (Aj e4 (Aj e5 (Aj e6 (Aj e7 (Aj e8 e9)))))))) ?_; (repeat' first | apply Cj.mk | exact Nl.nl) <;> intros)
      refine wp_forS (fun i (_ : Unit) => [(5, .pointer (some ⟨k, 0, none⟩)), (15, sl.val 1), (16, .int .i64 i)]) (fun _ _ => []) L (fun _ _ h' => h' = g8) (fun _ _ => (none : Option Unit)) () rfl rfl rfl (fun i hi _ h1 hh hit => ?_) fun _ h1 hh fin' => ?_
      · subst hh
        have gj := fun lc => rd_map (lc := lc) f8.reads hi
        have e11 := ep (L[i] : Nat)
        have hno : pairI T (L[i] : Nat) = none := (ua _ (List.getElem_mem hi)).2
        rw [hno] at e11
        simp only [prV] at e11
        unfold rnV at gj
        generalize L[i] = z at gj e11
        (refine W_x (Aj sll (Aj gj e11)) ?_; (repeat' first | apply Cj.mk | exact Nl.nl) <;> intros)
        exact ⟨rfl, (), rfl, rfl, rfl⟩
      · subst hh
        (refine W_x (Aj sll e10) ?_; (repeat' first | apply Cj.mk | exact Nl.nl) <;> intros)
        rfl
    | some p =>
      rw [hf] at e5
      simp only [plV] at e5
      have h1 : ¬ bs (openB T a.data.toList) = a := fun e => by
        have := hfa.2 (hoa.1 e)
        rw [hf] at this
        cases this
      generalize bs (openB T a.data.toList) = o at *
      have hd := decide_eq_false h1
      (refine W_x (Aj e1 (Aj e2 (Aj e3 (Aj e4 (Aj e5 (Aj e6 (Aj e7 (Aj e8 (Aj e9 (Aj h1 hd)))))))))) ?_; (repeat' first | apply Cj.mk | exact Nl.nl) <;> intros)
      refine wp_forS (fun i (_ : Unit) => [(5, .pointer (some ⟨k, 0, none⟩)), (15, sl.val 1), (16, .int .i64 i)]) (fun _ _ => []) L (fun _ _ h' => h' = g8) (fun _ _ => (none : Option Unit)) () rfl rfl rfl (fun i hi _ h1 hh hit => ?_) fun _ h1 hh fin' => ?_
      · subst hh
        have gj := fun lc => rd_map (lc := lc) f8.reads hi
        have e11 := ep (L[i] : Nat)
        have hno : pairI T (L[i] : Nat) = none := (ua _ (List.getElem_mem hi)).2
        rw [hno] at e11
        simp only [prV] at e11
        unfold rnV at gj
        generalize L[i] = z at gj e11
        (refine W_x (Aj sll (Aj gj e11)) ?_; (repeat' first | apply Cj.mk | exact Nl.nl) <;> intros)
        exact ⟨rfl, (), rfl, rfl, rfl⟩
      · subst hh
        (refine W_x (Aj sll e10) ?_; (repeat' first | apply Cj.mk | exact Nl.nl) <;> intros)
        rfl
  · rw [if_neg hb] at q
    subst q
    obtain ⟨_, g4, e7, rfl, k4⟩ := known9_spec (u.kp k1) (Nat.le_trans hg k1.1)
    unfold TS.vs at *
    refine wpc_fn (px_ext rfl) (px_fn fn_guiselaw9_OpenStays) rfl ?_
    unfold LF_guiselaw9_OpenStays
    simp only [argFr]
    (refine W_x (Aj e1 e7) ?_; (repeat' first | apply Cj.mk | exact Nl.nl) <;> intros)
    rfl
end Go.Proofs.YtfiaggbgplmmeaaGreatDoor.AM
