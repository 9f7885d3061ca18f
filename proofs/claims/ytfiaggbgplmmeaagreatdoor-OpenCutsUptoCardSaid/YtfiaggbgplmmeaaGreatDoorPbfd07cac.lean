/- Parts of proofs: lemmas, joined. -/
import Derived.Test.YtfiaggbgplmmeaaGreatDoorP8e4c7b3e
set_option linter.unusedVariables false
set_option linter.unusedSimpArgs false
set_option linter.unusedSectionVars false
namespace Go.Proofs.YtfiaggbgplmmeaaGreatDoor.AM
open Go
def LF_guiselaw9_OpenOpens : LFunc :=
  .mk 3 [.tmp 6] (.seq (R 3 [1, 2, 3] [.tmp 3 (xbl 3 8 (.sl 0)), .set 6 (.cv (.bool false))]) (.seq (R 16 [1, 2, 3, 7, 8, 9] [.set 15 (xc1 12 (xln 8 (.sl 3))), .tmp 18
  (xex 0 (.sl 15)), .tmp 19 (xex 1 (.sl 15)), .tmp 20 (xex 2 (.sl 15)), .set 7 (.sl 18), .set 8 (.sl 19), .set 9 (.sl 20)]) (.seq (.seq (R 21 [1, 2, 3, 7, 9, 22] [.tmp 22 (xu .not
  (.va 8))]) (.cond (.s 22) (.seq (R 23 [6] [.set 6 (.and (.va 9) (xc0 13))]) .ret) .skip)) (.seq (R 27 [1, 2, 3, 7] [.set 1 (xc2 22 (.va 1) (xi
  2000))]) (.seq (R 29 [1, 2, 3, 7] [.set 2 (xc2 22 (.va 2) (xi 2000))]) (.seq (R 32 [1, 2, 3, 7, 10, 11] [.set 31 (xc2 21 (.va 7) (.va 1)), .tmp 35 (xex
  0 (.sl 31)), .tmp 36 (xex 1 (.sl 31)), .at 10, .tmp 10 (xnl 10 [.int .i64 0, .int .i64 0]), .run (xst 2 (.sl 10) (.sl 35)), .tmp 11 (.va 36)]) (.seq (R 38 [1, 2, 3, 7, 10, 11, 12,
  13] [.set 37 (xc2 23 (xln 8 (.sl 3)) (.va 1)), .tmp 41 (xex 0 (.sl 37)), .tmp 42 (xex 1 (.sl 37)), .at 12, .tmp 12 (xnl 12 [.int .i64 0, .int .i64 0]), .run (xst
  2 (.sl 12) (.sl 41)), .tmp 13 (.va 42)]) (.seq (R 43 [1, 2, 3, 7, 10, 11, 12, 13, 14] [.set 14 (xc2 24 (xln 8 (.sl 3)) (.va 1))]) (.seq (.region [.mk (some 46) (.p
  (.mv (.s 7))) none, .mk (some 47) (.p (.mv (.s 1))) none, .mk (some 48) (.e (.call 19 [.s 46, .s 47])) none, .mk (some 49) (.p (.mv (.s 14))) none, .mk (some 50) (.e
  (.call 25 [.s 49])) none, .mk (some 51) (.p (.bin .eql (.s 48) (.s 50))) none, .mk (some 52) (.p (.mv (.s 51))) none, .mk (some 53) (.r (.load (some 2) (.s 10)))
  (some (52, true)), .mk (some 54) (.r (.load (some 2) (.s 12))) (some (52, true)), .mk (some 55) (.p (.eqA false [.int, .int] (.s 53) (.s 54))) (some (52, true)), .mk (some 56) (.p
  (.pick (.s 52) (.s 55) (.c (.bool false)))) none, .mk (some 57) (.p (.mv (.s 56))) none, .mk (some 58) (.p (.mv (.s 11))) (some (57, true)), .mk (some 59) (.p (.mv (.s 13))) (some
  (57, true)), .mk (some 60) (.p (.eqk false .bool (.s 58) (.s 59))) (some (57, true)), .mk (some 61) (.p (.pick (.s 57) (.s 60) (.c (.bool false)))) none, .mk (some 62) (.p (.mv
  (.s 61))) none, .mk (some 63) (.p (.mv (.s 7))) (some (62, true)), .mk (some 64) (.p (.mv (.s 1))) (some (62, true)), .mk (some 65) (.p (.mv (.s 2))) (some (62, true)), .mk (some
  66) (.e (.call 20 [.s 63, .s 64, .s 65])) (some (62, true)), .mk (some 67) (.p (.mv (.s 14))) (some (62, true)), .mk (some 68) (.r (.load (some 8) (.s 3))) (some (62,
  true)), .mk (some 69) (.p (.mv (.s 2))) (some (62, true)), .mk (some 70) (.e (.call 24 [.s 68, .s 69])) (some (62, true)), .mk (some 71) (.e (.call
  26 [.s 67, .s 70])) (some (62, true)), .mk (some 72) (.p (.eqk false .bool (.s 66) (.s 71))) (some (62, true)), .mk (some 73) (.p (.pick (.s 62) (.s 72) (.c
  (.bool false)))) none, .mk (some 74) (.p (.mv (.s 73))) none, .mk (some 75) (.e (.call 13 [])) (some (74, true)), .mk (some 76) (.p (.pick (.s 74) (.s 75) (.c
  (.bool false)))) none, .mk (some 6) (.p (.mv (.s 76))) none] [6] [(22, 5)]) .ret)))))))))
theorem fn_guiselaw9_OpenOpens : (autoPrg Tryz.prog).fn 5 = some LF_guiselaw9_OpenOpens := by kernel_rfl
end Go.Proofs.YtfiaggbgplmmeaaGreatDoor.AM
namespace Go.Proofs.YtfiaggbgplmmeaaGreatDoor.AM
open Go
theorem few9_eq (s : ByteArray) (hs : s.size ≤ 1048576) {m : Int} (n : Nat) (hm : m = n) (hn : n ≤ 1048576) (h : AH) : callO PX 22 [.string s, .int .i64 m] h = some (.string (fewB s n), h) := fewG_eq (px_fn (by kernel_rfl)) (px_ext rfl) s hs n hm hn h
theorem FOwn.older {h0 h1 h : AH} {e : Nat} {s : Sl} {xss : List (List Value)} (f : FOwn h1 h e s xss) (k : Kp h0 h1) : FOwn h0 h e s xss := ⟨f.own, k.trans f.kp, fun b hb => Nat.le_trans k.1 (f.new b hb)⟩
theorem ref9Open_spec {h : AH} {S : TS} {T : Tab} (gd : goodB T = true) (t : TabAt h S T) (s : ByteArray) (hs : s.size ≤ 1048576) : WpC PX 24 [.agg S.vs.toArray, .string s] h fun v h' => ∃ sl, v = sl.val 1 ∧ FOwn h h' 1 sl ((openL T (runesB s.data.toList)).map rnV) := by
  have hz : s.data.toList.length = s.size := rfl
  have hn := spots_len s.data.toList
  have hrl := runesB_len s.data.toList
  have hrr := runesB_rune s.data.toList
  refine wpc_fn (px_ext rfl) (px_fn fn_guiseref9_Open) rfl ?_
  unfold LF_guiseref9_Open
  simp only [argFr]
  unfold TS.vs
  (refine W_x @ev_rngS ?_; (repeat' first | apply Cj.mk | exact Nl.nl) <;> intros)
  refine wp_spotsS (fun i sl => [(2, .pointer (some ⟨4, 0, some 1⟩)), (5, sl.val 1), (9, .pointer (some ⟨18, 0, some 1⟩))]) (fun n _ => [(4, .cells false [S.s0.val 2, S.s1.val 2, S.s2.val 2, S.s3.val 3, S.s4.val 2, S.s5.val 2, S.s6.val 2, S.s7.val 2]), (18, .siter s n)]) s s.data.toList (fun i sl h' => FOwn h h' 1 sl ((openF T ((runesB s.data.toList).take i)).map rnV)) (fun _ _ => (none : Option Unit)) Sl.nil rfl (by repeat' first | exact True.intro | refine And.intro rfl ?_) (fun _ _ => rfl) rfl (by simpa [openF] using FOwn.nil (Kp.refl h))
    (fun i hi sl h1 fo hit => ?_) fun sl h1 fo fin => ?_
  · (refine W_x trivial ?_; (repeat' first | apply Cj.mk | exact Nl.nl) <;> intros)
    refine wo_next rfl rfl hi ?_
    have hi2 : i < (runesB s.data.toList).length := by omega
    have hx := runesB_get hi
    have hr := hrr _ (List.getElem_mem hi2)
    have hsn := openF_snoc (T := T) hi2
    have hle := openF_take_len gd hrr i
    rw [hx] at hr hsn
    generalize (spots s.data.toList)[i] = x at hr hsn
    obtain ⟨_, g, e, s2, rfl, f2⟩ := refRune_spec gd (t.kp fo.kp) (x.1 : Nat)
    rw [rI_rnV gd hr] at f2
    obtain ⟨b0, ms, q1, _, _, _, q5, _⟩ := opN_facts gd hr
    unfold TS.vs at e
    (refine W_x e ?_; (repeat' first | apply Cj.mk | exact Nl.nl) <;> intros)
    refine wo_appL (fo.later f2.kp) f2.reads (by decide) (by decide) (by rw [List.length_map, List.length_map, q1, List.length_cons]; omega) fun s3 h3 f3 => ?_
    (refine W_x trivial ?_; (repeat' first | apply Cj.mk | exact Nl.nl) <;> intros)
    refine ⟨rfl, s3, (by repeat' first | exact True.intro | refine And.intro rfl ?_), rfl, ?_⟩
    rw [hsn, List.map_append]
    exact f3
  · (refine W_x trivial ?_; (repeat' first | apply Cj.mk | exact Nl.nl) <;> intros)
    refine wo_nextE rfl rfl ?_
    rw [← hrl, List.take_length] at fo
    have hl := openF_len gd hrr
    obtain ⟨_, g2, e2, s2, rfl, f2⟩ := ref8Sorted_spec (t.kp fo.kp) fo.reads (by omega)
    unfold TS.vs at e2
    (refine W_x e2 ?_; (repeat' first | apply Cj.mk | exact Nl.nl) <;> intros)
    refine ⟨s2, rfl, ?_⟩
    exact f2.older fo.kp
end Go.Proofs.YtfiaggbgplmmeaaGreatDoor.AM
namespace Go.Proofs.YtfiaggbgplmmeaaGreatDoor.AM
open Go
def LF_guiselaw9_OpenCuts : LFunc :=
  .mk 3 [.tmp 6] (.seq (R 3 [1, 2, 3] [.tmp 3 (xbl 3 8 (.sl 0)), .set 6 (.cv (.bool false))]) (.seq (R 13 [1, 2, 7, 8, 9] [.set 12 (xc1 12 (xln 8 (.sl 3))), .tmp 15
  (xex 0 (.sl 12)), .tmp 16 (xex 1 (.sl 12)), .tmp 17 (xex 2 (.sl 12)), .set 7 (.sl 15), .set 8 (.sl 16), .set 9 (.sl 17)]) (.seq (.seq (R 18 [1, 2, 7, 9, 19] [.tmp 19 (xu .not (.va
  8))]) (.cond (.s 19) (.seq (R 20 [6] [.set 6 (.and (.va 9) (xc0 13))]) .ret) .skip)) (.seq (R 24 [1, 2, 7] [.set 1 (xc2 22 (.va 1) (xi 2000))])
  (.seq (R 26 [1, 2, 7] [.set 2 (xc3 30 (.va 2) (xi 0) (xsl (.va 1)))]) (.seq (.seq (R 30 [1, 2, 7, 33] [.tmp 33 (xu .not (xc2 31 (.va 1) (.va 2)))])
  (.cond (.s 33) (.seq (R 34 [6] [.set 6 (xc0 13)]) .ret) .skip)) (.seq (R 36 [1, 2, 7, 10, 11] [.set 35 (xc1 32 (.op (.p (.slS (.s 0) (some (.s 1))
  none)) (.cons (.va 1) (.va 2)))), .tmp 40 (xex 0 (.sl 35)), .tmp 41 (xex 1 (.sl 35)), .at 10, .tmp 10 (xnl 10 [.int .i32 0, .int .i64 0, .bool false]), .run (xst 3 (.sl 10) (.sl
  40)), .tmp 11 (.va 41)]) (.seq (.seq (R 42 [1, 2, 7, 49] [.tmp 49 (.and (.va 11) (xb .gtr (xc2 33 (.va 7) (xld (xfa 0 (.sl 10)))) (xi 0)))]) (.cond (.s 49)
  (.seq (R 50 [6] [.set 6 (xc0 13)]) .ret) .skip)) (.seq (R 51 [6] [.set 6 (.and (xb .eql (xc2 19 (.va 7) (.va 1)) (xb .add (xc2 19 (.va 7)
  (.op (.p (.slS (.s 0) none (some (.s 1)))) (.cons (.va 1) (.va 2)))) (xc2 19 (.va 7) (.op (.p (.slS (.s 0) (some (.s 1)) none)) (.cons (.va 1) (.va 2)))))) (xc0
  13))]) .ret)))))))))
theorem fn_guiselaw9_OpenCuts : (autoPrg Tryz.prog).fn 7 = some LF_guiselaw9_OpenCuts := by kernel_rfl
end Go.Proofs.YtfiaggbgplmmeaaGreatDoor.AM
namespace Go.Proofs.YtfiaggbgplmmeaaGreatDoor.AM
open Go
theorem str_add9 {x y : ByteArray} (h : x.size + y.size ≤ 9223372036854775807) : binA .add (.string x) (.string y) = some (.string (x ++ y)) := if_pos h
theorem bs_append9 (X Y : Bytes) : bs X ++ bs Y = bs (X ++ Y) := ba_ext (by rw [ByteArray.data_append, Array.toList_append, bs_l, bs_l, bs_l])
theorem encs_app9 (A B : List Nat) : encs (A ++ B) = encs A ++ encs B := by simp [encs]
theorem head_cut {l : Bytes} {i : Nat} (hi : i ≤ (spots l).length) : (runesB (l.drop (posn l i))).head? = none ∧ l.drop (posn l i) = [] ∨ ∃ c, (runesB (l.drop (posn l i))).head? = some c ∧ (dec1 (l.drop (posn l i))).1 = c ∧ 0 < (l.drop (posn l i)).length := by
  have hd := runesB_drop hi
  have hl := runesB_len l
  rcases Nat.lt_or_ge i (spots l).length with h | h
  · right
    obtain ⟨p1, p2, p3⟩ := posn_lt h
    refine ⟨((spots l)[i]).1, ?_, by rw [p2], by rw [List.length_drop]; omega⟩
    rw [hd, List.head?_drop, List.getElem?_eq_getElem (by omega), runesB_get h]
  · left
    have : i = (spots l).length := by omega
    subst this
    rw [hd]
    constructor
    · rw [List.drop_of_length_le (by omega)]; rfl
    · rw [posn_all, List.drop_length]
theorem openB_cut {T : Tab} (h : goodB T = true) {l : Bytes} {i : Nat} (hi : i ≤ (spots l).length) (hc : ∀ c, (runesB (l.drop (posn l i))).head? = some c → clT T c ≤ 0) : openB T l = openB T (l.take (posn l i)) ++ openB T (l.drop (posn l i)) := by
  unfold openB
  rw [← encs_app9, ← openL_cut h (runesB_rune _) hc, ← runesB_append hi]
theorem openCuts_run {h : AH} (u : U8T h) (hg : 2 ≤ h.n) {S : TS} {T : Tab} (t : TabAt h S T) (x : ByteArray) (hx : x.size ≤ 1048576) (n : Int) (hn1 : -9223372036854775808 ≤ n) (hn2 : n < 9223372036854775808) :
    WpC PX 7 [.agg S.vs.toArray, .string x, .int .i64 n] h fun v _ => v = .bool true := by
  obtain ⟨_, g1, e1, k1, q⟩ := of_spec t u hg
  unfold TS.vs at *
  by_cases hb : goodB T = true
  · rw [if_pos hb] at q
    obtain ⟨k, B, S1, rfl, bk, _, _⟩ := q
    have e2 := few9_eq x hx (m := 2000) 2000 rfl (by decide) g1
    have fl := few_le x 2000
    generalize fewB x 2000 = y at e2 fl
    have hz : y.data.toList.length = y.size := rfl
    have ew := within_eq n 0 (y.size : Int) (by omega) (by omega) (by omega) g1
    obtain ⟨w1, w2⟩ := within_range (n := n) (lo := 0) (hi := (y.size : Int)) (by omega)
    generalize withinI n 0 (y.size : Int) = w at ew w1 w2
    obtain ⟨p, rfl⟩ := Int.eq_ofNat_of_zero_le w1
    have hp : p ≤ y.size := by omega
    have u1 := u.kp k1
    obtain ⟨_, g2, e3, hg2, b, hbf, rfl⟩ := bound_spec y g1 u1 (by omega) p hp
    subst hg2
    cases b with
    | false =>
      obtain ⟨_, g4, e7, rfl, k4⟩ := known9_spec u1 (Nat.le_trans hg k1.1)
      refine wpc_fn (px_ext rfl) (px_fn fn_guiselaw9_OpenCuts) rfl ?_
      unfold LF_guiselaw9_OpenCuts
      simp only [argFr]
      (refine W_x (Aj e1 (Aj e2 (Aj ew (Aj e3 e7)))) ?_; (repeat' first | apply Cj.mk | exact Nl.nl) <;> intros)
      rfl
    | true =>
      obtain ⟨i, hi, hpi⟩ := free_posn (by omega) (hbf rfl)
      have hcut := openB_cut (T := T) hb hi
      have hhd := head_cut hi
      rw [← hpi] at hcut hhd
      obtain ⟨d1, d2⟩ := ext_drop y p hp
      obtain ⟨z, hze⟩ : ∃ z, z = y.extract p y.size := ⟨_, rfl⟩
      obtain ⟨a, hae⟩ : ∃ a, a = y.extract 0 p := ⟨_, rfl⟩
      rw [← hze] at d1 d2
      have a1 : a.data.toList = y.data.toList.take p := by rw [hae, ba_extract _ _ _ (by omega)]; simp
      have a2 : a.size = p := by
        have : a.data.toList.length = a.size := rfl
        rw [← this, a1, List.length_take]
        omega
      rw [← a1, ← d1] at hcut
      rw [← d1] at hhd
      have hps : (p : Int) ≤ y.size := by omega
      have fin : (∀ c, (runesB z.data.toList).head? = some c → clT T c ≤ 0) → ∃ o oa oz g2' g3 g4 g5, callO PX 19 [.pointer (some ⟨k, 0, none⟩), .string y] g2 = some (.string o, g2') ∧ callO PX 19 [.pointer (some ⟨k, 0, none⟩), .string a] g2' = some (.string oa, g3) ∧ callO PX 19 [.pointer (some ⟨k, 0, none⟩), .string z] g3 = some (.string oz, g4) ∧
          binA .add (.string oa) (.string oz) = some (.string o) ∧ callO PX 13 [] g4 = some (.bool true, g5) := fun hc => by
        obtain ⟨_, m1, f1, rfl, j1⟩ := openOpen_spec hb bk.bk y (by omega)
        obtain ⟨_, m2, f2, rfl, j2⟩ := openOpen_spec hb (bk.kp j1).bk a (by omega)
        obtain ⟨_, m3, f3, rfl, j3⟩ := openOpen_spec hb ((bk.kp j1).kp j2).bk z (by omega)
        have kk := ((k1.trans j1).trans j2).trans j3
        obtain ⟨_, m4, f4, rfl, j4⟩ := known9_spec (u.kp kk) (Nat.le_trans hg kk.1)
        refine ⟨_, _, _, m1, m2, m3, m4, f1, f2, f3, ?_, f4⟩
        have hlen : (bs (openB T y.data.toList)).size ≤ 48000 := by
          rw [bs_size]
          have s1 := spots_len y.data.toList
          have s2 := runesB_len y.data.toList
          have s3 := openF_len hb (runesB_rune y.data.toList)
          have s4 := encs_lenle (openL T (runesB y.data.toList))
          have s5 : (openL T (runesB y.data.toList)).length = (openF T (runesB y.data.toList)).length := by unfold openL; rw [ord_length]
          unfold openB
          omega
        have hap : bs (openB T a.data.toList) ++ bs (openB T z.data.toList) = bs (openB T y.data.toList) := by rw [bs_append9, ← hcut hc]
        rw [str_add9 (by
          have := congrArg ByteArray.size hap
          rw [ByteArray.size_append] at this
          omega), hap]
      rcases hhd with ⟨hh1, hh2⟩ | ⟨c, hh1, hh2, hh3⟩
      · have hzn : z = ⟨#[]⟩ := ba_ext hh2
        have e4 := utfFirst_nil g2
        rw [← hzn] at e4
        obtain ⟨o, oa, oz, g2', g3, g4, g5, f1, f2, f3, f4, f5⟩ := fin fun c hc => by rw [hh1] at hc; cases hc
        refine wpc_fn (px_ext rfl) (px_fn fn_guiselaw9_OpenCuts) rfl ?_
        unfold LF_guiselaw9_OpenCuts
        simp only [argFr]
        (refine W_x (Aj e1 (Aj e2 (Aj ew (Aj e3 (Aj hps (Aj hze.symm (Aj hae.symm (Aj e4 (Aj f1 (Aj f2 (Aj f3 (Aj f4 f5)))))))))))) ?_; (repeat' first | apply Cj.mk | exact Nl.nl) <;> intros)
        rfl
      · have e4 := utfFirst_eq z g2 u1 (by omega) (by have : z.data.toList.length = z.size := rfl; omega)
        unfold spotV at e4
        rw [hh2] at e4
        have e5 := class_eq bk.bk (c : Nat)
        rw [show classI T (c : Nat) = clT T c from rfl] at e5
        generalize (dec1 z.data.toList).2 = nn at e4
        generalize isBad2 (dec1 z.data.toList) = ib at e4
        by_cases hcl : 0 < clT T c
        · obtain ⟨_, g4, e7, rfl, k4⟩ := known9_spec u1 (Nat.le_trans hg k1.1)
          refine wpc_fn (px_ext rfl) (px_fn fn_guiselaw9_OpenCuts) rfl ?_
          unfold LF_guiselaw9_OpenCuts
          simp only [argFr]
          (refine W_x (Aj e1 (Aj e2 (Aj ew (Aj e3 (Aj hps (Aj hze.symm (Aj e4 (Aj e5 e7)))))))) ?_; (repeat' first | apply Cj.mk | exact Nl.nl) <;> intros)
          rfl
        · obtain ⟨o, oa, oz, g2', g3, g4, g5, f1, f2, f3, f4, f5⟩ := fin fun c' hc => by rw [hh1] at hc; injection hc with hc; subst hc; omega
          refine wpc_fn (px_ext rfl) (px_fn fn_guiselaw9_OpenCuts) rfl ?_
          unfold LF_guiselaw9_OpenCuts
          simp only [argFr]
          (refine W_x (Aj e1 (Aj e2 (Aj ew (Aj e3 (Aj hps (Aj hze.symm (Aj hae.symm (Aj e4 (Aj e5 (Aj f1 (Aj f2 (Aj f3 (Aj f4 f5))))))))))))) ?_; (repeat' first | apply Cj.mk | exact Nl.nl) <;> intros)
          rfl
  · rw [if_neg hb] at q
    subst q
    obtain ⟨_, g4, e7, rfl, k4⟩ := known9_spec (u.kp k1) (Nat.le_trans hg k1.1)
    refine wpc_fn (px_ext rfl) (px_fn fn_guiselaw9_OpenCuts) rfl ?_
    unfold LF_guiselaw9_OpenCuts
    simp only [argFr]
    (refine W_x (Aj e1 e7) ?_; (repeat' first | apply Cj.mk | exact Nl.nl) <;> intros)
    rfl
end Go.Proofs.YtfiaggbgplmmeaaGreatDoor.AM
