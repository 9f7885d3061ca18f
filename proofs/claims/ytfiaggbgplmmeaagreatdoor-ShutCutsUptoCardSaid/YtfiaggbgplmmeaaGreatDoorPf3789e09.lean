/- Parts of proofs: lemmas, joined. -/
import Derived.Test.YtfiaggbgplmmeaaGreatDoorP748c895e
set_option linter.unusedVariables false
set_option linter.unusedSimpArgs false
set_option linter.unusedSectionVars false
namespace Go.Proofs.YtfiaggbgplmmeaaGreatDoor.AM
open Go
theorem house10_spec (h : AH) : WpC PX 34 [] h fun v h' => ∃ S, v = .agg S.vs.toArray ∧ TabAt h' S houseT ∧ Kp h h' := by
  obtain ⟨_, g, e, S, rfl, t, k⟩ := house_spec h
  unfold TS.vs at e
  refine wpc_fn (px_ext rfl) (px_fn fn_guiselaw10_house) rfl ?_
  unfold LF_guiselaw10_house
  simp only [argFr]
  (refine W_x e ?_; (repeat' first | apply Cj.mk | exact Nl.nl) <;> intros)
  exact ⟨S, rfl, t, k⟩
theorem few10_eq (s : ByteArray) (hs : s.size ≤ 1048576) {m : Int} (n : Nat) (hm : m = n) (hn : n ≤ 1048576) (h : AH) : callO PX 38 [.string s, .int .i64 m] h = some (.string (fewB s n), h) := fewG_eq (px_fn (by kernel_rfl)) (px_ext rfl) s hs n hm hn h
set_option maxRecDepth 100000 in
theorem known10_a : shutB houseT [101, 204, 130, 204, 129] = [225, 186, 191] := by decide +kernel
set_option maxRecDepth 100000 in
theorem known10_b : shutB houseT [101, 204, 129, 204, 163] = [225, 186, 185, 204, 129] := by decide +kernel
set_option maxRecDepth 100000 in
theorem known10_c : shutB houseT [101, 204, 129, 204, 129] = [195, 169, 204, 129] := by decide +kernel
theorem known10_spec {h : AH} (u : U8T h) (hg : 2 ≤ h.n) : WpC PX 37 [] h fun v h' => v = .bool true ∧ Kp h h' := by
  obtain ⟨_, g, e, S, rfl, t, k⟩ := house10_spec h
  obtain ⟨_, g1, e1, k1, kk, B, S1, rfl, bk, _, _⟩ := of_house t (u.kp k) (Nat.le_trans hg k.1)
  obtain ⟨_, g2, e2, rfl, k2⟩ := shutShut_spec house_good bk.bk ⟨#[101, 204, 130, 204, 129]⟩ (by decide)
  obtain ⟨_, g3, e3, rfl, k3⟩ := shutShut_spec house_good (bk.kp k2).bk ⟨#[101, 204, 129, 204, 163]⟩ (by decide)
  obtain ⟨_, g4, e4, rfl, k4⟩ := shutShut_spec house_good ((bk.kp k2).kp k3).bk ⟨#[101, 204, 129, 204, 129]⟩ (by decide)
  have q2 : bs (shutB houseT [101, 204, 130, 204, 129]) = ⟨#[225, 186, 191]⟩ := by rw [known10_a]; rfl
  have q3 : bs (shutB houseT [101, 204, 129, 204, 163]) = ⟨#[225, 186, 185, 204, 129]⟩ := by rw [known10_b]; rfl
  have q4 : bs (shutB houseT [101, 204, 129, 204, 129]) = ⟨#[195, 169, 204, 129]⟩ := by rw [known10_c]; rfl
  simp only [q2] at e2
  simp only [q3] at e3
  simp only [q4] at e4
  unfold TS.vs at *
  refine wpc_fn (px_ext rfl) (px_fn fn_guiselaw10_known) rfl ?_
  unfold LF_guiselaw10_known
  simp only [argFr]
  (refine W_x (Aj e (Aj e1 (Aj e2 (Aj e3 e4)))) ?_; (repeat' first | apply Cj.mk | exact Nl.nl) <;> intros)
  exact ⟨rfl, (((k.trans k1).trans k2).trans k3).trans k4⟩
end Go.Proofs.YtfiaggbgplmmeaaGreatDoor.AM
namespace Go.Proofs.YtfiaggbgplmmeaaGreatDoor.AM
open Go
def LF_guiselaw10_ShutCuts : LFunc :=
  .mk 3 [.tmp 6] (.seq (R 3 [1, 2, 3] [.tmp 3 (xbl 3 8 (.sl 0)), .set 6 (.cv (.bool false))]) (.seq (R 13 [1, 2, 7, 8, 9] [.set 12 (xc1 12 (xln 8 (.sl 3))), .tmp 15
  (xex 0 (.sl 12)), .tmp 16 (xex 1 (.sl 12)), .tmp 17 (xex 2 (.sl 12)), .set 7 (.sl 15), .set 8 (.sl 16), .set 9 (.sl 17)]) (.seq (.seq (R 18 [1, 2, 7, 9, 19] [.tmp 19 (xu .not (.va
  8))]) (.cond (.s 19) (.seq (R 20 [6] [.set 6 (.and (.va 9) (xc0 37))]) .ret) .skip)) (.seq (R 24 [1, 2, 7] [.set 1 (xc2 38 (.va 1) (xi 2000))])
  (.seq (R 26 [1, 2, 7] [.set 2 (xc3 30 (.va 2) (xi 0) (xsl (.va 1)))]) (.seq (.seq (R 30 [1, 2, 7, 33] [.tmp 33 (xu .not (xc2 31 (.va 1) (.va 2)))])
  (.cond (.s 33) (.seq (R 34 [6] [.set 6 (xc0 37)]) .ret) .skip)) (.seq (R 36 [1, 2, 7, 10, 11] [.set 35 (xc1 32 (.op (.p (.slS (.s 0) (some (.s 1))
  none)) (.cons (.va 1) (.va 2)))), .tmp 40 (xex 0 (.sl 35)), .tmp 41 (xex 1 (.sl 35)), .at 10, .tmp 10 (xnl 10 [.int .i32 0, .int .i64 0, .bool false]), .run (xst 3 (.sl 10) (.sl
  40)), .tmp 11 (.va 41)]) (.seq (.seq (R 42 [1, 2, 7, 49] [.tmp 49 (.and (.va 11) (xb .gtr (xc2 33 (.va 7) (xld (xfa 0 (.sl 10)))) (xi 0)))]) (.cond (.s 49)
  (.seq (R 50 [6] [.set 6 (xc0 37)]) .ret) .skip)) (.seq (R 51 [6] [.set 6 (.and (xb .eql (xc2 35 (.va 7) (.va 1)) (xb .add (xc2 35 (.va 7)
  (.op (.p (.slS (.s 0) none (some (.s 1)))) (.cons (.va 1) (.va 2)))) (xc2 35 (.va 7) (.op (.p (.slS (.s 0) (some (.s 1)) none)) (.cons (.va 1) (.va 2)))))) (xc0
  37))]) .ret)))))))))
theorem fn_guiselaw10_ShutCuts : (autoPrg Tryz.prog).fn 11 = some LF_guiselaw10_ShutCuts := by kernel_rfl
end Go.Proofs.YtfiaggbgplmmeaaGreatDoor.AM
namespace Go.Proofs.YtfiaggbgplmmeaaGreatDoor.AM
open Go
theorem shutB_cut {T : Tab} (h : goodB T = true) {l : Bytes} {i : Nat} (hi : i ≤ (spots l).length) (hc : ∀ c, (runesB (l.drop (posn l i))).head? = some c → clT T c ≤ 0) : shutB T l = shutB T (l.take (posn l i)) ++ shutB T (l.drop (posn l i)) := by
  unfold shutB
  rw [← encs_app9, ← shut_cut h (runesB_rune _) (runesB_rune _) hc, ← runesB_append hi]
theorem shutCuts_run {h : AH} (u : U8T h) (hg : 2 ≤ h.n) {S : TS} {T : Tab} (t : TabAt h S T) (x : ByteArray) (hx : x.size ≤ 1048576) (n : Int) (hn1 : -9223372036854775808 ≤ n) (hn2 : n < 9223372036854775808) :
    WpC PX 11 [.agg S.vs.toArray, .string x, .int .i64 n] h fun v _ => v = .bool true := by
  obtain ⟨_, g1, e1, k1, q⟩ := of_spec t u hg
  unfold TS.vs at *
  by_cases hb : goodB T = true
  · rw [if_pos hb] at q
    obtain ⟨k, B, S1, rfl, bk, _, _⟩ := q
    have e2 := few10_eq x hx (m := 2000) 2000 rfl (by decide) g1
    have fl := few_le x 2000
    generalize fewB x 2000 = y at e2 fl
    have hz : y.data.toList.length = y.size := rfl
    have ew := within_eq n 0 (y.size : Int) (by omega) (by omega) (by omega) g1
    obtain ⟨w1, w2⟩ := within_range (n := n) (lo := 0) (hi := (y.size : Int)) (by omega)
    generalize withinI n 0 (y.size : Int) = w at ew w1 w2
    obtain ⟨p, rfl⟩ := Int.eq_ofNat_of_zero_le w1
    have hp : p ≤ y.size := by omega
    have u1 := u.kp k1
    obtain ⟨_, g2, e3, hg2, b, hbf, rfl⟩ := bound_spec y g1 u1 (by omega) p hp
    subst hg2
    cases b with
    | false =>
      obtain ⟨_, g4, e7, rfl, k4⟩ := known10_spec u1 (Nat.le_trans hg k1.1)
      refine wpc_fn (px_ext rfl) (px_fn fn_guiselaw10_ShutCuts) rfl ?_
      unfold LF_guiselaw10_ShutCuts
      simp only [argFr]
      (refine W_x (Aj e1 (Aj e2 (Aj ew (Aj e3 e7)))) ?_; (repeat' first | apply Cj.mk | exact Nl.nl) <;> intros)
      rfl
    | true =>
      obtain ⟨i, hi, hpi⟩ := free_posn (by omega) (hbf rfl)
      have hcut := shutB_cut (T := T) hb hi
      have hhd := head_cut hi
      rw [← hpi] at hcut hhd
      obtain ⟨d1, d2⟩ := ext_drop y p hp
      obtain ⟨z, hze⟩ : ∃ z, z = y.extract p y.size := ⟨_, rfl⟩
      obtain ⟨a, hae⟩ : ∃ a, a = y.extract 0 p := ⟨_, rfl⟩
      rw [← hze] at d1 d2
      have a1 : a.data.toList = y.data.toList.take p := by rw [hae, ba_extract _ _ _ (by omega)]; simp
      have a2 : a.size = p := by
        have : a.data.toList.length = a.size := rfl
        rw [← this, a1, List.length_take]
        omega
      rw [← a1, ← d1] at hcut
      rw [← d1] at hhd
      have hps : (p : Int) ≤ y.size := by omega
      have fin : (∀ c, (runesB z.data.toList).head? = some c → clT T c ≤ 0) → ∃ o oa oz g2' g3 g4 g5, callO PX 35 [.pointer (some ⟨k, 0, none⟩), .string y] g2 = some (.string o, g2') ∧ callO PX 35 [.pointer (some ⟨k, 0, none⟩), .string a] g2' = some (.string oa, g3) ∧ callO PX 35 [.pointer (some ⟨k, 0, none⟩), .string z] g3 = some (.string oz, g4) ∧
          binA .add (.string oa) (.string oz) = some (.string o) ∧ callO PX 37 [] g4 = some (.bool true, g5) := fun hc => by
        obtain ⟨_, m1, f1, rfl, j1⟩ := shutShut_spec hb bk.bk y (by omega)
        obtain ⟨_, m2, f2, rfl, j2⟩ := shutShut_spec hb (bk.kp j1).bk a (by omega)
        obtain ⟨_, m3, f3, rfl, j3⟩ := shutShut_spec hb ((bk.kp j1).kp j2).bk z (by omega)
        have kk := ((k1.trans j1).trans j2).trans j3
        obtain ⟨_, m4, f4, rfl, j4⟩ := known10_spec (u.kp kk) (Nat.le_trans hg kk.1)
        refine ⟨_, _, _, m1, m2, m3, m4, f1, f2, f3, ?_, f4⟩
        have hlen : (bs (shutB T y.data.toList)).size ≤ 48000 := by
          rw [bs_size]
          have s1 := spots_len y.data.toList
          have s2 := runesB_len y.data.toList
          have s3 := openF_len hb (runesB_rune y.data.toList)
          have s4 := encs_lenle (laid T (openL T (runesB y.data.toList)))
          have s6 := (shut_facts hb y.data.toList).2.2
          have s5 : (openL T (runesB y.data.toList)).length = (openF T (runesB y.data.toList)).length := by unfold openL; rw [ord_length]
          unfold shutB
          omega
        have hap : bs (shutB T a.data.toList) ++ bs (shutB T z.data.toList) = bs (shutB T y.data.toList) := by rw [bs_append9, ← hcut hc]
        rw [str_add9 (by
          have := congrArg ByteArray.size hap
          rw [ByteArray.size_append] at this
          omega), hap]
      rcases hhd with ⟨hh1, hh2⟩ | ⟨c, hh1, hh2, hh3⟩
      · have hzn : z = ⟨#[]⟩ := ba_ext hh2
        have e4 := utfFirst_nil g2
        rw [← hzn] at e4
        obtain ⟨o, oa, oz, g2', g3, g4, g5, f1, f2, f3, f4, f5⟩ := fin fun c hc => by rw [hh1] at hc; cases hc
        refine wpc_fn (px_ext rfl) (px_fn fn_guiselaw10_ShutCuts) rfl ?_
        unfold LF_guiselaw10_ShutCuts
        simp only [argFr]
        (refine W_x (Aj e1 (Aj e2 (Aj ew (Aj e3 (Aj hps (Aj hze.symm (Aj hae.symm (Aj e4 (Aj f1 (Aj f2 (Aj f3 (Aj f4 f5)))))))))))) ?_; (repeat' first | apply Cj.mk | exact Nl.nl) <;> intros)
        rfl
      · have e4 := utfFirst_eq z g2 u1 (by omega) (by have : z.data.toList.length = z.size := rfl; omega)
        unfold spotV at e4
        rw [hh2] at e4
        have e5 := class_eq bk.bk (c : Nat)
        rw [show classI T (c : Nat) = clT T c from rfl] at e5
        generalize (dec1 z.data.toList).2 = nn at e4
        generalize isBad2 (dec1 z.data.toList) = ib at e4
        by_cases hcl : 0 < clT T c
        · obtain ⟨_, g4, e7, rfl, k4⟩ := known10_spec u1 (Nat.le_trans hg k1.1)
          refine wpc_fn (px_ext rfl) (px_fn fn_guiselaw10_ShutCuts) rfl ?_
          unfold LF_guiselaw10_ShutCuts
          simp only [argFr]
          (refine W_x (Aj e1 (Aj e2 (Aj ew (Aj e3 (Aj hps (Aj hze.symm (Aj e4 (Aj e5 e7)))))))) ?_; (repeat' first | apply Cj.mk | exact Nl.nl) <;> intros)
          rfl
        · obtain ⟨o, oa, oz, g2', g3, g4, g5, f1, f2, f3, f4, f5⟩ := fin fun c' hc => by rw [hh1] at hc; injection hc with hc; subst hc; omega
          refine wpc_fn (px_ext rfl) (px_fn fn_guiselaw10_ShutCuts) rfl ?_
          unfold LF_guiselaw10_ShutCuts
          simp only [argFr]
          (refine W_x (Aj e1 (Aj e2 (Aj ew (Aj e3 (Aj hps (Aj hze.symm (Aj hae.symm (Aj e4 (Aj e5 (Aj f1 (Aj f2 (Aj f3 (Aj f4 f5))))))))))))) ?_; (repeat' first | apply Cj.mk | exact Nl.nl) <;> intros)
          rfl
  · rw [if_neg hb] at q
    subst q
    obtain ⟨_, g4, e7, rfl, k4⟩ := known10_spec (u.kp k1) (Nat.le_trans hg k1.1)
    refine wpc_fn (px_ext rfl) (px_fn fn_guiselaw10_ShutCuts) rfl ?_
    unfold LF_guiselaw10_ShutCuts
    simp only [argFr]
    (refine W_x (Aj e1 e7) ?_; (repeat' first | apply Cj.mk | exact Nl.nl) <;> intros)
    rfl
end Go.Proofs.YtfiaggbgplmmeaaGreatDoor.AM
