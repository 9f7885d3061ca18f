/- Parts of proofs: lemmas, joined. -/
import Derived.Test.YtblmakgjdenpfaaGreatDoorP2de253db
set_option linter.unusedVariables false
set_option linter.unusedSimpArgs false
set_option linter.unusedSectionVars false
namespace Go.Proofs.YtblmakgjdenpfaaGreatDoor.AM
open Go
def dropT (T : Tab) (c : Nat) : Bool := ofI (c : Int) T.drops
def placeV (a b : Nat) : Value := .agg (List.toArray [.int .i64 a, .int .i64 b])
def seenE (x : Nat × Nat × Nat) : List Value := [placeV x.1 x.2.1, .int .i32 x.2.2]
theorem seen_spec {k B : Nat} {s6 : Sl} {T : Tab} (s : ByteArray) (hs : s.size ≤ 16777216) {yv : Value} {I : Nat → AH → Prop} {E : AH → Prop} {h : AH} (hyv : IsF yv) (hvs : vsame yv yv = true)
    (hstep : ∀ j (hj : j < (seenL (dropT T) s.data.toList).length) h, I j h → WpV PX yv (seenE (seenL (dropT T) s.data.toList)[j]) h fun v h' => (v = .bool true ∧ I (j + 1) h') ∨ (v = .bool false ∧ E h'))
    (hbk : ∀ j h, I j h → BkAt h k B s6 T) (h0 : I 0 h) : WpC PX 39 [.pointer (some ⟨k, 0, none⟩), .string s, yv] h fun _ h' => I (seenL (dropT T) s.data.toList).length h' ∨ E h' := by
  have hset := hyv.set
  have hlc1 := hyv.lc1
  obtain ⟨l, hl⟩ : ∃ l, l = s.data.toList := ⟨_, rfl⟩
  rw [← hl] at hstep ⊢
  have hll : l.length = s.size := by rw [hl]; rfl
  have hn := spots_len l
  refine wpc_fn (px_ext rfl) (px_fn fn_strip_seen) rfl ?_
  unfold LF_strip_seen
  simp only [argFr]
  (refine W_x (Aj hset (Aj hlc1 @ev_rngS)) ?_; (repeat' first | apply Cj.mk | exact Nl.nl) <;> intros)
  refine wp_spotsS (fun i _ => [(0, .pointer (some ⟨k, 0, none⟩)), (2, yv), (6, .int .i64 ((i : Int) - 1)), (12, .pointer (some ⟨24, 0, some 1⟩))]) (fun n _ => [(24, .siter s n)]) s l (fun i _ h1 => I (seenN (dropT T) l i) h1) (fun _ _ => (none : Option Unit)) () hl (by repeat' first | exact True.intro | refine And.intro rfl ?_) (fun _ _ => rfl) rfl h0 (fun i hil _ h1 hI hit => ?_) fun _ h1 hI fin => ?_
  · have e1 := dropped_eq (hbk _ _ hI) ((spots l)[i].1 : Nat)
    have m0 := seenN_drop (D := dropT T) hil
    have m1 := seenN_more (D := dropT T) hil
    unfold dropT at m0 m1
    have hp : (i : Int) - 1 + 1 = i := by omega
    have hp2 : ((i + 1 : Nat) : Int) - 1 = i := by omega
    (refine W_x (Aj hset hlc1) ?_; (repeat' first | apply Cj.mk | exact Nl.nl) <;> intros)
    refine wo_next hl rfl hil ?_
    generalize (spots l)[i] = x at e1 m0 m1
    cases hd : ofI (x.1 : Int) T.drops
    · obtain ⟨n1, hj, hg⟩ := m1 hd
      have hst := hstep _ hj h1 hI
      unfold dropT at hst
      rw [hg] at hst
      unfold seenE placeV at hst
      rw [hd] at e1
      simp only at hst
      (refine W_x (Aj hset (Aj hlc1 (Aj e1 hp))) ?_; (repeat' first | apply Cj.mk | exact Nl.nl) <;> intros)
      refine wo_callV (fv := yv) rfl rfl rfl ?_
      refine hst.mono ?_
      rintro v h2 (⟨rfl, hI2⟩ | ⟨rfl, hE⟩)
      · (refine W_x (Aj hset hlc1) ?_; (repeat' first | apply Cj.mk | exact Nl.nl) <;> intros)
        exact ⟨rfl, (), by rw [hp2]; exact (by repeat' first | exact True.intro | refine And.intro rfl ?_), rfl, by unfold dropT; rw [n1]; exact hI2⟩
      · (refine W_x (Aj hset hlc1) ?_; (repeat' first | apply Cj.mk | exact Nl.nl) <;> intros)
        exact .inr hE
    · rw [hd] at e1
      (refine W_x (Aj hset (Aj hlc1 (Aj e1 hp))) ?_; (repeat' first | apply Cj.mk | exact Nl.nl) <;> intros)
      exact ⟨rfl, (), by rw [hp2]; exact (by repeat' first | exact True.intro | refine And.intro rfl ?_), rfl, by unfold dropT; rw [m0 hd]; exact hI⟩
  · (refine W_x (Aj hset hlc1) ?_; (repeat' first | apply Cj.mk | exact Nl.nl) <;> intros)
    refine wo_nextE hl rfl ?_
    rw [seenN_all] at hI
    (refine W_x (Aj hset hlc1) ?_; (repeat' first | apply Cj.mk | exact Nl.nl) <;> intros)
    exact .inl hI
end Go.Proofs.YtblmakgjdenpfaaGreatDoor.AM
namespace Go.Proofs.YtblmakgjdenpfaaGreatDoor.AM
open Go
def LF_guiseref11_Strip : LFunc :=
  .mk 2 [.tmp 4] (.seq (R 2 [1, 2] [.tmp 2 (xbl 2 8 (.sl 0)), .set 4 (.cv (.string ⟨#[]⟩))]) (.seq (R 999 [1, 2, 5] [.set 5 (.cv (.slice none 0 0))]) (.seq (R 10 [5, 6] [.set 9 (xc2
  18 (xln 8 (.sl 2)) (.va 1)), .tmp 13 (xex 0 (.sl 9)), .tmp 14 (xex 1 (.sl 9)), .set 6 (.sl 13), .set 7 (.sl 14)]) (.seq (.seq (R 999 [5, 6, 8] [.set 8 (xi 0)])
  (.block 0 (.loop (.seq (.seq (R 15 [5, 6, 8, 18] [.tmp 18 (xb .lss (.va 8) (xlen (.va 6)))]) (.cond (.s 18) .skip (.exit 0))) (.seq (.block 1 (R 21 [5, 6, 8] [.set 5 (xap 1 1 (.va
  5) (xc1 46 (xld (xfa 0 (xia 4 (.va 6) (.va 8))))))])) (R 19 [5, 6, 8] [.set 8 (xb .add (.va 8) (xi 1))])))))) (.seq (R 29 [4] [.set 4 (.op (.r (.b2s (.s 0))) (.va
  5))]) .ret)))))
theorem fn_guiseref11_Strip : (autoPrg Tryz.prog).fn 17 = some LF_guiseref11_Strip := by kernel_rfl
def LF_guiseref11_Seen : LFunc :=
  .mk 2 [.tmp 4, .tmp 5] (.seq (R 2 [1, 2] [.tmp 2 (xbl 2 8 (.sl 0)), .set 4 (.cv (.slice none 0 0)), .set 5 (.cv (.slice none 0 0))]) (.seq (R 999 [1, 2, 6] [.set 6 (.cv (.slice
  none 0 0))]) (.seq (R 999 [1, 2, 6, 7] [.set 7 (.cv (.slice none 0 0))]) (.seq (R 10 [2, 6, 7, 8] [.set 8 (xc1 22 (.va 1))]) (.seq (.seq (R 999 [2, 6, 7, 8, 9]
  [.set 9 (xi 0)]) (.block 0 (.loop (.seq (.seq (R 12 [2, 6, 7, 8, 9, 15] [.tmp 15 (xb .lss (.va 9) (xlen (.va 8)))]) (.cond (.s 15) .skip (.exit 0))) (.seq (.block 1 (.seq (R 18
  [2, 6, 7, 8, 9, 33] [.tmp 33 (.or (xld (xfa 3 (xia 4 (.va 8) (.va 9)))) (xu .not (xc2 47 (xld (xfa 0 (xia 4 (.va 8) (.va 9)))) (xld (xfa 6 (.sl 2))))))]) (.cond (.s
  33) (.seq (R 34 [2, 6, 7, 8, 9] [.set 6 (xap 4 32 (.va 6) (.op (.e (.litL 39 1 4 [.int .i32 0, .int .i64 0, .int .i64 0, .bool false] [(0, 4, .s 0)])) (xln 4 (xia 4 (.va 8) (.va
  9)))))]) (R 41 [2, 6, 7, 8, 9] [.set 7 (xap 1 8 (.va 7) (.op (.e (.litL 43 1 1 [.int .i64 0] [(0, 1, .s 0)])) (.va 9)))])) .skip))) (R 16 [2, 6, 7, 8, 9] [.set 9 (xb .add (.va 9)
  (xi 1))])))))) (.seq (R 45 [4, 5] [.tmp 45 (.va 6), .tmp 46 (.va 7), .set 4 (.sl 45), .set 5 (.sl 46)]) .ret))))))
theorem fn_guiseref11_Seen : (autoPrg Tryz.prog).fn 18 = some LF_guiseref11_Seen := by kernel_rfl
def LF_guiseref11_First : LFunc :=
  .mk 2 [.cell 4 (some 2), .tmp 5] (.seq (R 2 [1, 2, 4] [.tmp 2 (xbl 2 8 (.sl 0)), .at 4, .tmp 4 (xnl 4 [.int .i64 0, .int .i64 0]), .set 5 (.cv (.bool false))]) (.seq (R 8 [2, 4,
  6] [.set 6 (xc1 22 (.va 1))]) (.seq (.seq (R 999 [2, 4, 6, 7] [.set 7 (xi 0)]) (.block 0 (.loop (.seq (.seq (R 10 [2, 4, 6, 7, 13] [.tmp 13 (xb .lss (.va 7) (xlen
  (.va 6)))]) (.cond (.s 13) .skip (.exit 0))) (.seq (.block 1 (.seq (R 16 [2, 4, 6, 7, 30] [.tmp 30 (.or (xld (xfa 3 (xia 4 (.va 6) (.va 7)))) (xc2 47 (xld (xfa 0
  (xia 4 (.va 6) (.va 7)))) (xld (xfa 6 (.sl 2)))))]) (.cond (.s 30) (.seq (R 31 [4, 5] [.run (xst 2 (.sl 4) (.op (.p (.build [.int .i64 0, .int .i64 0] [(0, 1, .s 0), (1, 1, .s
  1)])) (.cons (xld (xfa 1 (xia 4 (.va 6) (.va 7)))) (.va 7)))), .set 5 (.cv (.bool true))]) .ret) .skip))) (R 14 [2, 4, 6, 7] [.set 7 (xb .add (.va 7) (xi 1))])))))) (.seq (R 38
  [4, 5] [.run (xst 2 (.sl 4) (.op (.p (.build [.int .i64 0, .int .i64 0] [])) .nil)), .set 5 (.cv (.bool false))]) .ret))))
theorem fn_guiseref11_First : (autoPrg Tryz.prog).fn 19 = some LF_guiseref11_First := by kernel_rfl
def LF_guiseref11_Place : LFunc :=
  .mk 3 [.cell 6 (some 2), .tmp 7] (.seq (R 3 [1, 2, 3, 6] [.tmp 3 (xbl 3 8 (.sl 0)), .at 6, .tmp 6 (xnl 6 [.int .i64 0, .int .i64 0]), .set 7 (.cv (.bool false))]) (.seq (R 11 [1,
  2, 6, 8, 9] [.set 10 (xc2 18 (xln 8 (.sl 3)) (.va 1)), .tmp 14 (xex 0 (.sl 10)), .tmp 15 (xex 1 (.sl 10)), .set 8 (.sl 14), .set 9 (.sl 15)]) (.seq (.seq (R 16
  [1, 2, 6, 8, 9, 23] [.tmp 23 (.or (xb .lss (.va 2) (xi 0)) (xb .gtr (.va 2) (xlen (.va 8))))]) (.cond (.s 23) (.seq (R 24 [6, 7] [.run (xst 2 (.sl 6) (.op (.p (.build [.int .i64
  0, .int .i64 0] [])) .nil)), .set 7 (.cv (.bool false))]) .ret) .skip)) (.seq (.seq (R 25 [1, 2, 6, 8, 9, 28] [.tmp 28 (xb .eql (.va 2) (xlen (.va 8)))]) (.cond (.s 28) (.seq (R
  29 [6, 7] [.run (xst 2 (.sl 6) (.op (.p (.build [.int .i64 0, .int .i64 0] [(0, 1, .s 0), (1, 1, .s 1)])) (.cons (xsl (.va 1)) (xlen (xc1 22 (.va 1)))))), .set 7
  (.cv (.bool true))]) .ret) .skip)) (.seq (R 35 [6, 7] [.run (xst 2 (.sl 6) (.op (.p (.build [.int .i64 0, .int .i64 0] [(0, 1, .s 0), (1, 1, .s 1)])) (.cons (xld (xfa 1 (xia 4
  (.va 8) (.va 2)))) (xld (xia 1 (.va 9) (.va 2)))))), .set 7 (.cv (.bool true))]) .ret)))))
theorem fn_guiseref11_Place : (autoPrg Tryz.prog).fn 21 = some LF_guiseref11_Place := by kernel_rfl
end Go.Proofs.YtblmakgjdenpfaaGreatDoor.AM
namespace Go.Proofs.YtblmakgjdenpfaaGreatDoor.AM
open Go
section
variable {p : Prg} {lc : Lc} {h : AH} {H : Value → Lc → AH → Prop}
theorem wo_appO {e by' : Nat} {s : Sl} {y : Value} {xss yss : List (List Value)} {k : Nat} (o : Own h e s xss) (hk : lenV y = some k) (hy : rdSlice ⟨lc, h⟩ e y = some yss.flatten)
    (hyl : yss.length = k) (hye : ∀ x ∈ yss, x.length = e) (k0 : 0 < k) (he : 0 < e) (hb : 0 < by') (hn : (xss.length + k) * by' ≤ 140737488355328)
    (hq : ∀ s' h', Own h' e s' (xss ++ yss) → s'.blk = some h.n → h'.n = h.n + 1 → (∀ b, b < h.n → s.blk ≠ some b → h'.get b = h.get b) → H (s'.val e) lc h') : WpO p (.e (.append e by' (.s 0) (.s 1))) [s.val e, y] lc h H := by
  obtain ⟨s', h', h1, h2, h3, h4, h5⟩ := own_append o hk hy hyl hye k0 he hb hn
  exact wo_e (by simp only [EOp.ev, opd_s, fg0, fg1, h1]) (hq s' h' h2 h3 h4 h5)
theorem wo_app1O {e by' b : Nat} {s : Sl} {xss : List (List Value)} {cs : List Value} (o : Own h e s xss) (hl : lget lc b = some (.cells false cs)) (hc : cs.length = e) (he : 0 < e) (hb : 0 < by') (hn : (xss.length + 1) * by' ≤ 140737488355328)
    (hq : ∀ s' h', Own h' e s' (xss ++ [cs]) → s'.blk = some h.n → h'.n = h.n + 1 → (∀ b, b < h.n → s.blk ≠ some b → h'.get b = h.get b) → H (s'.val e) lc h') : WpO p (.e (.append e by' (.s 0) (.s 1))) [s.val e, .slice (some ⟨b, 0, some 1⟩) 1 e] lc h H := by
  refine wo_appO (yss := [cs]) (k := 1) o rfl ?_ rfl (fun x hx => by rw [List.mem_singleton.1 hx]; exact hc) (by decide) he hb hn hq
  simp only [rdSlice, Nat.one_ne_zero, if_false, Nat.one_mul, rd_loc, hl, List.flatten_cons, List.flatten_nil, List.append_nil]
  rw [if_pos (by omega), List.drop_zero, ← hc, List.take_length]
end
end Go.Proofs.YtblmakgjdenpfaaGreatDoor.AM
namespace Go.Proofs.YtblmakgjdenpfaaGreatDoor.AM
open Go
theorem drop_bad {T : Tab} (h : goodB T = true) : dropT T 65533 = false := by
  have hf := (checkW_none (good_check h)).2.2.2.2.2.2.2.2
  unfold houseW at hf
  simp only [Option.or_eq_none_iff] at hf
  unfold dropT ofI
  rw [Bool.and_eq_false_iff]
  refine .inr ?_
  rw [Bool.eq_false_iff]
  intro hc
  rw [List.any_eq_true] at hc
  obtain ⟨x, hx, hd⟩ := hc
  have hd := of_decide_eq_true hd
  obtain ⟨i, hi, rfl⟩ := List.mem_iff_getElem.1 hx
  have := scanL_none hf.2.1 i hi
  split at this
  · cases this
  · rename_i hq
    exact hq (.inr (by have h1 := hd.1; have h2 := hd.2; exact ⟨by simpa using h1, by simpa using h2⟩))
def refL (D : Nat → Bool) (l : Bytes) (i : Nat) : List Nat := (List.range i).filter fun i => ((runesB l)[i]?).any fun c => !D c
def spotAt (l : Bytes) (i : Nat) : Nat × (Nat × Nat) := (posn l i, (spots l).getD i (0, 0))
def intV (i : Nat) : List Value := [.int .i64 i]
theorem refL_all (D : Nat → Bool) (l : Bytes) : refL D l (spots l).length = seenI D l := by unfold refL seenI; rw [runesB_len]
theorem refL_succ {D : Nat → Bool} {l : Bytes} {i : Nat} (hi : i < (spots l).length) : refL D l (i + 1) = if D (spots l)[i].1 = true then refL D l i else refL D l i ++ [i] := by
  have e : (runesB l)[i]? = some (spots l)[i].1 := by simp [runesB, hi]
  unfold refL
  rw [List.range_succ, List.filter_append]
  by_cases h : D (spots l)[i].1 = true
  · rw [if_pos h]; simp [e, h]
  · rw [if_neg h]; simp [e, h]
theorem refL_len (D : Nat → Bool) (l : Bytes) (i : Nat) : (refL D l i).length ≤ i := Nat.le_trans (List.length_filter_le _ _) (by simp)
structure Two4 (h h1 : AH) (s : Sl × Sl) (L : List Nat) (l : Bytes) : Prop where
  kp : Kp h h1
  o1 : Own h1 4 s.1 (L.map fun i => spot4 (spotAt l i))
  o2 : Own h1 1 s.2 (L.map intV)
  n1 : ∀ b, s.1.blk = some b → h.n ≤ b
  n2 : ∀ b, s.2.blk = some b → h.n ≤ b ∧ s.1.blk ≠ some b
theorem Two4.start (h : AH) (l : Bytes) : Two4 h h (.nil, .nil) [] l :=
  ⟨Kp.refl _, (FOwn.nil (Kp.refl h)).own, (FOwn.nil (Kp.refl h)).own, (fun b hb => by cases hb), (fun b hb => by cases hb)⟩
theorem ref11Seen_spec {S : TS} {T : Tab} {h : AH} (t : TabAt h S T) (hb : goodB T = true) (s : ByteArray) (hs : s.size ≤ 1048576) :
    WpC PX 18 [.agg S.vs.toArray, .string s] h fun v h' => ∃ s1 s2, v = .tuple (List.toArray [s1.val 4, s2.val 1]) ∧ Two4 h h' (s1, s2) (seenI (dropT T) s.data.toList) s.data.toList := by
  obtain ⟨l, hl⟩ : ∃ l, l = s.data.toList := ⟨_, rfl⟩
  have hz : l.length = s.size := by rw [hl]; rfl
  have hn := spots_len l
  obtain ⟨_, h1, e1, sl, rfl, f1⟩ := ref1Spots_spec s hs h
  rw [← hl] at f1 ⊢
  have sll := f1.own.1
  rw [List.length_map, spotsL_len] at sll
  have hbad := drop_bad hb
  refine wpc_fn (px_ext rfl) (px_fn fn_guiseref11_Seen) rfl ?_
  unfold LF_guiseref11_Seen
  simp only [argFr]
  unfold TS.vs
  (refine W_x e1 ?_; (repeat' first | apply Cj.mk | exact Nl.nl) <;> intros)
  refine wp_forS (fun i (q : Sl × Sl) => [(2, .pointer (some ⟨4, 0, some 1⟩)), (6, q.1.val 4), (7, q.2.val 1), (8, sl.val 4), (9, .int .i64 i)]) (fun _ _ => [(4, .cells false [S.s0.val 2, S.s1.val 2, S.s2.val 2, S.s3.val 3, S.s4.val 2, S.s5.val 2, S.s6.val 2, S.s7.val 2])]) (spots l) (fun i q h' => Two4 h1 h' q (refL (dropT T) l i) l) (fun _ _ => (none : Option Unit)) (Sl.nil, Sl.nil) rfl rfl
    (Two4.start h1 l) (fun i hi q h2 tw hit => ?_) fun q h2 tw fin => ?_
  · obtain ⟨kp, o1, o2, n1, n2⟩ := tw
    have hil : i < (spotsL l).length := by rw [spotsL_len]; exact hi
    have g0 := fun lc => rd_mapc (lc := lc) (f1.reads.kp kp) hil (k := 0) (by decide)
    have g3 := fun lc => rd_mapc (lc := lc) (f1.reads.kp kp) hil (k := 3) (by decide)
    have gg := fun lc => rd_map (lc := lc) (f1.reads.kp kp) hil
    rw [spotsL_get hil] at g0 g3 gg
    have tt := (t.kp f1.kp).kp kp
    have e6 := of6_eq (r := ((spots l)[i].1 : Nat)) tt.r6 tt.fits.n6
    rw [show ofI ((spots l)[i].1 : Nat) T.drops = dropT T (spots l)[i].1 from rfl] at e6
    have hr := refL_succ (D := dropT T) hi
    have hbd : isBad2 (spots l)[i] = true → dropT T (spots l)[i].1 = false := fun e => by
      simp only [isBad2, Bool.and_eq_true, beq_iff_eq] at e
      rw [e.1]; exact hbad
    have hsp : spotAt l i = (posn l i, (spots l)[i]) := by unfold spotAt; rw [List.getD_eq_getElem?_getD, List.getElem?_eq_getElem hi]; rfl
    have hlen := refL_len (dropT T) l i
    generalize (spots l)[i] = x at *
    have hs4 : spot4 (spotAt l i) = [.int .i32 x.1, .int .i64 (posn l i), .int .i64 x.2, .bool (isBad2 x)] := by rw [hsp]; rfl
    unfold spot4 at g0 g3 gg
    simp only [List.drop_succ_cons, List.drop_zero, List.take_succ_cons, List.take_zero] at g0 g3 gg
    generalize isBad2 x = ib at hbd g0 g3 gg hs4
    rw [hr]
    have hcap1 : ((refL (dropT T) l i).map fun i => spot4 (spotAt l i)).length ≤ 1048576 := by rw [List.length_map]; omega
    have hcap2 : ((refL (dropT T) l i).map intV).length ≤ 1048576 := by rw [List.length_map]; omega
    have hfin : ∀ (s1 s2 : Sl) (h3 h4 : AH), Own h3 4 s1 ((refL (dropT T) l i).map (fun i => spot4 (spotAt l i)) ++ [spot4 (spotAt l i)]) → s1.blk = some h2.n → h3.n = h2.n + 1 → (∀ b, b < h2.n → q.1.blk ≠ some b → h3.get b = h2.get b) →
        Own h4 1 s2 ((refL (dropT T) l i).map intV ++ [intV i]) → s2.blk = some h3.n → h4.n = h3.n + 1 → (∀ b, b < h3.n → q.2.blk ≠ some b → h4.get b = h3.get b) → Two4 h1 h4 (s1, s2) (refL (dropT T) l i ++ [i]) l := by
      intro s1 s2 h3 h4 p1 b1 m1 k1 p2 b2 m2 k2
      have hkp1 := kp.1
      refine ⟨⟨by omega, fun b hb => ?_⟩, ?_, ?_, ?_, ?_⟩
      · rw [k2 b (by omega) (fun e => by have := (n2 b e).1; omega), k1 b (by omega) (fun e => by have := n1 b e; omega)]
        exact kp.2 b hb
      · rw [List.map_append]
        refine p1.keep fun b e => ?_
        rw [b1] at e
        injection e with e
        subst e
        exact k2 _ (by omega) (fun e => by have := (o2.lt e); omega)
      · rw [List.map_append]; exact p2
      · intro b e
        simp only at e
        rw [b1] at e
        injection e with e
        omega
      · intro b e
        simp only at e ⊢
        rw [b2] at e
        injection e with e
        refine ⟨by omega, fun e2 => ?_⟩
        rw [b1] at e2
        injection e2 with e2
        omega
    have hmore : ∀ (h3 : AH) (k1 : ∀ b, b < h2.n → q.1.blk ≠ some b → h3.get b = h2.get b) (m1 : h3.n = h2.n + 1), Own h3 1 q.2 ((refL (dropT T) l i).map intV) := fun h3 k1 m1 =>
      o2.keep fun b e => k1 b (o2.lt e) (n2 b e).2
    rw [hs4] at hfin
    obtain ⟨q1, q2⟩ := q
    simp only at *
    cases ib
    · cases hd : dropT T x.1
      · rw [hd] at e6
        (refine W_x (Aj sll (Aj g0 (Aj g3 (Aj gg e6)))) ?_; (repeat' first | apply Cj.mk | exact Nl.nl) <;> intros)
        refine wo_app1O o1 rfl rfl (by decide) (by decide) (by omega) fun s1 h3 p1 b1 m1 k1 => ?_
        (refine W_x trivial ?_; (repeat' first | apply Cj.mk | exact Nl.nl) <;> intros)
        refine wo_app1O (cs := intV i) (hmore h3 k1 m1) rfl rfl (by decide) (by decide) (by omega) fun s2 h4 p2 b2 m2 k2 => ?_
        (refine W_x trivial ?_; (repeat' first | apply Cj.mk | exact Nl.nl) <;> intros)
        refine ⟨trivial, (s1, s2), rfl, rfl, ?_⟩
        rw [if_neg (by simp)]
        exact hfin s1 s2 h3 h4 p1 b1 m1 k1 p2 b2 m2 k2
      · rw [hd] at e6
        (refine W_x (Aj sll (Aj g0 (Aj g3 (Aj gg e6)))) ?_; (repeat' first | apply Cj.mk | exact Nl.nl) <;> intros)
        refine ⟨trivial, (q1, q2), rfl, rfl, ?_⟩
        rw [if_pos rfl]
        exact ⟨kp, o1, o2, n1, n2⟩
    · have hd := hbd rfl
      rw [hd] at e6 ⊢
      (refine W_x (Aj sll (Aj g0 (Aj g3 (Aj gg e6)))) ?_; (repeat' first | apply Cj.mk | exact Nl.nl) <;> intros)
      refine wo_app1O o1 rfl rfl (by decide) (by decide) (by omega) fun s1 h3 p1 b1 m1 k1 => ?_
      (refine W_x trivial ?_; (repeat' first | apply Cj.mk | exact Nl.nl) <;> intros)
      refine wo_app1O (cs := intV i) (hmore h3 k1 m1) rfl rfl (by decide) (by decide) (by omega) fun s2 h4 p2 b2 m2 k2 => ?_
      (refine W_x trivial ?_; (repeat' first | apply Cj.mk | exact Nl.nl) <;> intros)
      refine ⟨trivial, (s1, s2), rfl, rfl, ?_⟩
      rw [if_neg (by simp)]
      exact hfin s1 s2 h3 h4 p1 b1 m1 k1 p2 b2 m2 k2
  · have hR := refL_all (dropT T) l
    rw [hR] at tw
    (refine W_x sll ?_; (repeat' first | apply Cj.mk | exact Nl.nl) <;> intros)
    exact ⟨q.1, q.2, rfl, ⟨f1.kp.trans tw.kp, tw.o1, tw.o2, fun b hb => Nat.le_trans f1.kp.1 (tw.n1 b hb), fun b hb => ⟨Nat.le_trans f1.kp.1 (tw.n2 b hb).1, (tw.n2 b hb).2⟩⟩⟩
end Go.Proofs.YtblmakgjdenpfaaGreatDoor.AM
namespace Go.Proofs.YtblmakgjdenpfaaGreatDoor.AM
open Go
theorem vsame_fn1 (f : FuncId) (b : Nat) : vsame (.func (.func f) #[] #[.pointer (some ⟨b, 0, none⟩)]) (.func (.func f) #[] #[.pointer (some ⟨b, 0, none⟩)]) = true := by
  simp [vsame, vsame1, vsame0, vsameL]
structure Bld1 (h0 h : AH) (X : Bytes) : Prop where
  kp : Kp h0 h
  bd : ∃ g, BldAt h h0.n g X ∧ (g = none ∨ ∃ x, g = some x ∧ h0.n < x)
theorem Bld1.start (h : AH) : Bld1 h (h.push (.tc 163 [.pointer none, .slice none 0 0])) [] :=
  ⟨(Kp.refl h).push _, none, ⟨⟨_, AH.get_push_same _ _, .inl rfl⟩, rfl, fun e => by cases e⟩, .inl rfl⟩
theorem Bld1.lt {h0 h : AH} {X : Bytes} (b : Bld1 h0 h X) : h0.n < h.n := by
  obtain ⟨g, bd, _⟩ := b.bd
  obtain ⟨p, hp, _⟩ := bd.p
  exact AH.get_lt hp
theorem Bld1.rune {h0 h : AH} {X : Bytes} (b : Bld1 h0 h X) {c : Nat} (hc : RuneN c) (hn : X.length ≤ 140737488355000) :
    ∃ v h', callO PX 41 [.pointer (some ⟨h0.n, 0, none⟩), .int .i32 c] h = some (v, h') ∧ Bld1 h0 h' (X ++ encN c) := by
  have hlt := b.lt
  obtain ⟨kp, g, bd, hg⟩ := b
  obtain ⟨v, h', e, g', bd', fr⟩ := writeRune_spec hc bd hn
  refine ⟨v, h', e, ⟨Nat.le_trans kp.1 fr.n, fun c hc => (fr.keep c (by omega) (by omega) ?_).trans (kp.2 c hc)⟩, g', bd', ?_⟩
  · rcases hg with rfl | ⟨x, rfl, hx⟩
    · intro e; cases e
    · intro e; injection e with e; omega
  · rcases fr.new with rfl | ⟨x, rfl, hx⟩
    · exact hg
    · exact .inr ⟨x, rfl, by omega⟩
theorem Bld1.str {h0 h : AH} {X : Bytes} (b : Bld1 h0 h X) (hn : X.length ≤ 140737488355000) :
    ∃ h', callO PX 42 [.pointer (some ⟨h0.n, 0, none⟩)] h = some (.string (bs X), h') ∧ Kp h0 h' := by
  obtain ⟨kp, g, bd, hg⟩ := b
  refine ⟨_, bldString_spec bd (by omega), by rw [killO_n]; exact kp.1, fun c hc => ?_⟩
  rw [killO_get ?_]
  · exact kp.2 c hc
  · rcases hg with rfl | ⟨x, rfl, hx⟩
    · intro e; cases e
    · intro e; injection e with e; omega
def stripT (T : Tab) (l : Bytes) : Bytes := stripB (dropT T) l
theorem kept_take {D : Nat → Bool} {l : Bytes} {j : Nat} (hj : j < (seenL D l).length) : RuneN ((seenL D l)[j]).2.2 ∧ encs ((keptR D l).take (j + 1)) = encs ((keptR D l).take j) ++ encN ((seenL D l)[j]).2.2 := by
  have h1 : (keptR D l)[j]? = some ((seenL D l)[j]).2.2 := by
    rw [← seenI_map, List.getElem?_map, List.getElem?_eq_getElem hj]
    rfl
  obtain ⟨h2, h3⟩ := List.getElem?_eq_some_iff.1 h1
  rw [← h3]
  exact ⟨kept_rune l _ (List.getElem_mem h2), by rw [take_snoc h2, encs_snoc]⟩
theorem encs_take_le {D : Nat → Bool} (l : Bytes) (j : Nat) : (encs ((keptR D l).take j)).length ≤ 4 * l.length := by
  have h1 := encs_lenle ((keptR D l).take j)
  have h2 := kept_le (D := D) l
  have h3 := spots_len l
  rw [List.length_take] at h1
  omega
theorem strip_spec {h : AH} {k B : Nat} {s6 : Sl} {T : Tab} (bk : BkAt h k B s6 T) (s : ByteArray) (hs : s.size ≤ 16777216) : WpC PX 10 [.pointer (some ⟨k, 0, none⟩), .string s] h fun v h' => v = .string (bs (stripT T s.data.toList)) ∧ Kp h h' := by
  have hll : s.data.toList.length = s.size := rfl
  have hle := fun j => encs_take_le (D := dropT T) s.data.toList j
  obtain ⟨_, h2, e1, hor⟩ := seen_spec (T := T) (k := k) (B := B) (s6 := s6) s hs (yv := .func (.func 40) #[] #[.pointer (some ⟨h.n, 0, none⟩)])
    (I := fun j h1 => Bld1 h h1 (encs ((keptR (dropT T) s.data.toList).take j))) (E := fun _ => False) ⟨_, _, _, rfl⟩ (vsame_fn1 _ _) (fun j hj h1 hI => by
      obtain ⟨hr, ht⟩ := kept_take hj
      generalize (seenL (dropT T) s.data.toList)[j] = x at hr ht
      obtain ⟨_, h2, e, b2⟩ := hI.rune hr (by have := hle j; omega)
      rw [← ht] at b2
      refine wpV_fn ?_
      refine wpc_fn (px_ext rfl) (px_fn fn_strip_Strip_1) rfl ?_
      unfold LF_strip_Strip_1 seenE placeV
      simp only [argFr, List.nil_append, List.cons_append]
      (refine W_x e ?_; (repeat' first | apply Cj.mk | exact Nl.nl) <;> intros)
      exact .inl ⟨rfl, b2⟩) (fun j h1 hI => bk.kp hI.kp) (Bld1.start h)
  have b2 := hor.resolve_right id
  rw [seenL_len, List.take_length] at b2
  obtain ⟨h3, e3, k3⟩ := b2.str (by have := hle (keptR (dropT T) s.data.toList).length; rw [List.take_length] at this; omega)
  refine wpc_fn (px_ext rfl) (px_fn fn_strip_Strip) rfl ?_
  unfold LF_strip_Strip
  simp only [argFr]
  (refine W_x (Aj e1 e3) ?_; (repeat' first | apply Cj.mk | exact Nl.nl) <;> intros)
  exact ⟨rfl, k3⟩
theorem stripNil_eq (s : ByteArray) (h : AH) : ∃ h', callO PX 10 [.pointer none, .string s] h = some (.string ⟨#[]⟩, h') ∧ Kp h h' := by
  have e1 : ∀ yv h, IsF yv → callO PX 39 [.pointer none, .string s, yv] h = some (.tuple #[], h) := fun yv h hy => by
    have hset := hy.set
    have hlc1 := hy.lc1
    apply WpC.eqn
    refine wpc_fn (px_ext rfl) (px_fn fn_strip_seen) rfl ?_
    unfold LF_strip_seen
    simp only [argFr]
    (refine W_x (Aj hset hlc1) ?_; (repeat' first | apply Cj.mk | exact Nl.nl) <;> intros)
    exact ⟨rfl, rfl⟩
  have e2 := e1 (.func (.func 40) #[] #[.pointer (some ⟨h.n, 0, none⟩)]) (h.push (.tc 163 [.pointer none, .slice none 0 0])) ⟨_, _, _, rfl⟩
  obtain ⟨h3, e3, k3⟩ := (Bld1.start h).str (by simp)
  have : WpC PX 10 [.pointer none, .string s] h fun v h' => v = .string ⟨#[]⟩ ∧ Kp h h' := by
    refine wpc_fn (px_ext rfl) (px_fn fn_strip_Strip) rfl ?_
    unfold LF_strip_Strip
    simp only [argFr]
    (refine W_x (Aj e2 e3) ?_; (repeat' first | apply Cj.mk | exact Nl.nl) <;> intros)
    exact ⟨rfl, k3⟩
  obtain ⟨_, h', e, rfl, k⟩ := this
  exact ⟨h', e, k⟩
theorem stripSame_spec {h : AH} {k B : Nat} {s6 : Sl} {T : Tab} (bk : BkAt h k B s6 T) (s t : ByteArray) (hs : s.size ≤ 16777216) (ht : t.size ≤ 16777216) : WpC PX 15 [.pointer (some ⟨k, 0, none⟩), .string s, .string t] h fun v h' => v = .bool (decide (stripT T s.data.toList = stripT T t.data.toList)) ∧ Kp h h' := by
  obtain ⟨_, h1, e1, rfl, k1⟩ := strip_spec bk s hs
  obtain ⟨_, h2, e2, rfl, k2⟩ := strip_spec (bk.kp k1) t ht
  have hb : decide (bs (stripT T s.data.toList) = bs (stripT T t.data.toList)) = decide (stripT T s.data.toList = stripT T t.data.toList) := decide_eq_decide.2 bs_inj
  have hq := str_eql (x := bs (stripT T s.data.toList)) (y := bs (stripT T t.data.toList))
  rw [hb] at hq
  generalize bs (stripT T s.data.toList) = x at *
  generalize bs (stripT T t.data.toList) = y at *
  refine wpc_fn (px_ext rfl) (px_fn fn_strip_Same) rfl ?_
  unfold LF_strip_Same
  simp only [argFr]
  (refine W_x (Aj e1 (Aj e2 hq)) ?_; (repeat' first | apply Cj.mk | exact Nl.nl) <;> intros)
  all_goals exact ⟨by congr 1; symm; simpa using ‹_›, k1.trans k2⟩
theorem stripCount_spec {h : AH} {k B : Nat} {s6 : Sl} {T : Tab} (bk : BkAt h k B s6 T) (s : ByteArray) (hs : s.size ≤ 16777216) : WpC PX 13 [.pointer (some ⟨k, 0, none⟩), .string s] h fun v h' => v = .int .i64 (((spots s.data.toList).length - (keptR (dropT T) s.data.toList).length : Nat) : Int) ∧ Kp h h' := by
  have hll : s.data.toList.length = s.size := rfl
  have hn := spots_len s.data.toList
  have hkl := kept_le (D := dropT T) s.data.toList
  have e0 := utfCount_eq s hs
  have hb0 : ((h.push (.cells false [.int .i64 0])).set h.n (.cells false [.int .i64 (spots s.data.toList).length])).get h.n = some (.cells false [.int .i64 (spots s.data.toList).length]) := AH.get_set_same _ (by rw [AH.push_n]; omega)
  have hk0 : Kp h ((h.push (.cells false [.int .i64 0])).set h.n (.cells false [.int .i64 (spots s.data.toList).length])) := ((Kp.refl h).push _).setNew _ (Nat.le_refl _)
  obtain ⟨_, h2, e1, hor⟩ := seen_spec (T := T) (k := k) (B := B) (s6 := s6) s hs (yv := .func (.func 45) #[] #[.pointer (some ⟨h.n, 0, none⟩)])
    (I := fun j h1 => Kp h h1 ∧ j ≤ (spots s.data.toList).length ∧ h1.get h.n = some (.cells false [.int .i64 ((spots s.data.toList).length - j : Int)])) (E := fun _ => False) ⟨_, _, _, rfl⟩ (vsame_fn1 _ _) (fun j hj h1 hI => by
      obtain ⟨k1, hj1, b1⟩ := hI
      have hj2 : j < (keptR (dropT T) s.data.toList).length := by rw [← seenL_len]; exact hj
      have hlt := AH.get_lt b1
      generalize (seenL (dropT T) s.data.toList)[j] = x
      refine wpV_fn ?_
      refine wpc_fn (px_ext rfl) (px_fn fn_strip_Count_1) rfl ?_
      unfold LF_strip_Count_1 seenE placeV
      simp only [argFr, List.nil_append, List.cons_append]
      have hN : (spots s.data.toList).length ≤ 16777216 := by omega
      generalize (spots s.data.toList).length = N at *
      (refine W_x b1 ?_; (repeat' first | apply Cj.mk | exact Nl.nl) <;> intros)
      refine .inl ⟨rfl, k1.setNew _ (Nat.le_refl _), by omega, ?_⟩
      rw [AH.get_set_same _ hlt, show (N : Int) - (j : Int) - 1 = (N : Int) - ((j + 1 : Nat) : Int) by omega]) (fun j h1 hI => bk.kp hI.1) ⟨hk0, Nat.zero_le _, by rw [hb0]; simp⟩
  obtain ⟨k2, hle, b2⟩ := hor.resolve_right id
  rw [seenL_len] at b2
  have hsub : ((spots s.data.toList).length : Int) - ((keptR (dropT T) s.data.toList).length : Int) = (((spots s.data.toList).length - (keptR (dropT T) s.data.toList).length : Nat) : Int) := by omega
  rw [hsub] at b2
  generalize (spots s.data.toList).length - (keptR (dropT T) s.data.toList).length = r at *
  refine wpc_fn (px_ext rfl) (px_fn fn_strip_Count) rfl ?_
  unfold LF_strip_Count
  simp only [argFr]
  (refine W_x (Aj e0 (Aj e1 b2)) ?_; (repeat' first | apply Cj.mk | exact Nl.nl) <;> intros)
  exact ⟨rfl, k2⟩
end Go.Proofs.YtblmakgjdenpfaaGreatDoor.AM
namespace Go.Proofs.YtblmakgjdenpfaaGreatDoor.AM
open Go
theorem vsame_fn3 (f : FuncId) (a b c : Nat) : vsame (.func (.func f) #[] #[.pointer (some ⟨a, 0, none⟩), .pointer (some ⟨b, 0, none⟩), .pointer (some ⟨c, 0, none⟩)]) (.func (.func f) #[] #[.pointer (some ⟨a, 0, none⟩), .pointer (some ⟨b, 0, none⟩), .pointer (some ⟨c, 0, none⟩)]) = true := by
  simp [vsame, vsame1, vsame0, vsameL]
structure PlI (h h1 : AH) (z : Int) (f : Bool) (a b : Int) : Prop where
  kp : Kp h h1
  b0 : h1.get h.n = some (.cells false [.int .i64 z])
  b1 : h1.get (h.n + 1) = some (.cells false [.int .i64 a, .int .i64 b])
  b2 : h1.get (h.n + 2) = some (.cells false [.bool f])
theorem stripPlace_spec {h : AH} {k B : Nat} {s6 : Sl} {T : Tab} (bk : BkAt h k B s6 T) (s : ByteArray) (hs : s.size ≤ 16777216) (n : Int) (hn1 : -9223372036854775808 ≤ n) (hn2 : n < 9223372036854775808) :
    WpC PX 20 [.pointer (some ⟨k, 0, none⟩), .string s, .int .i64 n] h fun v h' => v = plV (if n < 0 then none else placeD (dropT T) s.data.toList n.toNat) ∧ Kp h h' := by
  have hll : s.data.toList.length = s.size := rfl
  have hkb := spots_len s.data.toList
  have e0 := utfCount_eq s hs
  by_cases hneg : n < 0
  · rw [if_pos hneg]
    refine wpc_fn (px_ext rfl) (px_fn fn_strip_Place) rfl ?_
    unfold LF_strip_Place
    simp only [argFr]
    (refine W_x trivial ?_; (repeat' first | apply Cj.mk | exact Nl.nl) <;> intros)
    exact ⟨rfl, (Kp.refl h).push _⟩
  · rw [if_neg hneg]
    obtain ⟨m, hm⟩ : ∃ m : Nat, n = m := ⟨n.toNat, by omega⟩
    subst hm
    have ht : ((m : Nat) : Int).toNat = m := rfl
    rw [ht]
    generalize hH : ((((h.push (.cells false [.int .i64 m])).push (.cells false [.int .i64 0, .int .i64 0])).push (.cells false [.bool false])).set (h.n + 1 + 1) (.cells false [.bool false])) = H
    have hI0 : PlI h H m false 0 0 := by
      subst hH
      refine ⟨(((Kp.refl h).push _).push _ |>.push _).setNew _ (by omega), ?_, ?_, ?_⟩
      all_goals simp (disch := first | omega | (simp only [AH.nn_push, AH.nn_set, AH.nn_kill]; omega) | (simp only [AH.nn_push, AH.nn_set, AH.nn_kill]; done) | fail) only [AH.get_push_eq, AH.get_push_ne, AH.get_set_eq, AH.get_set_ne]
    obtain ⟨_, h2, e1, hor⟩ := seen_spec (T := T) (k := k) (B := B) (s6 := s6) (h := H) s hs (yv := .func (.func 48) #[] #[.pointer (some ⟨h.n, 0, none⟩), .pointer (some ⟨h.n + 1, 0, none⟩), .pointer (some ⟨h.n + 1 + 1, 0, none⟩)])
      (I := fun j h1 => j ≤ m ∧ ∃ a b : Int, PlI h h1 ((m : Int) - j) false a b) (E := fun h1 => ∃ x, some x = (seenL (dropT T) s.data.toList)[m]? ∧ PlI h h1 (-1) true x.1 x.2.1) ⟨_, _, _, rfl⟩ (vsame_fn3 _ _ _ _) (fun j hj h1 hI => by
        obtain ⟨hjm, a, b, i1⟩ := hI
        obtain ⟨kp, b0, b1, b2⟩ := i1
        have hlt := AH.get_lt b2
        have hE : j = m → (seenL (dropT T) s.data.toList)[j]? = (seenL (dropT T) s.data.toList)[m]? := fun e => by rw [e]
        rw [List.getElem?_eq_getElem hj] at hE
        generalize (seenL (dropT T) s.data.toList)[j] = x at hE
        refine wpV_fn ?_
        refine wpc_fn (px_ext rfl) (px_fn fn_strip_Place_1) rfl ?_
        unfold LF_strip_Place_1 seenE placeV
        simp only [argFr, List.nil_append, List.cons_append]
        by_cases hz : j = m
        · have hz0 : (m : Int) - (j : Int) = 0 := by omega
          have hE2 := hE hz
          rw [hz0] at b0
          (refine W_y (Aj b0 (Aj b1 b2)) ?_; (repeat' first | apply Cj.mk | exact Nl.nl) <;> intros)
          refine .inr ⟨rfl, x, hE2, ⟨?_, ?_, ?_, ?_⟩⟩
          · exact ((kp.setNew _ (by omega)).setNew _ (by omega)).setNew _ (by omega)
          all_goals simp (disch := first | omega | (simp only [AH.nn_push, AH.nn_set, AH.nn_kill]; omega) | (simp only [AH.nn_push, AH.nn_set, AH.nn_kill]; done) | fail) only [AH.get_push_eq, AH.get_push_ne, AH.get_set_eq, AH.get_set_ne]
        · have hz0 : ¬ (m : Int) - (j : Int) = 0 := by omega
          have hz1 : 0 < (m : Int) - (j : Int) := by omega
          have hz2 : (m : Int) - (j : Int) < 9223372036854775808 := by omega
          have hz3 : (m : Int) - ((j + 1 : Nat) : Int) = (m : Int) - (j : Int) - 1 := by omega
          rw [hz3]
          generalize (m : Int) - (j : Int) = z at *
          (refine W_y (Aj b0 (Aj b1 b2)) ?_; (repeat' first | apply Cj.mk | exact Nl.nl) <;> intros)
          refine .inl ⟨rfl, by omega, x.1, x.2.1, ⟨?_, ?_, ?_, ?_⟩⟩
          · exact ((kp.setNew _ (by omega)).setNew _ (by omega)).setNew _ (by omega)
          all_goals simp (disch := first | omega | (simp only [AH.nn_push, AH.nn_set, AH.nn_kill]; omega) | (simp only [AH.nn_push, AH.nn_set, AH.nn_kill]; done) | fail) only [AH.get_push_eq, AH.get_push_ne, AH.get_set_eq, AH.get_set_ne]) (fun j h1 hI => by obtain ⟨_, a, b, i1⟩ := hI; exact bk.kp i1.kp) ⟨Nat.zero_le _, 0, 0, by simpa using hI0⟩
    unfold placeD
    rcases hor with ⟨hle, a, b, i1⟩ | ⟨x, hx, i1⟩
    · obtain ⟨kp, b0, b1, b2⟩ := i1
      rw [dif_neg (by omega)]
      by_cases hq : m = (seenL (dropT T) s.data.toList).length
      · rw [if_pos hq]
        have hz0 : (m : Int) - ((seenL (dropT T) s.data.toList).length : Int) = 0 := by omega
        rw [hz0] at b0
        subst hH
        refine wpc_fn (px_ext rfl) (px_fn fn_strip_Place) rfl ?_
        unfold LF_strip_Place
        simp only [argFr]
        (refine W_x (Aj e0 (Aj e1 (Aj b0 (Aj b1 b2)))) ?_; (repeat' first | apply Cj.mk | exact Nl.nl) <;> intros)
        exact ⟨rfl, kp⟩
      · rw [if_neg hq]
        have hz1 : 0 < (m : Int) - ((seenL (dropT T) s.data.toList).length : Int) := by omega
        generalize (m : Int) - ((seenL (dropT T) s.data.toList).length : Int) = z at *
        subst hH
        refine wpc_fn (px_ext rfl) (px_fn fn_strip_Place) rfl ?_
        unfold LF_strip_Place
        simp only [argFr]
        (refine W_x (Aj e0 (Aj e1 (Aj b0 (Aj b1 b2)))) ?_; (repeat' first | apply Cj.mk | exact Nl.nl) <;> intros)
        exact ⟨rfl, kp⟩
    · obtain ⟨kp, b0, b1, b2⟩ := i1
      obtain ⟨hj, hx⟩ := List.getElem?_eq_some_iff.1 hx.symm
      rw [dif_pos hj, hx]
      subst hH
      refine wpc_fn (px_ext rfl) (px_fn fn_strip_Place) rfl ?_
      unfold LF_strip_Place
      simp only [argFr]
      (refine W_x (Aj e0 (Aj e1 (Aj b0 (Aj b1 b2)))) ?_; (repeat' first | apply Cj.mk | exact Nl.nl) <;> intros)
      exact ⟨rfl, kp⟩
end Go.Proofs.YtblmakgjdenpfaaGreatDoor.AM
namespace Go.Proofs.YtblmakgjdenpfaaGreatDoor.AM
open Go
theorem kept_at (D : Nat → Bool) (l : Bytes) : (seenI D l).map (fun i => (spotAt l i).2.1) = keptR D l := by
  rw [← seenI_map]
  unfold seenL
  rw [List.map_map]
  refine List.map_congr_left fun i hi => ?_
  unfold spotAt runesB
  simp only [Function.comp, List.getD_eq_getElem?_getD, List.getElem?_map]
  cases (spots l)[i]? <;> rfl
theorem seenI_len (D : Nat → Bool) (l : Bytes) : (seenI D l).length = (keptR D l).length := by rw [← kept_at, List.length_map]
theorem seenI_lt {D : Nat → Bool} {l : Bytes} {j : Nat} (hj : j < (seenI D l).length) : (seenI D l)[j] < (spots l).length := by
  have := (List.mem_filter.1 (List.getElem_mem hj)).1
  rw [List.mem_range, runesB_len] at this
  exact this
theorem bytes_reads {h : AH} {c : Nat} : Reads (h.push (.cells false (bytesV (encN c)))) 1 (.at h.n 0 (encN c).length) ((encN c).map byteV) := by
  refine ⟨by simp [Sl.len], by simp [byteV], .inr ⟨false, [], [], ?_, rfl⟩⟩
  rw [AH.get_push_same]
  have : ((encN c).map byteV).flatten = bytesV (encN c) := by
    induction encN c with
    | nil => rfl
    | cons b l ih => simp [byteV, bytesV] at ih ⊢; exact ih
  rw [this]
  simp
theorem ref11Strip_spec {S : TS} {T : Tab} {h : AH} (t : TabAt h S T) (hb : goodB T = true) (s : ByteArray) (hs : s.size ≤ 1048576) :
    WpC PX 17 [.agg S.vs.toArray, .string s] h fun v h' => v = .string (bs (stripT T s.data.toList)) ∧ Kp h h' := by
  obtain ⟨_, h1, e1, s1, s2, rfl, tw⟩ := ref11Seen_spec t hb s hs
  obtain ⟨l, hl⟩ : ∃ l, l = s.data.toList := ⟨_, rfl⟩
  have hz : l.length = s.size := by rw [hl]; rfl
  have hn := spots_len l
  rw [← hl] at tw ⊢
  have hkl := kept_le (D := dropT T) l
  have hlen := seenI_len (dropT T) l
  have hka := kept_at (dropT T) l
  have hkr : ∀ c ∈ keptR (dropT T) l, RuneN c := kept_rune l
  have rd : Reads h1 4 s1 ((seenI (dropT T) l).map fun i => spot4 (spotAt l i)) := tw.o1.reads
  have sll : s1.len = _ := tw.o1.1
  rw [List.length_map] at sll
  unfold stripT stripB
  generalize keptR (dropT T) l = K at *
  generalize seenI (dropT T) l = L at *
  unfold TS.vs at *
  refine wpc_fn (px_ext rfl) (px_fn fn_guiseref11_Strip) rfl ?_
  unfold LF_guiseref11_Strip
  simp only [argFr]
  (refine W_x e1 ?_; (repeat' first | apply Cj.mk | exact Nl.nl) <;> intros)
  refine wp_forS (fun i sl => [(5, sl.val 1), (6, s1.val 4), (8, .int .i64 i)]) (fun _ _ => []) L (fun i sl h' => FOwn h1 h' 1 sl ((encs (K.take i)).map byteV)) (fun _ _ => (none : Option Unit)) Sl.nil rfl rfl (FOwn.nil (Kp.refl h1)) (fun i hi sl h2 fo hit => ?_) fun sl h2 fo fin => ?_
  · have g0 := fun h3 (k : Kp h1 h3) lc => rd_mapc (lc := lc) (rd.kp k) hi (k := 0) (by decide)
    have hiK : i < K.length := by omega
    have hKi : K[i] = (spotAt l L[i]).2.1 := by
      have : (L.map fun i => (spotAt l i).2.1)[i]? = K[i]? := by rw [hka]
      rw [List.getElem?_map, List.getElem?_eq_getElem hi, List.getElem?_eq_getElem hiK] at this
      exact (Option.some.inj this).symm
    have hc := hkr _ (List.getElem_mem hiK)
    have ht := take_snoc hiK
    have hen := encs_lenle (K.take i)
    rw [List.length_take] at hen
    generalize L[i] = j at g0 hKi
    unfold spot4 at g0
    rw [← hKi] at g0
    have g1 := g0 h2 fo.kp
    generalize K[i] = c at *
    have e2 := ref1Bytes_eq hc h2
    have hw := encN_len c
    have f2 : FOwn h1 (h2.push (.cells false (bytesV (encN c)))) 1 sl ((encs (K.take i)).map byteV) := ⟨fo.own.keep fun b e => AH.get_push_ne _ (by have := fo.own.lt e; omega), fo.kp.push _, fo.new⟩
    (refine W_x (Aj sll (Aj g1 e2)) ?_; (repeat' first | apply Cj.mk | exact Nl.nl) <;> intros)
    refine wo_appL (e := 1) (by' := 1) (t := .at h2.n 0 (encN c).length) f2 bytes_reads (by decide) (by decide) (by rw [List.length_map, List.length_map]; omega) fun sl' h3 f3 => ?_
    (refine W_x trivial ?_; (repeat' first | apply Cj.mk | exact Nl.nl) <;> intros)
    refine ⟨rfl, sl', rfl, rfl, ?_⟩
    rw [ht, encs_snoc, List.map_append]
    exact f3
  · have hb := fun lc => b2s_own (lc := lc) fo.own
    (refine W_x (Aj sll hb) ?_; (repeat' first | apply Cj.mk | exact Nl.nl) <;> intros)
    rw [hlen, List.take_length]
    exact ⟨rfl, tw.kp.trans fo.kp⟩
theorem ref11First_spec {S : TS} {T : Tab} {h : AH} (t : TabAt h S T) (s : ByteArray) (hs : s.size ≤ 1048576) :
    WpC PX 19 [.agg S.vs.toArray, .string s] h fun v h' => v = plV (firstD (dropT T) s.data.toList) ∧ Kp h h' := by
  obtain ⟨_, h1, e1, sl, rfl, f1⟩ := ref1Spots_spec s hs h
  obtain ⟨l, hl⟩ : ∃ l, l = s.data.toList := ⟨_, rfl⟩
  have hz : l.length = s.size := by rw [hl]; rfl
  have hn := spots_len l
  rw [← hl] at f1 ⊢
  have sll := f1.own.1
  rw [List.length_map, spotsL_len] at sll
  refine wpc_fn (px_ext rfl) (px_fn fn_guiseref11_First) rfl ?_
  unfold LF_guiseref11_First
  simp only [argFr]
  unfold TS.vs firstD
  (refine W_x e1 ?_; (repeat' first | apply Cj.mk | exact Nl.nl) <;> intros)
  refine wp_forS (fun i (_ : Unit) => [(2, .pointer (some ⟨4, 0, some 1⟩)), (4, .pointer (some ⟨8, 0, some 1⟩)), (6, sl.val 4), (7, .int .i64 i)]) (fun _ _ => [(4, .cells false [S.s0.val 2, S.s1.val 2, S.s2.val 2, S.s3.val 3, S.s4.val 2, S.s5.val 2, S.s6.val 2, S.s7.val 2]), (8, .cells false [.int .i64 0, .int .i64 0])]) (spots l)
    (fun i _ h' => h' = h1) (fun i x => if isBad2 x = true ∨ dropT T x.1 = true then some (posn l i, i) else none) () rfl rfl rfl (fun i hi _ h2 hh hit => ?_) fun _ h2 hh fin => ?_
  · subst hh
    have hil : i < (spotsL l).length := by rw [spotsL_len]; exact hi
    have g0 := fun lc => rd_mapc (lc := lc) f1.reads hil (k := 0) (by decide)
    have g1 := fun lc => rd_mapc (lc := lc) f1.reads hil (k := 1) (by decide)
    have g3 := fun lc => rd_mapc (lc := lc) f1.reads hil (k := 3) (by decide)
    rw [spotsL_get hil] at g0 g1 g3
    have tt := t.kp f1.kp
    have e6 := of6_eq (r := ((spots l)[i].1 : Nat)) tt.r6 tt.fits.n6
    rw [show ofI ((spots l)[i].1 : Nat) T.drops = dropT T (spots l)[i].1 from rfl] at e6
    generalize (spots l)[i] = x at *
    unfold spot4 at g0 g1 g3
    simp only [List.drop_succ_cons, List.drop_zero, List.take_succ_cons, List.take_zero] at g0 g1 g3
    generalize isBad2 x = ib at *
    generalize dropT T x.1 = dr at *
    cases ib
    · cases dr
      · (refine W_x (Aj sll (Aj g0 (Aj g1 (Aj g3 e6)))) ?_; (repeat' first | apply Cj.mk | exact Nl.nl) <;> intros)
        exact ⟨by simp, (), rfl, rfl, rfl⟩
      · have hh := hit _ (if_pos (.inr rfl))
        rw [hh]
        (refine W_x (Aj sll (Aj g0 (Aj g1 (Aj g3 e6)))) ?_; (repeat' first | apply Cj.mk | exact Nl.nl) <;> intros)
        exact ⟨rfl, f1.kp⟩
    · have hh := hit _ (if_pos (.inl rfl))
      rw [hh]
      (refine W_x (Aj sll (Aj g0 (Aj g1 (Aj g3 e6)))) ?_; (repeat' first | apply Cj.mk | exact Nl.nl) <;> intros)
      exact ⟨rfl, f1.kp⟩
  · subst hh
    rw [fin]
    (refine W_x sll ?_; (repeat' first | apply Cj.mk | exact Nl.nl) <;> intros)
    exact ⟨rfl, f1.kp⟩
theorem ref11Place_spec {S : TS} {T : Tab} {h : AH} (t : TabAt h S T) (hb : goodB T = true) (s : ByteArray) (hs : s.size ≤ 1048576) (n : Int) (hn1 : -9223372036854775808 ≤ n) (hn2 : n < 9223372036854775808) :
    WpC PX 21 [.agg S.vs.toArray, .string s, .int .i64 n] h fun v h' => v = plV (if n < 0 then none else placeD (dropT T) s.data.toList n.toNat) ∧ Kp h h' := by
  obtain ⟨_, h1, e1, s1, s2, rfl, tw⟩ := ref11Seen_spec t hb s hs
  obtain ⟨_, h2, e2, sl, rfl, f2⟩ := ref1Spots_spec s hs h1
  obtain ⟨l, hl⟩ : ∃ l, l = s.data.toList := ⟨_, rfl⟩
  have hz : l.length = s.size := by rw [hl]; rfl
  have hn := spots_len l
  rw [← hl] at tw f2 ⊢
  have sl0 := f2.own.1
  rw [List.length_map, spotsL_len] at sl0
  have rd1 : Reads h1 4 s1 ((seenI (dropT T) l).map fun i => spot4 (spotAt l i)) := tw.o1.reads
  have rd2 : Reads h1 1 s2 ((seenI (dropT T) l).map intV) := tw.o2.reads
  have sl1 : s1.len = _ := tw.o1.1
  have sl2 : s2.len = _ := tw.o2.1
  rw [List.length_map] at sl1 sl2
  have hLl : (seenL (dropT T) l).length = (seenI (dropT T) l).length := by unfold seenL; rw [List.length_map]
  unfold placeD
  unfold TS.vs at *
  by_cases hneg : n < 0
  · rw [if_pos hneg]
    refine wpc_fn (px_ext rfl) (px_fn fn_guiseref11_Place) rfl ?_
    unfold LF_guiseref11_Place
    simp only [argFr]
    (refine W_x (Aj e1 sl1) ?_; (repeat' first | apply Cj.mk | exact Nl.nl) <;> intros)
    exact ⟨rfl, tw.kp⟩
  · rw [if_neg hneg]
    obtain ⟨m, hm⟩ : ∃ m : Nat, n = m := ⟨n.toNat, by omega⟩
    subst hm
    rw [show ((m : Nat) : Int).toNat = m from rfl]
    have hkl := kept_le (D := dropT T) l
    rw [← seenI_len] at hkl
    by_cases c1 : m < (seenI (dropT T) l).length
    · rw [dif_pos (by omega)]
      have g1 := fun lc => rd_mapc (lc := lc) rd1 c1 (k := 1) (by decide)
      have g2 := fun lc => rd_map (lc := lc) rd2 c1
      have hx : (seenL (dropT T) l)[m]'(by omega) = (posn l (seenI (dropT T) l)[m], (seenI (dropT T) l)[m], (runesB l).getD (seenI (dropT T) l)[m] 0) := by
        unfold seenL; rw [List.getElem_map]
      rw [hx]
      have hlt := seenI_lt c1
      generalize (seenI (dropT T) l)[m] = j at *
      unfold spot4 spotAt at g1
      unfold intV at g2
      simp only [List.drop_succ_cons, List.drop_zero, List.take_succ_cons, List.take_zero] at g1
      refine wpc_fn (px_ext rfl) (px_fn fn_guiseref11_Place) rfl ?_
      unfold LF_guiseref11_Place
      simp only [argFr]
      (refine W_x (Aj e1 (Aj sl1 (Aj sl2 (Aj g1 g2)))) ?_; (repeat' first | apply Cj.mk | exact Nl.nl) <;> intros)
      exact ⟨rfl, tw.kp⟩
    · rw [dif_neg (by omega)]
      by_cases c2 : m = (seenI (dropT T) l).length
      · rw [if_pos (by omega)]
        subst c2
        refine wpc_fn (px_ext rfl) (px_fn fn_guiseref11_Place) rfl ?_
        unfold LF_guiseref11_Place
        simp only [argFr]
        (refine W_x (Aj e1 (Aj sl1 (Aj e2 sl0))) ?_; (repeat' first | apply Cj.mk | exact Nl.nl) <;> intros)
        rw [← hz]
        exact ⟨rfl, tw.kp.trans f2.kp⟩
      · rw [if_neg (by omega)]
        refine wpc_fn (px_ext rfl) (px_fn fn_guiseref11_Place) rfl ?_
        unfold LF_guiseref11_Place
        simp only [argFr]
        (refine W_x (Aj e1 sl1) ?_; (repeat' first | apply Cj.mk | exact Nl.nl) <;> intros)
        exact ⟨rfl, tw.kp⟩
end Go.Proofs.YtblmakgjdenpfaaGreatDoor.AM
namespace Go.Proofs.YtblmakgjdenpfaaGreatDoor.AM
open Go
theorem stripFirst_spec {h : AH} {k B : Nat} {s6 : Sl} {T : Tab} (bk : BkAt h k B s6 T) (s : ByteArray) (hs : s.size ≤ 1048576) : WpC PX 12 [.pointer (some ⟨k, 0, none⟩), .string s] h fun v h' => v = plV (firstD (dropT T) s.data.toList) ∧ Kp h h' := by
  have hz : s.data.toList.length = s.size := rfl
  have hn := spots_len s.data.toList
  have e1 := fun h => spotsMk_eq s h
  refine wpc_fn (px_ext rfl) (px_fn fn_strip_First) rfl ?_
  unfold LF_strip_First
  simp only [argFr]
  (refine W_x e1 ?_; (repeat' first | apply Cj.mk | exact Nl.nl) <;> intros)
  generalize hH0 : ((((((h.push (.cells false [.pointer (some ⟨k, 0, none⟩)])).push (.cells false [.int .i64 0, .int .i64 0])).push (.cells false [.bool false])).push (.cells false [.int .i64 0])).set (h.n + 1 + 1 + 1) (.cells false [.int .i64 0])).push (.cells false [.string s])) = H0
  simp only [Nat.add_assoc, Nat.reduceAdd] at hH0 ⊢
  have n0 : H0.n = h.n + 5 := by rw [← hH0]; simp only [AH.push_n, AH.set_n]
  have a0 : H0.get h.n = some (.cells false [.pointer (some ⟨k, 0, none⟩)]) := by rw [← hH0]; simp (disch := first | omega | (simp only [AH.nn_push, AH.nn_set, AH.nn_kill]; omega) | (simp only [AH.nn_push, AH.nn_set, AH.nn_kill]; done) | fail) only [AH.get_push_eq, AH.get_push_ne, AH.get_set_eq, AH.get_set_ne]
  have a1 : H0.get (h.n + 1) = some (.cells false [.int .i64 0, .int .i64 0]) := by rw [← hH0]; simp (disch := first | omega | (simp only [AH.nn_push, AH.nn_set, AH.nn_kill]; omega) | (simp only [AH.nn_push, AH.nn_set, AH.nn_kill]; done) | fail) only [AH.get_push_eq, AH.get_push_ne, AH.get_set_eq, AH.get_set_ne]
  have a2 : H0.get (h.n + 2) = some (.cells false [.bool false]) := by rw [← hH0]; simp (disch := first | omega | (simp only [AH.nn_push, AH.nn_set, AH.nn_kill]; omega) | (simp only [AH.nn_push, AH.nn_set, AH.nn_kill]; done) | fail) only [AH.get_push_eq, AH.get_push_ne, AH.get_set_eq, AH.get_set_ne]
  have a3 : H0.get (h.n + 3) = some (.cells false [.int .i64 0]) := by rw [← hH0]; simp (disch := first | omega | (simp only [AH.nn_push, AH.nn_set, AH.nn_kill]; omega) | (simp only [AH.nn_push, AH.nn_set, AH.nn_kill]; done) | fail) only [AH.get_push_eq, AH.get_push_ne, AH.get_set_eq, AH.get_set_ne]
  have a5 : H0.get (h.n + 4) = some (.cells false [.string s]) := by rw [← hH0]; simp (disch := first | omega | (simp only [AH.nn_push, AH.nn_set, AH.nn_kill]; omega) | (simp only [AH.nn_push, AH.nn_set, AH.nn_kill]; done) | fail) only [AH.get_push_eq, AH.get_push_ne, AH.get_set_eq, AH.get_set_ne]
  have ak : ∀ b, b < h.n → H0.get b = h.get b := fun b hb => by rw [← hH0]; simp (disch := first | omega | (simp only [AH.nn_push, AH.nn_set, AH.nn_kill]; omega) | (simp only [AH.nn_push, AH.nn_set, AH.nn_kill]; done) | fail) only [AH.get_push_eq, AH.get_push_ne, AH.get_set_eq, AH.get_set_ne]
  clear hH0
  refine wp_rangeP (xs := spotsL s.data.toList) (enc := spotE) (D := fun h1 => h1.get (h.n + 4) = some (.cells false [.string s])) rfl (spots_seq s (h.n + 4) (by omega)) (fun _ => rfl)
    (fun i h1 => (∀ b, b < h.n → h1.get b = h.get b) ∧ h.n + 5 ≤ h1.n ∧ h1.get h.n = some (.cells false [.pointer (some ⟨k, 0, none⟩)]) ∧ h1.get (h.n + 1) = some (.cells false [.int .i64 0, .int .i64 0]) ∧ h1.get (h.n + 2) = some (.cells false [.bool false]) ∧
      h1.get (h.n + 3) = some (.cells false [.int .i64 i]) ∧ h1.get (h.n + 4) = some (.cells false [.string s]) ∧ ∀ j (hj : j < (spots s.data.toList).length), j < i → ¬ (isBad2 (spots s.data.toList)[j] = true ∨ dropT T (spots s.data.toList)[j].1 = true))
    (fun ex h1 => ex = .ret ∧ (∀ b, b < h.n → h1.get b = h.get b) ∧ h.n + 5 ≤ h1.n ∧ ∃ a b : Nat, firstD (dropT T) s.data.toList = some (a, b) ∧ h1.get (h.n + 1) = some (.cells false [.int .i64 a, .int .i64 b]) ∧ h1.get (h.n + 2) = some (.cells false [.bool true]))
    (fun y => [(2, .pointer (some ⟨h.n, 0, none⟩)), (4, .pointer (some ⟨h.n + 1, 0, none⟩)), (5, .pointer (some ⟨h.n + 2, 0, none⟩)), (6, .pointer (some ⟨h.n + 3, 0, none⟩)), (7, .int .i64 y.1), (8, .pointer (some ⟨16, 0, some 1⟩))])
    (fun y => [(16, .cells false [.int .i32 y.2.1, .int .i64 y.2.2, .bool (isBad2 y.2)])]) ?_ ?_ ?_ ?_ ?_ ?_ ?_ ?_
  · rw [n0]
    rintro i h1 h2 ⟨f0, fn, f1, f2, f3, f4, f6, f7⟩ k
    exact ⟨fun b hb => by rw [k.get b (by omega)]; exact f0 b hb, by rw [k.n]; exact fn, by rw [k.get _ (by omega)]; exact f1, by rw [k.get _ (by omega)]; exact f2, by rw [k.get _ (by omega)]; exact f3, by rw [k.get _ (by omega)]; exact f4, by rw [k.get _ (by omega)]; exact f6, f7⟩
  · rw [n0]
    rintro ex h1 h2 ⟨rfl, f0, fn, a, b, q, f1, f2⟩ k
    exact ⟨rfl, fun b hb => by rw [k.get b (by omega)]; exact f0 b hb, by rw [k.n]; exact fn, a, b, q, by rw [k.get _ (by omega)]; exact f1, by rw [k.get _ (by omega)]; exact f2⟩
  · exact fun i h1 f => f.2.2.2.2.2.2.1
  · intro y h1
    unfold spotE spotV
    simp only [List.zip_cons_cons, List.zip_nil_right, List.reverse_cons, List.reverse_nil, List.nil_append, List.cons_append, okFr_cons, okFr_nil, okV_eq, isLoc_ptr, isLoc_func, Bool.not_false, if_true]
    (refine W_x trivial ?_; (repeat' first | apply Cj.mk | exact Nl.nl) <;> intros)
    exact ⟨rfl, rfl, rfl, rfl⟩
  · intro o
    have k : ∀ b, b < h.n + 5 → (H0.push o).get b = H0.get b := fun b hb => AH.get_push_ne _ (by omega)
    exact ⟨fun b hb => (k b (by omega)).trans (ak b hb), by rw [AH.push_n, n0]; omega, (k _ (by omega)).trans a0, (k _ (by omega)).trans a1, (k _ (by omega)).trans a2, (k _ (by omega)).trans a3, (k _ (by omega)).trans a5, fun j hj hlt => absurd hlt (by omega)⟩
  · rw [n0]
    rintro i hi h1 o ⟨f0, fn, f1, f2, f3, f4, f6, f7⟩ ho
    have l4 := AH.get_lt ho
    have hil : i < (spots s.data.toList).length := by rw [← spotsL_len]; exact hi
    rw [spotsL_get hi]
    have bk1 : BkAt h1 k B s6 T := bk.kp ⟨by omega, f0⟩
    have hps := posn_lt hil
    have hhit : ∀ (_ : isBad2 (spots s.data.toList)[i] = true ∨ dropT T (spots s.data.toList)[i].1 = true), firstD (dropT T) s.data.toList = some (posn s.data.toList i, i) := fun hb => scanL_hit hil (fun j hj hlt => if_neg (f7 j hj hlt)) (if_pos hb)
    have hnx : ¬ (isBad2 (spots s.data.toList)[i] = true ∨ dropT T (spots s.data.toList)[i].1 = true) → ∀ j (hj : j < (spots s.data.toList).length), j < i + 1 → ¬ (isBad2 (spots s.data.toList)[j] = true ∨ dropT T (spots s.data.toList)[j].1 = true) := fun hb j hj hlt => by
      rcases Nat.lt_or_ge j i with q | q
      · exact f7 j hj q
      · obtain rfl : j = i := by omega
        exact hb
    generalize hx : (spots s.data.toList)[i] = x at *
    have e2 := dropped_eq bk1 (x.1 : Nat)
    rw [show ofI (x.1 : Nat) T.drops = dropT T x.1 from rfl] at e2
    generalize isBad2 x = ib at hhit hnx
    generalize dropT T x.1 = dr at e2 hhit hnx
    dsimp only
    have hret : (ib = true ∨ dr = true) → ∀ (h2 : AH), h2 = (h1.set (h.n + 1) (.cells false [.int .i64 (posn s.data.toList i), .int .i64 i])).set (h.n + 2) (.cells false [.bool true]) → h2.get (h.n + 5) = some o ∧ (∀ b, b < h.n → h2.get b = h.get b) ∧ h.n + 5 ≤ h2.n ∧ ∃ a b : Nat, firstD (dropT T) s.data.toList = some (a, b) ∧ h2.get (h.n + 1) = some (.cells false [.int .i64 a, .int .i64 b]) ∧ h2.get (h.n + 2) = some (.cells false [.bool true]) := by
      rintro hb h2 rfl
      refine ⟨by rw [AH.get_set_ne _ (by omega), AH.get_set_ne _ (by omega)]; exact ho, fun b hb => by rw [AH.get_set_ne _ (by omega), AH.get_set_ne _ (by omega)]; exact f0 b hb, by rw [AH.set_n, AH.set_n]; exact fn, _, _, hhit hb, ?_, ?_⟩
      · rw [AH.get_set_ne _ (by omega), AH.get_set_same _ (by omega)]
      · exact AH.get_set_same _ (by rw [AH.set_n]; omega)
    cases ib with
    | true =>
      have hr := hret (.inl rfl) _ rfl
      (refine W_x (Aj f1 (Aj f2 (Aj f3 (Aj f4 e2)))) ?_; (repeat' first | apply Cj.mk | exact Nl.nl) <;> intros)
      exact ⟨hr.1, rfl, hr.2⟩
    | false =>
      cases dr with
      | true =>
        have hr := hret (.inr rfl) _ rfl
        (refine W_x (Aj f1 (Aj f2 (Aj f3 (Aj f4 e2)))) ?_; (repeat' first | apply Cj.mk | exact Nl.nl) <;> intros)
        exact ⟨hr.1, rfl, hr.2⟩
      | false =>
        have hle : i < 1048576 := by omega
        (refine W_x (Aj f1 (Aj f2 (Aj f3 (Aj f4 e2)))) ?_; (repeat' first | apply Cj.mk | exact Nl.nl) <;> intros)
        refine ⟨by rw [AH.get_set_ne _ (by omega)]; exact ho, fun b hb => by rw [AH.get_set_ne _ (by omega)]; exact f0 b hb, by rw [AH.set_n]; exact fn, ?_, ?_, ?_, ?_, ?_, hnx (by rintro (q | q) <;> cases q)⟩
        · rw [AH.get_set_ne _ (by omega)]; exact f1
        · rw [AH.get_set_ne _ (by omega)]; exact f2
        · rw [AH.get_set_ne _ (by omega)]; exact f3
        · exact AH.get_set_same _ (by omega)
        · rw [AH.get_set_ne _ (by omega)]; exact f6
  · rintro h1 ⟨f0, fn, f1, f2, f3, f4, f6, f7⟩
    rw [spotsL_len] at f7
    have hno : firstD (dropT T) s.data.toList = none := scanL_end fun j hj => if_neg (f7 j hj hj)
    rw [hno]
    (refine W_x (Aj f1 (Aj f2 f3)) ?_; (repeat' first | apply Cj.mk | exact Nl.nl) <;> intros)
    refine ⟨rfl, by rw [AH.set_n, AH.set_n]; omega, fun b hb => ?_⟩
    rw [AH.get_set_ne _ (by omega), AH.get_set_ne _ (by omega)]
    exact f0 b hb
  · rintro ex h1 hne ⟨rfl, f0, fn, a, b, q, f1, f2⟩
    rw [q]
    (refine W_x (Aj f1 f2) ?_; (repeat' first | apply Cj.mk | exact Nl.nl) <;> intros)
    exact ⟨rfl, by omega, f0⟩
end Go.Proofs.YtblmakgjdenpfaaGreatDoor.AM
namespace Go.Proofs.YtblmakgjdenpfaaGreatDoor.AM
open Go
def LF_guiselaw11_known : LFunc :=
  .mk 0 [.tmp 0] (.seq (R 999 [] [.set 0 (.cv (.bool false))]) (.seq (R 5 [1, 2, 3] [.set 4 (xc1 8 (xc0 23)), .tmp 7 (xex 0 (.sl 4)), .tmp 8 (xex 1
  (.sl 4)), .tmp 9 (xex 2 (.sl 4)), .set 1 (.sl 7), .set 2 (.sl 8), .set 3 (.sl 9)]) (.seq (R 10 [0] [.set 0 (.and (.and (.and (.va 2) (.va 3)) (xb .eql (xc2 10 (.va 1)
  (.cv (.string ⟨#[97, 226, 128, 141, 98, 255]⟩))) (.cv (.string ⟨#[97, 98, 239, 191, 189]⟩)))) (xb .eql (xc2 13 (.va 1) (.cv (.string ⟨#[226, 128, 141, 97, 226, 128,
  141]⟩))) (xi 2)))]) .ret)))
theorem fn_guiselaw11_known : (autoPrg Tryz.prog).fn 9 = some LF_guiselaw11_known := by kernel_rfl
end Go.Proofs.YtblmakgjdenpfaaGreatDoor.AM
namespace Go.Proofs.YtblmakgjdenpfaaGreatDoor.AM
open Go
theorem known11_a : bs (stripT houseT [97, 226, 128, 141, 98, 255]) = ⟨#[97, 98, 239, 191, 189]⟩ := by
  have : stripT houseT [97, 226, 128, 141, 98, 255] = [97, 98, 239, 191, 189] := by decide +kernel
  rw [this]; rfl
theorem known11_b : (spots [226, 128, 141, 97, 226, 128, 141]).length - (keptR (dropT houseT) [226, 128, 141, 97, 226, 128, 141]).length = 2 := by decide +kernel
theorem house11_spec (h : AH) : WpC PX 23 [] h fun v h' => ∃ S, v = .agg S.vs.toArray ∧ TabAt h' S houseT ∧ Kp h h' := house_spec h
theorem known11_spec {h : AH} (u : U8T h) (hg : 2 ≤ h.n) : WpC PX 9 [] h fun v h' => v = .bool true ∧ Kp h h' := by
  obtain ⟨_, g, e, S, rfl, t, k⟩ := house11_spec h
  obtain ⟨_, g1, e1, k1, kk, B, S1, rfl, bk, _, _⟩ := of_house t (u.kp k) (Nat.le_trans hg k.1)
  obtain ⟨_, g2, e2, rfl, k2⟩ := strip_spec bk.bk ⟨#[97, 226, 128, 141, 98, 255]⟩ (by decide)
  obtain ⟨_, g3, e3, rfl, k3⟩ := stripCount_spec (bk.kp k2).bk ⟨#[226, 128, 141, 97, 226, 128, 141]⟩ (by decide)
  have q2 := known11_a
  have q3 := known11_b
  unfold TS.vs at *
  refine wpc_fn (px_ext rfl) (px_fn fn_guiselaw11_known) rfl ?_
  unfold LF_guiselaw11_known
  simp only [argFr]
  simp only [q2] at e2
  simp only [q3] at e3
  (refine W_x (Aj e (Aj e1 (Aj e2 e3))) ?_; (repeat' first | apply Cj.mk | exact Nl.nl) <;> intros)
  exact ⟨rfl, ((k.trans k1).trans k2).trans k3⟩
end Go.Proofs.YtblmakgjdenpfaaGreatDoor.AM
namespace Go.Proofs.YtblmakgjdenpfaaGreatDoor.AM
open Go
def LF_guiselaw11_StripStrips : LFunc :=
  .mk 4 [.tmp 8] (.seq (R 4 [1, 2, 3, 4] [.tmp 4 (xbl 4 8 (.sl 0)), .set 8 (.cv (.bool false))]) (.seq (R 24 [1, 2, 3, 4, 9, 10, 11] [.set 23 (xc1 8 (xln 8 (.sl 4))),
  .tmp 26 (xex 0 (.sl 23)), .tmp 27 (xex 1 (.sl 23)), .tmp 28 (xex 2 (.sl 23)), .set 9 (.sl 26), .set 10 (.sl 27), .set 11 (.sl 28)]) (.seq (.seq (R 29 [1, 2, 3, 4, 9, 11, 30] [.tmp
  30 (xu .not (.va 10))]) (.cond (.s 30) (.seq (R 31 [8] [.set 8 (.and (.va 11) (xc0 9))]) .ret) .skip)) (.seq (R 35 [1, 2, 3, 4, 9] [.set 1 (xc2
  16 (.va 1) (xi 3000))]) (.seq (R 37 [1, 2, 3, 4, 9] [.set 2 (xc2 16 (.va 2) (xi 3000))]) (.seq (R 39 [1, 2, 3, 4, 9, 12] [.set 12 (xc2
  17 (xln 8 (.sl 4)) (.va 1))]) (.seq (R 43 [1, 2, 3, 4, 9, 12, 13] [.set 42 (xc2 18 (xln 8 (.sl 4)) (.va 1)), .tmp 46 (xex 0 (.sl 42)), .tmp 47
  (xex 1 (.sl 42)), .set 13 (.sl 46), .set 14 (.sl 47)]) (.seq (R 49 [1, 2, 3, 4, 9, 12, 13, 15, 16] [.set 48 (xc2 12 (.va 9) (.va 1)), .tmp 52 (xex 0 (.sl 48)), .tmp
  53 (xex 1 (.sl 48)), .at 15, .tmp 15 (xnl 15 [.int .i64 0, .int .i64 0]), .run (xst 2 (.sl 15) (.sl 52)), .tmp 16 (.va 53)]) (.seq (R 55 [1, 2, 3, 4, 9, 12, 13, 15, 16, 17, 18]
  [.set 54 (xc2 19 (xln 8 (.sl 4)) (.va 1)), .tmp 58 (xex 0 (.sl 54)), .tmp 59 (xex 1 (.sl 54)), .at 17, .tmp 17 (xnl 17 [.int .i64 0, .int .i64 0]), .run (xst 2
  (.sl 17) (.sl 58)), .tmp 18 (.va 59)]) (.seq (R 61 [1, 2, 3, 4, 9, 12, 13, 15, 16, 17, 18, 19, 20] [.set 60 (xc3 20 (.va 9) (.va 1) (.va 3)), .tmp 65 (xex 0 (.sl
  60)), .tmp 66 (xex 1 (.sl 60)), .at 19, .tmp 19 (xnl 19 [.int .i64 0, .int .i64 0]), .run (xst 2 (.sl 19) (.sl 65)), .tmp 20 (.va 66)]) (.seq (R 68 [1, 2, 4, 9, 12, 13, 15, 16,
  17, 18, 19, 20, 21, 22] [.set 67 (xc3 21 (xln 8 (.sl 4)) (.va 1) (.va 3)), .tmp 72 (xex 0 (.sl 67)), .tmp 73 (xex 1 (.sl 67)), .at 21, .tmp 21 (xnl 21 [.int .i64
  0, .int .i64 0]), .run (xst 2 (.sl 21) (.sl 72)), .tmp 22 (.va 73)]) (.seq (.seq (R 74 [1, 2, 4, 9, 12, 110] [.tmp 110 (.or (.or (.or (.or (.or (xb .neq (xc2 10 (.va
  9) (.va 1)) (.va 12)) (xb .neq (xc2 13 (.va 9) (.va 1)) (xb .sub (xlen (xc1 22 (.va 1))) (xlen (.va 13))))) (.op (.p (.eqA true [.int, .int] (.s 0)
  (.s 1))) (.cons (xln 2 (.sl 15)) (xln 2 (.sl 17))))) (.op (.p (.eqk true .bool (.s 0) (.s 1))) (.cons (.va 16) (.va 18)))) (.op (.p (.eqA true [.int, .int] (.s 0) (.s 1))) (.cons
  (xln 2 (.sl 19)) (xln 2 (.sl 21))))) (.op (.p (.eqk true .bool (.s 0) (.s 1))) (.cons (.va 20) (.va 22))))]) (.cond (.s 110) (.seq (R 999 [8] [.set 8 (.cv (.bool false))]) .ret)
  .skip)) (.seq (.region [.mk (some 111) (.p (.mv (.s 9))) none, .mk (some 112) (.p (.mv (.s 1))) none, .mk (some 113) (.p (.mv (.s 2))) none, .mk (some 114) (.e (.call
  15 [.s 111, .s 112, .s 113])) none, .mk (some 115) (.p (.mv (.s 12))) none, .mk (some 116) (.r (.load (some 8) (.s 4))) none, .mk (some 117) (.p (.mv (.s 2))) none,
  .mk (some 118) (.e (.call 17 [.s 116, .s 117])) none, .mk (some 119) (.p (.bin .eql (.s 115) (.s 118))) none, .mk (some 120) (.p (.eqk false .bool (.s 114) (.s
  119))) none, .mk (some 121) (.p (.mv (.s 120))) none, .mk (some 122) (.e (.call 9 [])) (some (121, true)), .mk (some 123) (.p (.pick (.s 121) (.s 122) (.c
  (.bool false)))) none, .mk (some 8) (.p (.mv (.s 123))) none] [8] [(5, 0)]) .ret)))))))))))))
theorem fn_guiselaw11_StripStrips : (autoPrg Tryz.prog).fn 4 = some LF_guiselaw11_StripStrips := by kernel_rfl
end Go.Proofs.YtblmakgjdenpfaaGreatDoor.AM
namespace Go.Proofs.YtblmakgjdenpfaaGreatDoor.AM
open Go
end Go.Proofs.YtblmakgjdenpfaaGreatDoor.AM
namespace Go.Proofs.YtblmakgjdenpfaaGreatDoor.AM
open Go
def LFfew : LFunc :=
  .mk 2 [.tmp 4] (.seq (R 999 [0, 1] [.set 4 (.cv (.string ⟨#[]⟩))]) (.seq (.seq (R 5 [0, 1, 8] [.tmp 8 (xb .gtr (xsl (.va 0)) (.va 1))]) (.cond (.s 8) (.seq (R 9 [4] [.set 4 (.op
  (.p (.slS (.s 0) none (some (.s 1)))) (.cons (.va 0) (.va 1)))]) .ret) .skip)) (.seq (R 12 [4] [.set 4 (.va 0)]) .ret)))
theorem fewG_eq {f : FuncId} (hf : PX.fn f = some LFfew) (hx : PX.ext f = none) (s : ByteArray) (hs : s.size ≤ 1048576) {m : Int} (n : Nat) (hm : m = n) (hn : n ≤ 1048576) (h : AH) : callO PX f [.string s, .int .i64 m] h = some (.string (fewB s n), h) := by
  subst hm
  apply WpC.eqn
  refine wpc_fn hx hf rfl ?_
  unfold LFfew
  simp only [argFr]
  unfold fewB
  (refine W_x trivial ?_; (repeat' first | apply Cj.mk | exact Nl.nl) <;> intros)
  · rw [if_pos (by omega)]
    exact ⟨rfl, rfl⟩
  · rw [if_neg (by omega)]
    exact ⟨rfl, rfl⟩
end Go.Proofs.YtblmakgjdenpfaaGreatDoor.AM
namespace Go.Proofs.YtblmakgjdenpfaaGreatDoor.AM
open Go
theorem fn11few : PX.fn 16 = some LFfew := px_fn (by kernel_rfl)
theorem few11_eq (s : ByteArray) (hs : s.size ≤ 1048576) {m : Int} (n : Nat) (hm : m = n) (hn : n ≤ 1048576) (h : AH) : callO PX 16 [.string s, .int .i64 m] h = some (.string (fewB s n), h) := fewG_eq fn11few (px_ext rfl) s hs n hm hn h
theorem plV_form (o : Option (Nat × Nat)) : ∃ (a b : Int) (c : Bool), plV o = .tuple (List.toArray [.agg (List.toArray [.int .i64 a, .int .i64 b]), .bool c]) := by
  cases o with
  | none => exact ⟨0, 0, false, rfl⟩
  | some p => exact ⟨_, _, _, rfl⟩
theorem stripStrips_run {h : AH} (u : U8T h) (hg : 2 ≤ h.n) {S : TS} {T : Tab} (t : TabAt h S T) (x : ByteArray) (hx : x.size ≤ 1048576) (y : ByteArray) (hy : y.size ≤ 1048576) (n : Int) (hn1 : -9223372036854775808 ≤ n) (hn2 : n < 9223372036854775808) :
    WpC PX 4 [.agg S.vs.toArray, .string x, .string y, .int .i64 n] h fun v _ => v = .bool true := by
  obtain ⟨_, g1, e1, k1, q⟩ := of_spec t u hg
  by_cases hb : goodB T = true
  · rw [if_pos hb] at q
    obtain ⟨k, B, S1, rfl, bk, _, _⟩ := q
    have f1 := few11_eq x hx (m := 3000) 3000 rfl (by decide) g1
    have f2 := few11_eq y hy (m := 3000) 3000 rfl (by decide) g1
    have z1 := few_size (n := 3000) hx
    have z2 := few_size (n := 3000) hy
    generalize fewB x 3000 = a at f1 z1
    generalize fewB y 3000 = b at f2 z2
    have tt := t.kp k1
    obtain ⟨_, g2, e2, rfl, k2⟩ := ref11Strip_spec tt hb a z1
    obtain ⟨_, g3, e3, s1, s2, rfl, tw⟩ := ref11Seen_spec (tt.kp k2) hb a z1
    have k3 := tw.kp
    obtain ⟨_, g4, e4, rfl, k4⟩ := stripFirst_spec ((bk.kp k2).kp k3).bk a z1
    obtain ⟨_, g5, e5, rfl, k5⟩ := ref11First_spec (((tt.kp k2).kp k3).kp k4) a z1
    obtain ⟨_, g6, e6, rfl, k6⟩ := stripPlace_spec ((((bk.kp k2).kp k3).kp k4).kp k5).bk a (by omega) n hn1 hn2
    obtain ⟨_, g7, e7, rfl, k7⟩ := ref11Place_spec (((((tt.kp k2).kp k3).kp k4).kp k5).kp k6) hb a z1 n hn1 hn2
    have bk7 := (((((bk.kp k2).kp k3).kp k4).kp k5).kp k6).kp k7
    have tt7 := (((((tt.kp k2).kp k3).kp k4).kp k5).kp k6).kp k7
    obtain ⟨_, g8, e8, rfl, k8⟩ := strip_spec bk7.bk a (by omega)
    obtain ⟨_, g9, e9, rfl, k9⟩ := stripCount_spec (bk7.kp k8).bk a (by omega)
    obtain ⟨_, g10, e10, sl, rfl, fo⟩ := ref1Spots_spec a z1 g9
    have k10 := fo.kp
    obtain ⟨_, g11, e11, rfl, k11⟩ := stripSame_spec (((bk7.kp k8).kp k9).kp k10).bk a b (by omega) (by omega)
    obtain ⟨_, g12, e12, rfl, k12⟩ := ref11Strip_spec ((((tt7.kp k8).kp k9).kp k10).kp k11) hb b z2
    have kk := k1.trans (k2.trans (k3.trans (k4.trans (k5.trans (k6.trans (k7.trans (k8.trans (k9.trans (k10.trans (k11.trans k12))))))))))
    obtain ⟨_, g13, e13, rfl, k13⟩ := known11_spec (u.kp kk) (Nat.le_trans hg kk.1)
    have sl1 : s1.len = _ := tw.o1.1
    have sl0 := fo.own.1
    have hz : a.data.toList.length = a.size := rfl
    have hsn := spots_len a.data.toList
    have hkl := kept_le (D := dropT T) a.data.toList
    rw [List.length_map, seenI_len] at sl1
    rw [List.length_map, spotsL_len] at sl0
    obtain ⟨p1, p2, p3, hp⟩ := plV_form (firstD (dropT T) a.data.toList)
    obtain ⟨r1, r2, r3, hr⟩ := plV_form (if n < 0 then none else placeD (dropT T) a.data.toList n.toNat)
    rw [hp] at e4 e5
    rw [hr] at e6 e7
    have hq : decide (bs (stripT T a.data.toList) = bs (stripT T b.data.toList)) = decide (stripT T a.data.toList = stripT T b.data.toList) := decide_eq_decide.2 bs_inj
    have hqs := str_eql (x := bs (stripT T a.data.toList)) (y := bs (stripT T b.data.toList))
    rw [hq] at hqs
    generalize decide (stripT T a.data.toList = stripT T b.data.toList) = dd at *
    generalize bs (stripT T a.data.toList) = X at *
    generalize bs (stripT T b.data.toList) = Y at *
    generalize (spots a.data.toList).length = m at *
    generalize (keptR (dropT T) a.data.toList).length = w at *
    have hmn : (m : Int) - (w : Int) = ((m - w : Nat) : Int) := by omega
    have hml : m - w ≤ 1048576 := by omega
    generalize m - w = r at *
    unfold TS.vs at *
    refine wpc_fn (px_ext rfl) (px_fn fn_guiselaw11_StripStrips) rfl ?_
    unfold LF_guiselaw11_StripStrips
    simp only [argFr]
    (refine W_y (Aj e1 (Aj f1 (Aj f2 (Aj e2 (Aj e3 (Aj e4 (Aj e5 (Aj e6 (Aj e7 (Aj e8 (Aj e9 (Aj e10 (Aj e11 (Aj e12 (Aj e13 (Aj hqs (Aj sl1 (Aj sl0 hmn)))))))))))))))))) ?_; (repeat' first | apply Cj.mk | exact Nl.nl) <;> intros)
    all_goals first | contradiction | rfl | (cases dd <;> rfl)
  · rw [if_neg hb] at q
    subst q
    obtain ⟨_, g4, e7, rfl, k4⟩ := known11_spec (u.kp k1) (Nat.le_trans hg k1.1)
    unfold TS.vs at *
    refine wpc_fn (px_ext rfl) (px_fn fn_guiselaw11_StripStrips) rfl ?_
    unfold LF_guiselaw11_StripStrips
    simp only [argFr]
    (refine W_x (Aj e1 e7) ?_; (repeat' first | apply Cj.mk | exact Nl.nl) <;> intros)
    rfl
end Go.Proofs.YtblmakgjdenpfaaGreatDoor.AM
