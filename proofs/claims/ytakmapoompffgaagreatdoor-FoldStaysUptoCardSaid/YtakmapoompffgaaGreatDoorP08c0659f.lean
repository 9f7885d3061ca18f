/- Parts of proofs: lemmas, joined. -/
import Derived.Test.YtakmapoompffgaaGreatDoorPb0e4de23
set_option linter.unusedVariables false
set_option linter.unusedSimpArgs false
set_option linter.unusedSectionVars false
namespace Go.Proofs.YtakmapoompffgaaGreatDoor.AM
open Go
theorem valid_spec (x : ByteArray) (hx : x.size ≤ 140737488351232) (hv : validB x.data.toList = true) (h : AH) :
    WpC PX 35 [.string x] h fun v h' => v = .tuple (List.toArray [.agg (List.toArray [.int .i64 0, .int .i64 0]), .bool true]) ∧ h.n ≤ h'.n ∧ ∀ b, b < h.n → h'.get b = h.get b := by
  have e2 := fun h => spotsMk_eq x h
  have hseq := spots_seq x (h.n + 3) hx
  refine wpc_fn (px_ext rfl) (px_fn fn_utf_Valid) rfl ?_
  unfold LF_utf_Valid
  simp only [argFr]
  (refine W_x e2 ?_; (repeat' first | apply Cj.mk | exact Nl.nl) <;> intros)
  generalize hH0 : ((((h.push (AObj.cells false [Value.int IntKind.i64 0, Value.int IntKind.i64 0])).push (AObj.cells false [Value.bool false])).push (AObj.cells false [Value.int IntKind.i64 0])).set (h.n + 1 + 1) (AObj.cells false [Value.int IntKind.i64 0])).push (AObj.cells false [Value.string x]) = H0
  have n0 : H0.n = h.n + 4 := by rw [← hH0]; simp only [AH.push_n, AH.set_n]
  have a0 : H0.get h.n = some (.cells false [.int .i64 0, .int .i64 0]) := by rw [← hH0]; simp (disch := first | omega | (simp only [AH.nn_push, AH.nn_set, AH.nn_kill]; omega) | (simp only [AH.nn_push, AH.nn_set, AH.nn_kill]; done) | fail) only [AH.get_push_eq, AH.get_push_ne, AH.get_set_eq, AH.get_set_ne]
  have a1 : H0.get (h.n + 1) = some (.cells false [.bool false]) := by rw [← hH0]; simp (disch := first | omega | (simp only [AH.nn_push, AH.nn_set, AH.nn_kill]; omega) | (simp only [AH.nn_push, AH.nn_set, AH.nn_kill]; done) | fail) only [AH.get_push_eq, AH.get_push_ne, AH.get_set_eq, AH.get_set_ne]
  have a2 : H0.get (h.n + 2) = some (.cells false [.int .i64 0]) := by rw [← hH0]; simp (disch := first | omega | (simp only [AH.nn_push, AH.nn_set, AH.nn_kill]; omega) | (simp only [AH.nn_push, AH.nn_set, AH.nn_kill]; done) | fail) only [AH.get_push_eq, AH.get_push_ne, AH.get_set_eq, AH.get_set_ne]
  have a3 : H0.get (h.n + 3) = some (.cells false [.string x]) := by rw [← hH0]; simp (disch := first | omega | (simp only [AH.nn_push, AH.nn_set, AH.nn_kill]; omega) | (simp only [AH.nn_push, AH.nn_set, AH.nn_kill]; done) | fail) only [AH.get_push_eq, AH.get_push_ne, AH.get_set_eq, AH.get_set_ne]
  have ak : ∀ b, b < h.n → H0.get b = h.get b := fun b hb => by rw [← hH0]; simp (disch := first | omega | (simp only [AH.nn_push, AH.nn_set, AH.nn_kill]; omega) | (simp only [AH.nn_push, AH.nn_set, AH.nn_kill]; done) | fail) only [AH.get_push_eq, AH.get_push_ne, AH.get_set_eq, AH.get_set_ne]
  clear hH0
  refine wp_rangeP (xs := spotsL x.data.toList) (enc := spotE) (D := fun h1 => h1.get (h.n + 3) = some (.cells false [.string x])) rfl hseq (fun _ => rfl)
    (fun i h1 => (∀ b, b < h.n → h1.get b = h.get b) ∧ h.n + 4 ≤ h1.n ∧ h1.get h.n = some (.cells false [.int .i64 0, .int .i64 0]) ∧ h1.get (h.n + 1) = some (.cells false [.bool false]) ∧ h1.get (h.n + 2) = some (.cells false [.int .i64 i]) ∧ h1.get (h.n + 3) = some (.cells false [.string x]))
    (fun ex h1 => False)
    (fun y => [(2, .pointer (some ⟨h.n, 0, none⟩)), (3, .pointer (some ⟨h.n + 1, 0, none⟩)), (4, .pointer (some ⟨h.n + 2, 0, none⟩)), (5, .int .i64 y.1), (6, .pointer (some ⟨12, 0, some 1⟩))]) (fun y => [(12, .cells false [.int .i32 y.2.1, .int .i64 y.2.2, .bool (isBad2 y.2)])]) ?_ ?_ ?_ ?_ ?_ ?_ ?_ ?_
  · rw [n0]
    rintro i h1 h2 ⟨f0, fn, f1, f2, f3, f4⟩ k
    exact ⟨fun b hb => by rw [k.get b (by omega)]; exact f0 b hb, by rw [k.n]; exact fn, by rw [k.get _ (by omega)]; exact f1, by rw [k.get _ (by omega)]; exact f2, by rw [k.get _ (by omega)]; exact f3, by rw [k.get _ (by omega)]; exact f4⟩
  · exact fun _ _ _ h => h.elim
  · exact fun i h1 f => f.2.2.2.2.2
  · intro y h1
    unfold spotE spotV
    simp only [List.zip_cons_cons, List.zip_nil_right, List.reverse_cons, List.reverse_nil, List.nil_append, List.cons_append, okFr_cons, okFr_nil, okV_eq, isLoc_ptr, isLoc_func, Bool.not_false, if_true]
    (refine W_x trivial ?_; (repeat' first | apply Cj.mk | exact Nl.nl) <;> intros)
    exact ⟨rfl, rfl, rfl, rfl⟩
  · intro o
    have k : ∀ b, b < h.n + 4 → (H0.push o).get b = H0.get b := fun b hb => AH.get_push_ne _ (by omega)
    exact ⟨fun b hb => (k b (by omega)).trans (ak b hb), by rw [AH.push_n, n0]; omega, (k _ (by omega)).trans a0, (k _ (by omega)).trans a1, (k _ (by omega)).trans a2, (k _ (by omega)).trans a3⟩
  · rw [n0]
    rintro i hi h1 o ⟨f0, fn, f1, f2, f3, f4⟩ ho
    have l4 := AH.get_lt ho
    have hbad : isBad2 (spotsL x.data.toList)[i].2 = false := by
      rw [spotsL_get hi]
      have := List.all_eq_true.1 hv _ (List.getElem_mem (by rw [← spotsL_len]; exact hi : i < (spots x.data.toList).length))
      unfold isBad2
      rw [Bool.not_eq_true'] at this
      exact this
    rw [hbad]
    have hil : i < 9223372036854775806 := by
      have h1 := spots_len x.data.toList
      rw [spotsL_len] at hi
      have h2 : x.data.toList.length = x.size := rfl
      omega
    generalize (spotsL x.data.toList)[i] = y
    (refine W_x (Aj f1 (Aj f2 (Aj f3 f4))) ?_; (repeat' first | apply Cj.mk | exact Nl.nl) <;> intros)
    refine ⟨by rw [AH.get_set_ne _ (by omega)]; exact ho, fun b hb => by rw [AH.get_set_ne _ (by omega)]; exact f0 b hb, by rw [AH.set_n]; exact fn, by rw [AH.get_set_ne _ (by omega)]; exact f1, by rw [AH.get_set_ne _ (by omega)]; exact f2, AH.get_set_same _ (by omega), by rw [AH.get_set_ne _ (by omega)]; exact f4⟩
  · rintro h1 ⟨f0, fn, f1, f2, f3, f4⟩
    (refine W_x (Aj f1 (Aj f2 (Aj f3 f4))) ?_; (repeat' first | apply Cj.mk | exact Nl.nl) <;> intros)
    refine ⟨rfl, by rw [AH.set_n, AH.set_n]; omega, fun b hb => ?_⟩
    rw [AH.get_set_ne _ (by omega), AH.get_set_ne _ (by omega)]
    exact f0 b hb
  · exact fun _ _ _ h => h.elim
end Go.Proofs.YtakmapoompffgaaGreatDoor.AM
namespace Go.Proofs.YtakmapoompffgaaGreatDoor.AM
open Go
def LF_utf_Count : LFunc :=
  .mk 1 [.tmp 2] (.seq (R 999 [0] [.set 2 (xi 0)]) (.seq (R 999 [0, 3] [.set 3 (xi 0)]) (.seq (.seq (R 4 [3, 5] [.tmp 5 (.op (.e (.rngS 5 (.s 0))) (.va 0))]) (.block 0 (.loop (.seq
  (R 6 [3, 5, 7] [.tmp 7 (xex 0 (.op (.e (.nxtS (.s 0))) (.sl 5)))]) (.seq (.cond (.s 7) .skip (.exit 0)) (.block 1 (R 8 [3, 5] [.set 3 (xb .add (.va 3) (xi 1))]))))))) (.seq (R 10
  [2] [.set 2 (.va 3)]) .ret))))
theorem fn_utf_Count : (autoPrg Tryz.prog).fn 36 = some LF_utf_Count := by kernel_rfl
end Go.Proofs.YtakmapoompffgaaGreatDoor.AM
namespace Go.Proofs.YtakmapoompffgaaGreatDoor.AM
open Go
theorem utfCount_eq (s : ByteArray) (hs : s.size ≤ 16777216) (h : AH) : callO PX 36 [.string s] h = some (.int .i64 (spots s.data.toList).length, h) := by
  have hz : s.data.toList.length = s.size := rfl
  have hn := spots_len s.data.toList
  apply WpC.eqn
  refine wpc_fn (px_ext rfl) (px_fn fn_utf_Count) rfl ?_
  unfold LF_utf_Count
  simp only [argFr]
  (refine W_x @ev_rngS ?_; (repeat' first | apply Cj.mk | exact Nl.nl) <;> intros)
  refine wp_spotsS (fun i _ => [(3, .int .i64 i), (5, .pointer (some ⟨10, 0, some 1⟩))]) (fun n _ => [(10, .siter s n)]) s s.data.toList (fun _ _ h' => h' = h) (fun _ _ => (none : Option Unit)) () rfl (by repeat' first | exact True.intro | refine And.intro rfl ?_) (fun _ _ => rfl) rfl rfl (fun i hi _ h1 hh hit => ?_) fun _ h1 hh fin => ?_
  · subst hh
    (refine W_x trivial ?_; (repeat' first | apply Cj.mk | exact Nl.nl) <;> intros)
    refine wo_next rfl rfl hi ?_
    (refine W_x trivial ?_; (repeat' first | apply Cj.mk | exact Nl.nl) <;> intros)
    exact ⟨rfl, (), (by repeat' first | exact True.intro | refine And.intro rfl ?_), rfl, rfl⟩
  · subst hh
    (refine W_x trivial ?_; (repeat' first | apply Cj.mk | exact Nl.nl) <;> intros)
    refine wo_nextE rfl rfl ?_
    (refine W_x trivial ?_; (repeat' first | apply Cj.mk | exact Nl.nl) <;> intros)
    exact ⟨rfl, rfl⟩
end Go.Proofs.YtakmapoompffgaaGreatDoor.AM
namespace Go.Proofs.YtakmapoompffgaaGreatDoor.AM
open Go
theorem fn12fewS : PX.fn 11 = some LFfew := px_fn (by kernel_rfl)
theorem few12S_eq (s : ByteArray) (hs : s.size ≤ 1048576) {m : Int} (n : Nat) (hm : m = n) (hn : n ≤ 1048576) (h : AH) : callO PX 11 [.string s, .int .i64 m] h = some (.string (fewB s n), h) := fewG_eq fn12fewS (px_ext rfl) s hs n hm hn h
theorem firstF_none {T : Tab} (hb : goodB T = true) (l : Bytes) : firstF T l = none ↔ foldB T l = l := by
  have hl : (runesB l).length = (spots l).length := runesB_len l
  constructor
  · intro hf
    have key : ∀ i (hi : i < (spots l).length), ¬ (isBad2 (spots l)[i] = true ∨ (fromO T.folds ((spots l)[i].1 : Int)).isSome = true) := fun i hi hc => by
      have := scanL_none hf i hi
      rw [if_pos hc] at this
      cases this
    have hv : validB l = true := by
      unfold validB
      rw [List.all_eq_true]
      intro x hx
      obtain ⟨i, hi, rfl⟩ := List.mem_iff_getElem.1 hx
      have := fun c => key i hi (.inl c)
      unfold isBad2 at this
      rw [Bool.not_eq_true']
      exact Bool.eq_false_iff.2 this
    have hm : mapF T.folds (runesB l) = runesB l := (mapF_iff hb (fold_ok hb) _).2 fun c hc => by
      obtain ⟨i, hi, rfl⟩ := List.mem_iff_getElem.1 hc
      have hi' : i < (spots l).length := by rw [← hl]; exact hi
      rw [runesB_get hi']
      have := fun c => key i hi' (.inr c)
      cases hq : fromO T.folds ((spots l)[i].1 : Int) with
      | none => rfl
      | some p => exact absurd (by rw [hq]; rfl) this
    unfold foldB
    rw [hm]
    exact (valid_clean l).1 hv
  · intro he
    have hr : mapF T.folds (runesB l) = runesB l := by
      have e1 : runesB (foldB T l) = mapF T.folds (runesB l) := runesB_of_encs (mapF_rune hb (fold_ok hb) (runesB_rune l))
      rw [he] at e1
      exact e1.symm
    have hv : validB l = true := by
      have := valid_encs (mapF_rune hb (fold_ok hb) (runesB_rune l))
      rw [show encs (mapF T.folds (runesB l)) = foldB T l from rfl, he] at this
      exact this
    cases hf : firstF T l with
    | none => rfl
    | some p =>
      exfalso
      obtain ⟨i, hi, hg⟩ := scanL_some hf
      by_cases hc : isBad2 (spots l)[i] = true ∨ (fromO T.folds ((spots l)[i].1 : Int)).isSome = true
      · rcases hc with hc | hc
        · have := List.all_eq_true.1 hv _ (List.getElem_mem hi)
          unfold isBad2 at hc
          rw [hc] at this
          cases this
        · have := (mapF_iff hb (fold_ok hb) _).1 hr (spots l)[i].1 (by rw [← runesB_get hi]; exact List.getElem_mem _)
          rw [this] at hc
          cases hc
      · rw [if_neg hc] at hg
        cases hg
theorem foldStays_run {h : AH} (u : U8T h) (hg : 2 ≤ h.n) {S : TS} {T : Tab} (t : TabAt h S T) (x : ByteArray) (hx : x.size ≤ 1048576) :
    WpC PX 7 [.agg S.vs.toArray, .string x] h fun v _ => v = .bool true := by
  obtain ⟨_, g1, e1, k1, q⟩ := of_spec t u hg
  by_cases hb : goodB T = true
  · rw [if_pos hb] at q
    obtain ⟨k, B, S1, rfl, bk, _, _⟩ := q
    have e2 := few12S_eq x hx (m := 2000) 2000 rfl (by decide) g1
    have fx := few_le x 2000
    generalize fewB x 2000 = a at e2 fx
    have hz : a.data.toList.length = a.size := rfl
    have sa := spots_len a.data.toList
    have la := runesB_len a.data.toList
    have ml := mapF_len hb (fold_ok hb) (runesB a.data.toList)
    have hen := encs_lenle (mapF T.folds (runesB a.data.toList))
    rw [show encs (mapF T.folds (runesB a.data.toList)) = foldB T a.data.toList from rfl] at hen
    have hor : runesB (foldB T a.data.toList) = mapF T.folds (runesB a.data.toList) := runesB_of_encs (mapF_rune hb (fold_ok hb) (runesB_rune _))
    have hid : foldB T (foldB T a.data.toList) = foldB T a.data.toList := by
      show encs (mapF T.folds (runesB (foldB T a.data.toList))) = _
      rw [hor, mapF_idem hb (fold_ok hb)]
      rfl
    have hva : validB (foldB T a.data.toList) = true := valid_encs (mapF_rune hb (fold_ok hb) (runesB_rune _))
    have hfo := (firstF_none hb (foldB T a.data.toList)).2 hid
    have hfa := firstF_none hb a.data.toList
    have lf := runesB_len (foldB T a.data.toList)
    rw [hor] at lf
    have l1 := open_size hb a.data.toList
    have l3 := fold_size hb (openB T a.data.toList)
    have l2 := open_size hb (foldB T a.data.toList)
    have hro : runesB (foldB T (openB T a.data.toList)) = mapF T.folds (openL T (runesB a.data.toList)) := by
      unfold foldB
      rw [openB_runes hb]
      exact runesB_of_encs (mapF_rune hb (fold_ok hb) fun c hc => (openL_all hb (runesB_rune _) c hc).1)
    have hog : openB T (foldB T (openB T a.data.toList)) = foldB T (openB T a.data.toList) := by
      show encs (openL T (runesB (foldB T (openB T a.data.toList)))) = encs (mapF T.folds (runesB (openB T a.data.toList)))
      rw [hro, openL_mapO hb (fold_ok hb) (runesB_rune _), openB_runes hb]
    have hofo : foldB T (openB T (foldB T a.data.toList)) = foldB T (openB T a.data.toList) := by
      show encs (mapF T.folds (runesB (openB T (foldB T a.data.toList)))) = encs (mapF T.folds (runesB (openB T a.data.toList)))
      rw [openB_runes hb, openB_runes hb, hor, openL_map hb (fold_ok hb)]
    have hfs : (bs (foldB T a.data.toList)).size ≤ 32000 := by rw [bs_size]; omega
    have hoa : bs (foldB T a.data.toList) = a ↔ foldB T a.data.toList = a.data.toList := ⟨fun e => by rw [← bs_l (foldB T a.data.toList), e], fun e => by rw [e]; exact ba_ext (bs_l _)⟩
    obtain ⟨_, g2, e3, rfl, k2⟩ := foldFold_spec hb bk.bk a (by omega)
    obtain ⟨_, g3, e4, rfl, kn3, kg3⟩ := valid_spec (bs (foldB T a.data.toList)) (by omega) (by rw [bs_l]; exact hva) g2
    have k3 : Kp g2 g3 := ⟨kn3, kg3⟩
    have bk3 := (bk.kp k2).kp k3
    obtain ⟨_, g4, e5, rfl, k4⟩ := foldFirst_spec hb bk3.bk (bs (foldB T a.data.toList)) (by omega)
    obtain ⟨_, g5, e6, rfl, k5⟩ := foldFirst_spec hb (bk3.kp k4).bk a (by omega)
    have bk5 := (bk3.kp k4).kp k5
    have c1 := fun h => utfCount_eq a (by omega) h
    obtain ⟨_, g6, e7, rfl, k6⟩ := foldFold_spec hb bk5.bk (bs (foldB T a.data.toList)) (by omega)
    have c2 := fun h => utfCount_eq (bs (foldB T a.data.toList)) (by omega) h
    obtain ⟨_, g7, e8, rfl, k7⟩ := foldCount_spec hb (bk5.kp k6).bk a (by omega)
    have bk7 := (bk5.kp k6).kp k7
    obtain ⟨_, g8, e9, rfl, k8⟩ := openOpen_spec hb bk7.bk a (by omega)
    obtain ⟨_, g9, e10, rfl, k9⟩ := foldFold_spec hb (bk7.kp k8).bk (bs (openB T a.data.toList)) (by rw [bs_size]; omega)
    have bk9 := (bk7.kp k8).kp k9
    rw [bs_l] at e10
    obtain ⟨_, g10, e11, rfl, k10⟩ := openOpen_spec hb bk9.bk (bs (foldB T (openB T a.data.toList))) (by rw [bs_size]; omega)
    obtain ⟨_, g11, e12, rfl, k11⟩ := openOpen_spec hb (bk9.kp k10).bk (bs (foldB T a.data.toList)) (by omega)
    obtain ⟨_, g12, e13, rfl, k12⟩ := foldFold_spec hb ((bk9.kp k10).kp k11).bk (bs (openB T (foldB T a.data.toList))) (by rw [bs_size]; omega)
    have kk := k1.trans (k2.trans (k3.trans (k4.trans (k5.trans (k6.trans (k7.trans (k8.trans (k9.trans (k10.trans (k11.trans k12))))))))))
    obtain ⟨_, g13, e14, rfl, k13⟩ := known12_spec (u.kp kk) (Nat.le_trans hg kk.1)
    rw [bs_l, hfo] at e5
    rw [bs_l, hid] at e7
    simp only [bs_l] at c2 e11 e12 e13
    rw [hog] at e11
    rw [hofo] at e13
    rw [← lf] at c2
    rw [la] at ml
    simp only [plV] at e5
    have hmw : firstF T a.data.toList = none → (spots (foldB T a.data.toList)).length = (spots a.data.toList).length := fun e => by rw [hfa.1 e]
    generalize (spots a.data.toList).length = w at *
    generalize hmf : (mapF T.folds (runesB a.data.toList)).length = m at *
    rw [← lf] at hmw
    clear lf hmf
    clear hfs hid hva hfo hen hor hog hofo hro l1 l2 l3
    unfold TS.vs at *
    refine wpc_fn (px_ext rfl) (px_fn fn_guiselaw12_FoldStays) rfl ?_
    unfold LF_guiselaw12_FoldStays
    simp only [argFr]
    cases hf : firstF T a.data.toList with
    | none =>
      rw [hf] at e6
      simp only [plV] at e6
      have h1 := hoa.2 (hfa.1 hf)
      have h2 := hmw hf
      clear hmw
      subst h2
      clear hoa hfa hf
      generalize bs (foldB T (openB T a.data.toList)) = o at *
      generalize bs (foldB T a.data.toList) = f at *
      subst h1
      (refine W_x (Aj e1 (Aj e2 (Aj e3 (Aj e4 (Aj e5 (Aj e6 (Aj c1 (Aj c2 (Aj e7 (Aj e8 (Aj e9 (Aj e10 (Aj e11 (Aj e12 (Aj e13 e14))))))))))))))) ?_; (repeat' first | apply Cj.mk | exact Nl.nl) <;> intros)
      all_goals first | rfl | omega
    | some p =>
      rw [hf] at e6
      simp only [plV] at e6
      have h1 : ¬ bs (foldB T a.data.toList) = a := fun e => by
        have := hfa.2 (hoa.1 e)
        rw [hf] at this
        cases this
      clear hoa hfa hf
      generalize bs (foldB T (openB T a.data.toList)) = o at *
      generalize bs (foldB T a.data.toList) = f at *
      have hd := decide_eq_false h1
      (refine W_x (Aj e1 (Aj e2 (Aj e3 (Aj e4 (Aj e5 (Aj e6 (Aj c1 (Aj c2 (Aj e7 (Aj e8 (Aj e9 (Aj e10 (Aj e11 (Aj e12 (Aj e13 (Aj e14 (Aj h1 hd))))))))))))))))) ?_; (repeat' first | apply Cj.mk | exact Nl.nl) <;> intros)
      all_goals first | rfl | omega
  · rw [if_neg hb] at q
    subst q
    obtain ⟨_, g4, e7, rfl, k4⟩ := known12_spec (u.kp k1) (Nat.le_trans hg k1.1)
    unfold TS.vs at *
    refine wpc_fn (px_ext rfl) (px_fn fn_guiselaw12_FoldStays) rfl ?_
    unfold LF_guiselaw12_FoldStays
    simp only [argFr]
    (refine W_x (Aj e1 e7) ?_; (repeat' first | apply Cj.mk | exact Nl.nl) <;> intros)
    rfl
end Go.Proofs.YtakmapoompffgaaGreatDoor.AM
