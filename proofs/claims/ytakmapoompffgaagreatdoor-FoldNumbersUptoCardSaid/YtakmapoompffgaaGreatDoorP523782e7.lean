/- Parts of proofs: lemmas, joined. -/
import Derived.Test.YtakmapoompffgaaGreatDoorPbcd65311
set_option linter.unusedVariables false
set_option linter.unusedSimpArgs false
set_option linter.unusedSectionVars false
namespace Go.Proofs.YtakmapoompffgaaGreatDoor.AM
open Go
theorem wp_rangeR0 {p : Prg} {fr : Fr} {lc : Lc} {h : AH} {Q : Post} {D : AH → Prop} {fo : Opd} {params : List Nat} {assign body : LCode} {g : FuncId} {ca cb : Array Value} (hf : opd fr fo = .func (.func g) ca cb)
    (hs : SeqR p (.func (.func g) ca cb) ([] : List Unit) (fun _ _ _ _ => False) D) (hD : ∀ h1, Kp h h1 → D h1) (fin : ∀ h1, Kp h h1 → Q .norm fr lc h1) : Wp p (.rangeF fo params assign body) fr lc h Q :=
  wp_rangeR (F := fun _ _ h1 => Kp h h1) (G := fun _ _ _ => False) (A := fun _ => fr) (L := fun _ => []) hf hs (fun _ _ _ _ f => f.elim) (fun _ _ _ _ _ f => f.elim)
    (fun i T T' h1 h2 k hT fm _ => ⟨Nat.le_trans k.1 fm.n, fun b hb => (fm.keep b (Nat.lt_of_lt_of_le hb k.1) (fun q => by have := hT b q; omega) (by omega)).trans (k.2 b hb)⟩) (fun _ _ _ _ _ f _ _ _ => f) (fun i T h1 k => hD h1 k) (fun _ _ _ _ f => f.elim)
    (Kp.refl h) (fun i hi => by simp at hi) (fun T h1 k _ _ => fin h1 k) (fun _ _ _ _ f => f.elim)
theorem stepsNil_seq (p1 p2 : Nat) : SeqR PX (.func (.func 80) #[] #[.pointer (some ⟨p1, 0, none⟩), .pointer (some ⟨p2, 0, none⟩)]) ([] : List Unit) (fun _ _ _ _ => False) fun h => h.get p1 = some (.cells false [.pointer none]) := by
  intro yv I E h hyv hvs cons hD h0
  have hset := hyv.set
  have hlc1 := hyv.lc1
  have hloc := hyv.loc
  have hvc := hyv.vc
  have hck := hyv.cell
  have d1 := hD _ _ _ h0
  have l1 := AH.get_lt d1
  refine wpV_fn ?_
  refine wpc_fn (px_ext rfl) (px_fn fn_fold_steps_1_1) rfl ?_
  unfold LF_fold_steps_1_1
  simp only [argFr, List.nil_append, List.cons_append]
  (refine W_x (Aj hset (Aj hlc1 (Aj hloc (Aj hvc (Aj hck d1))))) ?_; (repeat' first | apply Cj.mk | exact Nl.nl) <;> intros)
  exact ⟨fun _ => False, .inl (cons.frI _ _ _ _ _ h0 ⟨by rw [AH.push_n]; omega, fun b hb _ => AH.get_push_ne _ (by omega)⟩ (fun b hp => hp.elim))⟩
theorem stepsNil_eq (h : AH) : callO PX 43 [.pointer none] h = some (.func (.func 79) #[] #[.pointer (some ⟨h.n, 0, none⟩)], h.push (.cells false [.pointer none])) := steps_eq (.pointer none) h ⟨none, rfl, fun a ha => by cases ha⟩
theorem foldNil_spec (s : ByteArray) (h : AH) : WpC PX 14 [.pointer none, .string s] h fun v h' => v = .string ⟨#[]⟩ ∧ Kp h h' := by
  have e1 := stepsNil_eq
  have e2 := steps1_eq s
  refine wpc_fn (px_ext rfl) (px_fn fn_fold_Fold) rfl ?_
  unfold LF_fold_Fold
  simp only [argFr]
  (refine W_x (Aj e1 e2) ?_; (repeat' first | apply Cj.mk | exact Nl.nl) <;> intros)
  simp only [Nat.add_assoc, Nat.reduceAdd, AH.push_n, AH.set_n]
  refine wp_rangeR0 rfl (stepsNil_seq _ _) (fun h1 k => k.get (by simp (disch := first | omega | (simp only [AH.nn_push, AH.nn_set, AH.nn_kill]; omega) | (simp only [AH.nn_push, AH.nn_set, AH.nn_kill]; done) | fail) only [AH.get_push_eq, AH.get_push_ne, AH.get_set_eq, AH.get_set_ne, AH.push_n])) fun h1 k => ?_
  have a0 : h1.get h.n = some (.tc 173 [.pointer none, .slice none 0 0]) := k.get (by simp (disch := first | omega | (simp only [AH.nn_push, AH.nn_set, AH.nn_kill]; omega) | (simp only [AH.nn_push, AH.nn_set, AH.nn_kill]; done) | fail) only [AH.get_push_eq, AH.get_push_ne, AH.get_set_eq, AH.get_set_ne, AH.push_n])
  have e5 := bldString_spec (g := none) (X := []) ⟨⟨_, a0, .inl rfl⟩, rfl, fun e => by cases e⟩ (by simp)
  (refine W_x e5 ?_; (repeat' first | apply Cj.mk | exact Nl.nl) <;> intros)
  refine ⟨rfl, ?_⟩
  unfold killO
  exact (((Kp.refl h).push _).push _ |>.push _).trans k
theorem foldCountNil (s : ByteArray) (h : AH) : WpC PX 28 [.pointer none, .string s] h fun v h' => v = .int .i64 0 ∧ Kp h h' := by
  have e1 := stepsNil_eq
  have e2 := steps1_eq s
  refine wpc_fn (px_ext rfl) (px_fn fn_fold_Count) rfl ?_
  unfold LF_fold_Count
  simp only [argFr]
  (refine W_x (Aj e1 e2) ?_; (repeat' first | apply Cj.mk | exact Nl.nl) <;> intros)
  simp only [Nat.add_assoc, Nat.reduceAdd, AH.push_n, AH.set_n]
  refine wp_rangeR0 rfl (stepsNil_seq _ _) (fun h1 k => k.get (by simp (disch := first | omega | (simp only [AH.nn_push, AH.nn_set, AH.nn_kill]; omega) | (simp only [AH.nn_push, AH.nn_set, AH.nn_kill]; done) | fail) only [AH.get_push_eq, AH.get_push_ne, AH.get_set_eq, AH.get_set_ne, AH.push_n, AH.set_n])) fun h1 k => ?_
  have a0 : h1.get h.n = some (.cells false [.int .i64 0]) := k.get (by simp (disch := first | omega | (simp only [AH.nn_push, AH.nn_set, AH.nn_kill]; omega) | (simp only [AH.nn_push, AH.nn_set, AH.nn_kill]; done) | fail) only [AH.get_push_eq, AH.get_push_ne, AH.get_set_eq, AH.get_set_ne, AH.push_n, AH.set_n])
  (refine W_x a0 ?_; (repeat' first | apply Cj.mk | exact Nl.nl) <;> intros)
  exact ⟨rfl, (((((Kp.refl h).push _).setNew _ (by omega)).push _).push _).trans k⟩
theorem foldFirstNil (s : ByteArray) (h : AH) : WpC PX 24 [.pointer none, .string s] h fun v h' => v = plV none ∧ Kp h h' := by
  have e1 := stepsNil_eq
  have e2 := steps1_eq s
  refine wpc_fn (px_ext rfl) (px_fn fn_fold_First) rfl ?_
  unfold LF_fold_First
  simp only [argFr]
  (refine W_x (Aj e1 e2) ?_; (repeat' first | apply Cj.mk | exact Nl.nl) <;> intros)
  simp only [Nat.add_assoc, Nat.reduceAdd, AH.push_n, AH.set_n]
  refine wp_rangeR0 rfl (stepsNil_seq _ _) (fun h1 k => k.get (by simp (disch := first | omega | (simp only [AH.nn_push, AH.nn_set, AH.nn_kill]; omega) | (simp only [AH.nn_push, AH.nn_set, AH.nn_kill]; done) | fail) only [AH.get_push_eq, AH.get_push_ne, AH.get_set_eq, AH.get_set_ne, AH.push_n, AH.set_n])) fun h1 k => ?_
  have a0 : h1.get h.n = some (.cells false [.int .i64 0, .int .i64 0]) := k.get (by simp (disch := first | omega | (simp only [AH.nn_push, AH.nn_set, AH.nn_kill]; omega) | (simp only [AH.nn_push, AH.nn_set, AH.nn_kill]; done) | fail) only [AH.get_push_eq, AH.get_push_ne, AH.get_set_eq, AH.get_set_ne, AH.push_n, AH.set_n])
  have a1 : h1.get (h.n + 1) = some (.cells false [.bool false]) := k.get (by simp (disch := first | omega | (simp only [AH.nn_push, AH.nn_set, AH.nn_kill]; omega) | (simp only [AH.nn_push, AH.nn_set, AH.nn_kill]; done) | fail) only [AH.get_push_eq, AH.get_push_ne, AH.get_set_eq, AH.get_set_ne, AH.push_n, AH.set_n])
  have kk := (((((Kp.refl h).push (.cells false [.int .i64 0, .int .i64 0])).push (.cells false [.bool false])).push (.cells false [.pointer none])).push (.cells false [.string s])).trans k
  have l1 := AH.get_lt a1
  (refine W_x (Aj a0 a1) ?_; (repeat' first | apply Cj.mk | exact Nl.nl) <;> intros)
  exact ⟨rfl, (kk.setNew _ (by omega)).setNew _ (by omega)⟩
theorem foldOfNil (s : ByteArray) (h : AH) : WpC PX 31 [.pointer none, .string s, .int .i64 0] h fun v h' => v = plV none ∧ Kp h h' := by
  have e1 := stepsNil_eq
  have e2 := steps1_eq s
  refine wpc_fn (px_ext rfl) (px_fn fn_fold_Of) rfl ?_
  unfold LF_fold_Of
  simp only [argFr]
  (refine W_x (Aj e1 e2) ?_; (repeat' first | apply Cj.mk | exact Nl.nl) <;> intros)
  simp only [Nat.add_assoc, Nat.reduceAdd, AH.push_n, AH.set_n]
  refine wp_rangeR0 rfl (stepsNil_seq _ _) (fun h1 k => k.get (by simp (disch := first | omega | (simp only [AH.nn_push, AH.nn_set, AH.nn_kill]; omega) | (simp only [AH.nn_push, AH.nn_set, AH.nn_kill]; done) | fail) only [AH.get_push_eq, AH.get_push_ne, AH.get_set_eq, AH.get_set_ne, AH.push_n, AH.set_n])) fun h1 k => ?_
  have a0 : h1.get h.n = some (.cells false [.int .i64 0]) := k.get (by simp (disch := first | omega | (simp only [AH.nn_push, AH.nn_set, AH.nn_kill]; omega) | (simp only [AH.nn_push, AH.nn_set, AH.nn_kill]; done) | fail) only [AH.get_push_eq, AH.get_push_ne, AH.get_set_eq, AH.get_set_ne, AH.push_n, AH.set_n])
  have a1 : h1.get (h.n + 1) = some (.cells false [.int .i64 0, .int .i64 0]) := k.get (by simp (disch := first | omega | (simp only [AH.nn_push, AH.nn_set, AH.nn_kill]; omega) | (simp only [AH.nn_push, AH.nn_set, AH.nn_kill]; done) | fail) only [AH.get_push_eq, AH.get_push_ne, AH.get_set_eq, AH.get_set_ne, AH.push_n, AH.set_n])
  have a2 : h1.get (h.n + 2) = some (.cells false [.bool false]) := k.get (by simp (disch := first | omega | (simp only [AH.nn_push, AH.nn_set, AH.nn_kill]; omega) | (simp only [AH.nn_push, AH.nn_set, AH.nn_kill]; done) | fail) only [AH.get_push_eq, AH.get_push_ne, AH.get_set_eq, AH.get_set_ne, AH.push_n, AH.set_n])
  have kk := ((((((Kp.refl h).push (.cells false [.int .i64 0])).push (.cells false [.int .i64 0, .int .i64 0])).push (.cells false [.bool false])).push (.cells false [.pointer none])).push (.cells false [.string s])).trans k
  have l1 := AH.get_lt a2
  (refine W_x (Aj a0 (Aj a1 a2)) ?_; (repeat' first | apply Cj.mk | exact Nl.nl) <;> intros)
  exact ⟨rfl, (kk.setNew _ (by omega)).setNew _ (by omega)⟩
theorem foldRuneNil (c : Int) (h : AH) : callO PX 16 [.pointer none, .int .i32 c] h = some (.slice none 0 0, h) := by
  apply WpC.eqn
  refine wpc_fn (px_ext rfl) (px_fn fn_fold_Rune) rfl ?_
  unfold LF_fold_Rune
  simp only [argFr]
  (refine W_x trivial ?_; (repeat' first | apply Cj.mk | exact Nl.nl) <;> intros)
  exact ⟨rfl, rfl⟩
theorem foldTwinsNil (s t : ByteArray) (h : AH) : callO PX 12 [.pointer none, .string s, .string t] h = some (.bool false, h) := by
  apply WpC.eqn
  refine wpc_fn (px_ext rfl) (px_fn fn_fold_Twins) rfl ?_
  unfold LF_fold_Twins
  simp only [argFr]
  (refine W_x trivial ?_; (repeat' first | apply Cj.mk | exact Nl.nl) <;> intros)
  exact ⟨rfl, rfl⟩
theorem foldPieces_eq (q : Value) (s : ByteArray) (h : AH) (hq : ∃ o, q = .pointer o ∧ ∀ a, o = some a → ∃ k, a = ⟨k, 0, none⟩) : callO PX 32 [q, .string s] h = some (.func (.func 52) #[] #[.pointer (some ⟨h.n, 0, none⟩), .pointer (some ⟨h.n + 1, 0, none⟩)], (h.push (.cells false [q])).push (.cells false [.string s])) := by
  obtain ⟨o, rfl, ho⟩ := hq
  apply WpC.eqn
  cases o with
  | none =>
    refine wpc_fn (px_ext rfl) (px_fn fn_fold_Pieces) rfl ?_
    unfold LF_fold_Pieces
    simp only [argFr]
    (refine W_x trivial ?_; (repeat' first | apply Cj.mk | exact Nl.nl) <;> intros)
    exact ⟨rfl, rfl⟩
  | some a =>
    obtain ⟨k, rfl⟩ := ho a rfl
    refine wpc_fn (px_ext rfl) (px_fn fn_fold_Pieces) rfl ?_
    unfold LF_fold_Pieces
    simp only [argFr]
    (refine W_x trivial ?_; (repeat' first | apply Cj.mk | exact Nl.nl) <;> intros)
    exact ⟨rfl, rfl⟩
theorem piecesNil_seq (p1 p2 : Nat) (s : ByteArray) : SeqR PX (.func (.func 52) #[] #[.pointer (some ⟨p1, 0, none⟩), .pointer (some ⟨p2, 0, none⟩)]) ([] : List Unit) (fun _ _ _ _ => False) fun h => h.get p1 = some (.cells false [.pointer none]) ∧ h.get p2 = some (.cells false [.string s]) := by
  intro yv I E h hyv hvs cons hD h0
  have hset := hyv.set
  have hlc1 := hyv.lc1
  have hloc := hyv.loc
  have hvc := hyv.vc
  have hck := hyv.cell
  obtain ⟨d1, d2⟩ := hD _ _ _ h0
  have l1 := AH.get_lt d1
  have l2 := AH.get_lt d2
  have e1 := stepsNil_eq
  have e2 := steps1_eq s
  refine wpV_fn ?_
  refine wpc_fn (px_ext rfl) (px_fn fn_fold_Pieces_1) rfl ?_
  unfold LF_fold_Pieces_1
  simp only [argFr, List.nil_append, List.cons_append]
  (refine W_y (Aj hset (Aj hlc1 (Aj hloc (Aj hvc (Aj hck (Aj d1 (Aj d2 (Aj e1 e2)))))))) ?_; (repeat' first | apply Cj.mk | exact Nl.nl) <;> intros)
  simp only [Nat.add_assoc, Nat.reduceAdd, AH.push_n, AH.set_n]
  refine wp_rangeR0 rfl (stepsNil_seq _ _) (fun h1 k => k.get (by simp (disch := first | omega | (simp only [AH.nn_push, AH.nn_set, AH.nn_kill]; omega) | (simp only [AH.nn_push, AH.nn_set, AH.nn_kill]; done) | fail) only [AH.get_push_eq, AH.get_push_ne, AH.get_set_eq, AH.get_set_ne, AH.push_n, AH.set_n])) fun h1 k => ?_
  have kk : Kp h h1 := ((((Kp.refl h).push _).push _).push _).trans k
  (refine W_x trivial ?_; (repeat' first | apply Cj.mk | exact Nl.nl) <;> intros)
  exact ⟨fun _ => False, .inl (cons.frI _ _ _ _ _ h0 ⟨kk.1, fun b hb _ => kk.2 b hb⟩ (fun b hp => hp.elim))⟩
theorem foldRune_spec {h : AH} {k B : Nat} {s6 : Sl} {T : Tab} (hb : goodB T = true) (bk : BkAt h k B s6 T) (c : Nat) (hc : (fromO T.folds (c : Int)).isSome = true) :
    WpC PX 16 [.pointer (some ⟨k, 0, none⟩), .int .i32 c] h fun v h' => ∃ sl, v = sl.val 1 ∧ FOwn h h' 1 sl ((mapC T.folds c).map rnV) := by
  obtain ⟨_, h', e, sl, rfl, fo⟩ := bookFold_spec hb bk c
  rw [hc] at e fo
  rw [if_pos rfl] at fo
  refine wpc_fn (px_ext rfl) (px_fn fn_fold_Rune) rfl ?_
  unfold LF_fold_Rune
  simp only [argFr]
  (refine W_x e ?_; (repeat' first | apply Cj.mk | exact Nl.nl) <;> intros)
  exact ⟨sl, rfl, fo⟩
end Go.Proofs.YtakmapoompffgaaGreatDoor.AM
namespace Go.Proofs.YtakmapoompffgaaGreatDoor.AM
open Go
def LF_guiselaw12_FoldNumbers : LFunc :=
  .mk 0 [.cell 0 none] (.seq (R 0 [0] [.tmp 0 (xnh [.bool false])]) (.seq (R 15 [0, 1, 2] [.set 14 (xc1 9 (xc0 37)), .tmp 17 (xex 0 (.sl 14)), .tmp
  18 (xex 1 (.sl 14)), .tmp 19 (xex 2 (.sl 14)), .set 1 (.sl 17), .set 2 (.sl 18), .set 3 (.sl 19)]) (.seq (.seq (R 20 [0, 1, 37] [.tmp 37 (.or (.or (.or (.or (xu .not (.va 2)) (xb
  .neq (xc2 14 (.cv (.pointer none)) (.cv (.string ⟨#[97]⟩))) (.cv (.string ⟨#[]⟩)))) (xb .neq (xlen (xc2 16 (.cv (.pointer none)) (xr 97))) (xi 0))) (xb .neq
  (xc2 28 (.cv (.pointer none)) (.cv (.string ⟨#[97]⟩))) (xi 0))) (xc3 12 (.cv (.pointer none)) (.cv (.string ⟨#[97]⟩)) (.cv (.string ⟨#[97]⟩))))]) (.cond
  (.s 37) (.seq (R 999 [0] [.run (xst 1 (.sl 0) (.cv (.bool false)))]) .ret) .skip)) (.seq (R 39 [0, 1, 5] [.set 38 (xc2 24 (.cv (.pointer none)) (.cv (.string
  ⟨#[255]⟩))), .tmp 40 (xex 0 (.sl 38)), .tmp 41 (xex 1 (.sl 38)), .at 4, .run (xst 2 (xnl 4 [.int .i64 0, .int .i64 0]) (.sl 40)), .tmp 5 (.va 41)]) (.seq (R 43 [0, 1, 5, 7] [.set
  42 (xc3 31 (.cv (.pointer none)) (.cv (.string ⟨#[97]⟩)) (xi 0)), .tmp 44 (xex 0 (.sl 42)), .tmp 45 (xex 1 (.sl 42)), .at 6, .run (xst 2 (xnl 6 [.int .i64 0, .int .i64
  0]) (.sl 44)), .tmp 7 (.va 45)]) (.seq (R 46 [0, 1, 5, 7, 8] [.set 8 (xc2 32 (.cv (.pointer none)) (.cv (.string ⟨#[97]⟩)))]) (.seq (.seq (R 47 [0, 1, 8, 54] [.tmp 54
  (.or (.or (.va 5) (.va 7)) (.op (.p (.eqk false .func (.s 0) (.s 1))) (.cons (.va 8) (.cv .nilFunc))))]) (.cond (.s 54) (.seq (R 999 [0] [.run (xst 1 (.sl 0) (.cv (.bool
  false)))]) .ret) .skip)) (.seq (.seq (R 55 [0, 1, 55] [.tmp 55 (.va 8)]) (.block 0 (.rangeF (.s 55) [56, 57] .skip (.block 1 (.seq (R 999 [] [.run (xst 1 (.sl 0) (.cv (.bool
  false)))]) .ret))))) (.seq (R 59 [0, 1, 9, 10] [.set 58 (xc2 24 (.va 1) (.cv (.string ⟨#[97, 195, 159]⟩))), .tmp 61 (xex 0 (.sl 58)), .tmp 62 (xex 1 (.sl 58)), .at 9,
  .tmp 9 (xnl 9 [.int .i64 0, .int .i64 0]), .run (xst 2 (.sl 9) (.sl 61)), .tmp 10 (.va 62)]) (.seq (R 64 [0, 1, 9, 10, 12] [.set 63 (xc2 24 (.va 1) (.cv (.string
  ⟨#[195, 137]⟩))), .tmp 66 (xex 0 (.sl 63)), .tmp 67 (xex 1 (.sl 63)), .at 11, .run (xst 2 (xnl 11 [.int .i64 0, .int .i64 0]) (.sl 66)), .tmp 12 (.va 67)]) (.seq (R 68 [0, 9, 10,
  12, 13] [.set 13 (xc2 16 (.va 1) (xr 223))]) (.seq (R 70 [0] [.run (xst 1 (.sl 0) (.and (.and (.and (.and (.and (.and (.op (.p (.eqA false [.int, .int] (.s 0) (.s 1)))
  (.cons (xln 2 (.sl 9)) (.op (.p (.build [.int .i64 0, .int .i64 0] [(0, 1, .s 0), (1, 1, .s 1)])) (.cons (xi 1) (xi 1))))) (.va 10)) (xu .not (.va 12))) (xb .eql (xlen (.va 13))
  (xi 2))) (xb .eql (xld (xia 1 (.va 13) (xi 0))) (xr 115))) (xb .eql (xld (xia 1 (.va 13) (xi 1))) (xr 115))) (xc0 10)))]) .ret))))))))))))
theorem fn_guiselaw12_FoldNumbers : (autoPrg Tryz.prog).fn 8 = some LF_guiselaw12_FoldNumbers := by kernel_rfl
end Go.Proofs.YtakmapoompffgaaGreatDoor.AM
namespace Go.Proofs.YtakmapoompffgaaGreatDoor.AM
open Go
set_option maxRecDepth 100000 in
theorem foldNumbers_run {h : AH} (u : U8T h) (hg : 2 ≤ h.n) : WpC PX 8 [] h fun v _ => v = .bool true := by
  have k0 : Kp h (h.push (.cells false [.bool false])) := (Kp.refl h).push _
  have b0 : (h.push (.cells false [.bool false])).get h.n = some (.cells false [.bool false]) := AH.get_push_same _ _
  obtain ⟨_, g, e, S, rfl, t, k⟩ := small12_spec (h.push (.cells false [.bool false]))
  obtain ⟨_, g1, e1, k1, kk, B, S1, rfl, bk, _, _⟩ := of_smallT t (u.kp (k0.trans k)) (Nat.le_trans hg (k0.trans k).1)
  obtain ⟨_, g2, e2, rfl, k2⟩ := foldNil_spec ⟨#[97]⟩ g1
  have e3 := foldRuneNil 97
  obtain ⟨_, g3, e4, rfl, k3⟩ := foldCountNil ⟨#[97]⟩ g2
  have e5 := foldTwinsNil ⟨#[97]⟩ ⟨#[97]⟩
  obtain ⟨_, g4, e6, rfl, k4⟩ := foldFirstNil ⟨#[255]⟩ g3
  obtain ⟨_, g5, e7, rfl, k5⟩ := foldOfNil ⟨#[97]⟩ g4
  have e8 := foldPieces_eq (.pointer none) ⟨#[97]⟩ g5 ⟨none, rfl, fun a ha => by cases ha⟩
  have k6 : Kp g5 ((g5.push (.cells false [.pointer none])).push (.cells false [.string ⟨#[97]⟩])) := ((Kp.refl g5).push _).push _
  have b3 : ((g5.push (.cells false [.pointer none])).push (.cells false [.string ⟨#[97]⟩])).get g5.n = some (.cells false [.pointer none]) := by
    rw [AH.get_push_ne _ (by rw [AH.push_n]; omega), AH.get_push_same]
  have b4 : ((g5.push (.cells false [.pointer none])).push (.cells false [.string ⟨#[97]⟩])).get (g5.n + 1) = some (.cells false [.string ⟨#[97]⟩]) := AH.get_push_same _ _
  generalize (g5.push (.cells false [.pointer none])).push (.cells false [.string ⟨#[97]⟩]) = g6 at *
  have kb := k2.trans (k3.trans (k4.trans (k5.trans k6)))
  have kc := k.trans (k1.trans kb)
  have c0 := kc.get b0
  simp only [plV] at e6 e7
  unfold TS.vs at *
  refine wpc_fn (px_ext rfl) (px_fn fn_guiselaw12_FoldNumbers) rfl ?_
  unfold LF_guiselaw12_FoldNumbers
  simp only [argFr]
  (refine W_x (Aj e (Aj e1 (Aj e2 (Aj e3 (Aj e4 (Aj e5 (Aj e6 (Aj e7 e8)))))))) ?_; (repeat' first | apply Cj.mk | exact Nl.nl) <;> intros)
  refine wp_rangeR0 rfl (piecesNil_seq _ _ _) (fun h1 q => ⟨q.get b3, q.get b4⟩) fun h1 q => ?_
  have bk1 := (bk.kp kb).kp q
  obtain ⟨_, j1, f1, rfl, i1⟩ := foldFirst_spec small_good bk1.bk ⟨#[97, 195, 159]⟩ (by decide)
  obtain ⟨_, j2, f2, rfl, i2⟩ := foldFirst_spec small_good (bk1.kp i1).bk ⟨#[195, 137]⟩ (by decide)
  obtain ⟨_, j3, f3, sl, rfl, fo⟩ := foldRune_spec small_good ((bk1.kp i1).kp i2).bk 223 (by decide +kernel)
  have kd := kc.trans (q.trans (i1.trans (i2.trans fo.kp)))
  obtain ⟨_, j4, f4, rfl, i4⟩ := known12_spec (u.kp (k0.trans kd)) (Nat.le_trans hg (k0.trans kd).1)
  have c1 := (kd.trans i4).get b0
  have q1 : firstF smallT [97, 195, 159] = some (1, 1) := by decide +kernel
  have q2 : firstF smallT [195, 137] = none := by decide +kernel
  have q3 : mapC smallT.folds 223 = [115, 115] := by decide +kernel
  simp only [q1, plV] at f1
  simp only [q2, plV] at f2
  rw [q3] at fo
  have sl0 := fo.own.1
  have r0 := fun lc => rd_map (lc := lc) fo.reads (i := 0) (by decide)
  have r1 := fun lc => rd_map (lc := lc) fo.reads (i := 1) (by decide)
  simp only [List.length_map, List.length_cons, List.length_nil, Nat.zero_add, Nat.reduceAdd, List.getElem_cons_zero, List.getElem_cons_succ] at sl0 r0 r1
  unfold rnV at r0 r1
  have l1 := AH.get_lt c1
  rw [show ((223 : Nat) : Int) = 223 from rfl] at f3
  (refine W_x (Aj f1 (Aj f2 (Aj f3 (Aj f4 (Aj sl0 (Aj r0 (Aj r1 c1))))))) ?_; (repeat' first | apply Cj.mk | exact Nl.nl) <;> intros)
  rfl
end Go.Proofs.YtakmapoompffgaaGreatDoor.AM
