/- Parts of proofs: lemmas, joined. -/
import Derived.Test.YtblmakgjdenpfaaGreatDoorP4b635b33
set_option linter.unusedVariables false
set_option linter.unusedSimpArgs false
set_option linter.unusedSectionVars false
namespace Go.Proofs.YtblmakgjdenpfaaGreatDoor.AM
open Go
theorem seenNil_eq (s : ByteArray) {yv : Value} (hy : IsF yv) (h : AH) : callO PX 39 [.pointer none, .string s, yv] h = some (.tuple #[], h) := by
  have hset := hy.set
  have hlc1 := hy.lc1
  apply WpC.eqn
  refine wpc_fn (px_ext rfl) (px_fn fn_strip_seen) rfl ?_
  unfold LF_strip_seen
  simp only [argFr]
  (refine W_x (Aj hset hlc1) ?_; (repeat' first | apply Cj.mk | exact Nl.nl) <;> intros)
  exact ⟨rfl, rfl⟩
theorem stripFirstNil (s : ByteArray) (h : AH) : WpC PX 12 [.pointer none, .string s] h fun v h' => v = plV none ∧ Kp h h' := by
  refine wpc_fn (px_ext rfl) (px_fn fn_strip_First) rfl ?_
  unfold LF_strip_First
  simp only [argFr]
  (refine W_x trivial ?_; (repeat' first | apply Cj.mk | exact Nl.nl) <;> intros)
  exact ⟨rfl, ((((Kp.refl h).push _).push _).push _ |>.setNew _ (by omega)).setNew _ (by omega)⟩
theorem stripPlaceNil (s : ByteArray) (h : AH) : WpC PX 20 [.pointer none, .string s, .int .i64 0] h fun v h' => v = plV none ∧ Kp h h' := by
  refine wpc_fn (px_ext rfl) (px_fn fn_strip_Place) rfl ?_
  unfold LF_strip_Place
  simp only [argFr]
  (refine W_x trivial ?_; (repeat' first | apply Cj.mk | exact Nl.nl) <;> intros)
  exact ⟨rfl, (Kp.refl h).push _⟩
theorem stripCountNil (s : ByteArray) (h : AH) : callO PX 13 [.pointer none, .string s] h = some (.int .i64 0, h) := by
  apply WpC.eqn
  refine wpc_fn (px_ext rfl) (px_fn fn_strip_Count) rfl ?_
  unfold LF_strip_Count
  simp only [argFr]
  (refine W_x trivial ?_; (repeat' first | apply Cj.mk | exact Nl.nl) <;> intros)
  exact ⟨rfl, rfl⟩
theorem stripSameNil (s t : ByteArray) (h : AH) : callO PX 15 [.pointer none, .string s, .string t] h = some (.bool false, h) := by
  apply WpC.eqn
  refine wpc_fn (px_ext rfl) (px_fn fn_strip_Same) rfl ?_
  unfold LF_strip_Same
  simp only [argFr]
  (refine W_x trivial ?_; (repeat' first | apply Cj.mk | exact Nl.nl) <;> intros)
  exact ⟨rfl, rfl⟩
theorem stripSeen_eq (q : Value) (s : ByteArray) (h : AH) (hq : ∃ o, q = .pointer o ∧ ∀ a, o = some a → ∃ k, a = ⟨k, 0, none⟩) : callO PX 50 [q, .string s] h = some (.func (.func 84) #[] #[.pointer (some ⟨h.n, 0, none⟩), .pointer (some ⟨h.n + 1, 0, none⟩)], (h.push (.cells false [q])).push (.cells false [.string s])) := by
  obtain ⟨o, rfl, ho⟩ := hq
  apply WpC.eqn
  cases o with
  | none =>
    refine wpc_fn (px_ext rfl) (px_fn fn_strip_Seen) rfl ?_
    unfold LF_strip_Seen
    simp only [argFr]
    (refine W_x trivial ?_; (repeat' first | apply Cj.mk | exact Nl.nl) <;> intros)
    exact ⟨rfl, rfl⟩
  | some a =>
    obtain ⟨k, rfl⟩ := ho a rfl
    refine wpc_fn (px_ext rfl) (px_fn fn_strip_Seen) rfl ?_
    unfold LF_strip_Seen
    simp only [argFr]
    (refine W_x trivial ?_; (repeat' first | apply Cj.mk | exact Nl.nl) <;> intros)
    exact ⟨rfl, rfl⟩
theorem seenNil_seq (p2 p3 : Nat) (s : ByteArray) : SeqP PX (.func (.func 84) #[] #[.pointer (some ⟨p2, 0, none⟩), .pointer (some ⟨p3, 0, none⟩)]) ([] : List Unit) (fun _ => [undef, undef]) fun h => h.get p2 = some (.cells false [.pointer none]) ∧ h.get p3 = some (.cells false [.string s]) := by
  intro yv I E h hyv hvs hstep hD h0
  obtain ⟨d1, d2⟩ := hD _ _ h0
  have hset := hyv.set
  have hlc1 := hyv.lc1
  have hloc := hyv.loc
  have e1 := seenNil_eq s hyv
  refine wpV_fn ?_
  refine wpc_fn (px_ext rfl) (px_fn fn_strip_Seen_1) rfl ?_
  unfold LF_strip_Seen_1
  simp only [argFr, List.nil_append, List.cons_append]
  (refine W_x (Aj hset (Aj hlc1 (Aj hloc (Aj d1 (Aj d2 e1))))) ?_; (repeat' first | apply Cj.mk | exact Nl.nl) <;> intros)
  exact .inl h0
theorem wp_rangeP0 {p : Prg} {fr : Fr} {lc : Lc} {h : AH} {Q : Post} {D : AH → Prop} {fo : Opd} {params : List Nat} {body : LCode} {g : FuncId} {ca cb : Array Value} {us : List Value} (hf : opd fr fo = .func (.func g) ca cb)
    (hs : SeqP p (.func (.func g) ca cb) ([] : List Unit) (fun _ => us) D) (hn : us.length = params.length) (hD : ∀ h1, Kp h h1 → D h1) (fin : ∀ h1, Kp h h1 → Q .norm fr lc h1) : Wp p (.rangeF fo params .skip body) fr lc h Q :=
  wp_rangeP (F := fun _ h1 => Kp h h1) (G := fun _ _ => False) (A := fun _ => (params.zip us).reverse ++ okFr fr) (L := fun _ => []) hf hs (fun _ => hn)
    (fun i h1 h2 k s => ⟨by rw [s.n]; exact k.1, fun b hb => by rw [s.get b (by omega)]; exact k.2 b hb⟩) (fun ex h1 h2 f k => f) (fun i h1 k => hD h1 k) (fun y h1 => wp_skip ⟨rfl, rfl, rfl, rfl⟩)
    (fun o => (Kp.refl h).push o) (fun i hi => by simp at hi) (fun h1 k => fin h1 k) (fun ex h1 _ f => f.elim)
theorem none11_spec (h : AH) : WpC PX 24 [.pointer none] h fun v h' => v = .bool true ∧ Kp h h' := by
  have k0 : Kp h (h.push (.cells false [.bool false])) := (Kp.refl h).push _
  have b0 : (h.push (.cells false [.bool false])).get h.n = some (.cells false [.bool false]) := AH.get_push_same _ _
  obtain ⟨_, g1, e1, rfl, k1⟩ := stripFirstNil ⟨#[97, 226, 128, 141, 255]⟩ (h.push (.cells false [.bool false]))
  obtain ⟨_, g2, e2, rfl, k2⟩ := stripPlaceNil ⟨#[97]⟩ g1
  have e3 := stripSeen_eq (.pointer none) ⟨#[97]⟩ g2 ⟨none, rfl, fun a ha => by cases ha⟩
  have k3 : Kp g2 ((g2.push (.cells false [.pointer none])).push (.cells false [.string ⟨#[97]⟩])) := ((Kp.refl g2).push _).push _
  have b3 : ((g2.push (.cells false [.pointer none])).push (.cells false [.string ⟨#[97]⟩])).get g2.n = some (.cells false [.pointer none]) := by
    rw [AH.get_push_ne _ (by rw [AH.push_n]; omega), AH.get_push_same]
  have b4 : ((g2.push (.cells false [.pointer none])).push (.cells false [.string ⟨#[97]⟩])).get (g2.n + 1) = some (.cells false [.string ⟨#[97]⟩]) := AH.get_push_same _ _
  generalize (g2.push (.cells false [.pointer none])).push (.cells false [.string ⟨#[97]⟩]) = g3 at *
  have k13 := (k1.trans k2).trans k3
  have c3 := k13.get b0
  simp only [plV] at e1 e2
  refine wpc_fn (px_ext rfl) (px_fn fn_guiselaw11_none) rfl ?_
  unfold LF_guiselaw11_none
  simp only [argFr]
  (refine W_x (Aj e1 (Aj e2 e3)) ?_; (repeat' first | apply Cj.mk | exact Nl.nl) <;> intros)
  refine wp_rangeP0 rfl (seenNil_seq _ _ _) rfl (fun h1 q => ⟨q.get b3, q.get b4⟩) fun h1 q => ?_
  · have kk : Kp h h1 := (k0.trans k13).trans q
    have c1 := q.get c3
    obtain ⟨h4, e4, k4⟩ := stripNil_eq ⟨#[97]⟩ h1
    have e5 := stripCountNil ⟨#[226, 128, 141]⟩
    have e6 := stripSameNil ⟨#[97]⟩ ⟨#[97]⟩
    have c4 := k4.get c1
    have hlt := AH.get_lt c4
    (refine W_x (Aj e4 (Aj e5 (Aj e6 c4))) ?_; (repeat' first | apply Cj.mk | exact Nl.nl) <;> intros)
    exact ⟨rfl, (kk.trans k4).setNew _ (Nat.le_refl _)⟩
set_option maxRecDepth 100000 in
theorem stripNumbers_run {h : AH} (u : U8T h) (hg : 2 ≤ h.n) : WpC PX 5 [] h fun v _ => v = .bool true := by
  obtain ⟨_, g, e, S, rfl, t, k⟩ := house11_spec h
  obtain ⟨_, g1, e1, k1, kk, B, S1, rfl, bk, _, _⟩ := of_house t (u.kp k) (Nat.le_trans hg k.1)
  have k01 := k.trans k1
  obtain ⟨_, g2, e2, rfl, k2⟩ := known11_spec (u.kp k01) (Nat.le_trans hg k01.1)
  have bk2 := bk.kp k2
  obtain ⟨_, g3, e3, rfl, k3⟩ := stripFirst_spec bk2.bk ⟨#[195, 169, 255]⟩ (by decide)
  have bk3 := bk2.kp k3
  obtain ⟨_, g4, e4, rfl, k4⟩ := stripPlace_spec bk3.bk ⟨#[195, 169, 226, 128, 141, 98]⟩ (by decide) 1 (by decide) (by decide)
  have bk4 := bk3.kp k4
  obtain ⟨_, g5, e5, rfl, k5⟩ := stripPlace_spec bk4.bk ⟨#[195, 169, 226, 128, 141, 98]⟩ (by decide) 2 (by decide) (by decide)
  have bk5 := bk4.kp k5
  obtain ⟨_, g6, e6, rfl, k6⟩ := stripPlace_spec bk5.bk ⟨#[195, 169, 226, 128, 141, 98]⟩ (by decide) 3 (by decide) (by decide)
  have bk6 := bk5.kp k6
  obtain ⟨_, g7, e7, rfl, k7⟩ := stripSame_spec bk6.bk ⟨#[97, 226, 128, 141]⟩ ⟨#[97]⟩ (by decide) (by decide)
  obtain ⟨_, g8, e8, rfl, k8⟩ := stripSame_spec (bk6.kp k7).bk ⟨#[97]⟩ ⟨#[98]⟩ (by decide) (by decide)
  obtain ⟨_, g9, e9, rfl, k9⟩ := none11_spec g8
  have q3 : firstD (dropT houseT) [195, 169, 255] = some (2, 1) := by decide +kernel
  have q4 : (if (1 : Int) < 0 then none else placeD (dropT houseT) [195, 169, 226, 128, 141, 98] (1 : Int).toNat) = some (5, 2) := by decide +kernel
  have q5 : (if (2 : Int) < 0 then none else placeD (dropT houseT) [195, 169, 226, 128, 141, 98] (2 : Int).toNat) = some (6, 3) := by decide +kernel
  have q6 : (if (3 : Int) < 0 then none else placeD (dropT houseT) [195, 169, 226, 128, 141, 98] (3 : Int).toNat) = none := by decide +kernel
  have q7 : decide (stripT houseT [97, 226, 128, 141] = stripT houseT [97]) = true := by decide +kernel
  have q8 : decide (stripT houseT [97] = stripT houseT [98]) = false := by decide +kernel
  simp only [q3, plV] at e3
  simp only [q4, plV] at e4
  simp only [q5, plV] at e5
  simp only [q6, plV] at e6
  simp only [q7] at e7
  simp only [q8] at e8
  unfold TS.vs at *
  refine wpc_fn (px_ext rfl) (px_fn fn_guiselaw11_StripNumbers) rfl ?_
  unfold LF_guiselaw11_StripNumbers
  simp only [argFr]
  (refine W_x (Aj e (Aj e1 (Aj e2 (Aj e3 (Aj e4 (Aj e5 (Aj e6 (Aj e7 (Aj e8 e9))))))))) ?_; (repeat' first | apply Cj.mk | exact Nl.nl) <;> intros)
  rfl
end Go.Proofs.YtblmakgjdenpfaaGreatDoor.AM
