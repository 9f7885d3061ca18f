/- Parts of proofs: lemmas, joined. -/
import Derived.Test.YtblmakgjdenpfaaDoorP0403ad76
set_option linter.unusedVariables false
set_option linter.unusedSimpArgs false
set_option linter.unusedSectionVars false
namespace Go.Proofs.YtblmakgjdenpfaaDoor.AM
open Go
theorem vsame_fn1 (f : FuncId) (b : Nat) : vsame (.func (.func f) #[] #[.pointer (some ⟨b, 0, none⟩)]) (.func (.func f) #[] #[.pointer (some ⟨b, 0, none⟩)]) = true := by
  simp [vsame, vsame1, vsame0, vsameL]
structure Bld1 (h0 h : AH) (X : Bytes) : Prop where
  kp : Kp h0 h
  bd : ∃ g, BldAt h h0.n g X ∧ (g = none ∨ ∃ x, g = some x ∧ h0.n < x)
theorem Bld1.start (h : AH) : Bld1 h (h.push (.tc 169 [.pointer none, .slice none 0 0])) [] :=
  ⟨(Kp.refl h).push _, none, ⟨⟨_, AH.get_push_same _ _, .inl rfl⟩, rfl, fun e => by cases e⟩, .inl rfl⟩
theorem Bld1.lt {h0 h : AH} {X : Bytes} (b : Bld1 h0 h X) : h0.n < h.n := by
  obtain ⟨g, bd, _⟩ := b.bd
  obtain ⟨p, hp, _⟩ := bd.p
  exact AH.get_lt hp
theorem Bld1.rune {h0 h : AH} {X : Bytes} (b : Bld1 h0 h X) {c : Nat} (hc : RuneN c) (hn : X.length ≤ 140737488355000) :
    ∃ v h', callO PX 41 [.pointer (some ⟨h0.n, 0, none⟩), .int .i32 c] h = some (v, h') ∧ Bld1 h0 h' (X ++ encN c) := by
  have hlt := b.lt
  obtain ⟨kp, g, bd, hg⟩ := b
  obtain ⟨v, h', e, g', bd', fr⟩ := writeRune_spec hc bd hn
  refine ⟨v, h', e, ⟨Nat.le_trans kp.1 fr.n, fun c hc => (fr.keep c (by omega) (by omega) ?_).trans (kp.2 c hc)⟩, g', bd', ?_⟩
  · rcases hg with rfl | ⟨x, rfl, hx⟩
    · intro e; cases e
    · intro e; injection e with e; omega
  · rcases fr.new with rfl | ⟨x, rfl, hx⟩
    · exact hg
    · exact .inr ⟨x, rfl, by omega⟩
theorem Bld1.str {h0 h : AH} {X : Bytes} (b : Bld1 h0 h X) (hn : X.length ≤ 140737488355000) :
    ∃ h', callO PX 42 [.pointer (some ⟨h0.n, 0, none⟩)] h = some (.string (bs X), h') ∧ Kp h0 h' := by
  obtain ⟨kp, g, bd, hg⟩ := b
  refine ⟨_, bldString_spec bd (by omega), by rw [killO_n]; exact kp.1, fun c hc => ?_⟩
  rw [killO_get ?_]
  · exact kp.2 c hc
  · rcases hg with rfl | ⟨x, rfl, hx⟩
    · intro e; cases e
    · intro e; injection e with e; omega
def stripT (T : Tab) (l : Bytes) : Bytes := stripB (dropT T) l
theorem kept_take {D : Nat → Bool} {l : Bytes} {j : Nat} (hj : j < (seenL D l).length) : RuneN ((seenL D l)[j]).2.2 ∧ encs ((keptR D l).take (j + 1)) = encs ((keptR D l).take j) ++ encN ((seenL D l)[j]).2.2 := by
  have h1 : (keptR D l)[j]? = some ((seenL D l)[j]).2.2 := by
    rw [← seenI_map, List.getElem?_map, List.getElem?_eq_getElem hj]
    rfl
  obtain ⟨h2, h3⟩ := List.getElem?_eq_some_iff.1 h1
  rw [← h3]
  exact ⟨kept_rune l _ (List.getElem_mem h2), by rw [take_snoc h2, encs_snoc]⟩
theorem encs_take_le {D : Nat → Bool} (l : Bytes) (j : Nat) : (encs ((keptR D l).take j)).length ≤ 4 * l.length := by
  have h1 := encs_lenle ((keptR D l).take j)
  have h2 := kept_le (D := D) l
  have h3 := spots_len l
  rw [List.length_take] at h1
  omega
theorem strip_spec {h : AH} {k B : Nat} {s6 : Sl} {T : Tab} (bk : BkAt h k B s6 T) (s : ByteArray) (hs : s.size ≤ 16777216) : WpC PX 16 [.pointer (some ⟨k, 0, none⟩), .string s] h fun v h' => v = .string (bs (stripT T s.data.toList)) ∧ Kp h h' := by
  have hll : s.data.toList.length = s.size := rfl
  have hle := fun j => encs_take_le (D := dropT T) s.data.toList j
  obtain ⟨_, h2, e1, hor⟩ := seen_spec (T := T) (k := k) (B := B) (s6 := s6) s hs (yv := .func (.func 40) #[] #[.pointer (some ⟨h.n, 0, none⟩)])
    (I := fun j h1 => Bld1 h h1 (encs ((keptR (dropT T) s.data.toList).take j))) (E := fun _ => False) ⟨_, _, _, rfl⟩ (vsame_fn1 _ _) (fun j hj h1 hI => by
      obtain ⟨hr, ht⟩ := kept_take hj
      generalize (seenL (dropT T) s.data.toList)[j] = x at hr ht
      obtain ⟨_, h2, e, b2⟩ := hI.rune hr (by have := hle j; omega)
      rw [← ht] at b2
      refine wpV_fn ?_
      refine wpc_fn (px_ext rfl) (px_fn fn_strip_Strip_1) rfl ?_
      unfold LF_strip_Strip_1 seenE placeV
      simp only [argFr, List.nil_append, List.cons_append]
      (refine W_x e ?_; (repeat' first | apply Cj.mk | exact Nl.nl) <;> intros)
      exact .inl ⟨rfl, b2⟩) (fun j h1 hI => bk.kp hI.kp) (Bld1.start h)
  have b2 := hor.resolve_right id
  rw [seenL_len, List.take_length] at b2
  obtain ⟨h3, e3, k3⟩ := b2.str (by have := hle (keptR (dropT T) s.data.toList).length; rw [List.take_length] at this; omega)
  refine wpc_fn (px_ext rfl) (px_fn fn_strip_Strip) rfl ?_
  unfold LF_strip_Strip
  simp only [argFr]
  (refine W_x (Aj e1 e3) ?_; (repeat' first | apply Cj.mk | exact Nl.nl) <;> intros)
  exact ⟨rfl, k3⟩
theorem stripCount_spec {h : AH} {k B : Nat} {s6 : Sl} {T : Tab} (bk : BkAt h k B s6 T) (s : ByteArray) (hs : s.size ≤ 16777216) : WpC PX 17 [.pointer (some ⟨k, 0, none⟩), .string s] h fun v h' => v = .int .i64 (((spots s.data.toList).length - (keptR (dropT T) s.data.toList).length : Nat) : Int) ∧ Kp h h' := by
  have hll : s.data.toList.length = s.size := rfl
  have hn := spots_len s.data.toList
  have hkl := kept_le (D := dropT T) s.data.toList
  have e0 := utfCount_eq s hs
  have hb0 : ((h.push (.cells false [.int .i64 0])).set h.n (.cells false [.int .i64 (spots s.data.toList).length])).get h.n = some (.cells false [.int .i64 (spots s.data.toList).length]) := AH.get_set_same _ (by rw [AH.push_n]; omega)
  have hk0 : Kp h ((h.push (.cells false [.int .i64 0])).set h.n (.cells false [.int .i64 (spots s.data.toList).length])) := ((Kp.refl h).push _).setNew _ (Nat.le_refl _)
  obtain ⟨_, h2, e1, hor⟩ := seen_spec (T := T) (k := k) (B := B) (s6 := s6) s hs (yv := .func (.func 43) #[] #[.pointer (some ⟨h.n, 0, none⟩)])
    (I := fun j h1 => Kp h h1 ∧ j ≤ (spots s.data.toList).length ∧ h1.get h.n = some (.cells false [.int .i64 ((spots s.data.toList).length - j : Int)])) (E := fun _ => False) ⟨_, _, _, rfl⟩ (vsame_fn1 _ _) (fun j hj h1 hI => by
      obtain ⟨k1, hj1, b1⟩ := hI
      have hj2 : j < (keptR (dropT T) s.data.toList).length := by rw [← seenL_len]; exact hj
      have hlt := AH.get_lt b1
      generalize (seenL (dropT T) s.data.toList)[j] = x
      refine wpV_fn ?_
      refine wpc_fn (px_ext rfl) (px_fn fn_strip_Count_1) rfl ?_
      unfold LF_strip_Count_1 seenE placeV
      simp only [argFr, List.nil_append, List.cons_append]
      have hN : (spots s.data.toList).length ≤ 16777216 := by omega
      generalize (spots s.data.toList).length = N at *
      (refine W_x b1 ?_; (repeat' first | apply Cj.mk | exact Nl.nl) <;> intros)
      refine .inl ⟨rfl, k1.setNew _ (Nat.le_refl _), by omega, ?_⟩
      rw [AH.get_set_same _ hlt, show (N : Int) - (j : Int) - 1 = (N : Int) - ((j + 1 : Nat) : Int) by omega]) (fun j h1 hI => bk.kp hI.1) ⟨hk0, Nat.zero_le _, by rw [hb0]; simp⟩
  obtain ⟨k2, hle, b2⟩ := hor.resolve_right id
  rw [seenL_len] at b2
  have hsub : ((spots s.data.toList).length : Int) - ((keptR (dropT T) s.data.toList).length : Int) = (((spots s.data.toList).length - (keptR (dropT T) s.data.toList).length : Nat) : Int) := by omega
  rw [hsub] at b2
  generalize (spots s.data.toList).length - (keptR (dropT T) s.data.toList).length = r at *
  refine wpc_fn (px_ext rfl) (px_fn fn_strip_Count) rfl ?_
  unfold LF_strip_Count
  simp only [argFr]
  (refine W_x (Aj e0 (Aj e1 b2)) ?_; (repeat' first | apply Cj.mk | exact Nl.nl) <;> intros)
  exact ⟨rfl, k2⟩
end Go.Proofs.YtblmakgjdenpfaaDoor.AM
namespace Go.Proofs.YtblmakgjdenpfaaDoor.AM
open Go
def LF_guiselaw11_known : LFunc :=
  .mk 0 [.tmp 0] (.seq (R 999 [] [.set 0 (.cv (.bool false))]) (.seq (R 5 [1, 2, 3] [.set 4 (xc1 9 (xc0 34)), .tmp 7 (xex 0 (.sl 4)), .tmp 8 (xex 1
  (.sl 4)), .tmp 9 (xex 2 (.sl 4)), .set 1 (.sl 7), .set 2 (.sl 8), .set 3 (.sl 9)]) (.seq (R 10 [0] [.set 0 (.and (.and (.and (.va 2) (.va 3)) (xb .eql (xc2 16 (.va 1)
  (.cv (.string ⟨#[97, 226, 128, 141, 98, 255]⟩))) (.cv (.string ⟨#[97, 98, 239, 191, 189]⟩)))) (xb .eql (xc2 17 (.va 1) (.cv (.string ⟨#[226, 128, 141, 97, 226, 128,
  141]⟩))) (xi 2)))]) .ret)))
theorem fn_guiselaw11_known : (autoPrg Tryd.prog).fn 10 = some LF_guiselaw11_known := by kernel_rfl
end Go.Proofs.YtblmakgjdenpfaaDoor.AM
namespace Go.Proofs.YtblmakgjdenpfaaDoor.AM
open Go
theorem known11_a : bs (stripT houseT [97, 226, 128, 141, 98, 255]) = ⟨#[97, 98, 239, 191, 189]⟩ := by
  have : stripT houseT [97, 226, 128, 141, 98, 255] = [97, 98, 239, 191, 189] := by decide +kernel
  rw [this]; rfl
theorem known11_b : (spots [226, 128, 141, 97, 226, 128, 141]).length - (keptR (dropT houseT) [226, 128, 141, 97, 226, 128, 141]).length = 2 := by decide +kernel
theorem house11_spec (h : AH) : WpC PX 34 [] h fun v h' => ∃ S, v = .agg S.vs.toArray ∧ TabAt h' S houseT ∧ Kp h h' := house_spec h
theorem known11_spec {h : AH} (u : U8T h) (hg : 2 ≤ h.n) : WpC PX 10 [] h fun v h' => v = .bool true ∧ Kp h h' := by
  obtain ⟨_, g, e, S, rfl, t, k⟩ := house11_spec h
  obtain ⟨_, g1, e1, k1, kk, B, S1, rfl, bk, _, _⟩ := of_house t (u.kp k) (Nat.le_trans hg k.1)
  obtain ⟨_, g2, e2, rfl, k2⟩ := strip_spec bk.bk ⟨#[97, 226, 128, 141, 98, 255]⟩ (by decide)
  obtain ⟨_, g3, e3, rfl, k3⟩ := stripCount_spec (bk.kp k2).bk ⟨#[226, 128, 141, 97, 226, 128, 141]⟩ (by decide)
  have q2 := known11_a
  have q3 := known11_b
  unfold TS.vs at *
  refine wpc_fn (px_ext rfl) (px_fn fn_guiselaw11_known) rfl ?_
  unfold LF_guiselaw11_known
  simp only [argFr]
  simp only [q2] at e2
  simp only [q3] at e3
  (refine W_x (Aj e (Aj e1 (Aj e2 e3))) ?_; (repeat' first | apply Cj.mk | exact Nl.nl) <;> intros)
  exact ⟨rfl, ((k.trans k1).trans k2).trans k3⟩
end Go.Proofs.YtblmakgjdenpfaaDoor.AM
namespace Go.Proofs.YtblmakgjdenpfaaDoor.AM
open Go
end Go.Proofs.YtblmakgjdenpfaaDoor.AM
namespace Go.Proofs.YtblmakgjdenpfaaDoor.AM
open Go
end Go.Proofs.YtblmakgjdenpfaaDoor.AM
namespace Go.Proofs.YtblmakgjdenpfaaDoor.AM
open Go
theorem isLoc_adr {s : Sl} {e j : Nat} : isLoc (.pointer (some (s.adr e j))) = false := by cases s <;> rfl
theorem settle_adr {s : Sl} {e j i : Nat} : settle1 i (.pointer (some (s.adr e j))) = some (.pointer (some (s.adr e j))) := by cases s <;> rfl
theorem lc1_adr {s : Sl} {e j : Nat} {lc : Lc} {i : Nat} {r : Lc} : lc1 lc i (.pointer (some (s.adr e j))) r = r := lc1_ok isLoc_adr _ _ _
attribute [push_cast] isLoc_adr settle_adr lc1_adr
end Go.Proofs.YtblmakgjdenpfaaDoor.AM
namespace Go.Proofs.YtblmakgjdenpfaaDoor.AM
open Go
theorem PF.push {T : Nat → Prop} (h : AH) (o : AObj) : PF T h (h.push o) := ⟨by rw [AH.push_n]; omega, fun b hb _ => AH.get_push_ne _ (by omega)⟩
end Go.Proofs.YtblmakgjdenpfaaDoor.AM
namespace Go.Proofs.YtblmakgjdenpfaaDoor.AM
open Go
structure KpB (b0 : Nat) (h h' : AH) : Prop where
  n : h.n ≤ h'.n
  keep : ∀ b, b < h.n → b ≠ b0 → h'.get b = h.get b
theorem KpB.get {b0 : Nat} {h h' : AH} (k : KpB b0 h h') {b : Nat} {o : AObj} (e : h.get b = some o) (hb : b ≠ b0) : h'.get b = some o := by rw [k.keep b (AH.get_lt e) hb, e]
theorem KpB.kp {b0 : Nat} {h0 h h' : AH} (q : Kp h0 h) (k : KpB b0 h h') (hb : h0.n ≤ b0) : Kp h0 h' := ⟨Nat.le_trans q.1 k.n, fun b hb' => by rw [k.keep b (by have := q.1; omega) (by omega), q.2 b hb']⟩
theorem KpB.set {b0 : Nat} {h h' : AH} (k : KpB b0 h h') (o : AObj) : KpB b0 h (h'.set b0 o) := ⟨k.n, fun b hb hb0 => by rw [AH.get_set_ne _ hb0, k.keep b hb hb0]⟩
theorem KpB.refl (b0 : Nat) (h : AH) : KpB b0 h h := ⟨Nat.le_refl _, fun _ _ _ => rfl⟩
theorem reads_setOne {h : AH} {e c : Nat} {s : Sl} {xss : List (List Value)} {ro : Bool} {v : Value} {o : AObj} (r : Reads h e s xss) (hc : h.get c = some (.cells ro [v])) (he : 2 ≤ e) : Reads (h.set c o) e s xss := by
  refine ⟨r.1, r.2.1, ?_⟩
  have h1 := r.1
  have h2 := r.2.1
  have := r.2.2
  cases s with
  | nil => trivial
  | «at» b o' n =>
    rcases this with h0 | ⟨ro', pre, post, h3, h4⟩
    · exact .inl h0
    · by_cases hb : b = c
      · subst hb
        rw [hc] at h3
        injection h3 with h3
        injection h3 with _ h3
        have hl := congrArg List.length h3
        have hf := flatten_len h2
        simp only [List.length_append, List.length_singleton, hf] at hl
        have : xss.length = 0 := by
          rcases Nat.eq_zero_or_pos xss.length with q | q
          · exact q
          · have := Nat.mul_le_mul q he
            omega
        exact .inl (by simp only [Sl.len] at h1; omega)
      · exact .inr ⟨ro', pre, post, by rw [AH.get_set_ne _ hb]; exact h3, h4⟩
end Go.Proofs.YtblmakgjdenpfaaDoor.AM
namespace Go.Proofs.YtblmakgjdenpfaaDoor.AM
open Go
def LFfew : LFunc :=
  .mk 2 [.tmp 4] (.seq (R 999 [0, 1] [.set 4 (.cv (.string ⟨#[]⟩))]) (.seq (.seq (R 5 [0, 1, 8] [.tmp 8 (xb .gtr (xsl (.va 0)) (.va 1))]) (.cond (.s 8) (.seq (R 9 [4] [.set 4 (.op
  (.p (.slS (.s 0) none (some (.s 1)))) (.cons (.va 0) (.va 1)))]) .ret) .skip)) (.seq (R 12 [4] [.set 4 (.va 0)]) .ret)))
theorem fewG_eq {f : FuncId} (hf : PX.fn f = some LFfew) (hx : PX.ext f = none) (s : ByteArray) (hs : s.size ≤ 1048576) {m : Int} (n : Nat) (hm : m = n) (hn : n ≤ 1048576) (h : AH) : callO PX f [.string s, .int .i64 m] h = some (.string (fewB s n), h) := by
  subst hm
  apply WpC.eqn
  refine wpc_fn hx hf rfl ?_
  unfold LFfew
  simp only [argFr]
  unfold fewB
  (refine W_x trivial ?_; (repeat' first | apply Cj.mk | exact Nl.nl) <;> intros)
  · rw [if_pos (by omega)]
    exact ⟨rfl, rfl⟩
  · rw [if_neg (by omega)]
    exact ⟨rfl, rfl⟩
end Go.Proofs.YtblmakgjdenpfaaDoor.AM
namespace Go.Proofs.YtblmakgjdenpfaaDoor.AM
open Go
def LPround : LCode :=
  .seq (.seq (R 46 [5, 6, 10, 11, 12, 13, 47] [.tmp 47 (xb .lss (xld (.sl 13)) (xi 2))]) (.cond (.s 47) .skip (.exit 0))) (.seq (.block 1 (.seq (R 14 [5, 6, 10, 11, 12, 13,
  14] [.tmp 14 (xnh [.int .i64 0]), .run (xst 1 (.sl 14) (xi 0))]) (.seq (.seq (R 50 [5, 6, 10, 11, 12, 13, 14, 50] [.tmp 50 (.va 12)]) (.block 2 (.rangeF (.s 50) [51, 52] (.seq (R
  15 [5, 6, 10, 11, 13, 14, 15, 52] [.tmp 15 (xnl 15 [.int .i64 0, .int .i64 0]), .run (xst 2 (.sl 15) (.sl 51))]) (R 16 [5, 6, 10, 11, 13, 14, 15, 16] [.tmp 16 (.va 52)])) (.block
  3 (.seq (.seq (R 53 [5, 6, 13, 14, 79] [.tmp 79 (.or (.or (xb .geq (xld (.sl 14)) (xlen (xld (.sl 10)))) (.op (.p (.eqA true [.int, .int] (.s 0) (.s 1))) (.cons (xln 2 (.sl 15))
  (.op (.p (.build [.int .i64 0, .int .i64 0] [(0, 1, .s 0), (1, 1, .s 1)])) (.cons (xld (xfa 1 (xia 4 (xld (.sl 10)) (xld (.sl 14))))) (xld (xia 1 (xld (.sl 11)) (xld (.sl
  14))))))))) (xb .neq (.va 16) (xld (xfa 0 (xia 4 (xld (.sl 10)) (xld (.sl 14)))))))]) (.cond (.s 79) (.seq (R 999 [] [.run (xst 1 (.sl 6) (.cv (.bool false)))]) .ret) .skip))
  (.seq (R 80 [5, 13, 14] [.run (xst 1 (.sl 14) (xb .add (xld (.sl 14)) (xi 1)))]) (.seq (R 82 [88] [.tmp 88 (.and (xb .eql (xld (.sl 13)) (xi 0)) (xb .gtr (xld (.sl 14)) (xld (.sl
  5))))]) (.cond (.s 88) (.exit 2) .skip)))))))) (.seq (R 89 [5, 6, 10, 11, 12, 13, 96] [.tmp 96 (.and (xb .eql (xld (.sl 13)) (xi 1)) (xb .neq (xld (.sl 14)) (xlen (xld (.sl
  10)))))]) (.cond (.s 96) (.seq (R 999 [6] [.run (xst 1 (.sl 6) (.cv (.bool false)))]) .ret) .skip))))) (.seq (.seq (R 97 [5, 6, 10, 11, 12, 97] [.tmp 97 (xld (.sl 13))]) (R 13 [5,
  6, 10, 11, 12, 13] [.tmp 13 (xnh [.int .i64 0]), .run (xst 1 (.sl 13) (.sl 97))])) (R 48 [5, 6, 10, 11, 12, 13] [.run (xst 1 (.sl 13) (xb .add (xld (.sl 13)) (xi 1)))])))
def LF_guiselaw11_StripSeen : LFunc :=
  .mk 3 [.cell 6 none] (.seq (R 3 [1, 3, 5, 6] [.tmp 3 (xbl 3 8 (.sl 0)), .at 5, .tmp 5 (xbh 1 (.sl 2)), .tmp 6 (xnh [.bool false])]) (.seq (R 18 [1, 3, 5, 6, 7, 8, 9] [.set 17 (xc1
  9 (xln 8 (.sl 3))), .tmp 20 (xex 0 (.sl 17)), .tmp 21 (xex 1 (.sl 17)), .tmp 22 (xex 2 (.sl 17)), .set 7 (.sl 20), .set 8 (.sl 21), .set 9 (.sl 22)]) (.seq (.seq (R
  23 [1, 3, 5, 6, 7, 9, 24] [.tmp 24 (xu .not (.va 8))]) (.cond (.s 24) (.seq (R 25 [6] [.run (xst 1 (.sl 6) (.and (.va 9) (xc0 10)))]) .ret) .skip)) (.seq (R 29
  [1, 3, 5, 6, 7] [.set 1 (xc2 11 (.va 1) (xi 3000))]) (.seq (R 32 [1, 5, 6, 7, 10, 11] [.set 31 (xc2 12 (xln 8 (.sl 3)) (.va 1)), .tmp 35 (xex 0
  (.sl 31)), .tmp 36 (xex 1 (.sl 31)), .at 10, .tmp 10 (xnh [.slice none 0 0]), .tmp 11 (xnh [.slice none 0 0]), .run (xst 1 (.sl 10) (.sl 35)), .run (xst 1 (.sl 11) (.sl 36))])
  (.seq (R 37 [5, 6, 10, 11, 12] [.set 12 (xc2 13 (.va 7) (.va 1))]) (.seq (.seq (R 40 [5, 6, 10, 11, 12, 41] [.tmp 41 (.op (.p (.eqk false .func (.s 0) (.s 1))) (.cons
  (.va 12) (.cv .nilFunc)))]) (.cond (.s 41) (.seq (R 999 [6] [.run (xst 1 (.sl 6) (.cv (.bool false)))]) .ret) .skip)) (.seq (R 42 [5, 6, 10, 11, 12] [.run (xst 1 (.sl 5) (xc3
  14 (xld (.sl 5)) (xi 0) (xlen (xld (.sl 10)))))]) (.seq (.seq (R 13 [5, 6, 10, 11, 12, 13] [.tmp 13 (xnh [.int .i64 0]), .run (xst 1 (.sl 13) (xi 0))]) (.block 0
  (.loop LPround)))
  (.seq (R 98 [6] [.run (xst 1 (.sl 6) (xc0 10))]) .ret))))))))))
theorem fn_guiselaw11_StripSeen : (autoPrg Tryd.prog).fn 3 = some LF_guiselaw11_StripSeen := by kernel_rfl
end Go.Proofs.YtblmakgjdenpfaaDoor.AM
namespace Go.Proofs.YtblmakgjdenpfaaDoor.AM
open Go
theorem fnSfew : PX.fn 11 = some LFfew := px_fn (by kernel_rfl)
theorem stripSeenK_eq (k : Nat) (s : ByteArray) (h : AH) : callO PX 13 [.pointer (some ⟨k, 0, none⟩), .string s] h = some (.func (.func 37) #[] #[.pointer (some ⟨h.n, 0, none⟩), .pointer (some ⟨h.n + 1, 0, none⟩)], (h.push (.cells false [.pointer (some ⟨k, 0, none⟩)])).push (.cells false [.string s])) := by
  apply WpC.eqn
  refine wpc_fn (px_ext rfl) (px_fn fn_strip_Seen) rfl ?_
  unfold LF_strip_Seen
  simp only [argFr]
  (refine W_x trivial ?_; (repeat' first | apply Cj.mk | exact Nl.nl) <;> intros)
  exact ⟨rfl, rfl⟩
structure SeenD (p2 p3 k B : Nat) (s6 : Sl) (T : Tab) (s : ByteArray) (h : AH) : Prop where
  a : h.get p2 = some (.cells false [.pointer (some ⟨k, 0, none⟩)])
  b : h.get p3 = some (.cells false [.string s])
  bk : BkAt h k B s6 T
theorem SeenD.kp {p2 p3 k B : Nat} {s6 : Sl} {T : Tab} {s : ByteArray} {h h' : AH} (d : SeenD p2 p3 k B s6 T s h) (q : Kp h h') : SeenD p2 p3 k B s6 T s h' := ⟨q.get d.a, q.get d.b, d.bk.kp q⟩
theorem seen_seq {p2 p3 k B : Nat} {s6 : Sl} {T : Tab} (s : ByteArray) (hs : s.size ≤ 16777216) : SeqP PX (.func (.func 37) #[] #[.pointer (some ⟨p2, 0, none⟩), .pointer (some ⟨p3, 0, none⟩)]) (seenL (dropT T) s.data.toList) seenE (SeenD p2 p3 k B s6 T s) := by
  intro yv I E h hyv hvs hstep hD h0
  obtain ⟨d1, d2, _⟩ := hD _ _ h0
  have hset := hyv.set
  have hlc1 := hyv.lc1
  have hloc := hyv.loc
  obtain ⟨_, h', e1, hor⟩ := seen_spec s hs hyv hvs hstep (fun j h hI => (hD j h hI).bk) h0
  refine wpV_fn ?_
  refine wpc_fn (px_ext rfl) (px_fn fn_strip_Seen_1) rfl ?_
  unfold LF_strip_Seen_1
  simp only [argFr, List.nil_append, List.cons_append]
  (refine W_x (Aj hset (Aj hlc1 (Aj hloc (Aj d1 (Aj d2 e1))))) ?_; (repeat' first | apply Cj.mk | exact Nl.nl) <;> intros)
  exact hor
structure SnG (h0 g2 g3 : Nat) (k B : Nat) (s6 s1 s2 : Sl) (T : Tab) (y : ByteArray) (w : Int) (g : AH) : Prop where
  b5 : g.get h0 = some (.cells false [.int .i64 w])
  b6 : g.get (h0 + 1) = some (.cells false [.bool false])
  b10 : g.get g2 = some (.cells false [s1.val 4])
  b11 : g.get (g2 + 1) = some (.cells false [s2.val 1])
  d : SeenD g3 (g3 + 1) k B s6 T y g
  r1 : Reads g 4 s1 ((seenI (dropT T) y.data.toList).map fun i => spot4 (spotAt y.data.toList i))
  r2 : Reads g 1 s2 ((seenI (dropT T) y.data.toList).map intV)
theorem SnG.kp {h0 g2 g3 k B : Nat} {s6 s1 s2 : Sl} {T : Tab} {y : ByteArray} {w : Int} {g g' : AH} (s : SnG h0 g2 g3 k B s6 s1 s2 T y w g) (q : Kp g g') : SnG h0 g2 g3 k B s6 s1 s2 T y w g' :=
  ⟨q.get s.b5, q.get s.b6, q.get s.b10, q.get s.b11, s.d.kp q, s.r1.kp q, s.r2.kp q⟩
theorem spotAt_rune (l : Bytes) (i : Nat) : (spotAt l i).2.1 = (runesB l).getD i 0 := by
  unfold spotAt runesB
  simp only [List.getD_eq_getElem?_getD, List.getElem?_map]
  cases (spots l)[i]? <;> rfl
theorem seenRounds {h0 g2 g3 k B : Nat} {s6 s1 s2 : Sl} {T : Tab} {y : ByteArray} {w : Int} {g : AH} (hy : y.size ≤ 1048576) (s : SnG h0 g2 g3 k B s6 s1 s2 T y w g) (u : U8T g) (hg : 2 ≤ g.n) (w0 : 0 ≤ w) (w1 : w ≤ 2000000) {rb : Nat} (hr : g.get rb = some (.cells false [.int .i64 0])) :
    Wp PX (.loop LPround) [(5, .pointer (some ⟨h0, 0, none⟩)), (6, .pointer (some ⟨h0 + 1, 0, none⟩)), (10, .pointer (some ⟨g2, 0, none⟩)), (11, .pointer (some ⟨g2 + 1, 0, none⟩)), (12, .func (.func 37) #[] #[.pointer (some ⟨g3, 0, none⟩), .pointer (some ⟨g3 + 1, 0, none⟩)]), (13, .pointer (some ⟨rb, 0, none⟩))] [] g
      (blockQ 0 (thenQ PX (.seq (R 98 [6] [.run (xst 1 (.sl 6) (xc0 10))]) .ret) (retQ [.cell 6 none] fun v _ => v = .bool true))) := by
  unfold LPround
  have hyl : y.data.toList.length = y.size := rfl
  have hsp := spots_len y.data.toList
  have hle : (seenI (dropT T) y.data.toList).length ≤ 1048576 := by
    have h1 := seenL_len (dropT T) y.data.toList
    have h2 := kept_le (D := dropT T) y.data.toList
    unfold seenL at h1
    rw [List.length_map] at h1
    omega
  have sl1 : s1.len = _ := s.r1.1
  rw [List.length_map] at sl1
  have sl2 : s2.len = _ := s.r2.1
  rw [List.length_map] at sl2
  refine wp_loop (fun v fr lc g' => ∃ (i rb : Nat), v = 2 - i ∧ i ≤ 2 ∧ Kp g g' ∧ g'.get rb = some (.cells false [.int .i64 i]) ∧ fr = [(5, .pointer (some ⟨h0, 0, none⟩)), (6, .pointer (some ⟨h0 + 1, 0, none⟩)), (10, .pointer (some ⟨g2, 0, none⟩)), (11, .pointer (some ⟨g2 + 1, 0, none⟩)), (12, .func (.func 37) #[] #[.pointer (some ⟨g3, 0, none⟩), .pointer (some ⟨g3 + 1, 0, none⟩)]), (13, .pointer (some ⟨rb, 0, none⟩))] ∧ lc = []) 2
    ⟨0, rb, rfl, by omega, Kp.refl _, hr, rfl, rfl⟩ ?_
  rintro v fr lc g' ⟨i, rb, rfl, hi, kg, hrb, rfl, rfl⟩
  have s' := s.kp kg
  by_cases hi2 : i < 2
  · (refine W_x hrb ?_; (repeat' first | apply Cj.mk | exact Nl.nl) <;> intros)
    have c1 : ((g'.push (.cells false [.int .i64 0])).set g'.n (.cells false [.int .i64 0])).get g'.n = some (.cells false [.int .i64 0]) := AH.get_set_same _ (by rw [AH.push_n]; omega)
    have c2 : Kp g' ((g'.push (.cells false [.int .i64 0])).set g'.n (.cells false [.int .i64 0])) := ((Kp.refl g').push _).setNew _ (Nat.le_refl _)
    generalize ((g'.push (.cells false [.int .i64 0])).set g'.n (.cells false [.int .i64 0])) = g5 at *
    have ln5 := AH.get_lt c1
    have lrb := AH.get_lt hrb
    have after : ∀ (h1 : AH) (z : Int), Kp g' h1 → h1.get g'.n = some (.cells false [.int .i64 z]) → True := fun _ _ _ _ => trivial
    clear after
    refine wp_rangeP (xs := seenL (dropT T) y.data.toList) (enc := seenE) (D := SeenD g3 (g3 + 1) k B s6 T y) rfl (seen_seq y (by omega)) (fun _ => rfl)
      (fun j h1 => Kp g' h1 ∧ h1.get g'.n = some (.cells false [.int .i64 j]))
      (fun ex h1 => ex = .exit 2 ∧ i = 0 ∧ Kp g' h1 ∧ ∃ z : Int, h1.get g'.n = some (.cells false [.int .i64 z]))
      (fun x => [(5, .pointer (some ⟨h0, 0, none⟩)), (6, .pointer (some ⟨h0 + 1, 0, none⟩)), (10, .pointer (some ⟨g2, 0, none⟩)), (11, .pointer (some ⟨g2 + 1, 0, none⟩)), (13, .pointer (some ⟨rb, 0, none⟩)), (14, .pointer (some ⟨g'.n, 0, none⟩)), (15, .pointer (some ⟨30, 0, some 1⟩)), (16, .int .i32 x.2.2)])
      (fun x => [(30, .cells false [.int .i64 x.1, .int .i64 x.2.1])]) ?_ ?_ ?_ ?_ ?_ ?_ ?_ ?_
    · rintro j h1 h2 ⟨f1, f2⟩ kk
      exact ⟨⟨by rw [kk.n]; exact f1.1, fun b hb => by rw [kk.get b (by omega)]; exact f1.2 b hb⟩, by rw [kk.get _ (by omega)]; exact f2⟩
    · rintro ex h1 h2 ⟨rfl, f0, f1, z, f2⟩ kk
      exact ⟨rfl, f0, ⟨by rw [kk.n]; exact f1.1, fun b hb => by rw [kk.get b (by omega)]; exact f1.2 b hb⟩, z, by rw [kk.get _ (by omega)]; exact f2⟩
    · exact fun j h1 f => s'.d.kp f.1
    · intro x h1
      unfold seenE placeV
      simp only [List.zip_cons_cons, List.zip_nil_right, List.reverse_cons, List.reverse_nil, List.nil_append, List.cons_append, okFr_cons, okFr_nil, okV_eq, isLoc_ptr, isLoc_func, Bool.not_false, if_true]
      (refine W_x trivial ?_; (repeat' first | apply Cj.mk | exact Nl.nl) <;> intros)
      exact ⟨rfl, rfl, rfl, rfl⟩
    · intro o
      exact ⟨c2.push o, by rw [AH.get_push_ne _ (by omega)]; exact c1⟩
    · rintro j hj h1 o ⟨f1, f2⟩ ho
      have lo := AH.get_lt ho
      have sk := s'.kp f1
      have q5 := sk.b5
      have q6 := sk.b6
      have q10 := sk.b10
      have q11 := sk.b11
      have qrb := f1.get hrb
      have hjI : j < (seenI (dropT T) y.data.toList).length := by unfold seenL at hj; rw [List.length_map] at hj; exact hj
      have r0 := fun lc => rd_mapc (lc := lc) sk.r1 hjI (k := 0) (by decide)
      have r1 := fun lc => rd_mapc (lc := lc) sk.r1 hjI (k := 1) (by decide)
      have r2 := fun lc => rd_map (lc := lc) sk.r2 hjI
      have hx : (seenL (dropT T) y.data.toList)[j] = (posn y.data.toList (seenI (dropT T) y.data.toList)[j], (seenI (dropT T) y.data.toList)[j], (runesB y.data.toList).getD (seenI (dropT T) y.data.toList)[j] 0) := by
        simp [seenL]
      rw [hx]
      have hru := spotAt_rune y.data.toList (seenI (dropT T) y.data.toList)[j]
      generalize (seenI (dropT T) y.data.toList)[j] = idx at *
      unfold spot4 at r0 r1
      rw [hru] at r0
      rw [show (spotAt y.data.toList idx).1 = posn y.data.toList idx from rfl] at r1
      generalize (runesB y.data.toList).getD idx 0 = rn at *
      generalize posn y.data.toList idx = ps at *
      unfold intV at r2
      simp only [List.drop_succ_cons, List.drop_zero, List.take_succ_cons, List.take_zero] at r0 r1
      have ln2 := AH.get_lt f2
      have lg := f1.1
      have l5 := AH.get_lt s'.b5
      have l6 := AH.get_lt s'.b6
      have l10 := AH.get_lt s'.b10
      have l11 := AH.get_lt s'.b11
      dsimp only
      obtain rfl | rfl : i = 0 ∨ i = 1 := by omega
      · by_cases hst : w < (j : Int) + 1
        · (refine W_x (Aj f2 (Aj q5 (Aj q6 (Aj q10 (Aj q11 (Aj qrb (Aj sl1 (Aj sl2 (Aj r0 (Aj r1 r2)))))))))) ?_; (repeat' first | apply Cj.mk | exact Nl.nl) <;> intros)
          exact ⟨by rw [AH.get_set_ne _ (by omega)]; exact ho, rfl, rfl, f1.setNew _ (Nat.le_refl _), _, AH.get_set_same _ ln2⟩
        · (refine W_x (Aj f2 (Aj q5 (Aj q6 (Aj q10 (Aj q11 (Aj qrb (Aj sl1 (Aj sl2 (Aj r0 (Aj r1 r2)))))))))) ?_; (repeat' first | apply Cj.mk | exact Nl.nl) <;> intros)
          exact ⟨by rw [AH.get_set_ne _ (by omega)]; exact ho, f1.setNew _ (Nat.le_refl _), AH.get_set_same _ ln2⟩
      · (refine W_x (Aj f2 (Aj q5 (Aj q6 (Aj q10 (Aj q11 (Aj qrb (Aj sl1 (Aj sl2 (Aj r0 (Aj r1 r2)))))))))) ?_; (repeat' first | apply Cj.mk | exact Nl.nl) <;> intros)
        exact ⟨by rw [AH.get_set_ne _ (by omega)]; exact ho, f1.setNew _ (Nat.le_refl _), AH.get_set_same _ ln2⟩
    · rintro h1 ⟨f1, f2⟩
      have sk := s'.kp f1
      have q10 := sk.b10
      have qrb := f1.get hrb
      have hlen : (seenL (dropT T) y.data.toList).length = (seenI (dropT T) y.data.toList).length := by simp [seenL]
      rw [hlen] at f2
      obtain rfl | rfl : i = 0 ∨ i = 1 := by omega
      · (refine W_x (Aj f2 (Aj q10 (Aj qrb sl1))) ?_; (repeat' first | apply Cj.mk | exact Nl.nl) <;> intros)
        exact ⟨1, by omega, 1, h1.n, rfl, by omega, (kg.trans f1).trans (((Kp.refl h1).push _).setNew _ (Nat.le_refl _) |>.setNew _ (Nat.le_refl _)), by simp (disch := first | omega | (simp only [AH.nn_push, AH.nn_set, AH.nn_kill]; omega) | (simp only [AH.nn_push, AH.nn_set, AH.nn_kill]; done) | fail) only [AH.get_push_eq, AH.get_push_ne, AH.get_set_eq, AH.get_set_ne]; rfl, rfl, rfl⟩
      · (refine W_x (Aj f2 (Aj q10 (Aj qrb sl1))) ?_; (repeat' first | apply Cj.mk | exact Nl.nl) <;> intros)
        exact ⟨0, by omega, 2, h1.n, rfl, by omega, (kg.trans f1).trans (((Kp.refl h1).push _).setNew _ (Nat.le_refl _) |>.setNew _ (Nat.le_refl _)), by simp (disch := first | omega | (simp only [AH.nn_push, AH.nn_set, AH.nn_kill]; omega) | (simp only [AH.nn_push, AH.nn_set, AH.nn_kill]; done) | fail) only [AH.get_push_eq, AH.get_push_ne, AH.get_set_eq, AH.get_set_ne]; rfl, rfl, rfl⟩
    · rintro ex h1 hne ⟨rfl, rfl, f1, z, f2⟩
      have qrb := f1.get hrb
      (refine W_x (Aj f2 qrb) ?_; (repeat' first | apply Cj.mk | exact Nl.nl) <;> intros)
      exact ⟨1, by omega, 1, h1.n, rfl, by omega, (kg.trans f1).trans (((Kp.refl h1).push _).setNew _ (Nat.le_refl _) |>.setNew _ (Nat.le_refl _)), by simp (disch := first | omega | (simp only [AH.nn_push, AH.nn_set, AH.nn_kill]; omega) | (simp only [AH.nn_push, AH.nn_set, AH.nn_kill]; done) | fail) only [AH.get_push_eq, AH.get_push_ne, AH.get_set_eq, AH.get_set_ne]; rfl, rfl, rfl⟩
  · have hi3 : i = 2 := by omega
    subst hi3
    obtain ⟨_, g9, e9, rfl, k9⟩ := known11_spec (u.kp kg) (Nat.le_trans hg kg.1)
    have f6 := k9.get s'.b6
    have l6 := AH.get_lt f6
    (refine W_x (Aj hrb (Aj e9 f6)) ?_; (repeat' first | apply Cj.mk | exact Nl.nl) <;> intros)
    rfl
theorem stripSeen_run {h : AH} (u : U8T h) (hg : 2 ≤ h.n) {S : TS} {T : Tab} (t : TabAt h S T) (x : ByteArray) (hx : x.size ≤ 1048576) (n : Int) (hn1 : -9223372036854775808 ≤ n) (hn2 : n < 9223372036854775808) :
    WpC PX 3 [.agg S.vs.toArray, .string x, .int .i64 n] h fun v _ => v = .bool true := by
  have k0 : Kp h ((h.push (.cells false [.int .i64 n])).push (.cells false [.bool false])) := ((Kp.refl h).push _).push _
  have b5 : ((h.push (.cells false [.int .i64 n])).push (.cells false [.bool false])).get h.n = some (.cells false [.int .i64 n]) := by simp (disch := first | omega | (simp only [AH.nn_push, AH.nn_set, AH.nn_kill]; omega) | (simp only [AH.nn_push, AH.nn_set, AH.nn_kill]; done) | fail) only [AH.get_push_eq, AH.get_push_ne, AH.get_set_eq, AH.get_set_ne]
  have b6 : ((h.push (.cells false [.int .i64 n])).push (.cells false [.bool false])).get (h.n + 1) = some (.cells false [.bool false]) := by simp (disch := first | omega | (simp only [AH.nn_push, AH.nn_set, AH.nn_kill]; omega) | (simp only [AH.nn_push, AH.nn_set, AH.nn_kill]; done) | fail) only [AH.get_push_eq, AH.get_push_ne, AH.get_set_eq, AH.get_set_ne, AH.push_n]
  have n0 : ((h.push (.cells false [.int .i64 n])).push (.cells false [.bool false])).n = h.n + 2 := rfl
  refine wpc_fn (px_ext rfl) (px_fn fn_guiselaw11_StripSeen) rfl ?_
  unfold LF_guiselaw11_StripSeen
  simp only [argFr]
  unfold TS.vs
  (refine W_x trivial ?_; (repeat' first | apply Cj.mk | exact Nl.nl) <;> intros)
  generalize ((h.push (.cells false [.int .i64 n])).push (.cells false [.bool false])) = h0 at *
  obtain ⟨_, g1, e1, k1, q⟩ := of_spec (t.kp k0) (u.kp k0) (Nat.le_trans hg k0.1)
  unfold TS.vs at e1
  by_cases hb : goodB T = true
  · rw [if_pos hb] at q
    obtain ⟨k, B, S1, rfl, bk, hB1, hB2⟩ := q
    have e2 := fewG_eq fnSfew (px_ext rfl) x hx (m := 3000) 3000 rfl (by decide) g1
    have fl := few_size (n := 3000) hx
    generalize fewB x 3000 = y at e2 fl
    obtain ⟨_, g2, e3, s1, s2, rfl, tw⟩ := ref11Seen_spec ((t.kp k0).kp k1) hb y fl
    unfold TS.vs at e3
    (refine W_x (Aj e1 (Aj e2 e3)) ?_; (repeat' first | apply Cj.mk | exact Nl.nl) <;> intros)
    have k3 : Kp g2 ((((g2.push (.cells false [.slice none 0 0])).push (.cells false [.slice none 0 0])).set g2.n (.cells false [s1.val 4])).set (g2.n + 1) (.cells false [s2.val 1])) := ((((Kp.refl g2).push _).push _).setNew _ (Nat.le_refl _)).setNew _ (by omega)
    have b10 : ((((g2.push (.cells false [.slice none 0 0])).push (.cells false [.slice none 0 0])).set g2.n (.cells false [s1.val 4])).set (g2.n + 1) (.cells false [s2.val 1])).get g2.n = some (.cells false [s1.val 4]) := by simp (disch := first | omega | (simp only [AH.nn_push, AH.nn_set, AH.nn_kill]; omega) | (simp only [AH.nn_push, AH.nn_set, AH.nn_kill]; done) | fail) only [AH.get_push_eq, AH.get_push_ne, AH.get_set_eq, AH.get_set_ne, AH.push_n, AH.set_n]
    have b11 : ((((g2.push (.cells false [.slice none 0 0])).push (.cells false [.slice none 0 0])).set g2.n (.cells false [s1.val 4])).set (g2.n + 1) (.cells false [s2.val 1])).get (g2.n + 1) = some (.cells false [s2.val 1]) := by simp (disch := first | omega | (simp only [AH.nn_push, AH.nn_set, AH.nn_kill]; omega) | (simp only [AH.nn_push, AH.nn_set, AH.nn_kill]; done) | fail) only [AH.get_push_eq, AH.get_push_ne, AH.get_set_eq, AH.get_set_ne, AH.push_n, AH.set_n]
    generalize ((((g2.push (.cells false [.slice none 0 0])).push (.cells false [.slice none 0 0])).set g2.n (.cells false [s1.val 4])).set (g2.n + 1) (.cells false [s2.val 1])) = g3 at *
    have e4 := stripSeenK_eq k y g3
    have k4 : Kp g3 ((g3.push (.cells false [.pointer (some ⟨k, 0, none⟩)])).push (.cells false [.string y])) := ((Kp.refl _).push _).push _
    have d1 : ((g3.push (.cells false [.pointer (some ⟨k, 0, none⟩)])).push (.cells false [.string y])).get g3.n = some (.cells false [.pointer (some ⟨k, 0, none⟩)]) := by simp (disch := first | omega | (simp only [AH.nn_push, AH.nn_set, AH.nn_kill]; omega) | (simp only [AH.nn_push, AH.nn_set, AH.nn_kill]; done) | fail) only [AH.get_push_eq, AH.get_push_ne, AH.get_set_eq, AH.get_set_ne]
    have d2 : ((g3.push (.cells false [.pointer (some ⟨k, 0, none⟩)])).push (.cells false [.string y])).get (g3.n + 1) = some (.cells false [.string y]) := by simp (disch := first | omega | (simp only [AH.nn_push, AH.nn_set, AH.nn_kill]; omega) | (simp only [AH.nn_push, AH.nn_set, AH.nn_kill]; done) | fail) only [AH.get_push_eq, AH.get_push_ne, AH.get_set_eq, AH.get_set_ne, AH.push_n]
    generalize ((g3.push (.cells false [.pointer (some ⟨k, 0, none⟩)])).push (.cells false [.string y])) = g4 at *
    have k24 := k3.trans k4
    have k14 := tw.kp.trans k24
    have k04 := k1.trans k14
    have b5' := k04.get b5
    have b6' := k04.get b6
    have b10' := k4.get b10
    have b11' := k4.get b11
    have hyl : y.data.toList.length = y.size := rfl
    have hsn := spots_len y.data.toList
    have hkl := kept_le (D := dropT T) y.data.toList
    have sl1 : s1.len = _ := tw.o1.1
    rw [List.length_map, show (seenI (dropT T) y.data.toList).length = (keptR (dropT T) y.data.toList).length by rw [← seenL_len]; simp [seenL]] at sl1
    have ew := within_eq n 0 ((keptR (dropT T) y.data.toList).length : Nat) (by omega) (by decide) (by omega) g4
    obtain ⟨w1, w2⟩ := within_range (n := n) (lo := 0) (hi := ((keptR (dropT T) y.data.toList).length : Nat)) (by omega)
    generalize withinI n 0 ((keptR (dropT T) y.data.toList).length : Nat) = w at ew w1 w2
    have hl5 := AH.get_lt b5'
    have hn0 := k1.1
    have hn1' := tw.kp.1
    have hn2' := k3.1
    have hn3' := k4.1
    have lb10 := AH.get_lt b10
    have lb11 := AH.get_lt b11
    have hBg := (bk.kp k14).bk
    have r1 : Reads g4 4 s1 ((seenI (dropT T) y.data.toList).map fun i => spot4 (spotAt y.data.toList i)) := tw.o1.reads.kp k24
    have r2 : Reads g4 1 s2 ((seenI (dropT T) y.data.toList).map intV) := tw.o2.reads.kp k24
    have sg : SnG h.n g2.n g3.n k B S1.s6 s1 s2 T y w (g4.set h.n (.cells false [.int .i64 w])) := by
      refine ⟨AH.get_set_same _ hl5, ?_, ?_, ?_, ⟨?_, ?_, ?_⟩, ?_, ?_⟩
      · rw [AH.get_set_ne _ (by omega)]; exact b6'
      · rw [AH.get_set_ne _ (by omega)]; exact b10'
      · rw [AH.get_set_ne _ (by omega)]; exact b11'
      · rw [AH.get_set_ne _ (by omega)]; exact d1
      · rw [AH.get_set_ne _ (by omega)]; exact d2
      · obtain ⟨x0, x1, x2, x3, x4, x5, x7, eb⟩ := hBg.b
        exact ⟨⟨x0, x1, x2, x3, x4, x5, x7, by rw [AH.get_set_ne _ (by omega)]; exact eb⟩, ⟨by rw [AH.get_set_ne _ (by omega)]; exact hBg.mp.m1, by rw [AH.get_set_ne _ (by omega)]; exact hBg.mp.m2, by rw [AH.get_set_ne _ (by omega)]; exact hBg.mp.m3, by rw [AH.get_set_ne _ (by omega)]; exact hBg.mp.m4, by rw [AH.get_set_ne _ (by omega)]; exact hBg.mp.m5⟩,
          reads_setOne hBg.r6 b5' (by decide), hBg.n6, hBg.ok, hBg.cl⟩
      · exact reads_setOne r1 b5' (by decide)
      · exact r2.keep fun b e => AH.get_set_ne _ (by have := (tw.n2 b e).1; omega)
    have kA : Kp h (g4.set h.n (.cells false [.int .i64 w])) := (k0.trans k04).setNew _ (Nat.le_refl _)
    have nA : (g4.set h.n (.cells false [.int .i64 w])).n = g4.n := rfl
    (refine W_x (Aj e4 (Aj b5' (Aj b10' (Aj sl1 ew)))) ?_; (repeat' first | apply Cj.mk | exact Nl.nl) <;> intros)
    generalize (g4.set h.n (.cells false [.int .i64 w])) = gA at *
    have c1 : ((gA.push (.cells false [.int .i64 0])).set gA.n (.cells false [.int .i64 0])).get gA.n = some (.cells false [.int .i64 0]) := AH.get_set_same _ (by rw [AH.push_n]; omega)
    have c2 : Kp gA ((gA.push (.cells false [.int .i64 0])).set gA.n (.cells false [.int .i64 0])) := ((Kp.refl gA).push _).setNew _ (Nat.le_refl _)
    rw [nA] at c1 c2
    generalize ((gA.push (.cells false [.int .i64 0])).set g4.n (.cells false [.int .i64 0])) = g5 at *
    have kh := kA.trans c2
    exact seenRounds fl (sg.kp c2) (u.kp kh) (Nat.le_trans hg kh.1) w1 (by omega) c1
  · rw [if_neg hb] at q
    subst q
    obtain ⟨_, g4, e7, rfl, k4⟩ := known11_spec (u.kp (k0.trans k1)) (Nat.le_trans hg (k0.trans k1).1)
    have f6 := (k1.trans k4).get b6
    have l6 := AH.get_lt f6
    (refine W_x (Aj e1 (Aj e7 f6)) ?_; (repeat' first | apply Cj.mk | exact Nl.nl) <;> intros)
    rfl
end Go.Proofs.YtblmakgjdenpfaaDoor.AM
