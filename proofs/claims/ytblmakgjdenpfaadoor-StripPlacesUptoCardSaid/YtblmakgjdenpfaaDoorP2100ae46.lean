/- Parts of proofs: lemmas, joined. -/
import Derived.Test.YtblmakgjdenpfaaDoorP97771571
set_option linter.unusedVariables false
set_option linter.unusedSimpArgs false
set_option linter.unusedSectionVars false
namespace Go.Proofs.YtblmakgjdenpfaaDoor.AM
open Go
def dropT (T : Tab) (c : Nat) : Bool := ofI (c : Int) T.drops
def placeV (a b : Nat) : Value := .agg (List.toArray [.int .i64 a, .int .i64 b])
def seenE (x : Nat × Nat × Nat) : List Value := [placeV x.1 x.2.1, .int .i32 x.2.2]
theorem seen_spec {k B : Nat} {s6 : Sl} {T : Tab} (s : ByteArray) (hs : s.size ≤ 16777216) {yv : Value} {I : Nat → AH → Prop} {E : AH → Prop} {h : AH} (hyv : IsF yv) (hvs : vsame yv yv = true)
    (hstep : ∀ j (hj : j < (seenL (dropT T) s.data.toList).length) h, I j h → WpV PX yv (seenE (seenL (dropT T) s.data.toList)[j]) h fun v h' => (v = .bool true ∧ I (j + 1) h') ∨ (v = .bool false ∧ E h'))
    (hbk : ∀ j h, I j h → BkAt h k B s6 T) (h0 : I 0 h) : WpC PX 38 [.pointer (some ⟨k, 0, none⟩), .string s, yv] h fun _ h' => I (seenL (dropT T) s.data.toList).length h' ∨ E h' := by
  have hset := hyv.set
  have hlc1 := hyv.lc1
  obtain ⟨l, hl⟩ : ∃ l, l = s.data.toList := ⟨_, rfl⟩
  rw [← hl] at hstep ⊢
  have hll : l.length = s.size := by rw [hl]; rfl
  have hn := spots_len l
  refine wpc_fn (px_ext rfl) (px_fn fn_strip_seen) rfl ?_
  unfold LF_strip_seen
  simp only [argFr]
  (refine W_x (Aj hset (Aj hlc1 @ev_rngS)) ?_; (repeat' first | apply Cj.mk | exact Nl.nl) <;> intros)
  refine wp_spotsS (fun i _ => [(0, .pointer (some ⟨k, 0, none⟩)), (2, yv), (6, .int .i64 ((i : Int) - 1)), (12, .pointer (some ⟨24, 0, some 1⟩))]) (fun n _ => [(24, .siter s n)]) s l (fun i _ h1 => I (seenN (dropT T) l i) h1) (fun _ _ => (none : Option Unit)) () hl (by repeat' first | exact True.intro | refine And.intro rfl ?_) (fun _ _ => rfl) rfl h0 (fun i hil _ h1 hI hit => ?_) fun _ h1 hI fin => ?_
  · have e1 := dropped_eq (hbk _ _ hI) ((spots l)[i].1 : Nat)
    have m0 := seenN_drop (D := dropT T) hil
    have m1 := seenN_more (D := dropT T) hil
    unfold dropT at m0 m1
    have hp : (i : Int) - 1 + 1 = i := by omega
    have hp2 : ((i + 1 : Nat) : Int) - 1 = i := by omega
    (refine W_x (Aj hset hlc1) ?_; (repeat' first | apply Cj.mk | exact Nl.nl) <;> intros)
    refine wo_next hl rfl hil ?_
    generalize (spots l)[i] = x at e1 m0 m1
    cases hd : ofI (x.1 : Int) T.drops
    · obtain ⟨n1, hj, hg⟩ := m1 hd
      have hst := hstep _ hj h1 hI
      unfold dropT at hst
      rw [hg] at hst
      unfold seenE placeV at hst
      rw [hd] at e1
      simp only at hst
      (refine W_x (Aj hset (Aj hlc1 (Aj e1 hp))) ?_; (repeat' first | apply Cj.mk | exact Nl.nl) <;> intros)
      refine wo_callV (fv := yv) rfl rfl rfl ?_
      refine hst.mono ?_
      rintro v h2 (⟨rfl, hI2⟩ | ⟨rfl, hE⟩)
      · (refine W_x (Aj hset hlc1) ?_; (repeat' first | apply Cj.mk | exact Nl.nl) <;> intros)
        exact ⟨rfl, (), by rw [hp2]; exact (by repeat' first | exact True.intro | refine And.intro rfl ?_), rfl, by unfold dropT; rw [n1]; exact hI2⟩
      · (refine W_x (Aj hset hlc1) ?_; (repeat' first | apply Cj.mk | exact Nl.nl) <;> intros)
        exact .inr hE
    · rw [hd] at e1
      (refine W_x (Aj hset (Aj hlc1 (Aj e1 hp))) ?_; (repeat' first | apply Cj.mk | exact Nl.nl) <;> intros)
      exact ⟨rfl, (), by rw [hp2]; exact (by repeat' first | exact True.intro | refine And.intro rfl ?_), rfl, by unfold dropT; rw [m0 hd]; exact hI⟩
  · (refine W_x (Aj hset hlc1) ?_; (repeat' first | apply Cj.mk | exact Nl.nl) <;> intros)
    refine wo_nextE hl rfl ?_
    rw [seenN_all] at hI
    (refine W_x (Aj hset hlc1) ?_; (repeat' first | apply Cj.mk | exact Nl.nl) <;> intros)
    exact .inl hI
end Go.Proofs.YtblmakgjdenpfaaDoor.AM
namespace Go.Proofs.YtblmakgjdenpfaaDoor.AM
open Go
theorem vsame_fn1 (f : FuncId) (b : Nat) : vsame (.func (.func f) #[] #[.pointer (some ⟨b, 0, none⟩)]) (.func (.func f) #[] #[.pointer (some ⟨b, 0, none⟩)]) = true := by
  simp [vsame, vsame1, vsame0, vsameL]
structure Bld1 (h0 h : AH) (X : Bytes) : Prop where
  kp : Kp h0 h
  bd : ∃ g, BldAt h h0.n g X ∧ (g = none ∨ ∃ x, g = some x ∧ h0.n < x)
theorem Bld1.start (h : AH) : Bld1 h (h.push (.tc 169 [.pointer none, .slice none 0 0])) [] :=
  ⟨(Kp.refl h).push _, none, ⟨⟨_, AH.get_push_same _ _, .inl rfl⟩, rfl, fun e => by cases e⟩, .inl rfl⟩
theorem Bld1.lt {h0 h : AH} {X : Bytes} (b : Bld1 h0 h X) : h0.n < h.n := by
  obtain ⟨g, bd, _⟩ := b.bd
  obtain ⟨p, hp, _⟩ := bd.p
  exact AH.get_lt hp
theorem Bld1.rune {h0 h : AH} {X : Bytes} (b : Bld1 h0 h X) {c : Nat} (hc : RuneN c) (hn : X.length ≤ 140737488355000) :
    ∃ v h', callO PX 41 [.pointer (some ⟨h0.n, 0, none⟩), .int .i32 c] h = some (v, h') ∧ Bld1 h0 h' (X ++ encN c) := by
  have hlt := b.lt
  obtain ⟨kp, g, bd, hg⟩ := b
  obtain ⟨v, h', e, g', bd', fr⟩ := writeRune_spec hc bd hn
  refine ⟨v, h', e, ⟨Nat.le_trans kp.1 fr.n, fun c hc => (fr.keep c (by omega) (by omega) ?_).trans (kp.2 c hc)⟩, g', bd', ?_⟩
  · rcases hg with rfl | ⟨x, rfl, hx⟩
    · intro e; cases e
    · intro e; injection e with e; omega
  · rcases fr.new with rfl | ⟨x, rfl, hx⟩
    · exact hg
    · exact .inr ⟨x, rfl, by omega⟩
theorem Bld1.str {h0 h : AH} {X : Bytes} (b : Bld1 h0 h X) (hn : X.length ≤ 140737488355000) :
    ∃ h', callO PX 42 [.pointer (some ⟨h0.n, 0, none⟩)] h = some (.string (bs X), h') ∧ Kp h0 h' := by
  obtain ⟨kp, g, bd, hg⟩ := b
  refine ⟨_, bldString_spec bd (by omega), by rw [killO_n]; exact kp.1, fun c hc => ?_⟩
  rw [killO_get ?_]
  · exact kp.2 c hc
  · rcases hg with rfl | ⟨x, rfl, hx⟩
    · intro e; cases e
    · intro e; injection e with e; omega
def stripT (T : Tab) (l : Bytes) : Bytes := stripB (dropT T) l
theorem kept_take {D : Nat → Bool} {l : Bytes} {j : Nat} (hj : j < (seenL D l).length) : RuneN ((seenL D l)[j]).2.2 ∧ encs ((keptR D l).take (j + 1)) = encs ((keptR D l).take j) ++ encN ((seenL D l)[j]).2.2 := by
  have h1 : (keptR D l)[j]? = some ((seenL D l)[j]).2.2 := by
    rw [← seenI_map, List.getElem?_map, List.getElem?_eq_getElem hj]
    rfl
  obtain ⟨h2, h3⟩ := List.getElem?_eq_some_iff.1 h1
  rw [← h3]
  exact ⟨kept_rune l _ (List.getElem_mem h2), by rw [take_snoc h2, encs_snoc]⟩
theorem encs_take_le {D : Nat → Bool} (l : Bytes) (j : Nat) : (encs ((keptR D l).take j)).length ≤ 4 * l.length := by
  have h1 := encs_lenle ((keptR D l).take j)
  have h2 := kept_le (D := D) l
  have h3 := spots_len l
  rw [List.length_take] at h1
  omega
theorem strip_spec {h : AH} {k B : Nat} {s6 : Sl} {T : Tab} (bk : BkAt h k B s6 T) (s : ByteArray) (hs : s.size ≤ 16777216) : WpC PX 16 [.pointer (some ⟨k, 0, none⟩), .string s] h fun v h' => v = .string (bs (stripT T s.data.toList)) ∧ Kp h h' := by
  have hll : s.data.toList.length = s.size := rfl
  have hle := fun j => encs_take_le (D := dropT T) s.data.toList j
  obtain ⟨_, h2, e1, hor⟩ := seen_spec (T := T) (k := k) (B := B) (s6 := s6) s hs (yv := .func (.func 40) #[] #[.pointer (some ⟨h.n, 0, none⟩)])
    (I := fun j h1 => Bld1 h h1 (encs ((keptR (dropT T) s.data.toList).take j))) (E := fun _ => False) ⟨_, _, _, rfl⟩ (vsame_fn1 _ _) (fun j hj h1 hI => by
      obtain ⟨hr, ht⟩ := kept_take hj
      generalize (seenL (dropT T) s.data.toList)[j] = x at hr ht
      obtain ⟨_, h2, e, b2⟩ := hI.rune hr (by have := hle j; omega)
      rw [← ht] at b2
      refine wpV_fn ?_
      refine wpc_fn (px_ext rfl) (px_fn fn_strip_Strip_1) rfl ?_
      unfold LF_strip_Strip_1 seenE placeV
      simp only [argFr, List.nil_append, List.cons_append]
      (refine W_x e ?_; (repeat' first | apply Cj.mk | exact Nl.nl) <;> intros)
      exact .inl ⟨rfl, b2⟩) (fun j h1 hI => bk.kp hI.kp) (Bld1.start h)
  have b2 := hor.resolve_right id
  rw [seenL_len, List.take_length] at b2
  obtain ⟨h3, e3, k3⟩ := b2.str (by have := hle (keptR (dropT T) s.data.toList).length; rw [List.take_length] at this; omega)
  refine wpc_fn (px_ext rfl) (px_fn fn_strip_Strip) rfl ?_
  unfold LF_strip_Strip
  simp only [argFr]
  (refine W_x (Aj e1 e3) ?_; (repeat' first | apply Cj.mk | exact Nl.nl) <;> intros)
  exact ⟨rfl, k3⟩
theorem stripCount_spec {h : AH} {k B : Nat} {s6 : Sl} {T : Tab} (bk : BkAt h k B s6 T) (s : ByteArray) (hs : s.size ≤ 16777216) : WpC PX 17 [.pointer (some ⟨k, 0, none⟩), .string s] h fun v h' => v = .int .i64 (((spots s.data.toList).length - (keptR (dropT T) s.data.toList).length : Nat) : Int) ∧ Kp h h' := by
  have hll : s.data.toList.length = s.size := rfl
  have hn := spots_len s.data.toList
  have hkl := kept_le (D := dropT T) s.data.toList
  have e0 := utfCount_eq s hs
  have hb0 : ((h.push (.cells false [.int .i64 0])).set h.n (.cells false [.int .i64 (spots s.data.toList).length])).get h.n = some (.cells false [.int .i64 (spots s.data.toList).length]) := AH.get_set_same _ (by rw [AH.push_n]; omega)
  have hk0 : Kp h ((h.push (.cells false [.int .i64 0])).set h.n (.cells false [.int .i64 (spots s.data.toList).length])) := ((Kp.refl h).push _).setNew _ (Nat.le_refl _)
  obtain ⟨_, h2, e1, hor⟩ := seen_spec (T := T) (k := k) (B := B) (s6 := s6) s hs (yv := .func (.func 43) #[] #[.pointer (some ⟨h.n, 0, none⟩)])
    (I := fun j h1 => Kp h h1 ∧ j ≤ (spots s.data.toList).length ∧ h1.get h.n = some (.cells false [.int .i64 ((spots s.data.toList).length - j : Int)])) (E := fun _ => False) ⟨_, _, _, rfl⟩ (vsame_fn1 _ _) (fun j hj h1 hI => by
      obtain ⟨k1, hj1, b1⟩ := hI
      have hj2 : j < (keptR (dropT T) s.data.toList).length := by rw [← seenL_len]; exact hj
      have hlt := AH.get_lt b1
      generalize (seenL (dropT T) s.data.toList)[j] = x
      refine wpV_fn ?_
      refine wpc_fn (px_ext rfl) (px_fn fn_strip_Count_1) rfl ?_
      unfold LF_strip_Count_1 seenE placeV
      simp only [argFr, List.nil_append, List.cons_append]
      have hN : (spots s.data.toList).length ≤ 16777216 := by omega
      generalize (spots s.data.toList).length = N at *
      (refine W_x b1 ?_; (repeat' first | apply Cj.mk | exact Nl.nl) <;> intros)
      refine .inl ⟨rfl, k1.setNew _ (Nat.le_refl _), by omega, ?_⟩
      rw [AH.get_set_same _ hlt, show (N : Int) - (j : Int) - 1 = (N : Int) - ((j + 1 : Nat) : Int) by omega]) (fun j h1 hI => bk.kp hI.1) ⟨hk0, Nat.zero_le _, by rw [hb0]; simp⟩
  obtain ⟨k2, hle, b2⟩ := hor.resolve_right id
  rw [seenL_len] at b2
  have hsub : ((spots s.data.toList).length : Int) - ((keptR (dropT T) s.data.toList).length : Int) = (((spots s.data.toList).length - (keptR (dropT T) s.data.toList).length : Nat) : Int) := by omega
  rw [hsub] at b2
  generalize (spots s.data.toList).length - (keptR (dropT T) s.data.toList).length = r at *
  refine wpc_fn (px_ext rfl) (px_fn fn_strip_Count) rfl ?_
  unfold LF_strip_Count
  simp only [argFr]
  (refine W_x (Aj e0 (Aj e1 b2)) ?_; (repeat' first | apply Cj.mk | exact Nl.nl) <;> intros)
  exact ⟨rfl, k2⟩
end Go.Proofs.YtblmakgjdenpfaaDoor.AM
namespace Go.Proofs.YtblmakgjdenpfaaDoor.AM
open Go
theorem vsame_fn3 (f : FuncId) (a b c : Nat) : vsame (.func (.func f) #[] #[.pointer (some ⟨a, 0, none⟩), .pointer (some ⟨b, 0, none⟩), .pointer (some ⟨c, 0, none⟩)]) (.func (.func f) #[] #[.pointer (some ⟨a, 0, none⟩), .pointer (some ⟨b, 0, none⟩), .pointer (some ⟨c, 0, none⟩)]) = true := by
  simp [vsame, vsame1, vsame0, vsameL]
structure PlI (h h1 : AH) (z : Int) (f : Bool) (a b : Int) : Prop where
  kp : Kp h h1
  b0 : h1.get h.n = some (.cells false [.int .i64 z])
  b1 : h1.get (h.n + 1) = some (.cells false [.int .i64 a, .int .i64 b])
  b2 : h1.get (h.n + 2) = some (.cells false [.bool f])
theorem stripPlace_spec {h : AH} {k B : Nat} {s6 : Sl} {T : Tab} (bk : BkAt h k B s6 T) (s : ByteArray) (hs : s.size ≤ 16777216) (n : Int) (hn1 : -9223372036854775808 ≤ n) (hn2 : n < 9223372036854775808) :
    WpC PX 18 [.pointer (some ⟨k, 0, none⟩), .string s, .int .i64 n] h fun v h' => v = plV (if n < 0 then none else placeD (dropT T) s.data.toList n.toNat) ∧ Kp h h' := by
  have hll : s.data.toList.length = s.size := rfl
  have hkb := spots_len s.data.toList
  have e0 := utfCount_eq s hs
  by_cases hneg : n < 0
  · rw [if_pos hneg]
    refine wpc_fn (px_ext rfl) (px_fn fn_strip_Place) rfl ?_
    unfold LF_strip_Place
    simp only [argFr]
    (refine W_x trivial ?_; (repeat' first | apply Cj.mk | exact Nl.nl) <;> intros)
    exact ⟨rfl, (Kp.refl h).push _⟩
  · rw [if_neg hneg]
    obtain ⟨m, hm⟩ : ∃ m : Nat, n = m := ⟨n.toNat, by omega⟩
    subst hm
    have ht : ((m : Nat) : Int).toNat = m := rfl
    rw [ht]
    generalize hH : ((((h.push (.cells false [.int .i64 m])).push (.cells false [.int .i64 0, .int .i64 0])).push (.cells false [.bool false])).set (h.n + 1 + 1) (.cells false [.bool false])) = H
    have hI0 : PlI h H m false 0 0 := by
      subst hH
      refine ⟨(((Kp.refl h).push _).push _ |>.push _).setNew _ (by omega), ?_, ?_, ?_⟩
      all_goals simp (disch := first | omega | (simp only [AH.nn_push, AH.nn_set, AH.nn_kill]; omega) | (simp only [AH.nn_push, AH.nn_set, AH.nn_kill]; done) | fail) only [AH.get_push_eq, AH.get_push_ne, AH.get_set_eq, AH.get_set_ne]
    obtain ⟨_, h2, e1, hor⟩ := seen_spec (T := T) (k := k) (B := B) (s6 := s6) (h := H) s hs (yv := .func (.func 44) #[] #[.pointer (some ⟨h.n, 0, none⟩), .pointer (some ⟨h.n + 1, 0, none⟩), .pointer (some ⟨h.n + 1 + 1, 0, none⟩)])
      (I := fun j h1 => j ≤ m ∧ ∃ a b : Int, PlI h h1 ((m : Int) - j) false a b) (E := fun h1 => ∃ x, some x = (seenL (dropT T) s.data.toList)[m]? ∧ PlI h h1 (-1) true x.1 x.2.1) ⟨_, _, _, rfl⟩ (vsame_fn3 _ _ _ _) (fun j hj h1 hI => by
        obtain ⟨hjm, a, b, i1⟩ := hI
        obtain ⟨kp, b0, b1, b2⟩ := i1
        have hlt := AH.get_lt b2
        have hE : j = m → (seenL (dropT T) s.data.toList)[j]? = (seenL (dropT T) s.data.toList)[m]? := fun e => by rw [e]
        rw [List.getElem?_eq_getElem hj] at hE
        generalize (seenL (dropT T) s.data.toList)[j] = x at hE
        refine wpV_fn ?_
        refine wpc_fn (px_ext rfl) (px_fn fn_strip_Place_1) rfl ?_
        unfold LF_strip_Place_1 seenE placeV
        simp only [argFr, List.nil_append, List.cons_append]
        by_cases hz : j = m
        · have hz0 : (m : Int) - (j : Int) = 0 := by omega
          have hE2 := hE hz
          rw [hz0] at b0
          (refine W_y (Aj b0 (Aj b1 b2)) ?_; (repeat' first | apply Cj.mk | exact Nl.nl) <;> intros)
          refine .inr ⟨rfl, x, hE2, ⟨?_, ?_, ?_, ?_⟩⟩
          · exact ((kp.setNew _ (by omega)).setNew _ (by omega)).setNew _ (by omega)
          all_goals simp (disch := first | omega | (simp only [AH.nn_push, AH.nn_set, AH.nn_kill]; omega) | (simp only [AH.nn_push, AH.nn_set, AH.nn_kill]; done) | fail) only [AH.get_push_eq, AH.get_push_ne, AH.get_set_eq, AH.get_set_ne]
        · have hz0 : ¬ (m : Int) - (j : Int) = 0 := by omega
          have hz1 : 0 < (m : Int) - (j : Int) := by omega
          have hz2 : (m : Int) - (j : Int) < 9223372036854775808 := by omega
          have hz3 : (m : Int) - ((j + 1 : Nat) : Int) = (m : Int) - (j : Int) - 1 := by omega
          rw [hz3]
          generalize (m : Int) - (j : Int) = z at *
          (refine W_y (Aj b0 (Aj b1 b2)) ?_; (repeat' first | apply Cj.mk | exact Nl.nl) <;> intros)
          refine .inl ⟨rfl, by omega, x.1, x.2.1, ⟨?_, ?_, ?_, ?_⟩⟩
          · exact ((kp.setNew _ (by omega)).setNew _ (by omega)).setNew _ (by omega)
          all_goals simp (disch := first | omega | (simp only [AH.nn_push, AH.nn_set, AH.nn_kill]; omega) | (simp only [AH.nn_push, AH.nn_set, AH.nn_kill]; done) | fail) only [AH.get_push_eq, AH.get_push_ne, AH.get_set_eq, AH.get_set_ne]) (fun j h1 hI => by obtain ⟨_, a, b, i1⟩ := hI; exact bk.kp i1.kp) ⟨Nat.zero_le _, 0, 0, by simpa using hI0⟩
    unfold placeD
    rcases hor with ⟨hle, a, b, i1⟩ | ⟨x, hx, i1⟩
    · obtain ⟨kp, b0, b1, b2⟩ := i1
      rw [dif_neg (by omega)]
      by_cases hq : m = (seenL (dropT T) s.data.toList).length
      · rw [if_pos hq]
        have hz0 : (m : Int) - ((seenL (dropT T) s.data.toList).length : Int) = 0 := by omega
        rw [hz0] at b0
        subst hH
        refine wpc_fn (px_ext rfl) (px_fn fn_strip_Place) rfl ?_
        unfold LF_strip_Place
        simp only [argFr]
        (refine W_x (Aj e0 (Aj e1 (Aj b0 (Aj b1 b2)))) ?_; (repeat' first | apply Cj.mk | exact Nl.nl) <;> intros)
        exact ⟨rfl, kp⟩
      · rw [if_neg hq]
        have hz1 : 0 < (m : Int) - ((seenL (dropT T) s.data.toList).length : Int) := by omega
        generalize (m : Int) - ((seenL (dropT T) s.data.toList).length : Int) = z at *
        subst hH
        refine wpc_fn (px_ext rfl) (px_fn fn_strip_Place) rfl ?_
        unfold LF_strip_Place
        simp only [argFr]
        (refine W_x (Aj e0 (Aj e1 (Aj b0 (Aj b1 b2)))) ?_; (repeat' first | apply Cj.mk | exact Nl.nl) <;> intros)
        exact ⟨rfl, kp⟩
    · obtain ⟨kp, b0, b1, b2⟩ := i1
      obtain ⟨hj, hx⟩ := List.getElem?_eq_some_iff.1 hx.symm
      rw [dif_pos hj, hx]
      subst hH
      refine wpc_fn (px_ext rfl) (px_fn fn_strip_Place) rfl ?_
      unfold LF_strip_Place
      simp only [argFr]
      (refine W_x (Aj e0 (Aj e1 (Aj b0 (Aj b1 b2)))) ?_; (repeat' first | apply Cj.mk | exact Nl.nl) <;> intros)
      exact ⟨rfl, kp⟩
end Go.Proofs.YtblmakgjdenpfaaDoor.AM
namespace Go.Proofs.YtblmakgjdenpfaaDoor.AM
open Go
def LF_guiselaw11_known : LFunc :=
  .mk 0 [.tmp 0] (.seq (R 999 [] [.set 0 (.cv (.bool false))]) (.seq (R 5 [1, 2, 3] [.set 4 (xc1 9 (xc0 34)), .tmp 7 (xex 0 (.sl 4)), .tmp 8 (xex 1
  (.sl 4)), .tmp 9 (xex 2 (.sl 4)), .set 1 (.sl 7), .set 2 (.sl 8), .set 3 (.sl 9)]) (.seq (R 10 [0] [.set 0 (.and (.and (.and (.va 2) (.va 3)) (xb .eql (xc2 16 (.va 1)
  (.cv (.string ⟨#[97, 226, 128, 141, 98, 255]⟩))) (.cv (.string ⟨#[97, 98, 239, 191, 189]⟩)))) (xb .eql (xc2 17 (.va 1) (.cv (.string ⟨#[226, 128, 141, 97, 226, 128,
  141]⟩))) (xi 2)))]) .ret)))
theorem fn_guiselaw11_known : (autoPrg Tryd.prog).fn 10 = some LF_guiselaw11_known := by kernel_rfl
end Go.Proofs.YtblmakgjdenpfaaDoor.AM
namespace Go.Proofs.YtblmakgjdenpfaaDoor.AM
open Go
theorem known11_a : bs (stripT houseT [97, 226, 128, 141, 98, 255]) = ⟨#[97, 98, 239, 191, 189]⟩ := by
  have : stripT houseT [97, 226, 128, 141, 98, 255] = [97, 98, 239, 191, 189] := by decide +kernel
  rw [this]; rfl
theorem known11_b : (spots [226, 128, 141, 97, 226, 128, 141]).length - (keptR (dropT houseT) [226, 128, 141, 97, 226, 128, 141]).length = 2 := by decide +kernel
theorem house11_spec (h : AH) : WpC PX 34 [] h fun v h' => ∃ S, v = .agg S.vs.toArray ∧ TabAt h' S houseT ∧ Kp h h' := house_spec h
theorem known11_spec {h : AH} (u : U8T h) (hg : 2 ≤ h.n) : WpC PX 10 [] h fun v h' => v = .bool true ∧ Kp h h' := by
  obtain ⟨_, g, e, S, rfl, t, k⟩ := house11_spec h
  obtain ⟨_, g1, e1, k1, kk, B, S1, rfl, bk, _, _⟩ := of_house t (u.kp k) (Nat.le_trans hg k.1)
  obtain ⟨_, g2, e2, rfl, k2⟩ := strip_spec bk.bk ⟨#[97, 226, 128, 141, 98, 255]⟩ (by decide)
  obtain ⟨_, g3, e3, rfl, k3⟩ := stripCount_spec (bk.kp k2).bk ⟨#[226, 128, 141, 97, 226, 128, 141]⟩ (by decide)
  have q2 := known11_a
  have q3 := known11_b
  unfold TS.vs at *
  refine wpc_fn (px_ext rfl) (px_fn fn_guiselaw11_known) rfl ?_
  unfold LF_guiselaw11_known
  simp only [argFr]
  simp only [q2] at e2
  simp only [q3] at e3
  (refine W_x (Aj e (Aj e1 (Aj e2 e3))) ?_; (repeat' first | apply Cj.mk | exact Nl.nl) <;> intros)
  exact ⟨rfl, ((k.trans k1).trans k2).trans k3⟩
end Go.Proofs.YtblmakgjdenpfaaDoor.AM
namespace Go.Proofs.YtblmakgjdenpfaaDoor.AM
open Go
def LF_utf8_DecodeRuneInString : LFunc :=
  .mk 1 [.tmp 2, .tmp 3] (.seq (R 999 [0] [.set 2 (xr 0), .set 3 (xi 0)]) (.seq (.seq (R 4 [0, 10] [.tmp 10 (.and (xb .neq (.va 0) (.cv (.string ⟨#[]⟩))) (xb .lss (xis (.va 0) (xi
  0)) (.cv (.int .u8 128))))]) (.cond (.s 10) (.seq (R 11 [2, 3] [.set 2 (xcn .i32 (xis (.va 0) (xi 0))), .set 3 (xi 1)]) .ret) (R 15 [2, 3] [.set 14 (xc1
  79 (.va 0)), .tmp 17 (xex 0 (.sl 14)), .tmp 18 (xex 1 (.sl 14)), .set 2 (.sl 17), .set 3 (.sl 18)]))) .ret))
theorem fn_utf8_DecodeRuneInString : (autoPrg Tryd.prog).fn 46 = some LF_utf8_DecodeRuneInString := by kernel_rfl
def LF_utf8_decodeRuneInStringSlow : LFunc :=
  .mk 1 [.tmp 2, .tmp 3] (.seq (R 999 [0] [.set 2 (xr 0), .set 3 (xi 0)]) (.seq (R 13 [0, 4] [.set 4 (xsl (.va 0))]) (.seq (.seq (R 15 [0, 4, 16] [.tmp 16 (xb .lss (.va 4) (xi 1))])
  (.cond (.s 16) (.seq (R 999 [2, 3] [.set 2 (xr 65533), .set 3 (xi 0)]) .ret) .skip)) (.seq (R 17 [0, 4, 5] [.set 5 (xis (.va 0) (xi 0))]) (.seq (R 19 [0, 4, 5, 6] [.set 6 (xld
  (.op (.p (.iaddrA 256 1 (.s 0) (.s 1))) (.cons (.cv (.pointer (some (.mk 0 0 none)))) (.va 5))))]) (.seq (.seq (R 22 [0, 4, 5, 6, 23] [.tmp 23 (xb .geq (.va
  6) (.cv (.int .u8 240)))]) (.cond (.s 23) (.seq (R 24 [0, 7] [.set 7 (xb .shr (xb .shl (xcn .i32 (.va 6)) (.cv (.int .u64 31))) (.cv (.int .u64 31)))]) (.seq (R 28 [2, 3] [.set 2
  (xb .or (xb .andNot (xcn .i32 (xis (.va 0) (xi 0))) (.va 7)) (xb .and (xr 65533) (.va 7))), .set 3 (xi 1)]) .ret)) .skip)) (.seq (R 36 [0, 4, 5, 6, 8] [.set 8 (xcn .i64 (xb .and
  (.va 6) (.cv (.int .u8 7))))]) (.seq (R 39 [0, 4, 5, 8, 9] [.tmp 42 (xln 2 (.op (.p (.iaddrA 16 2 (.s 0) (.s 1))) (.cons (.cv (.pointer (some (.mk 1
  0 none)))) (xb .shr (.va 6) (.cv (.int .u64 4)))))), .at 9, .tmp 9 (xnl 9 [.int .u8 0, .int .u8 0]), .run (xst 2 (.sl 9) (.sl 42))]) (.seq (.seq (R 43 [0, 5, 8, 9, 45] [.tmp 45
  (xb .lss (.va 4) (.va 8))]) (.cond (.s 45) (.seq (R 999 [2, 3] [.set 2 (xr 65533), .set 3 (xi 1)]) .ret) .skip)) (.seq (R 46 [0, 5, 8, 9, 10] [.set 10 (xis (.va 0) (xi 1))]) (.seq
  (.seq (R 48 [0, 5, 8, 10, 57] [.tmp 57 (.or (xb .lss (.va 10) (xld (xfa 0 (.sl 9)))) (xb .lss (xld (xfa 1 (.sl 9))) (.va 10)))]) (.cond (.s 57) (.seq (R 999 [2, 3] [.set 2 (xr
  65533), .set 3 (xi 1)]) .ret) .skip)) (.seq (.seq (R 58 [0, 5, 8, 10, 59] [.tmp 59 (xb .leq (.va 8) (xi 2))]) (.cond (.s 59) (.seq (R 60 [2, 3] [.set 2 (xb .or (xb .shl (xcn .i32
  (xb .and (.va 5) (.cv (.int .u8 31)))) (.cv (.int .u64 6))) (xcn .i32 (xb .and (.va 10) (.cv (.int .u8 63))))), .set 3 (xi 2)]) .ret) .skip)) (.seq (R 68 [0, 5, 8, 10, 11] [.set
  11 (xis (.va 0) (xi 2))]) (.seq (.seq (R 70 [0, 5, 8, 10, 11, 75] [.tmp 75 (.or (xb .lss (.va 11) (.cv (.int .u8 128))) (xb .lss (.cv (.int .u8 191)) (.va 11)))]) (.cond (.s 75)
  (.seq (R 999 [2, 3] [.set 2 (xr 65533), .set 3 (xi 1)]) .ret) .skip)) (.seq (.seq (R 76 [0, 5, 10, 11, 77] [.tmp 77 (xb .leq (.va 8) (xi 3))]) (.cond (.s 77) (.seq (R 78 [2, 3]
  [.set 2 (xb .or (xb .or (xb .shl (xcn .i32 (xb .and (.va 5) (.cv (.int .u8 15)))) (.cv (.int .u64 12))) (xb .shl (xcn .i32 (xb .and (.va 10) (.cv (.int .u8 63)))) (.cv (.int .u64
  6)))) (xcn .i32 (xb .and (.va 11) (.cv (.int .u8 63))))), .set 3 (xi 3)]) .ret) .skip)) (.seq (R 91 [5, 10, 11, 12] [.set 12 (xis (.va 0) (xi 3))]) (.seq (.seq (R 93 [5, 10, 11,
  12, 98] [.tmp 98 (.or (xb .lss (.va 12) (.cv (.int .u8 128))) (xb .lss (.cv (.int .u8 191)) (.va 12)))]) (.cond (.s 98) (.seq (R 999 [2, 3] [.set 2 (xr 65533), .set 3 (xi 1)])
  .ret) .skip)) (.seq (R 99 [2, 3] [.set 2 (xb .or (xb .or (xb .or (xb .shl (xcn .i32 (xb .and (.va 5) (.cv (.int .u8 7)))) (.cv (.int .u64 18))) (xb .shl (xcn .i32 (xb .and (.va
  10) (.cv (.int .u8 63)))) (.cv (.int .u64 12)))) (xb .shl (xcn .i32 (xb .and (.va 11) (.cv (.int .u8 63)))) (.cv (.int .u64 6)))) (xcn .i32 (xb .and (.va 12) (.cv (.int .u8
  63))))), .set 3 (xi 4)]) .ret))))))))))))))))))
theorem fn_utf8_decodeRuneInStringSlow : (autoPrg Tryd.prog).fn 79 = some LF_utf8_decodeRuneInStringSlow := by kernel_rfl
end Go.Proofs.YtblmakgjdenpfaaDoor.AM
namespace Go.Proofs.YtblmakgjdenpfaaDoor.AM
open Go
inductive SeqD (l : Bytes) : Prop
  | one (h : bat l 0 < 128) (e : dec1 l = (bat l 0, 1))
  | two (a : 192 ≤ bat l 0) (b : bat l 0 < 224) (n : 1 < l.length) (c1 : 128 ≤ bat l 1 ∧ bat l 1 < 192) (r : 128 ≤ (bat l 0 - 192) * 64 + (bat l 1 - 128)) (e : dec1 l = ((bat l 0 - 192) * 64 + (bat l 1 - 128), 2))
  | three (a : 224 ≤ bat l 0) (b : bat l 0 < 240) (n : 2 < l.length) (c1 : 128 ≤ bat l 1 ∧ bat l 1 < 192) (c2 : 128 ≤ bat l 2 ∧ bat l 2 < 192) (r : 2048 ≤ ((bat l 0 - 224) * 64 + (bat l 1 - 128)) * 64 + (bat l 2 - 128))
      (v : RuneN (((bat l 0 - 224) * 64 + (bat l 1 - 128)) * 64 + (bat l 2 - 128))) (e : dec1 l = (((bat l 0 - 224) * 64 + (bat l 1 - 128)) * 64 + (bat l 2 - 128), 3))
  | four (a : 240 ≤ bat l 0) (b : bat l 0 < 248) (n : 3 < l.length) (c1 : 128 ≤ bat l 1 ∧ bat l 1 < 192) (c2 : 128 ≤ bat l 2 ∧ bat l 2 < 192) (c3 : 128 ≤ bat l 3 ∧ bat l 3 < 192)
      (r : 65536 ≤ (((bat l 0 - 240) * 64 + (bat l 1 - 128)) * 64 + (bat l 2 - 128)) * 64 + (bat l 3 - 128)) (v : RuneN ((((bat l 0 - 240) * 64 + (bat l 1 - 128)) * 64 + (bat l 2 - 128)) * 64 + (bat l 3 - 128)))
      (e : dec1 l = ((((bat l 0 - 240) * 64 + (bat l 1 - 128)) * 64 + (bat l 2 - 128)) * 64 + (bat l 3 - 128), 4))
  | bad (e : dec1 l = (65533, 1)) (h : 128 ≤ bat l 0)
      (h2 : 192 ≤ bat l 0 → bat l 0 < 224 → 1 < l.length → 128 ≤ bat l 1 → bat l 1 < 192 → (bat l 0 - 192) * 64 + (bat l 1 - 128) < 128)
      (h3 : 224 ≤ bat l 0 → bat l 0 < 240 → 2 < l.length → 128 ≤ bat l 1 → bat l 1 < 192 → 128 ≤ bat l 2 → bat l 2 < 192 → ((bat l 0 - 224) * 64 + (bat l 1 - 128)) * 64 + (bat l 2 - 128) < 2048 ∨ ¬ RuneN (((bat l 0 - 224) * 64 + (bat l 1 - 128)) * 64 + (bat l 2 - 128)))
      (h4 : 240 ≤ bat l 0 → bat l 0 < 248 → 3 < l.length → 128 ≤ bat l 1 → bat l 1 < 192 → 128 ≤ bat l 2 → bat l 2 < 192 → 128 ≤ bat l 3 → bat l 3 < 192 →
        (((bat l 0 - 240) * 64 + (bat l 1 - 128)) * 64 + (bat l 2 - 128)) * 64 + (bat l 3 - 128) < 65536 ∨ ¬ RuneN ((((bat l 0 - 240) * 64 + (bat l 1 - 128)) * 64 + (bat l 2 - 128)) * 64 + (bat l 3 - 128)))
theorem seqD (l : Bytes) : SeqD l := by
  have h0 := bat_lt l 0
  have h1 := bat_lt l 1
  have h2 := bat_lt l 2
  have h3 := bat_lt l 3
  have g1 := bcont_iff (l := l) (k := 1)
  have g2 := bcont_iff (l := l) (k := 2)
  have g3 := bcont_iff (l := l) (k := 3)
  have val := fun c => valid_iff c
  obtain ⟨d, hd⟩ : ∃ d, dec1 l = d := ⟨_, rfl⟩
  have hd' := hd
  unfold dec1 at hd'
  by_cases c0 : bat l 0 < 128
  · rw [if_pos c0] at hd'
    exact .one c0 (hd.trans hd'.symm)
  rw [if_neg c0] at hd'
  by_cases c1 : (bat l 0 / 32 == 6 && bcont l 1) = true
  · rw [if_pos c1] at hd'
    simp only [Bool.and_eq_true, beq_iff_eq, g1] at c1
    by_cases c2 : bat l 0 % 32 * 64 + bat l 1 % 64 ≥ 128
    · rw [if_pos c2, show bat l 0 % 32 * 64 + bat l 1 % 64 = (bat l 0 - 192) * 64 + (bat l 1 - 128) by omega] at hd'
      exact .two (by omega) (by omega) (by omega) (by omega) (by omega) (hd.trans hd'.symm)
    · rw [if_neg c2] at hd'
      exact .bad (hd.trans hd'.symm) (by omega) (fun _ _ _ _ _ => by omega) (fun _ _ => by omega) (fun _ _ => by omega)
  rw [if_neg c1] at hd'
  simp only [Bool.and_eq_true, beq_iff_eq, g1] at c1
  by_cases c2 : (bat l 0 / 16 == 14 && bcont l 1 && bcont l 2) = true
  · rw [if_pos c2] at hd'
    simp only [Bool.and_eq_true, beq_iff_eq, g1, g2] at c2
    have e : bat l 0 % 16 * 4096 + bat l 1 % 64 * 64 + bat l 2 % 64 = ((bat l 0 - 224) * 64 + (bat l 1 - 128)) * 64 + (bat l 2 - 128) := by omega
    rw [e] at hd'
    by_cases c3 : (decide (((bat l 0 - 224) * 64 + (bat l 1 - 128)) * 64 + (bat l 2 - 128) ≥ 2048) && Utf8.valid ((((bat l 0 - 224) * 64 + (bat l 1 - 128)) * 64 + (bat l 2 - 128) : Nat))) = true
    · rw [if_pos c3] at hd'
      simp only [Bool.and_eq_true, decide_eq_true_eq, val] at c3
      exact .three (by omega) (by omega) (by omega) (by omega) (by omega) (by omega) c3.2 (hd.trans hd'.symm)
    · rw [if_neg c3] at hd'
      simp only [Bool.and_eq_true, decide_eq_true_eq, val] at c3
      exact .bad (hd.trans hd'.symm) (by omega) (fun _ _ => by omega) (fun _ _ _ _ _ _ _ => by
        by_cases hr : RuneN (((bat l 0 - 224) * 64 + (bat l 1 - 128)) * 64 + (bat l 2 - 128))
        · exact .inl (Nat.lt_of_not_le fun h => c3 ⟨h, hr⟩)
        · exact .inr hr) (fun _ _ => by omega)
  rw [if_neg c2] at hd'
  simp only [Bool.and_eq_true, beq_iff_eq, g1, g2] at c2
  by_cases c3 : (bat l 0 / 8 == 30 && bcont l 1 && bcont l 2 && bcont l 3) = true
  · rw [if_pos c3] at hd'
    simp only [Bool.and_eq_true, beq_iff_eq, g1, g2, g3] at c3
    have e : bat l 0 % 8 * 262144 + bat l 1 % 64 * 4096 + bat l 2 % 64 * 64 + bat l 3 % 64 = (((bat l 0 - 240) * 64 + (bat l 1 - 128)) * 64 + (bat l 2 - 128)) * 64 + (bat l 3 - 128) := by omega
    rw [e] at hd'
    by_cases c4 : (decide ((((bat l 0 - 240) * 64 + (bat l 1 - 128)) * 64 + (bat l 2 - 128)) * 64 + (bat l 3 - 128) ≥ 65536) && Utf8.valid (((((bat l 0 - 240) * 64 + (bat l 1 - 128)) * 64 + (bat l 2 - 128)) * 64 + (bat l 3 - 128) : Nat))) = true
    · rw [if_pos c4] at hd'
      simp only [Bool.and_eq_true, decide_eq_true_eq, val] at c4
      exact .four (by omega) (by omega) (by omega) (by omega) (by omega) (by omega) (by omega) c4.2 (hd.trans hd'.symm)
    · rw [if_neg c4] at hd'
      simp only [Bool.and_eq_true, decide_eq_true_eq, val] at c4
      exact .bad (hd.trans hd'.symm) (by omega) (fun _ _ => by omega) (fun _ _ => by omega) (fun _ _ _ _ _ _ _ _ _ => by
        by_cases hr : RuneN ((((bat l 0 - 240) * 64 + (bat l 1 - 128)) * 64 + (bat l 2 - 128)) * 64 + (bat l 3 - 128))
        · exact .inl (Nat.lt_of_not_le fun h => c4 ⟨h, hr⟩)
        · exact .inr hr)
  rw [if_neg c3] at hd'
  simp only [Bool.and_eq_true, beq_iff_eq, g1, g2, g3] at c3
  exact .bad (hd.trans hd'.symm) (by omega) (fun _ _ _ _ _ => by omega) (fun _ _ _ _ _ _ _ => by omega) (fun _ _ _ _ _ _ _ _ _ => by omega)
theorem and_u8 {x m : Nat} (hx : x < 256) (hm : m < 256) : binA .and (.int .u8 x) (.int .u8 m) = some (.int .u8 ((x &&& m : Nat) : Int)) := by
  have hl : (x &&& m) < 2 ^ 8 := Nat.and_lt_two_pow x hm
  show some (Value.int .u8 (IntKind.u8.wrap (BitVec.ofInt 8 (x : Int) &&& BitVec.ofInt 8 (m : Int)).toNat)) = _
  have e : (BitVec.ofInt 8 (x : Int) &&& BitVec.ofInt 8 (m : Int)).toNat = x &&& m := by
    rw [BitVec.toNat_and, show BitVec.ofInt 8 (x : Int) = BitVec.ofNat 8 x from BitVec.ofInt_natCast .., show BitVec.ofInt 8 (m : Int) = BitVec.ofNat 8 m from BitVec.ofInt_natCast .., BitVec.toNat_ofNat, BitVec.toNat_ofNat, Nat.mod_eq_of_lt hx, Nat.mod_eq_of_lt hm]
  rw [e, wrap_u8 (by omega) (by omega)]
theorem and63 {x y : Nat} (hx : x < 256) (h : y = x % 64) : binA .and (.int .u8 x) (.int .u8 63) = some (.int .u8 y) := by
  rw [h, ← Nat.and_two_pow_sub_one_eq_mod x 6]
  exact and_u8 (m := 63) hx (by decide)
theorem and31 {x y : Nat} (hx : x < 256) (h : y = x % 32) : binA .and (.int .u8 x) (.int .u8 31) = some (.int .u8 y) := by
  rw [h, ← Nat.and_two_pow_sub_one_eq_mod x 5]
  exact and_u8 (m := 31) hx (by decide)
theorem and15 {x y : Nat} (hx : x < 256) (h : y = x % 16) : binA .and (.int .u8 x) (.int .u8 15) = some (.int .u8 y) := by
  rw [h, ← Nat.and_two_pow_sub_one_eq_mod x 4]
  exact and_u8 (m := 15) hx (by decide)
theorem and7 {x y : Nat} (hx : x < 256) (h : y = x % 8) : binA .and (.int .u8 x) (.int .u8 7) = some (.int .u8 y) := by
  rw [h, ← Nat.and_two_pow_sub_one_eq_mod x 3]
  exact and_u8 (m := 7) hx (by decide)
theorem dshl6 {v z : Nat} (h : z = v * 64) (hz : z < 2147483648) : binA .shl (.int .i32 v) (.int .u64 6) = some (.int .i32 z) := by
  show some (Value.int .i32 (IntKind.i32.wrap ((v : Int) * 64))) = _
  rw [wrap_i32 (by omega) (by omega), h]
  simp
theorem dshl12 {v z : Nat} (h : z = v * 4096) (hz : z < 2147483648) : binA .shl (.int .i32 v) (.int .u64 12) = some (.int .i32 z) := by
  show some (Value.int .i32 (IntKind.i32.wrap ((v : Int) * 4096))) = _
  rw [wrap_i32 (by omega) (by omega), h]
  simp
theorem dshl18 {v z : Nat} (h : z = v * 262144) (hz : z < 2147483648) : binA .shl (.int .i32 v) (.int .u64 18) = some (.int .i32 z) := by
  show some (Value.int .i32 (IntKind.i32.wrap ((v : Int) * 262144))) = _
  rw [wrap_i32 (by omega) (by omega), h]
  simp
theorem or_i32 {a b q k z : Nat} (ha : a = q * 2 ^ k) (hb : b < 2 ^ k) (hz : z = a + b) (hl : z < 2147483648) : binA .or (.int .i32 a) (.int .i32 b) = some (.int .i32 z) := by
  have e0 : a ||| b = z := by rw [hz, ha, ← Nat.shiftLeft_eq, Nat.shiftLeft_add_eq_or_of_lt hb]
  show some (Value.int .i32 (IntKind.i32.wrap (BitVec.ofInt 32 (a : Int) ||| BitVec.ofInt 32 (b : Int)).toNat)) = _
  have e : (BitVec.ofInt 32 (a : Int) ||| BitVec.ofInt 32 (b : Int)).toNat = z := by
    rw [BitVec.toNat_or, show BitVec.ofInt 32 (a : Int) = BitVec.ofNat 32 a from BitVec.ofInt_natCast .., show BitVec.ofInt 32 (b : Int) = BitVec.ofNat 32 b from BitVec.ofInt_natCast .., BitVec.toNat_ofNat, BitVec.toNat_ofNat, Nat.mod_eq_of_lt (by omega), Nat.mod_eq_of_lt (by omega), e0]
  rw [e, wrap_i32 (by omega) (by omega)]
theorem msk1 : binA .shl (.int .i32 241) (.int .u64 31) = some (.int .i32 (-2147483648)) := rfl
theorem msk2 : binA .shr (.int .i32 (-2147483648)) (.int .u64 31) = some (.int .i32 (-1)) := rfl
theorem msk3 (x : Int) : binA .andNot (.int .i32 x) (.int .i32 (-1)) = some (.int .i32 0) := by
  show some (Value.int .i32 (IntKind.i32.wrap (BitVec.ofInt 32 x &&& ~~~ BitVec.ofInt 32 (-1)).toNat)) = _
  have : ~~~ BitVec.ofInt 32 (-1) = 0#32 := by decide
  rw [this]
  simp
  rfl
theorem msk4 : binA .and (.int .i32 65533) (.int .i32 (-1)) = some (.int .i32 65533) := rfl
theorem msk5 : binA .or (.int .i32 0) (.int .i32 65533) = some (.int .i32 65533) := rfl
end Go.Proofs.YtblmakgjdenpfaaDoor.AM
namespace Go.Proofs.YtblmakgjdenpfaaDoor.AM
open Go
set_option maxRecDepth 20000 in
set_option maxHeartbeats 4000000 in
theorem decodeSlow_eq (t : ByteArray) (h1 : AH) (hT : U8T h1) (hsz : t.size < 100000000) (hx : 128 ≤ bat t.data.toList 0) : callO PX 79 [.string t] h1 = some (.tuple (List.toArray [.int .i32 (dec1 t.data.toList).1, .int .i64 (dec1 t.data.toList).2]), h1) := by
  obtain ⟨l, hl⟩ : ∃ l, l = t.data.toList := ⟨_, rfl⟩
  have hll : l.length = t.size := by rw [hl]; rfl
  rw [← hl] at hx ⊢
  have g2 := seqD l
  have hne : 0 < t.size := by
    rcases Nat.eq_zero_or_pos t.size with h0 | h0
    · have hn : l = [] := List.eq_nil_of_length_eq_zero (by omega)
      rw [hn] at hx
      simp [bat] at hx
    · exact h0
  obtain ⟨x0, q0⟩ : ∃ x, bat l 0 = x := ⟨_, rfl⟩
  obtain ⟨x1, q1⟩ : ∃ x, bat l 1 = x := ⟨_, rfl⟩
  obtain ⟨x2, q2⟩ : ∃ x, bat l 2 = x := ⟨_, rfl⟩
  obtain ⟨x3, q3⟩ : ∃ x, bat l 3 = x := ⟨_, rfl⟩
  have c0 := bat_lt l 0
  have c1 := bat_lt l 1
  have c2 := bat_lt l 2
  have c3 := bat_lt l 3
  rw [q0] at c0 hx
  rw [q1] at c1
  rw [q2] at c2
  rw [q3] at c3
  have rf := fun lc => rd_first hT lc c0
  have ra := fun j lc => rd_accept hT lc j
  simp only [acceptZ] at ra
  apply WpC.eqn
  refine wpc_fn (px_ext rfl) (px_fn fn_utf8_decodeRuneInStringSlow) rfl ?_
  unfold LF_utf8_decodeRuneInStringSlow
  simp only [argFr]
  rcases fst_cls ⟨x0, c0⟩ (by simp only; omega) with ⟨a1, a2, hz⟩ | ⟨a1, hz⟩ | ⟨a1, hz⟩ | ⟨a1, a2, a3, hz⟩ | ⟨a1, hz⟩ | ⟨a1, hz⟩ | ⟨a1, a2, hz⟩ | ⟨a1, hz⟩
  all_goals simp only at hz
  · have rf : ∀ lc, Mem.rd ⟨lc, h1⟩ ⟨0, x0, none⟩ 1 = some [.int .u8 2] := fun lc => by rw [rf lc, hz]; rfl
    have e1 := u8a 2 2 (by simp)
    have e2 := u8s 2 0 (by simp)
    have r0 : ∀ lc, Mem.rd ⟨lc, h1⟩ ⟨1, 0, none⟩ 2 = some [.int .u8 128, .int .u8 191] := fun lc => ra 0 lc
    simp only at a1 a2
    rcases g2 with ⟨a, e⟩ | ⟨a, b, n, d1, r, e⟩ | ⟨a, b, n, d1, d2, r, v, e⟩ | ⟨a, b, n, d1, d2, d3, r, v, e⟩ | ⟨e, hh, b2, b3, b4⟩
    · rw [q0] at a; omega
    · simp only [q0, q1] at a b d1 r e
      obtain ⟨y0, hy0⟩ : ∃ y, y = x0 % 32 := ⟨_, rfl⟩
      obtain ⟨y1, hy1⟩ : ∃ y, y = x1 % 64 := ⟨_, rfl⟩
      obtain ⟨z0, hz0⟩ : ∃ z, z = y0 * 64 := ⟨_, rfl⟩
      obtain ⟨r0', hr0⟩ : ∃ z, z = z0 + y1 := ⟨_, rfl⟩
      have b0 := and31 c0 hy0
      have b1 := and63 c1 hy1
      have b2 := dshl6 hz0 (by omega)
      have b3 := or_i32 (k := 6) hz0 (by omega) hr0 (by omega)
      have hv : (x0 - 192) * 64 + (x1 - 128) = r0' := by omega
      rw [e, hv]
      (refine W_x (Aj hl.symm (Aj q0 (Aj q1 (Aj q2 (Aj q3 (Aj rf (Aj e1 (Aj e2 (Aj r0 (Aj b0 (Aj b1 (Aj b2 b3)))))))))))) ?_; (repeat' first | apply Cj.mk | exact Nl.nl) <;> intros)
      exact ⟨rfl, rfl⟩
    · simp only [q0, q1, q2] at a b d1 d2 r v e
      omega
    · simp only [q0, q1, q2, q3] at a b d1 d2 d3 r v e
      omega
    · simp only [q0, q1, q2, q3] at hh b2 b3 b4
      unfold RuneN at b3 b4
      rw [e]
      (refine W_x (Aj hl.symm (Aj q0 (Aj q1 (Aj q2 (Aj q3 (Aj rf (Aj e1 (Aj e2 r0)))))))) ?_; (repeat' first | apply Cj.mk | exact Nl.nl) <;> intros)
      all_goals first | exact ⟨rfl, rfl⟩ | (exfalso; omega)
  · have rf : ∀ lc, Mem.rd ⟨lc, h1⟩ ⟨0, x0, none⟩ 1 = some [.int .u8 19] := fun lc => by rw [rf lc, hz]; rfl
    have e1 := u8a 19 3 (by simp)
    have e2 := u8s 19 1 (by simp)
    have r0 : ∀ lc, Mem.rd ⟨lc, h1⟩ ⟨1, 2, none⟩ 2 = some [.int .u8 160, .int .u8 191] := fun lc => ra 1 lc
    simp only at a1
    rcases g2 with ⟨a, e⟩ | ⟨a, b, n, d1, r, e⟩ | ⟨a, b, n, d1, d2, r, v, e⟩ | ⟨a, b, n, d1, d2, d3, r, v, e⟩ | ⟨e, hh, b2, b3, b4⟩
    · rw [q0] at a; omega
    · simp only [q0, q1] at a b d1 r e
      omega
    · simp only [q0, q1, q2] at a b d1 d2 r v e
      unfold RuneN at v
      obtain ⟨y0, hy0⟩ : ∃ y, y = x0 % 16 := ⟨_, rfl⟩
      obtain ⟨y1, hy1⟩ : ∃ y, y = x1 % 64 := ⟨_, rfl⟩
      obtain ⟨y2, hy2⟩ : ∃ y, y = x2 % 64 := ⟨_, rfl⟩
      obtain ⟨z0, hz0⟩ : ∃ z, z = y0 * 4096 := ⟨_, rfl⟩
      obtain ⟨z1, hz1⟩ : ∃ z, z = y1 * 64 := ⟨_, rfl⟩
      obtain ⟨s1, hs1⟩ : ∃ z, z = z0 + z1 := ⟨_, rfl⟩
      obtain ⟨r0', hr0⟩ : ∃ z, z = s1 + y2 := ⟨_, rfl⟩
      have b0 := and15 c0 hy0
      have b1 := and63 c1 hy1
      have b2 := and63 c2 hy2
      have b3 := dshl12 hz0 (by omega)
      have b4 := dshl6 hz1 (by omega)
      have b5 := or_i32 (k := 12) hz0 (by omega) hs1 (by omega)
      have b6 := or_i32 (q := y0 * 64 + y1) (k := 6) (show s1 = (y0 * 64 + y1) * 2 ^ 6 by omega) (by omega) hr0 (by omega)
      have hv : ((x0 - 224) * 64 + (x1 - 128)) * 64 + (x2 - 128) = r0' := by omega
      rw [e, hv]
      (refine W_x (Aj hl.symm (Aj q0 (Aj q1 (Aj q2 (Aj q3 (Aj rf (Aj e1 (Aj e2 (Aj r0 (Aj b0 (Aj b1 (Aj b2 (Aj b3 (Aj b4 (Aj b5 b6))))))))))))))) ?_; (repeat' first | apply Cj.mk | exact Nl.nl) <;> intros)
      exact ⟨rfl, rfl⟩
    · simp only [q0, q1, q2, q3] at a b d1 d2 d3 r v e
      omega
    · simp only [q0, q1, q2, q3] at hh b2 b3 b4
      unfold RuneN at b3 b4
      rw [e]
      (refine W_x (Aj hl.symm (Aj q0 (Aj q1 (Aj q2 (Aj q3 (Aj rf (Aj e1 (Aj e2 r0)))))))) ?_; (repeat' first | apply Cj.mk | exact Nl.nl) <;> intros)
      all_goals first | exact ⟨rfl, rfl⟩ | (exfalso; omega)
  · have rf : ∀ lc, Mem.rd ⟨lc, h1⟩ ⟨0, x0, none⟩ 1 = some [.int .u8 35] := fun lc => by rw [rf lc, hz]; rfl
    have e1 := u8a 35 3 (by simp)
    have e2 := u8s 35 2 (by simp)
    have r0 : ∀ lc, Mem.rd ⟨lc, h1⟩ ⟨1, 4, none⟩ 2 = some [.int .u8 128, .int .u8 159] := fun lc => ra 2 lc
    simp only at a1
    rcases g2 with ⟨a, e⟩ | ⟨a, b, n, d1, r, e⟩ | ⟨a, b, n, d1, d2, r, v, e⟩ | ⟨a, b, n, d1, d2, d3, r, v, e⟩ | ⟨e, hh, b2, b3, b4⟩
    · rw [q0] at a; omega
    · simp only [q0, q1] at a b d1 r e
      omega
    · simp only [q0, q1, q2] at a b d1 d2 r v e
      unfold RuneN at v
      obtain ⟨y0, hy0⟩ : ∃ y, y = x0 % 16 := ⟨_, rfl⟩
      obtain ⟨y1, hy1⟩ : ∃ y, y = x1 % 64 := ⟨_, rfl⟩
      obtain ⟨y2, hy2⟩ : ∃ y, y = x2 % 64 := ⟨_, rfl⟩
      obtain ⟨z0, hz0⟩ : ∃ z, z = y0 * 4096 := ⟨_, rfl⟩
      obtain ⟨z1, hz1⟩ : ∃ z, z = y1 * 64 := ⟨_, rfl⟩
      obtain ⟨s1, hs1⟩ : ∃ z, z = z0 + z1 := ⟨_, rfl⟩
      obtain ⟨r0', hr0⟩ : ∃ z, z = s1 + y2 := ⟨_, rfl⟩
      have b0 := and15 c0 hy0
      have b1 := and63 c1 hy1
      have b2 := and63 c2 hy2
      have b3 := dshl12 hz0 (by omega)
      have b4 := dshl6 hz1 (by omega)
      have b5 := or_i32 (k := 12) hz0 (by omega) hs1 (by omega)
      have b6 := or_i32 (q := y0 * 64 + y1) (k := 6) (show s1 = (y0 * 64 + y1) * 2 ^ 6 by omega) (by omega) hr0 (by omega)
      have hv : ((x0 - 224) * 64 + (x1 - 128)) * 64 + (x2 - 128) = r0' := by omega
      rw [e, hv]
      (refine W_x (Aj hl.symm (Aj q0 (Aj q1 (Aj q2 (Aj q3 (Aj rf (Aj e1 (Aj e2 (Aj r0 (Aj b0 (Aj b1 (Aj b2 (Aj b3 (Aj b4 (Aj b5 b6))))))))))))))) ?_; (repeat' first | apply Cj.mk | exact Nl.nl) <;> intros)
      exact ⟨rfl, rfl⟩
    · simp only [q0, q1, q2, q3] at a b d1 d2 d3 r v e
      omega
    · simp only [q0, q1, q2, q3] at hh b2 b3 b4
      unfold RuneN at b3 b4
      rw [e]
      (refine W_x (Aj hl.symm (Aj q0 (Aj q1 (Aj q2 (Aj q3 (Aj rf (Aj e1 (Aj e2 r0)))))))) ?_; (repeat' first | apply Cj.mk | exact Nl.nl) <;> intros)
      all_goals first | exact ⟨rfl, rfl⟩ | (exfalso; omega)
  · have rf : ∀ lc, Mem.rd ⟨lc, h1⟩ ⟨0, x0, none⟩ 1 = some [.int .u8 3] := fun lc => by rw [rf lc, hz]; rfl
    have e1 := u8a 3 3 (by simp)
    have e2 := u8s 3 0 (by simp)
    have r0 : ∀ lc, Mem.rd ⟨lc, h1⟩ ⟨1, 0, none⟩ 2 = some [.int .u8 128, .int .u8 191] := fun lc => ra 0 lc
    simp only at a1 a2 a3
    rcases g2 with ⟨a, e⟩ | ⟨a, b, n, d1, r, e⟩ | ⟨a, b, n, d1, d2, r, v, e⟩ | ⟨a, b, n, d1, d2, d3, r, v, e⟩ | ⟨e, hh, b2, b3, b4⟩
    · rw [q0] at a; omega
    · simp only [q0, q1] at a b d1 r e
      omega
    · simp only [q0, q1, q2] at a b d1 d2 r v e
      unfold RuneN at v
      obtain ⟨y0, hy0⟩ : ∃ y, y = x0 % 16 := ⟨_, rfl⟩
      obtain ⟨y1, hy1⟩ : ∃ y, y = x1 % 64 := ⟨_, rfl⟩
      obtain ⟨y2, hy2⟩ : ∃ y, y = x2 % 64 := ⟨_, rfl⟩
      obtain ⟨z0, hz0⟩ : ∃ z, z = y0 * 4096 := ⟨_, rfl⟩
      obtain ⟨z1, hz1⟩ : ∃ z, z = y1 * 64 := ⟨_, rfl⟩
      obtain ⟨s1, hs1⟩ : ∃ z, z = z0 + z1 := ⟨_, rfl⟩
      obtain ⟨r0', hr0⟩ : ∃ z, z = s1 + y2 := ⟨_, rfl⟩
      have b0 := and15 c0 hy0
      have b1 := and63 c1 hy1
      have b2 := and63 c2 hy2
      have b3 := dshl12 hz0 (by omega)
      have b4 := dshl6 hz1 (by omega)
      have b5 := or_i32 (k := 12) hz0 (by omega) hs1 (by omega)
      have b6 := or_i32 (q := y0 * 64 + y1) (k := 6) (show s1 = (y0 * 64 + y1) * 2 ^ 6 by omega) (by omega) hr0 (by omega)
      have hv : ((x0 - 224) * 64 + (x1 - 128)) * 64 + (x2 - 128) = r0' := by omega
      rw [e, hv]
      (refine W_x (Aj hl.symm (Aj q0 (Aj q1 (Aj q2 (Aj q3 (Aj rf (Aj e1 (Aj e2 (Aj r0 (Aj b0 (Aj b1 (Aj b2 (Aj b3 (Aj b4 (Aj b5 b6))))))))))))))) ?_; (repeat' first | apply Cj.mk | exact Nl.nl) <;> intros)
      exact ⟨rfl, rfl⟩
    · simp only [q0, q1, q2, q3] at a b d1 d2 d3 r v e
      omega
    · simp only [q0, q1, q2, q3] at hh b2 b3 b4
      unfold RuneN at b3 b4
      rw [e]
      (refine W_x (Aj hl.symm (Aj q0 (Aj q1 (Aj q2 (Aj q3 (Aj rf (Aj e1 (Aj e2 r0)))))))) ?_; (repeat' first | apply Cj.mk | exact Nl.nl) <;> intros)
      all_goals first | exact ⟨rfl, rfl⟩ | (exfalso; omega)
  · have rf : ∀ lc, Mem.rd ⟨lc, h1⟩ ⟨0, x0, none⟩ 1 = some [.int .u8 52] := fun lc => by rw [rf lc, hz]; rfl
    have e1 := u8a 52 4 (by simp)
    have e2 := u8s 52 3 (by simp)
    have r0 : ∀ lc, Mem.rd ⟨lc, h1⟩ ⟨1, 6, none⟩ 2 = some [.int .u8 144, .int .u8 191] := fun lc => ra 3 lc
    simp only at a1
    rcases g2 with ⟨a, e⟩ | ⟨a, b, n, d1, r, e⟩ | ⟨a, b, n, d1, d2, r, v, e⟩ | ⟨a, b, n, d1, d2, d3, r, v, e⟩ | ⟨e, hh, b2, b3, b4⟩
    · rw [q0] at a; omega
    · simp only [q0, q1] at a b d1 r e
      omega
    · simp only [q0, q1, q2] at a b d1 d2 r v e
      omega
    · simp only [q0, q1, q2, q3] at a b d1 d2 d3 r v e
      unfold RuneN at v
      obtain ⟨y0, hy0⟩ : ∃ y, y = x0 % 8 := ⟨_, rfl⟩
      obtain ⟨y1, hy1⟩ : ∃ y, y = x1 % 64 := ⟨_, rfl⟩
      obtain ⟨y2, hy2⟩ : ∃ y, y = x2 % 64 := ⟨_, rfl⟩
      obtain ⟨y3, hy3⟩ : ∃ y, y = x3 % 64 := ⟨_, rfl⟩
      obtain ⟨z0, hz0⟩ : ∃ z, z = y0 * 262144 := ⟨_, rfl⟩
      obtain ⟨z1, hz1⟩ : ∃ z, z = y1 * 4096 := ⟨_, rfl⟩
      obtain ⟨z2, hz2⟩ : ∃ z, z = y2 * 64 := ⟨_, rfl⟩
      obtain ⟨s1, hs1⟩ : ∃ z, z = z0 + z1 := ⟨_, rfl⟩
      obtain ⟨s2, hs2⟩ : ∃ z, z = s1 + z2 := ⟨_, rfl⟩
      obtain ⟨r0', hr0⟩ : ∃ z, z = s2 + y3 := ⟨_, rfl⟩
      have b0 := and7 c0 hy0
      have b1 := and63 c1 hy1
      have b2 := and63 c2 hy2
      have b2' := and63 c3 hy3
      have b3 := dshl18 hz0 (by omega)
      have b4 := dshl12 hz1 (by omega)
      have b4' := dshl6 hz2 (by omega)
      have b5 := or_i32 (k := 18) hz0 (by omega) hs1 (by omega)
      have b6 := or_i32 (q := y0 * 64 + y1) (k := 12) (show s1 = (y0 * 64 + y1) * 2 ^ 12 by omega) (by omega) hs2 (by omega)
      have b7 := or_i32 (q := (y0 * 64 + y1) * 64 + y2) (k := 6) (show s2 = ((y0 * 64 + y1) * 64 + y2) * 2 ^ 6 by omega) (by omega) hr0 (by omega)
      have hv : (((x0 - 240) * 64 + (x1 - 128)) * 64 + (x2 - 128)) * 64 + (x3 - 128) = r0' := by omega
      rw [e, hv]
      (refine W_x (Aj hl.symm (Aj q0 (Aj q1 (Aj q2 (Aj q3 (Aj rf (Aj e1 (Aj e2 (Aj r0 (Aj b0 (Aj b1 (Aj b2 (Aj b2' (Aj b3 (Aj b4 (Aj b4' (Aj b5 (Aj b6 b7)))))))))))))))))) ?_; (repeat' first | apply Cj.mk | exact Nl.nl) <;> intros)
      exact ⟨rfl, rfl⟩
    · simp only [q0, q1, q2, q3] at hh b2 b3 b4
      unfold RuneN at b3 b4
      rw [e]
      (refine W_x (Aj hl.symm (Aj q0 (Aj q1 (Aj q2 (Aj q3 (Aj rf (Aj e1 (Aj e2 r0)))))))) ?_; (repeat' first | apply Cj.mk | exact Nl.nl) <;> intros)
      all_goals first | exact ⟨rfl, rfl⟩ | (exfalso; omega)
  · have rf : ∀ lc, Mem.rd ⟨lc, h1⟩ ⟨0, x0, none⟩ 1 = some [.int .u8 68] := fun lc => by rw [rf lc, hz]; rfl
    have e1 := u8a 68 4 (by simp)
    have e2 := u8s 68 4 (by simp)
    have r0 : ∀ lc, Mem.rd ⟨lc, h1⟩ ⟨1, 8, none⟩ 2 = some [.int .u8 128, .int .u8 143] := fun lc => ra 4 lc
    simp only at a1
    rcases g2 with ⟨a, e⟩ | ⟨a, b, n, d1, r, e⟩ | ⟨a, b, n, d1, d2, r, v, e⟩ | ⟨a, b, n, d1, d2, d3, r, v, e⟩ | ⟨e, hh, b2, b3, b4⟩
    · rw [q0] at a; omega
    · simp only [q0, q1] at a b d1 r e
      omega
    · simp only [q0, q1, q2] at a b d1 d2 r v e
      omega
    · simp only [q0, q1, q2, q3] at a b d1 d2 d3 r v e
      unfold RuneN at v
      obtain ⟨y0, hy0⟩ : ∃ y, y = x0 % 8 := ⟨_, rfl⟩
      obtain ⟨y1, hy1⟩ : ∃ y, y = x1 % 64 := ⟨_, rfl⟩
      obtain ⟨y2, hy2⟩ : ∃ y, y = x2 % 64 := ⟨_, rfl⟩
      obtain ⟨y3, hy3⟩ : ∃ y, y = x3 % 64 := ⟨_, rfl⟩
      obtain ⟨z0, hz0⟩ : ∃ z, z = y0 * 262144 := ⟨_, rfl⟩
      obtain ⟨z1, hz1⟩ : ∃ z, z = y1 * 4096 := ⟨_, rfl⟩
      obtain ⟨z2, hz2⟩ : ∃ z, z = y2 * 64 := ⟨_, rfl⟩
      obtain ⟨s1, hs1⟩ : ∃ z, z = z0 + z1 := ⟨_, rfl⟩
      obtain ⟨s2, hs2⟩ : ∃ z, z = s1 + z2 := ⟨_, rfl⟩
      obtain ⟨r0', hr0⟩ : ∃ z, z = s2 + y3 := ⟨_, rfl⟩
      have b0 := and7 c0 hy0
      have b1 := and63 c1 hy1
      have b2 := and63 c2 hy2
      have b2' := and63 c3 hy3
      have b3 := dshl18 hz0 (by omega)
      have b4 := dshl12 hz1 (by omega)
      have b4' := dshl6 hz2 (by omega)
      have b5 := or_i32 (k := 18) hz0 (by omega) hs1 (by omega)
      have b6 := or_i32 (q := y0 * 64 + y1) (k := 12) (show s1 = (y0 * 64 + y1) * 2 ^ 12 by omega) (by omega) hs2 (by omega)
      have b7 := or_i32 (q := (y0 * 64 + y1) * 64 + y2) (k := 6) (show s2 = ((y0 * 64 + y1) * 64 + y2) * 2 ^ 6 by omega) (by omega) hr0 (by omega)
      have hv : (((x0 - 240) * 64 + (x1 - 128)) * 64 + (x2 - 128)) * 64 + (x3 - 128) = r0' := by omega
      rw [e, hv]
      (refine W_x (Aj hl.symm (Aj q0 (Aj q1 (Aj q2 (Aj q3 (Aj rf (Aj e1 (Aj e2 (Aj r0 (Aj b0 (Aj b1 (Aj b2 (Aj b2' (Aj b3 (Aj b4 (Aj b4' (Aj b5 (Aj b6 b7)))))))))))))))))) ?_; (repeat' first | apply Cj.mk | exact Nl.nl) <;> intros)
      exact ⟨rfl, rfl⟩
    · simp only [q0, q1, q2, q3] at hh b2 b3 b4
      unfold RuneN at b3 b4
      rw [e]
      (refine W_x (Aj hl.symm (Aj q0 (Aj q1 (Aj q2 (Aj q3 (Aj rf (Aj e1 (Aj e2 r0)))))))) ?_; (repeat' first | apply Cj.mk | exact Nl.nl) <;> intros)
      all_goals first | exact ⟨rfl, rfl⟩ | (exfalso; omega)
  · have rf : ∀ lc, Mem.rd ⟨lc, h1⟩ ⟨0, x0, none⟩ 1 = some [.int .u8 4] := fun lc => by rw [rf lc, hz]; rfl
    have e1 := u8a 4 4 (by simp)
    have e2 := u8s 4 0 (by simp)
    have r0 : ∀ lc, Mem.rd ⟨lc, h1⟩ ⟨1, 0, none⟩ 2 = some [.int .u8 128, .int .u8 191] := fun lc => ra 0 lc
    simp only at a1 a2
    rcases g2 with ⟨a, e⟩ | ⟨a, b, n, d1, r, e⟩ | ⟨a, b, n, d1, d2, r, v, e⟩ | ⟨a, b, n, d1, d2, d3, r, v, e⟩ | ⟨e, hh, b2, b3, b4⟩
    · rw [q0] at a; omega
    · simp only [q0, q1] at a b d1 r e
      omega
    · simp only [q0, q1, q2] at a b d1 d2 r v e
      omega
    · simp only [q0, q1, q2, q3] at a b d1 d2 d3 r v e
      unfold RuneN at v
      obtain ⟨y0, hy0⟩ : ∃ y, y = x0 % 8 := ⟨_, rfl⟩
      obtain ⟨y1, hy1⟩ : ∃ y, y = x1 % 64 := ⟨_, rfl⟩
      obtain ⟨y2, hy2⟩ : ∃ y, y = x2 % 64 := ⟨_, rfl⟩
      obtain ⟨y3, hy3⟩ : ∃ y, y = x3 % 64 := ⟨_, rfl⟩
      obtain ⟨z0, hz0⟩ : ∃ z, z = y0 * 262144 := ⟨_, rfl⟩
      obtain ⟨z1, hz1⟩ : ∃ z, z = y1 * 4096 := ⟨_, rfl⟩
      obtain ⟨z2, hz2⟩ : ∃ z, z = y2 * 64 := ⟨_, rfl⟩
      obtain ⟨s1, hs1⟩ : ∃ z, z = z0 + z1 := ⟨_, rfl⟩
      obtain ⟨s2, hs2⟩ : ∃ z, z = s1 + z2 := ⟨_, rfl⟩
      obtain ⟨r0', hr0⟩ : ∃ z, z = s2 + y3 := ⟨_, rfl⟩
      have b0 := and7 c0 hy0
      have b1 := and63 c1 hy1
      have b2 := and63 c2 hy2
      have b2' := and63 c3 hy3
      have b3 := dshl18 hz0 (by omega)
      have b4 := dshl12 hz1 (by omega)
      have b4' := dshl6 hz2 (by omega)
      have b5 := or_i32 (k := 18) hz0 (by omega) hs1 (by omega)
      have b6 := or_i32 (q := y0 * 64 + y1) (k := 12) (show s1 = (y0 * 64 + y1) * 2 ^ 12 by omega) (by omega) hs2 (by omega)
      have b7 := or_i32 (q := (y0 * 64 + y1) * 64 + y2) (k := 6) (show s2 = ((y0 * 64 + y1) * 64 + y2) * 2 ^ 6 by omega) (by omega) hr0 (by omega)
      have hv : (((x0 - 240) * 64 + (x1 - 128)) * 64 + (x2 - 128)) * 64 + (x3 - 128) = r0' := by omega
      rw [e, hv]
      (refine W_x (Aj hl.symm (Aj q0 (Aj q1 (Aj q2 (Aj q3 (Aj rf (Aj e1 (Aj e2 (Aj r0 (Aj b0 (Aj b1 (Aj b2 (Aj b2' (Aj b3 (Aj b4 (Aj b4' (Aj b5 (Aj b6 b7)))))))))))))))))) ?_; (repeat' first | apply Cj.mk | exact Nl.nl) <;> intros)
      exact ⟨rfl, rfl⟩
    · simp only [q0, q1, q2, q3] at hh b2 b3 b4
      unfold RuneN at b3 b4
      rw [e]
      (refine W_x (Aj hl.symm (Aj q0 (Aj q1 (Aj q2 (Aj q3 (Aj rf (Aj e1 (Aj e2 r0)))))))) ?_; (repeat' first | apply Cj.mk | exact Nl.nl) <;> intros)
      all_goals first | exact ⟨rfl, rfl⟩ | (exfalso; omega)
  · have rf : ∀ lc, Mem.rd ⟨lc, h1⟩ ⟨0, x0, none⟩ 1 = some [.int .u8 241] := fun lc => by rw [rf lc, hz]; rfl
    simp only at a1
    have m1 := msk1
    have m2 := msk2
    have m3 := msk3 (x0 : Nat)
    have m4 := msk4
    have m5 := msk5
    rcases g2 with ⟨a, e⟩ | ⟨a, b, n, d1, r, e⟩ | ⟨a, b, n, d1, d2, r, v, e⟩ | ⟨a, b, n, d1, d2, d3, r, v, e⟩ | ⟨e, hh, b2, b3, b4⟩
    · rw [q0] at a; omega
    · simp only [q0, q1] at a b d1 r e
      omega
    · simp only [q0, q1, q2] at a b d1 d2 r v e
      omega
    · simp only [q0, q1, q2, q3] at a b d1 d2 d3 r v e
      unfold RuneN at v
      omega
    · rw [e]
      (refine W_x (Aj hl.symm (Aj q0 (Aj rf (Aj m1 (Aj m2 (Aj m3 (Aj m4 m5))))))) ?_; (repeat' first | apply Cj.mk | exact Nl.nl) <;> intros)
      exact ⟨rfl, rfl⟩
end Go.Proofs.YtblmakgjdenpfaaDoor.AM
namespace Go.Proofs.YtblmakgjdenpfaaDoor.AM
open Go
def LF_utf_Cut : LFunc :=
  .mk 2 [.tmp 4, .tmp 5] (.seq (R 999 [0, 1] [.set 4 (.cv (.string ⟨#[]⟩)), .set 5 (.cv (.string ⟨#[]⟩))]) (.seq (R 9 [0, 1] [.set 1 (.op (.p (.mm false [.s 0, .s 1])) (.cons (.op
  (.p (.mm true [.s 0, .s 1])) (.cons (.va 1) (xi 0))) (xsl (.va 0))))]) (.seq (.seq (R 14 [0, 1, 6] [.set 6 (.op (.p (.mm true [.s 0, .s 1])) (.cons (xb .add (xb .sub (.va 1) (xi
  4)) (xi 1)) (xi 0)))]) (.block 0 (.loop (.seq (.seq (R 18 [0, 1, 6, 20] [.tmp 20 (xb .lss (.va 6) (.va 1))]) (.cond (.s 20) .skip (.exit 0))) (.seq (.block 1 (.seq (R 24 [0, 1, 6,
  7, 8] [.set 23 (xc1 46 (.op (.p (.slS (.s 0) (some (.s 1)) none)) (.cons (.va 0) (.va 6)))), .tmp 28 (xex 0 (.sl 23)), .tmp 29 (xex 1 (.sl 23)), .set 7
  (.sl 28), .set 8 (.sl 29)]) (.seq (R 30 [0, 1, 6, 42] [.tmp 42 (.and (.and (xb .gtr (.va 8) (xi 1)) (xb .geq (.va 7) (xr 0))) (xb .gtr (xb .add (.va 6) (.va 8)) (.va 1)))]) (.cond
  (.s 42) (R 43 [0, 1, 6] [.set 1 (.va 6)]) .skip)))) (R 21 [0, 1, 6] [.set 6 (xb .add (.va 6) (xi 1))])))))) (.seq (R 44 [4, 5] [.tmp 46 (.op (.p (.slS (.s 0) none (some (.s 1))))
  (.cons (.va 0) (.va 1))), .tmp 49 (.op (.p (.slS (.s 0) (some (.s 1)) none)) (.cons (.va 0) (.va 1))), .set 4 (.sl 46), .set 5 (.sl 49)]) .ret))))
theorem fn_utf_Cut : (autoPrg Tryd.prog).fn 76 = some LF_utf_Cut := by kernel_rfl
def LF_utf_Bound : LFunc :=
  .mk 2 [.tmp 4] (.seq (R 999 [0, 1] [.set 4 (.cv (.bool false))]) (.seq (.seq (R 7 [0, 1, 14] [.tmp 14 (.or (xb .lss (.va 1) (xi 0)) (xb .gtr (.va 1) (xsl (.va 0))))]) (.cond (.s
  14) (.seq (R 999 [4] [.set 4 (.cv (.bool false))]) .ret) .skip)) (.seq (R 16 [1, 5] [.set 15 (xc2 76 (.va 0) (.va 1)), .tmp 19 (xex 0 (.sl 15)), .tmp 20 (xex 1 (.sl 15)),
  .set 5 (.sl 19), .set 6 (.sl 20)]) (.seq (R 21 [4] [.set 4 (xb .eql (xsl (.va 5)) (.va 1))]) .ret))))
theorem fn_utf_Bound : (autoPrg Tryd.prog).fn 39 = some LF_utf_Bound := by kernel_rfl
def LF_utf_First : LFunc :=
  .mk 1 [.cell 2 (some 3), .tmp 3] (.seq (R 2 [0, 2] [.tmp 2 (xnl 2 [.int .i32 0, .int .i64 0, .bool false]), .set 3 (.cv (.bool false))]) (.seq (.seq (R 4 [0, 2, 5] [.tmp 5 (xb
  .eql (.va 0) (.cv (.string ⟨#[]⟩)))]) (.cond (.s 5) (.seq (R 6 [2, 3] [.run (xst 3 (.sl 2) (.op (.p (.build [.int .i32 0, .int .i64 0, .bool false] [])) .nil)), .set 3 (.cv (.bool
  false))]) .ret) .skip)) (.seq (R 7 [2, 3] [.tmp 8 (xc1 46 (.va 0)), .run (xst 3 (.sl 2) (xc2 45 (xex 0 (.sl 8)) (xex 1 (.sl 8)))), .set 3 (.cv
  (.bool true))]) .ret)))
theorem fn_utf_First : (autoPrg Tryd.prog).fn 19 = some LF_utf_First := by kernel_rfl
end Go.Proofs.YtblmakgjdenpfaaDoor.AM
namespace Go.Proofs.YtblmakgjdenpfaaDoor.AM
open Go
theorem decode_eq (t : ByteArray) (h : AH) (hT : U8T h) (hsz : t.size < 100000000) (h0 : 0 < t.size) : callO PX 46 [.string t] h = some (.tuple (List.toArray [.int .i32 (dec1 t.data.toList).1, .int .i64 (dec1 t.data.toList).2]), h) := by
  have hne : ¬ t = ⟨#[]⟩ := fun e => by rw [e] at h0; cases h0
  obtain ⟨l, hl⟩ : ∃ l, l = t.data.toList := ⟨_, rfl⟩
  have hll : l.length = t.size := by rw [hl]; rfl
  obtain ⟨x0, q0⟩ : ∃ x, bat l 0 = x := ⟨_, rfl⟩
  by_cases hx : x0 < 128
  · have hd : dec1 t.data.toList = (x0, 1) := by rw [← hl]; unfold dec1; rw [q0, if_pos (by omega)]
    rw [hd]
    apply WpC.eqn
    refine wpc_fn (px_ext rfl) (px_fn fn_utf8_DecodeRuneInString) rfl ?_
    unfold LF_utf8_DecodeRuneInString
    simp only [argFr]
    (refine W_x (Aj hl.symm (Aj q0 hne)) ?_; (repeat' first | apply Cj.mk | exact Nl.nl) <;> intros)
    exact ⟨rfl, rfl⟩
  · have e := decodeSlow_eq t h hT hsz (by rw [← hl, q0]; omega)
    generalize (dec1 t.data.toList).1 = c at e ⊢
    generalize (dec1 t.data.toList).2 = n at e ⊢
    have c0 := bat_lt l 0
    rw [q0] at c0
    apply WpC.eqn
    refine wpc_fn (px_ext rfl) (px_fn fn_utf8_DecodeRuneInString) rfl ?_
    unfold LF_utf8_DecodeRuneInString
    simp only [argFr]
    (refine W_x (Aj hl.symm (Aj q0 (Aj hne e))) ?_; (repeat' first | apply Cj.mk | exact Nl.nl) <;> intros)
    exact ⟨rfl, rfl⟩
theorem utfFirst_eq (t : ByteArray) (h : AH) (hT : U8T h) (hsz : t.size < 100000000) (h0 : 0 < t.size) : callO PX 19 [.string t] h = some (.tuple (List.toArray [spotV (dec1 t.data.toList), .bool true]), h) := by
  have hne : ¬ t = ⟨#[]⟩ := fun e => by rw [e] at h0; cases h0
  have e1 := decode_eq t h hT hsz h0
  have e2 := spot_eq (dec1 t.data.toList).1 (dec1 t.data.toList).2 h
  have e3 : ((dec1 t.data.toList).1, (dec1 t.data.toList).2) = dec1 t.data.toList := rfl
  rw [e3] at e2
  generalize dec1 t.data.toList = d at *
  unfold spotV at e2 ⊢
  apply WpC.eqn
  refine wpc_fn (px_ext rfl) (px_fn fn_utf_First) rfl ?_
  unfold LF_utf_First
  simp only [argFr]
  (refine W_x (Aj hne (Aj e1 e2)) ?_; (repeat' first | apply Cj.mk | exact Nl.nl) <;> intros)
  exact ⟨rfl, rfl⟩
def freeB (l : Bytes) (p : Nat) : Prop := ∀ f, p - 3 ≤ f → f < p → ¬ (1 < (dec1 (l.drop f)).2 ∧ p < f + (dec1 (l.drop f)).2)
theorem dec1_le4 (l : Bytes) : (dec1 l).2 ≤ 4 := by
  unfold dec1
  repeat' split
  all_goals (dsimp only; omega)
theorem cut_spec (s : ByteArray) (h : AH) (hT : U8T h) (hs : s.size ≤ 1048576) (p : Nat) (hp : p ≤ s.size) : WpC PX 76 [.string s, .int .i64 p] h fun v h' => h' = h ∧ ∃ j : Nat, j ≤ p ∧ (j = p → freeB s.data.toList p) ∧ v = .tuple (List.toArray [.string (s.extract 0 j), .string (s.extract j s.size)]) := by
  refine wpc_fn (px_ext rfl) (px_fn fn_utf_Cut) rfl ?_
  unfold LF_utf_Cut
  simp only [argFr]
  (refine W_x trivial ?_; (repeat' first | apply Cj.mk | exact Nl.nl) <;> intros)
  have m1 : min (max (p : Int) 0) s.size = p := by omega
  have m2 : max ((p : Int) - 4 + 1) 0 = ((p - 3 : Nat) : Int) := by omega
  rw [m1, m2]
  refine wp_loop (fun w fr lc h' => lc = [] ∧ h' = h ∧ ∃ j f : Nat, w = p + 1 - f ∧ f ≤ p ∧ j ≤ p ∧ p - 3 ≤ f ∧ fr = [(0, .string s), (1, .int .i64 j), (6, .int .i64 f)] ∧ ((j = p ∧ ∀ g, p - 3 ≤ g → g < f → ¬ (1 < (dec1 (s.data.toList.drop g)).2 ∧ p < g + (dec1 (s.data.toList.drop g)).2)) ∨ (j < p ∧ f = j + 1)))
    (p + 1 - (p - 3)) ⟨rfl, rfl, p, p - 3, rfl, by omega, by omega, by omega, rfl, .inl ⟨rfl, fun g h1 h2 => by omega⟩⟩ ?_
  rintro w fr lc h' ⟨rfl, rfl, j, f, rfl, hf, hj, hf3, rfl, hor⟩
  have hjs : (j : Int) ≤ s.size := by omega
  rcases hor with ⟨rfl, hno⟩ | ⟨hjp, rfl⟩
  · by_cases hfj : f < j
    · have hfs : (f : Int) ≤ s.size := by omega
      obtain ⟨d1, d2⟩ := ext_drop s f (by omega)
      have e := decode_eq (s.extract f s.size) h' hT (by omega) (by omega)
      rw [d1] at e
      have hc : ∃ c, (dec1 (s.data.toList.drop f)).1 = c := ⟨_, rfl⟩
      obtain ⟨c, hc⟩ := hc
      obtain ⟨n, hn⟩ : ∃ n, (dec1 (s.data.toList.drop f)).2 = n := ⟨_, rfl⟩
      rw [hc, hn] at e
      have hns : n ≤ 4 := by rw [← hn]; exact dec1_le4 _
      by_cases c1 : 1 < n ∧ j < f + n
      · obtain ⟨k1, k2⟩ := c1
        (refine W_x (Aj hfs e) ?_; (repeat' first | apply Cj.mk | exact Nl.nl) <;> intros)
        refine ⟨_, ?_, rfl, rfl, f, f + 1, rfl, by omega, by omega, by omega, rfl, .inr ⟨hfj, rfl⟩⟩
        omega
      · have hno' : ∀ g, j - 3 ≤ g → g < f + 1 → ¬ (1 < (dec1 (s.data.toList.drop g)).2 ∧ j < g + (dec1 (s.data.toList.drop g)).2) := fun g h1 h2 => by
          rcases Nat.lt_or_ge g f with q | q
          · exact hno g h1 q
          · obtain rfl : g = f := by omega
            rw [hn]
            exact c1
        by_cases k1 : 1 < n
        · have k2 : ¬ ((f : Int) + n > j) := by omega
          (refine W_x (Aj hfs e) ?_; (repeat' first | apply Cj.mk | exact Nl.nl) <;> intros)
          refine ⟨_, ?_, rfl, rfl, j, f + 1, rfl, by omega, by omega, by omega, rfl, .inl ⟨rfl, hno'⟩⟩
          omega
        · (refine W_x (Aj hfs e) ?_; (repeat' first | apply Cj.mk | exact Nl.nl) <;> intros)
          refine ⟨_, ?_, rfl, rfl, j, f + 1, rfl, by omega, by omega, by omega, rfl, .inl ⟨rfl, hno'⟩⟩
          omega
    · (refine W_x hjs ?_; (repeat' first | apply Cj.mk | exact Nl.nl) <;> intros)
      refine ⟨rfl, j, by omega, fun _ => ?_, rfl⟩
      intro g h1 h2
      exact hno g h1 (by omega)
  · (refine W_x hjs ?_; (repeat' first | apply Cj.mk | exact Nl.nl) <;> intros)
    exact ⟨rfl, j, by omega, fun q => by omega, rfl⟩
theorem bound_spec (s : ByteArray) (h : AH) (hT : U8T h) (hs : s.size ≤ 1048576) (p : Nat) (hp : p ≤ s.size) : WpC PX 39 [.string s, .int .i64 p] h fun v h' => h' = h ∧ ∃ b : Bool, (b = true → freeB s.data.toList p) ∧ v = .bool b := by
  obtain ⟨_, g, e, rfl, j, hj, hf, rfl⟩ := cut_spec s h hT hs p hp
  have hz : (s.extract 0 j).size = j := by
    rw [ba_size, ba_extract _ _ _ (by omega), List.drop_zero, List.length_take]
    have : s.data.toList.length = s.size := rfl
    omega
  by_cases hjp : j = p
  · subst hjp
    refine wpc_fn (px_ext rfl) (px_fn fn_utf_Bound) rfl ?_
    unfold LF_utf_Bound
    simp only [argFr]
    (refine W_x (Aj e hz) ?_; (repeat' first | apply Cj.mk | exact Nl.nl) <;> intros)
    exact ⟨rfl, true, fun _ => hf rfl, rfl⟩
  · have hjp' : ¬ (j : Int) = p := by omega
    refine wpc_fn (px_ext rfl) (px_fn fn_utf_Bound) rfl ?_
    unfold LF_utf_Bound
    simp only [argFr]
    (refine W_x (Aj e hz) ?_; (repeat' first | apply Cj.mk | exact Nl.nl) <;> intros)
    exact ⟨rfl, false, (fun q => by cases q), rfl⟩
theorem free_posn {l : Bytes} {p : Nat} (hp : p ≤ l.length) (hf : freeB l p) : ∃ i, i ≤ (spots l).length ∧ p = posn l i := by
  have key : ∀ n i, (spots l).length - i ≤ n → i ≤ (spots l).length → posn l i ≤ p → ∃ i, i ≤ (spots l).length ∧ p = posn l i := by
    intro n
    induction n with
    | zero =>
      intro i hn hi hle
      have : i = (spots l).length := by omega
      subst this
      rw [posn_all] at hle
      exact ⟨_, Nat.le_refl _, by rw [posn_all]; omega⟩
    | succ n ih =>
      intro i hn hi hle
      rcases Nat.lt_or_ge i (spots l).length with hil | hil
      · have hs := posn_succ hil
        obtain ⟨p1, p2, p3⟩ := posn_lt hil
        have hw := dec1_le4 (l.drop (posn l i))
        rcases Nat.lt_or_ge p (posn l (i + 1)) with q | q
        · rcases Nat.eq_or_lt_of_le hle with e | e
          · exact ⟨i, hi, e.symm⟩
          · exfalso
            rw [p2] at hw
            have := hf (posn l i) (by omega) e
            rw [p2] at this
            omega
        · exact ih (i + 1) (by omega) hil q
      · have : i = (spots l).length := by omega
        subst this
        rw [posn_all] at hle
        exact ⟨_, Nat.le_refl _, by rw [posn_all]; omega⟩
  exact key _ 0 (Nat.le_refl _) (Nat.zero_le _) (by rw [posn_zero]; omega)
end Go.Proofs.YtblmakgjdenpfaaDoor.AM
namespace Go.Proofs.YtblmakgjdenpfaaDoor.AM
open Go
def LF_utf_Joins : LFunc :=
  .mk 2 [.tmp 4] (.seq (R 999 [0, 1] [.set 4 (.cv (.bool false))]) (.seq (R 7 [1, 5] [.set 5 (.op (.p (.slS (.s 0) (some (.s 1)) none)) (.cons (.va 0) (.op (.p (.mm true [.s 0, .s
  1])) (.cons (xb .add (xb .sub (xsl (.va 0)) (xi 4)) (xi 1)) (xi 0)))))]) (.seq (R 14 [5, 6] [.set 6 (xb .add (.va 5) (.op (.p (.slS (.s 0) none (some (.s 1)))) (.cons (.va 1) (.op
  (.p (.mm false [.s 0, .s 1])) (.cons (xsl (.va 1)) (xi 3))))))]) (.seq (R 21 [4] [.set 4 (xc2 39 (.va 6) (xsl (.va 5)))]) .ret))))
theorem fn_utf_Joins : (autoPrg Tryd.prog).fn 15 = some LF_utf_Joins := by kernel_rfl
end Go.Proofs.YtblmakgjdenpfaaDoor.AM
namespace Go.Proofs.YtblmakgjdenpfaaDoor.AM
open Go
theorem bat_take4 {l : Bytes} {k : Nat} (hk : k < 4) : bat (l.take 4) k = bat l k := by
  unfold bat
  simp only [List.getD_eq_getElem?_getD]
  rw [List.getElem?_take_of_lt hk]
theorem bcont_take4 {l : Bytes} {k : Nat} (hk : k < 4) : bcont (l.take 4) k = bcont l k := by
  unfold bcont
  rw [bat_take4 hk, List.length_take]
  congr 1
  exact decide_eq_decide.2 (by omega)
theorem dec1_take4 (l : Bytes) : dec1 (l.take 4) = dec1 l := by
  unfold dec1
  simp only [bat_take4 (l := l) (k := 0) (by decide), bat_take4 (l := l) (k := 1) (by decide), bat_take4 (l := l) (k := 2) (by decide), bat_take4 (l := l) (k := 3) (by decide),
    bcont_take4 (l := l) (k := 1) (by decide), bcont_take4 (l := l) (k := 2) (by decide), bcont_take4 (l := l) (k := 3) (by decide)]
theorem dec1_congr {a b : Bytes} (h : a.take 4 = b.take 4) : dec1 a = dec1 b := by rw [← dec1_take4 a, ← dec1_take4 b, h]
theorem free_join {s t : Bytes} (hf : freeB (s.drop (s.length - 3) ++ t.take 3) (s.drop (s.length - 3)).length) : freeB (s ++ t) s.length := by
  intro f h1 h2
  have h := hf (f - (s.length - 3)) (by rw [List.length_drop]; omega) (by rw [List.length_drop]; omega)
  rw [List.length_drop] at h
  have e1 : (s.drop (s.length - 3) ++ t.take 3).drop (f - (s.length - 3)) = s.drop f ++ t.take 3 := by
    rw [List.drop_append_of_le_length (by rw [List.length_drop]; omega), List.drop_drop]
    congr 2
    omega
  have e2 : (s ++ t).drop f = s.drop f ++ t := List.drop_append_of_le_length (by omega)
  have e3 : dec1 (s.drop f ++ t.take 3) = dec1 (s.drop f ++ t) := by
    refine dec1_congr ?_
    rw [List.take_append, List.take_append, List.take_take]
    congr 2
    rw [List.length_drop]
    omega
  rw [e1, e3] at h
  rw [e2]
  omega
theorem join_spots {s t : Bytes} (hf : freeB (s ++ t) s.length) : spots (s ++ t) = spots s ++ spots t := by
  obtain ⟨i, hi, hp⟩ := free_posn (by simp) hf
  have h1 := spots_take i (s ++ t) hi
  have h2 := (spots_drop (s ++ t) i hi).1
  rw [← hp, List.take_left' rfl] at h1
  rw [← hp, List.drop_left' rfl] at h2
  rw [h1, h2, List.take_append_drop]
theorem str_add9' {x y : ByteArray} (h : x.size + y.size ≤ 9223372036854775807) : binA .add (.string x) (.string y) = some (.string (x ++ y)) := if_pos h
theorem joins_eq {s t : ByteArray} {h : AH} {d m : Nat} {b : Bool} (hd : d = s.size - 3) (hm : m = min t.size 3) (hs : s.size ≤ 1048576) (ht : t.size ≤ 1048576)
    (hadd : binA .add (.string (s.extract d s.size)) (.string (t.extract 0 m)) = some (.string (s.extract d s.size ++ t.extract 0 m)))
    (e : callO PX 39 [.string (s.extract d s.size ++ t.extract 0 m), .int .i64 (s.extract d s.size).size] h = some (.bool b, h)) : callO PX 15 [.string s, .string t] h = some (.bool b, h) := by
  obtain ⟨z, hz⟩ : ∃ z : Int, z = (s.extract d s.size).size := ⟨_, rfl⟩
  rw [← hz] at e
  have hd1 : max ((s.size : Int) - 4 + 1) 0 = (d : Int) := by omega
  have hm1 : min (t.size : Int) 3 = (m : Int) := by omega
  have hd2 : d ≤ s.size := by omega
  have hm2 : m ≤ t.size := by omega
  clear hd hm
  apply WpC.eqn
  refine wpc_fn (px_ext rfl) (px_fn fn_utf_Joins) rfl ?_
  unfold LF_utf_Joins
  simp only [argFr]
  (refine W_x (Aj hd1 (Aj hm1 (Aj e (Aj hadd hz.symm)))) ?_; (repeat' first | apply Cj.mk | exact Nl.nl) <;> intros)
  exact ⟨rfl, rfl⟩
theorem joins_spec (s t : ByteArray) (h : AH) (hT : U8T h) (hs : s.size ≤ 1048576) (ht : t.size ≤ 1048576) :
    WpC PX 15 [.string s, .string t] h fun v h' => h' = h ∧ ∃ b : Bool, (b = true → spots (s.data.toList ++ t.data.toList) = spots s.data.toList ++ spots t.data.toList) ∧ v = .bool b := by
  have hsl : s.data.toList.length = s.size := rfl
  have htl : t.data.toList.length = t.size := rfl
  obtain ⟨d, hd⟩ : ∃ d, d = s.size - 3 := ⟨_, rfl⟩
  obtain ⟨m, hm⟩ : ∃ m, m = min t.size 3 := ⟨_, rfl⟩
  have hA : (s.extract d s.size).data.toList = s.data.toList.drop (s.data.toList.length - 3) := by
    rw [ba_extract _ _ _ (Nat.le_refl _), hd, hsl, ← hsl, ← List.length_drop, List.take_length]
  have hB : (t.extract 0 m).data.toList = t.data.toList.take 3 := by
    rw [ba_extract _ _ _ (by omega), List.drop_zero, Nat.sub_zero, hm, ← htl, Nat.min_comm, ← List.take_eq_take_min]
  have hAs : (s.extract d s.size).size = s.size - d := by rw [ba_size, hA, List.length_drop]; omega
  have hBs : (t.extract 0 m).size ≤ 3 := by rw [ba_size, hB, List.length_take]; omega
  have hAd : (s.extract d s.size).size ≤ 3 := by omega
  have hC : (s.extract d s.size ++ t.extract 0 m).data.toList = s.data.toList.drop (s.data.toList.length - 3) ++ t.data.toList.take 3 := by
    rw [ByteArray.data_append, Array.toList_append, hA, hB]
  have hCs : (s.extract d s.size ++ t.extract 0 m).size = (s.extract d s.size).size + (t.extract 0 m).size := by
    rw [ba_size, ByteArray.data_append, Array.toList_append, List.length_append, ← ba_size, ← ba_size]
  obtain ⟨_, h', e, rfl, b, hb, rfl⟩ := bound_spec (s.extract d s.size ++ t.extract 0 m) h hT (by omega) (s.extract d s.size).size (by omega)
  have hfin : b = true → spots (s.data.toList ++ t.data.toList) = spots s.data.toList ++ spots t.data.toList := fun q => by
    have := hb q
    rw [hC, show (s.extract d s.size).size = (s.data.toList.drop (s.data.toList.length - 3)).length by rw [ba_size, hA]] at this
    exact join_spots (free_join this)
  have e2 := joins_eq (s := s) (t := t) (d := d) (m := m) hd hm hs ht (str_add9' (by omega)) e
  exact ⟨_, _, e2, rfl, b, hfin, rfl⟩
end Go.Proofs.YtblmakgjdenpfaaDoor.AM
namespace Go.Proofs.YtblmakgjdenpfaaDoor.AM
open Go
def LPbody : LCode :=
  .seq (R 42 [1, 2, 7, 11, 12, 41, 42, 43] [.tmp 42 (.op (.e (.nxtS (.s 0))) (.sl 41)), .tmp 43 (xex 0 (.sl 42))]) (.seq (.cond (.s 43) .skip (.exit 0)) (.block 1 (.seq (R
  44 [1, 2, 7, 11, 12, 14, 41] [.set 14 (xex 2 (.sl 42))]) (.seq (.seq (R 45 [1, 2, 7, 11, 12, 14, 41, 47] [.tmp 47 (xb .gtr (.va 12) (.va 2))]) (.cond (.s 47) (.exit 0) .skip))
  (.seq (R 49 [1, 2, 7, 11, 12, 14, 15, 16, 41] [.set 48 (xc3 18 (.va 7) (.va 1) (.va 12)), .tmp 53 (xex 0 (.sl 48)), .tmp 54 (xex 1 (.sl 48)), .at 15, .tmp 15 (xnl 15
  [.int .i64 0, .int .i64 0]), .run (xst 2 (.sl 15) (.sl 53)), .tmp 16 (.va 54)]) (.seq (.seq (R 55 [1, 2, 7, 12, 14, 15, 41, 79] [.tmp 79 (.or (.or (.or (xu .not (.va 16)) (xb .lss
  (xld (xfa 0 (.sl 15))) (.va 11))) (xb .geq (xld (xfa 0 (.sl 15))) (xsl (.va 1)))) (xb .neq (xc2 16 (.va 7) (.op (.p (.slS (.s 0) (some (.s 1)) (some (.s 2)))) (.cons
  (.va 1) (.cons (.va 11) (xld (xfa 0 (.sl 15))))))) (.cv (.string ⟨#[]⟩))))]) (.cond (.s 79) (.seq (R 999 [6] [.set 6 (.cv (.bool false))]) .ret) .skip)) (.seq (R 81 [1, 2, 7, 12,
  14, 15, 17, 18, 41] [.set 80 (xc1 19 (.op (.p (.slS (.s 0) (some (.s 1)) none)) (.cons (.va 1) (xld (xfa 0 (.sl 15)))))), .tmp 86 (xex 0 (.sl 80)), .tmp 87 (xex 1 (.sl
  80)), .at 17, .tmp 17 (xnl 17 [.int .i32 0, .int .i64 0, .bool false]), .run (xst 3 (.sl 17) (.sl 86)), .tmp 18 (.va 87)]) (.seq (.seq (.region [.mk (some 88) (.p (.mv (.s 18)))
  none, .mk (some 89) (.p (.un .not (.s 88))) none, .mk (some 90) (.p (.mv (.s 89))) none, .mk (some 91) (.p (.faddr 0 (.s 17))) (some (90, false)), .mk (some 92) (.r (.load none
  (.s 91))) (some (90, false)), .mk (some 93) (.p (.mv (.s 14))) (some (90, false)), .mk (some 94) (.p (.bin .neq (.s 92) (.s 93))) (some (90, false)), .mk (some 95) (.p (.pick (.s
  90) (.c (.bool true)) (.s 94))) none, .mk (some 96) (.p (.mv (.s 95))) none, .mk (some 97) (.p (.mv (.s 1))) (some (96, false)), .mk (some 98) (.p (.faddr 0 (.s 15))) (some (96,
  false)), .mk (some 99) (.r (.load none (.s 98))) (some (96, false)), .mk (some 100) (.p (.slS (.s 97) none (some (.s 99)))) (some (96, false)), .mk (some 101) (.e (.call
  20 [.s 100])) (some (96, false)), .mk (some 102) (.p (.faddr 1 (.s 15))) (some (96, false)), .mk (some 103) (.r (.load none (.s 102))) (some (96, false)), .mk (some
  104) (.p (.bin .neq (.s 101) (.s 103))) (some (96, false)), .mk (some 105) (.p (.pick (.s 96) (.c (.bool true)) (.s 104))) none] [1, 2, 7, 12, 15, 17, 41, 105] [(15, 0)]) (.cond
  (.s 105) (.seq (R 999 [6] [.set 6 (.cv (.bool false))]) .ret) .skip)) (.seq (R 106 [1, 2, 7, 11, 12, 41] [.set 11 (xb .add (xld (xfa 0 (.sl 15))) (xld (xfa 1 (.sl 17))))]) (R 111
  [1, 2, 7, 11, 12, 41] [.set 12 (xb .add (.va 12) (xi 1))]))))))))))
def LF_guiselaw11_StripPlaces : LFunc :=
  .mk 3 [.tmp 6] (.seq (R 3 [1, 2, 3] [.tmp 3 (xbl 3 8 (.sl 0)), .set 6 (.cv (.bool false))]) (.seq (R 20 [1, 2, 7, 8, 9] [.set 19 (xc1 9 (xln 8 (.sl 3))), .tmp 22
  (xex 0 (.sl 19)), .tmp 23 (xex 1 (.sl 19)), .tmp 24 (xex 2 (.sl 19)), .set 7 (.sl 22), .set 8 (.sl 23), .set 9 (.sl 24)]) (.seq (.seq (R 25 [1, 2, 7, 9, 26] [.tmp 26 (xu .not (.va
  8))]) (.cond (.s 26) (.seq (R 27 [6] [.set 6 (.and (.va 9) (xc0 10))]) .ret) .skip)) (.seq (.seq (R 31 [1, 2, 7, 36] [.tmp 36 (.or (xb .lss (.va 2) (xi 0)) (xb
  .gtr (.va 2) (xi 60)))]) (.cond (.s 36) (R 999 [1, 2, 7] [.set 2 (xi 60)]) .skip)) (.seq (R 37 [1, 2, 7, 10] [.set 10 (xc2 16 (.va 7) (.va 1))]) (.seq (R 999 [1, 2,
  7, 10, 11] [.set 11 (xi 0)]) (.seq (R 999 [1, 2, 7, 10, 11, 12] [.set 12 (xi 0)]) (.seq (.seq (R 40 [1, 2, 7, 11, 12, 41] [.tmp 41 (.op (.e (.rngS 41 (.s 0))) (.va 10))]) (.block
  0 (.loop LPbody))) (.seq (R 113 [6] [.set 6 (xc0 10)]) .ret)))))))))
theorem fn_guiselaw11_StripPlaces : (autoPrg Tryd.prog).fn 5 = some LF_guiselaw11_StripPlaces := by kernel_rfl
end Go.Proofs.YtblmakgjdenpfaaDoor.AM
namespace Go.Proofs.YtblmakgjdenpfaaDoor.AM
open Go
theorem filter_range_gap {p : Nat → Bool} {n i : Nat} (hi : i < ((List.range n).filter p).length) : ∃ j : Nat, (i = 0 → j = 0) ∧ (∀ k, i = k + 1 → j = ((List.range n).filter p).getD k 0 + 1) ∧ j ≤ ((List.range n).filter p)[i] ∧ ∀ r, j ≤ r → r < ((List.range n).filter p)[i] → p r = false := by
  have hs : List.Pairwise (· < ·) ((List.range n).filter p) := List.Pairwise.filter _ List.pairwise_lt_range
  have hm : ∀ r, r < ((List.range n).filter p)[i] → p r = true → ∃ m, ∃ hm : m < ((List.range n).filter p).length, ((List.range n).filter p)[m] = r := fun r hr hp => by
    have hn : ((List.range n).filter p)[i] < n := List.mem_range.1 (List.mem_filter.1 (List.getElem_mem hi)).1
    have : r ∈ (List.range n).filter p := List.mem_filter.2 ⟨List.mem_range.2 (by omega), hp⟩
    exact List.mem_iff_getElem.1 this
  generalize (List.range n).filter p = L at *
  rw [List.pairwise_iff_getElem] at hs
  have key : ∀ r, r < L[i] → p r = true → ∃ m, ∃ hm : m < L.length, m < i ∧ L[m] = r := fun r hr hp => by
    obtain ⟨m, h1, h2⟩ := hm r hr hp
    refine ⟨m, h1, ?_, h2⟩
    rcases Nat.lt_or_ge m i with h | h
    · exact h
    · exfalso
      rcases Nat.eq_or_lt_of_le h with h | h
      · subst h; omega
      · have := hs i m hi h1 h; omega
  cases i with
  | zero =>
    refine ⟨0, fun _ => rfl, fun k h => by omega, Nat.zero_le _, fun r _ hr => ?_⟩
    cases hp : p r
    · rfl
    · obtain ⟨m, _, h, _⟩ := key r hr hp
      omega
  | succ k =>
    have hk : k < L.length := by omega
    have hlt := hs k (k + 1) hk hi (Nat.lt_succ_self k)
    have hg : L.getD k 0 = L[k] := by simp [List.getD_eq_getElem?_getD, hk]
    refine ⟨L[k] + 1, fun h => by omega, fun k' h => by obtain rfl : k' = k := by omega
                                                        rw [hg], by omega, fun r hr1 hr2 => ?_⟩
    cases hp : p r
    · rfl
    · exfalso
      obtain ⟨m, hml, h, e⟩ := key r hr2 hp
      rcases Nat.eq_or_lt_of_le (show m ≤ k by omega) with h' | h'
      · subst h'; omega
      · have := hs m k hml hk h'; omega
def lastN (D : Nat → Bool) (l : Bytes) (i : Nat) : Nat := match i with
  | 0 => 0
  | k + 1 => (seenI D l).getD k 0 + 1
theorem seen_gap {D : Nat → Bool} {l : Bytes} {i : Nat} (hi : i < (seenI D l).length) : lastN D l i ≤ (seenI D l)[i] ∧ (seenI D l)[i] < (spots l).length ∧ lastN D l (i + 1) = (seenI D l)[i] + 1 ∧
    ∀ r, lastN D l i ≤ r → r < (seenI D l)[i] → ∀ c, (runesB l)[r]? = some c → D c = true := by
  obtain ⟨j, h1, h2, h3, h4⟩ := filter_range_gap hi
  have hj : lastN D l i = j := by
    cases i with
    | zero => exact (h1 rfl).symm
    | succ k => exact (h2 k rfl).symm
  have hn := (List.mem_filter.1 (List.getElem_mem hi)).1
  rw [List.mem_range, runesB_len] at hn
  refine ⟨by rw [hj]; exact h3, hn, by simp [lastN, List.getD_eq_getElem?_getD, hi], fun r hr1 hr2 c hc => ?_⟩
  rw [hj] at hr1
  have := h4 r hr1 hr2
  rw [hc] at this
  simpa using this
theorem strip_gap {D : Nat → Bool} {l : Bytes} {i : Nat} (hi : i < (seenI D l).length) : stripB D ((l.drop (posn l (lastN D l i))).take (posn l (seenI D l)[i] - posn l (lastN D l i))) = [] := by
  obtain ⟨h1, h2, _, h4⟩ := seen_gap hi
  have hc := runesB_cut (l := l) (i := lastN D l i) (k := (seenI D l)[i] - lastN D l i) (by omega)
  rw [show lastN D l i + ((seenI D l)[i] - lastN D l i) = (seenI D l)[i] by omega] at hc
  unfold stripB keptR
  rw [hc]
  have : (((runesB l).drop (lastN D l i)).take ((seenI D l)[i] - lastN D l i)).filter (fun c => !D c) = [] := by
    rw [List.filter_eq_nil_iff]
    intro c hc
    obtain ⟨r, hr, rfl⟩ := List.mem_iff_getElem.1 hc
    rw [List.length_take, List.length_drop] at hr
    rw [List.getElem_take, List.getElem_drop]
    have := h4 (lastN D l i + r) (by omega) (by omega) (runesB l)[lastN D l i + r] (List.getElem?_eq_getElem (by omega))
    simp [this]
  rw [this]
  rfl
theorem seenI_len11 (D : Nat → Bool) (l : Bytes) : (seenI D l).length = (keptR D l).length := by
  rw [← seenL_len]; unfold seenL; rw [List.length_map]
theorem placesL {T : Tab} {k B : Nat} {S1 : TS} {x : ByteArray} {l : Bytes} {lim : Int} {g2 : AH} (bk2 : BookAt g2 k B S1 T) (u2 : U8T g2) (hg2 : 2 ≤ g2.n) (hl : l = x.data.toList) (hx : x.size ≤ 1048576) (m0 : 0 ≤ lim) (m1 : lim ≤ 60) :
    Wp PX (.loop LPbody) [(1, .string x), (2, .int .i64 lim), (7, .pointer (some ⟨k, 0, none⟩)), (11, .int .i64 0), (12, .int .i64 0), (41, .pointer (some ⟨82, 0, some 1⟩))] [(82, .siter (bs (stripT T l)) 0)] g2 (blockQ 0 (thenQ PX (.seq (R 113 [6] [.set 6 (xc0 10)]) .ret) (retQ [.tmp 6] fun v _ => v = .bool true))) := by
  have hz : l.length = x.size := by rw [hl]; rfl
  have hsn := spots_len l
  have hK : runesB (stripT T l) = keptR (dropT T) l := runesB_strip l
  have hcs : (bs (stripT T l)).data.toList = stripT T l := bs_l _
  have hKl : (keptR (dropT T) l).length = (spots (stripT T l)).length := by rw [← hK, runesB_len]
  have hIl := seenI_len11 (dropT T) l
  have hLl := seenL_len (dropT T) l
  have hkl := kept_le (D := dropT T) l
  unfold LPbody
  refine wp_spotsS (fun i (_ : Unit) => [(1, .string x), (2, .int .i64 lim), (7, .pointer (some ⟨k, 0, none⟩)), (11, .int .i64 (posn l (lastN (dropT T) l i))), (12, .int .i64 i), (41, .pointer (some ⟨82, 0, some 1⟩))]) (fun n _ => [(82, .siter (bs (stripT T l)) n)]) (bs (stripT T l)) (stripT T l)
    (fun i _ h1 => Kp g2 h1) (fun _ _ => (none : Option Unit)) () hcs.symm (by exact (by repeat' first | exact True.intro | refine And.intro rfl ?_)) (fun _ _ => rfl) rfl (Kp.refl _) (fun i hi _ h1 hI hit => ?_) fun _ h1 hI fin => ?_
  · have hiK : i < (keptR (dropT T) l).length := by omega
    have hiI : i < (seenI (dropT T) l).length := by omega
    have hr1 : (spots (stripT T l))[i].1 = (keptR (dropT T) l)[i] := by
      have h1 : (runesB (stripT T l))[i]? = some (spots (stripT T l))[i].1 := by simp [runesB, hi]
      rw [hK, List.getElem?_eq_getElem hiK] at h1
      exact (Option.some.inj h1).symm
    obtain ⟨q1, q2, q3, _⟩ := seen_gap hiI
    have hgap := strip_gap hiI
    have hxi : (seenL (dropT T) l)[i]'(by omega) = (posn l (seenI (dropT T) l)[i], (seenI (dropT T) l)[i], (runesB l).getD (seenI (dropT T) l)[i] 0) := by
      unfold seenL; rw [List.getElem_map]
    have hr2 : (keptR (dropT T) l)[i] = (spots l)[(seenI (dropT T) l)[i]].1 := by
      have h1 : ((seenL (dropT T) l).map (·.2.2))[i]? = some (keptR (dropT T) l)[i] := by rw [seenI_map, List.getElem?_eq_getElem hiK]
      rw [List.getElem?_map, List.getElem?_eq_getElem (by omega), hxi] at h1
      have h2 := Option.some.inj h1
      rw [← h2]
      simp [runesB, List.getD_eq_getElem?_getD, q2]
    obtain ⟨p1, p2, p3⟩ := posn_lt q2
    have hps := posn_succ q2
    have hmo := posn_mono (l := l) q1
    obtain ⟨_, h2, e3, rfl, k3⟩ := stripPlace_spec (bk2.kp hI).bk x (by omega) (i : Int) (by omega) (by omega)
    have hpl : (if (i : Int) < 0 then none else placeD (dropT T) x.data.toList (i : Int).toNat) = some (posn l (seenI (dropT T) l)[i], (seenI (dropT T) l)[i]) := by
      rw [if_neg (by omega), ← hl, show ((i : Nat) : Int).toNat = i from rfl]
      unfold placeD
      rw [dif_pos (by omega), hxi]
    rw [hpl] at e3
    simp only [plV] at e3
    rw [← hr1] at hr2
    rw [q3, hps]
    generalize (seenI (dropT T) l)[i] = idx at *
    generalize lastN (dropT T) l i = la at *
    have hx1 : (x.extract (posn l la) (posn l idx)).data.toList = (l.drop (posn l la)).take (posn l idx - posn l la) := by rw [ba_extract _ _ _ (by omega), ← hl]
    have hx2 : (x.extract (posn l idx) x.size).data.toList = l.drop (posn l idx) := by rw [ba_extract _ _ _ (Nat.le_refl _), ← hl, ← hz, ← List.length_drop, List.take_length]
    have hx3 : (x.extract 0 (posn l idx)).data.toList = l.take (posn l idx) := by rw [ba_extract _ _ _ (by omega), ← hl, List.drop_zero, Nat.sub_zero]
    have hx1s : (x.extract (posn l la) (posn l idx)).size ≤ 1048576 := by rw [ba_size, hx1, List.length_take, List.length_drop]; omega
    have hx2s : (x.extract (posn l idx) x.size).size = l.length - posn l idx := by rw [ba_size, hx2, List.length_drop]
    have hx3s : (x.extract 0 (posn l idx)).size ≤ 1048576 := by rw [ba_size, hx3, List.length_take]; omega
    obtain ⟨_, h3, e4, rfl, k4⟩ := strip_spec ((bk2.kp hI).kp k3).bk (x.extract (posn l la) (posn l idx)) (by omega)
    rw [hx1, show stripT T ((l.drop (posn l la)).take (posn l idx - posn l la)) = [] from hgap] at e4
    have e5 := utfFirst_eq (x.extract (posn l idx) x.size) h3 (u2.kp ((hI.trans k3).trans k4)) (by omega) (by omega)
    rw [hx2, p2] at e5
    have e6 := utfCount_eq (x.extract 0 (posn l idx)) (by omega) h3
    have hct : (spots (l.take (posn l idx))).length = idx := by rw [spots_take idx l (by omega), List.length_take]; omega
    rw [hx3, hct] at e6
    have hbs : bs [] = ⟨#[]⟩ := rfl
    rw [hbs] at e4
    have hrl : RuneN (spots (stripT T l))[i].1 := runesB_rune _ _ (List.mem_map.2 ⟨_, List.getElem_mem hi, rfl⟩)
    have hpw : posn l idx + (spots l)[idx].2 ≤ 1048576 := by
      have hw := dec_width p3
      rw [p2, List.length_drop] at hw
      omega
    generalize (spots l)[idx] = y at *
    obtain ⟨c, w⟩ := y
    unfold spotV at e5
    simp only at e5 hr2 hpw ⊢
    (refine W_x trivial ?_; (repeat' first | apply Cj.mk | exact Nl.nl) <;> intros)
    refine wo_next hcs.symm rfl hi ?_
    generalize (spots (stripT T l))[i] = z at *
    obtain ⟨zc, zw⟩ := z
    simp only at hr2 hrl ⊢
    subst hr2
    have kk := (hI.trans k3).trans k4
    by_cases hli : lim < (i : Int)
    · obtain ⟨_, g9, e9, rfl, k9⟩ := known11_spec (u2.kp hI) (Nat.le_trans hg2 hI.1)
      (refine W_x e9 ?_; (repeat' first | apply Cj.mk | exact Nl.nl) <;> intros)
      rfl
    · (refine W_y (Aj e3 (Aj e4 (Aj e5 e6))) ?_; (repeat' first | apply Cj.mk | exact Nl.nl) <;> intros)
      exact ⟨trivial, (), by rw [Int.natCast_add]; exact (by repeat' first | exact True.intro | refine And.intro rfl ?_), rfl, kk⟩
  · (refine W_x trivial ?_; (repeat' first | apply Cj.mk | exact Nl.nl) <;> intros)
    refine wo_nextE hcs.symm rfl ?_
    obtain ⟨_, g9, e9, rfl, k9⟩ := known11_spec (u2.kp hI) (Nat.le_trans hg2 hI.1)
    (refine W_x e9 ?_; (repeat' first | apply Cj.mk | exact Nl.nl) <;> intros)
    rfl
theorem stripPlaces_run {h : AH} (u : U8T h) (hg : 2 ≤ h.n) {S : TS} {T : Tab} (t : TabAt h S T) (x : ByteArray) (hx : x.size ≤ 1048576) (n : Int) (hn1 : -9223372036854775808 ≤ n) (hn2 : n < 9223372036854775808) :
    WpC PX 5 [.agg S.vs.toArray, .string x, .int .i64 n] h fun v _ => v = .bool true := by
  obtain ⟨_, g1, e1, k1, q⟩ := of_spec t u hg
  by_cases hb : goodB T = true
  · rw [if_pos hb] at q
    obtain ⟨k, B, S1, rfl, bk, _, _⟩ := q
    obtain ⟨l, hl⟩ : ∃ l, l = x.data.toList := ⟨_, rfl⟩
    have hz : l.length = x.size := by rw [hl]; rfl
    have hsn := spots_len l
    obtain ⟨_, g2, e2, rfl, k2⟩ := strip_spec bk.bk x (by omega)
    have u2 := u.kp (k1.trans k2)
    have hg2 : 2 ≤ g2.n := Nat.le_trans hg (k1.trans k2).1
    have bk2 := bk.kp k2
    rw [← hl] at e2
    obtain ⟨lim, hlim, m0, m1⟩ : ∃ lim : Int, lim = (if n < 0 ∨ 60 < n then 60 else n) ∧ 0 ≤ lim ∧ lim ≤ 60 := ⟨_, rfl, by split <;> omega, by split <;> omega⟩
    unfold TS.vs at *
    refine wpc_fn (px_ext rfl) (px_fn fn_guiselaw11_StripPlaces) rfl ?_
    unfold LF_guiselaw11_StripPlaces
    simp only [argFr]
    by_cases hc : n < 0 ∨ 60 < n
    · rw [if_pos hc] at hlim
      (refine W_x (Aj e1 (Aj e2 @ev_rngS)) ?_; (repeat' first | apply Cj.mk | exact Nl.nl) <;> intros)
      all_goals (rw [← hlim]; exact placesL bk2 u2 hg2 hl hx m0 m1)
    · rw [if_neg hc] at hlim
      (refine W_x (Aj e1 (Aj e2 @ev_rngS)) ?_; (repeat' first | apply Cj.mk | exact Nl.nl) <;> intros)
      rw [← hlim]
      exact placesL bk2 u2 hg2 hl hx m0 m1
  · rw [if_neg hb] at q
    subst q
    obtain ⟨_, g4, e7, rfl, k4⟩ := known11_spec (u.kp k1) (Nat.le_trans hg k1.1)
    unfold TS.vs at *
    refine wpc_fn (px_ext rfl) (px_fn fn_guiselaw11_StripPlaces) rfl ?_
    unfold LF_guiselaw11_StripPlaces
    simp only [argFr]
    (refine W_x (Aj e1 e7) ?_; (repeat' first | apply Cj.mk | exact Nl.nl) <;> intros)
    rfl
end Go.Proofs.YtblmakgjdenpfaaDoor.AM
