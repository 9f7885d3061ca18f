/- Parts of proofs: lemmas, joined. -/
import Derived.Test.YtblmakgjdenpfaaDoorP7a64554f
set_option linter.unusedVariables false
set_option linter.unusedSimpArgs false
set_option linter.unusedSectionVars false
namespace Go.Proofs.YtblmakgjdenpfaaDoor.AM
open Go
theorem Reads.same {h h' : AH} {e : Nat} {s : Sl} {xss : List (List Value)} (r : Reads h e s xss) (hs : ∀ b, s.blk = some b → h'.get b = h.get b) : Reads h' e s xss := by
  refine ⟨r.1, r.2.1, ?_⟩
  have := r.2.2
  cases s with
  | nil => trivial
  | «at» b o n => exact this.imp id fun ⟨ro, pre, post, h1, h2⟩ => ⟨ro, pre, post, (hs b rfl).trans h1, h2⟩
theorem Own.same {h h' : AH} {e : Nat} {s : Sl} {xss : List (List Value)} (r : Own h e s xss) (hs : ∀ b, s.blk = some b → h'.get b = h.get b) : Own h' e s xss := by
  refine ⟨r.1, r.2.1, ?_⟩
  have := r.2.2
  cases s with
  | nil => trivial
  | «at» b o n => exact let ⟨pre, h1, h2⟩ := this; ⟨pre, (hs b rfl).trans h1, h2⟩
set_option maxHeartbeats 4000000 in
theorem copied_spec {h : AH} {S : TS} {T : Tab} (t : TabAt h S T) : WpC PX 65 [.agg S.vs.toArray] h fun v h' => ∃ S', v = .agg S'.vs.toArray ∧ (∀ h2 : AH, (∀ b, h.n ≤ b → b < h'.n → h2.get b = h'.get b) → TabAt h2 S' T) ∧ Kp h h' := by
  have f := t.fits
  have n0 := f.n0
  have hz := f.n0s
  rw [← t.zs] at hz n0
  rw [List.length_map] at n0
  obtain ⟨_, g, e0, s0, rfl, f0⟩ := clone_spec (px_ext rfl) (px_fn fn_slices_Clone_api_Script_api_Script) (by decide) (by decide) t.r0 (by rw [List.length_map]; omega)
  have e0' := clip_eq (px_ext rfl) (px_fn fn_slices_Clip_api_Script_api_Script) s0 g
  have s0l := f0.own.1
  rw [List.length_map] at s0l
  refine wpc_fn (px_ext rfl) (px_fn fn_tables_copied) rfl ?_
  unfold LF_tables_copied
  simp only [argFr]
  unfold TS.vs
  (refine W_x (Aj e0 (Aj e0' s0l)) ?_; (repeat' first | apply Cj.mk | exact Nl.nl) <;> intros)
  have n1 := f.n1; have n2 := f.n2; have n3 := f.n3; have n4 := f.n4; have n5 := f.n5; have n6 := f.n6; have n7 := f.n7
  refine wp_scanJ (fun i g => ∃ Z' : List (Scr × Sl), Z'.length = i ∧ Z'.map (·.1) = (S.z.take i).map (·.1) ∧ (∀ z, z ∈ Z' → Reads g 2 z.2 (z.1.2.map pairV) ∧ ∀ b, z.2.blk = some b → s0.blk ≠ some b ∧ h.n ≤ b) ∧ FOwn h g 2 s0 ((Z' ++ S.z.drop i).map scrV)) 11 S.z (fun _ _ => (none : Option Unit)) (by intro n; simp only [setF, push_cast, Nat.reduceEqDiff, ↓reduceIte, reduceCtorEq, Nat.reduceAdd, Nat.reduceMul, Nat.reduceLeDiff]; rfl) rfl
    ⟨[], rfl, rfl, fun z hz => (List.not_mem_nil hz).elim, by simpa using f0⟩ (fun i hi g hj hit => ?_) fun g hj fin => ?_
  · obtain ⟨Z', hl, he, hr, fo⟩ := hj
    have hL : (Z' ++ S.z.drop i).length = S.z.length := by rw [List.length_append, List.length_drop]; omega
    have hLi : (Z' ++ S.z.drop i)[i]'(by omega) = S.z[i] := by
      rw [List.getElem_append_right (by omega), List.getElem_drop]
      congr 1
      omega
    have hcons : S.z.drop i = S.z[i] :: S.z.drop (i + 1) := List.drop_eq_getElem_cons hi
    have g1 := fun lc => rd_mapc (lc := lc) fo.reads (i := i) (by omega) (k := 1) (by decide)
    have hz := (hz _ (List.mem_map_of_mem (List.getElem_mem hi))).1
    have rz := (t.rz _ (List.getElem_mem hi)).kp fo.kp
    have hsn := take_snoc hi
    simp only [hLi] at g1
    generalize S.z[i] = z at g1 hz rz hcons hsn
    unfold scrV at g1
    obtain ⟨_, g2, e2, s', rfl, f2⟩ := clone_spec (px_ext rfl) (px_fn fn_slices_Clone_api_Span_api_Span) (by decide) (by decide) rz (by rw [List.length_map]; omega)
    have e2' := clip_eq (px_ext rfl) (px_fn fn_slices_Clip_api_Span_api_Span) s' g2
    have hs0 := fun b (hb : s0.blk = some b) => fo.own.lt hb
    have ow : Own g2 2 s0 ((Z' ++ S.z.drop i).map scrV) := fo.own.same fun b hb => f2.kp.2 b (hs0 b hb)
    obtain ⟨g3, hw, ow3, n3, hk3⟩ := own_set1 ow (i := i) (k := 1) (by rw [List.length_map]; omega) (by decide) (s'.val 2)
    (refine W_x (Aj s0l (Aj g1 (Aj e2 (Aj e2' hw)))) ?_; (repeat' first | apply Cj.mk | exact Nl.nl) <;> intros)
    refine ⟨rfl, rfl, rfl, Z' ++ [(z.1, s')], by rw [List.length_append, hl]; rfl, by rw [List.map_append, he, hsn, List.map_append]; rfl, fun x hx => ?_, ?_⟩
    · rcases List.mem_append.1 hx with hx | hx
      · exact ⟨((hr x hx).1.kp f2.kp).same fun b hb => hk3 b ((hr x hx).2 b hb).1, (hr x hx).2⟩
      · rw [List.mem_singleton.1 hx]
        have hne : ∀ b, s'.blk = some b → s0.blk ≠ some b ∧ h.n ≤ b := fun b hb => by
          have h1 := f2.new b hb
          have h3 := fo.kp.1
          exact ⟨fun q => by have h2 := hs0 b q; omega, by omega⟩
        exact ⟨f2.reads.same fun b hb => hk3 b (hne b hb).1, hne⟩
    · have hlist : ((Z' ++ S.z.drop i).map scrV).set i ((((Z' ++ S.z.drop i).map scrV)[i]'(by rw [List.length_map]; omega)).set 1 (s'.val 2)) = ((Z' ++ [(z.1, s')]) ++ S.z.drop (i + 1)).map scrV := by
        rw [List.getElem_map]
        simp only [hcons, List.map_append, List.map_cons, List.map_nil, List.append_assoc, List.singleton_append]
        rw [List.set_append_right _ _ (by rw [List.length_map]; omega)]
        congr 1
        rw [List.length_map, hl, Nat.sub_self, List.set_cons_zero]
        congr 1
        rw [List.getElem_append_right (by omega)]
        simp only [hl, Nat.sub_self, List.getElem_cons_zero]
        rfl
      rw [hlist] at ow3
      exact ⟨ow3, ⟨by rw [n3]; exact Nat.le_trans fo.kp.1 f2.kp.1, fun b hb => by
        rw [hk3 b (fun q => by have := fo.new b q; omega), f2.kp.2 b (Nat.lt_of_lt_of_le hb fo.kp.1), fo.kp.2 b hb]⟩, fo.new⟩
  clear fin
  obtain ⟨Z', hl, he, hr, fo⟩ := hj
  rw [List.take_length, t.zs] at he
  rw [List.drop_length, List.append_nil] at fo
  have k := fo.kp
  obtain ⟨_, g1, a1, c1, rfl, f1⟩ := clone_spec (px_ext rfl) (px_fn fn_slices_Clone_api_Span_api_Span) (by decide) (by decide) (t.kp k).r1 (by rw [List.length_map]; omega)
  have b1 := clip_eq (px_ext rfl) (px_fn fn_slices_Clip_api_Span_api_Span) c1 g1
  have k1 := k.trans f1.kp
  obtain ⟨_, g2, a2, c2, rfl, f2⟩ := clone_spec (px_ext rfl) (px_fn fn_slices_Clone_api_Mark_api_Mark) (by decide) (by decide) (t.kp k1).r2 (by rw [List.length_map]; omega)
  have b2 := clip_eq (px_ext rfl) (px_fn fn_slices_Clip_api_Mark_api_Mark) c2 g2
  have k2 := k1.trans f2.kp
  obtain ⟨_, g3, a3, c3, rfl, f3⟩ := clone_spec (px_ext rfl) (px_fn fn_slices_Clone_api_Pair_api_Pair) (by decide) (by decide) (t.kp k2).r3 (by rw [List.length_map]; omega)
  have b3 := clip_eq (px_ext rfl) (px_fn fn_slices_Clip_api_Pair_api_Pair) c3 g3
  have k3 := k2.trans f3.kp
  obtain ⟨_, g4, a4, c4, rfl, f4⟩ := clone_spec (px_ext rfl) (px_fn fn_slices_Clone_api_Map_api_Map) (by decide) (by decide) (t.kp k3).r4 (by rw [List.length_map]; omega)
  have b4 := clip_eq (px_ext rfl) (px_fn fn_slices_Clip_api_Map_api_Map) c4 g4
  have k4 := k3.trans f4.kp
  obtain ⟨_, g5, a5, c5, rfl, f5⟩ := clone_spec (px_ext rfl) (px_fn fn_slices_Clone_api_Map_api_Map) (by decide) (by decide) (t.kp k4).r5 (by rw [List.length_map]; omega)
  have b5 := clip_eq (px_ext rfl) (px_fn fn_slices_Clip_api_Map_api_Map) c5 g5
  have k5 := k4.trans f5.kp
  obtain ⟨_, g6, a6, c6, rfl, f6⟩ := clone_spec (px_ext rfl) (px_fn fn_slices_Clone_api_Span_api_Span) (by decide) (by decide) (t.kp k5).r6 (by rw [List.length_map]; omega)
  have b6 := clip_eq (px_ext rfl) (px_fn fn_slices_Clip_api_Span_api_Span) c6 g6
  have k6 := k5.trans f6.kp
  obtain ⟨_, g7, a7, c7, rfl, f7⟩ := clone_spec (px_ext rfl) (px_fn fn_slices_Clone_api_Span_api_Span) (by decide) (by decide) (t.kp k6).r7 (by rw [List.length_map]; omega)
  have b7 := clip_eq (px_ext rfl) (px_fn fn_slices_Clip_api_Span_api_Span) c7 g7
  have k7 := k6.trans f7.kp
  have q6 := f7.kp
  have q5 := f6.kp.trans q6
  have q4 := f5.kp.trans q5
  have q3 := f4.kp.trans q4
  have q2 := f3.kp.trans q3
  have q1 := f2.kp.trans q2
  have q0 := f1.kp.trans q1
  (refine W_x s0l ?_; (repeat' first | apply Cj.mk | exact Nl.nl) <;> intros)
  (refine W_y (Aj a1 (Aj b1 (Aj a2 (Aj b2 (Aj a3 (Aj b3 (Aj a4 (Aj b4 (Aj a5 (Aj b5 (Aj a6 (Aj b6 (Aj a7 b7))))))))))))) ?_; (repeat' first | apply Cj.mk | exact Nl.nl) <;> intros)
  refine ⟨⟨s0, c1, c2, c3, c4, c5, c6, c7, Z'⟩, rfl, fun h2 hs => ?_, k7⟩
  have key : ∀ {e : Nat} {s : Sl} {xss : List (List Value)} {gn : AH}, Reads gn e s xss → Kp gn g7 → (∀ b, s.blk = some b → h.n ≤ b ∧ b < gn.n) → Reads h2 e s xss := fun r q hb =>
    (r.kp q).same fun b e => hs b (hb b e).1 (Nat.lt_of_lt_of_le (hb b e).2 q.1)
  have kn : ∀ {e : Nat} {s : Sl} {xss : List (List Value)} {ga gb : AH}, FOwn ga gb e s xss → Kp h ga → ∀ b, s.blk = some b → h.n ≤ b ∧ b < gb.n := fun f k b e => ⟨Nat.le_trans k.1 (f.new b e), f.own.lt e⟩
  have kz : ∀ {s : Sl} {xss : List (List Value)}, Reads g 2 s xss → (∀ b, s.blk = some b → h.n ≤ b) → Reads h2 2 s xss := fun {s xss} r hb => by
    refine ⟨r.1, r.2.1, ?_⟩
    have := (r.kp q0).2.2
    cases s with
    | nil => trivial
    | «at» b o n => exact this.imp id fun ⟨ro, pre, post, h1, h3⟩ => ⟨ro, pre, post, (hs b (hb b rfl) (AH.get_lt h1)).trans h1, h3⟩
  exact ⟨f, key fo.reads q0 (kn fo (Kp.refl h)), he, fun z hz => kz (hr z hz).1 fun b e => ((hr z hz).2 b e).2,
    key f1.reads q1 (kn f1 k), key f2.reads q2 (kn f2 k1), key f3.reads q3 (kn f3 k2), key f4.reads q4 (kn f4 k3), key f5.reads q5 (kn f5 k4), key f6.reads q6 (kn f6 k5), key f7.reads (Kp.refl g7) (kn f7 k6)⟩
end Go.Proofs.YtblmakgjdenpfaaDoor.AM
namespace Go.Proofs.YtblmakgjdenpfaaDoor.AM
open Go
structure FormOk (T : Tab) : Prop where
  cl : ∀ x ∈ T.marks, x.2 ≠ 0
  ok1 : SpOk T.common
  ok6 : SpOk T.drops
  ok7 : SpOk T.allowed
  v4 : ∀ x ∈ T.folds, validB x.2.data.toList = true
  v5 : ∀ x ∈ T.looks, validB x.2.data.toList = true
theorem spOk_W {l : List Span} {n : Int} (h : spansW l n = none) : SpOk l := spOk_of (by
  unfold spansW at h
  exact Option.map_eq_none_iff.1 h)
theorem mapsW_valid {l : List (Int × ByteArray)} {n : Int} (h : mapsW l n = none) : ∀ x ∈ l, validB x.2.data.toList = true := by
  intro x hx
  obtain ⟨i, hi, rfl⟩ := List.mem_iff_getElem.1 hx
  have := scanL_none h i hi
  split at this
  · cases this
  · split at this
    · cases this
    · rename_i hb
      cases hv : validB (l[i]).2.data.toList with
      | true => rfl
      | false => exact absurd (.inl hv) hb
theorem formOk {T : Tab} (h : formsW T = none) : FormOk T := by
  unfold formsW at h
  simp only [Option.or_eq_none_iff] at h
  obtain ⟨_, h1, h2, _, h4, h5, h6, h7⟩ := h
  refine ⟨fun x hx => ?_, spOk_W h1, spOk_W h6, spOk_W h7, mapsW_valid h4, mapsW_valid h5⟩
  obtain ⟨i, hi, rfl⟩ := List.mem_iff_getElem.1 hx
  have := scanL_none h2 i hi
  split at this
  · cases this
  · split at this
    · cases this
    · omega
structure BookAt (h : AH) (k B : Nat) (S : TS) (T : Tab) : Prop where
  b : h.get k = some (.cells false (S.vs ++ [.map (some B), .map (some (B + 1)), .map (some (B + 2)), .map (some (B + 3)), .map (some (B + 4))]))
  mp : MpAt h B T.marks T.pairs T.folds T.looks
  t : TabAt h S T
  ok : checkW T = none
theorem BookAt.kp {h h' : AH} {k B : Nat} {S : TS} {T : Tab} (b : BookAt h k B S T) (q : Kp h h') : BookAt h' k B S T := ⟨q.get b.b, b.mp.kp q, b.t.kp q, b.ok⟩
theorem checkW_none {T : Tab} (h : checkW T = none) : longW T = none ∧ formsW T = none ∧ twiceW T = none ∧ pairsW T = none ∧ chainsW T = none ∧ dropsW T = none ∧ fromsW T = none ∧ tosW T = none ∧ houseW T = none := by
  unfold checkW at h
  simp only [Option.or_eq_none_iff] at h
  obtain ⟨a, b, c, ⟨d, e⟩, f, ⟨g, i⟩, j⟩ := h
  exact ⟨a, b, c, d, e, f, g, i, j⟩
theorem BookAt.bk {h : AH} {k B : Nat} {S : TS} {T : Tab} (b : BookAt h k B S T) : BkAt h k B S.s6 T :=
  have f := formOk (checkW_none b.ok).2.1
  ⟨⟨_, _, _, _, _, _, _, b.b⟩, b.mp, b.t.r6, b.t.fits.n6, f.ok6, f.cl⟩
def NewQ (h : AH) (T : Tab) (v : Value) (h' : AH) : Prop :=
  Kp h h' ∧ match checkW T with
  | some w => v = .tuple (List.toArray [.pointer none, wrV (some w)])
  | none => ∃ k B S, v = .tuple (List.toArray [.pointer (some ⟨k, 0, none⟩), wrV none]) ∧ BookAt h' k B S T ∧ h.n ≤ B ∧ h.n ≤ k
set_option maxHeartbeats 16000000 in
theorem new_spec {h : AH} {S : TS} {T : Tab} (t : TabAt h S T) (u : U8T h) (hg : 2 ≤ h.n) : WpC PX 32 [.agg S.vs.toArray] h (NewQ h T) := by
  refine wpc_fn (px_ext rfl) (px_fn fn_tables_New) rfl ?_
  unfold LF_tables_New
  simp only [argFr]
  unfold TS.vs
  have g2 : 0 < 2 ∧ 1 < 2 := by decide
  have vm : ∀ m, vcells (.map m) = [.map m] := fun _ => rfl
  have vf : ∀ f a b, vcells (.func f a b) = [.func f a b] := fun _ _ _ => rfl
  (refine W_x (Aj vm vf) ?_; (repeat' first | apply Cj.mk | exact Nl.nl) <;> intros)
  obtain ⟨g, eg⟩ : ∃ g, g = ((((((h.push (.map [])).push (.map [])).push (.map [])).push (.map [])).push (.map [])).push (.cells false (bV (.slice none 0 0) h.n))).push (.cells false (cV S h.n)) := ⟨_, rfl⟩
  have gn : g.n = h.n + 7 := by rw [eg]; rfl
  have kg : Kp h g := by rw [eg]; exact (((((((Kp.refl h).push _).push _).push _).push _).push _).push _).push _
  have c0 : CAt g h.n S T (.slice none 0 0) := by
    refine ⟨by omega, ?_, ?_, h, Nat.le_refl _, kg, t⟩
    · rw [eg]; exact AH.get_push_eq (by simp [AH.push_n])
    · rw [eg, AH.get_push_ne _ (by simp [AH.push_n])]; exact AH.get_push_eq (by simp [AH.push_n])
  have m0 : MpAt g h.n [] [] [] [] := by
    refine ⟨?_, ?_, ?_, ?_, ?_⟩ <;> rw [eg] <;> simp (disch := first | omega | (simp only [AH.nn_push, AH.nn_set, AH.nn_kill]; omega) | (simp only [AH.nn_push, AH.nn_set, AH.nn_kill]; done) | fail) only [AH.get_push_eq, AH.get_push_ne, AH.get_set_eq, AH.get_set_ne, List.map_nil, AH.push_n]
  have u0 := u.kp kg
  have eg' := eg
  unfold bV cV at eg'
  simp only [Nat.add_assoc, Nat.reduceAdd]
  change Wp PX _ _ _ (AH.push _ (.cells false [.func (.func 56) (List.toArray [.pointer (some ⟨h.n + 6, 0, none⟩)]) (List.toArray []), .func (.func 57) (List.toArray [.pointer (some ⟨h.n + 6, 0, none⟩)]) (List.toArray []), .func (.func 58) (List.toArray [.pointer (some ⟨h.n + 6, 0, none⟩)]) (List.toArray []), .func (.func 59) (List.toArray [.pointer (some ⟨h.n + 6, 0, none⟩)]) (List.toArray []), .func (.func 60) (List.toArray [.pointer (some ⟨h.n + 6, 0, none⟩)]) (List.toArray []), .func (.func 61) (List.toArray [.pointer (some ⟨h.n + 6, 0, none⟩)]) (List.toArray []), .func (.func 62) (List.toArray [.pointer (some ⟨h.n + 6, 0, none⟩)]) (List.toArray []), .func (.func 63) (List.toArray [.pointer (some ⟨h.n + 6, 0, none⟩)]) (List.toArray []), .func (.func 64) (List.toArray [.pointer (some ⟨h.n + 6, 0, none⟩)]) (List.toArray [])])) _
  rw [← eg']
  obtain ⟨O, eO⟩ : ∃ O, O = AObj.cells false [.func (.func 56) (List.toArray [.pointer (some ⟨h.n + 6, 0, none⟩)]) (List.toArray []), .func (.func 57) (List.toArray [.pointer (some ⟨h.n + 6, 0, none⟩)]) (List.toArray []), .func (.func 58) (List.toArray [.pointer (some ⟨h.n + 6, 0, none⟩)]) (List.toArray []), .func (.func 59) (List.toArray [.pointer (some ⟨h.n + 6, 0, none⟩)]) (List.toArray []), .func (.func 60) (List.toArray [.pointer (some ⟨h.n + 6, 0, none⟩)]) (List.toArray []), .func (.func 61) (List.toArray [.pointer (some ⟨h.n + 6, 0, none⟩)]) (List.toArray []), .func (.func 62) (List.toArray [.pointer (some ⟨h.n + 6, 0, none⟩)]) (List.toArray []), .func (.func 63) (List.toArray [.pointer (some ⟨h.n + 6, 0, none⟩)]) (List.toArray []), .func (.func 64) (List.toArray [.pointer (some ⟨h.n + 6, 0, none⟩)]) (List.toArray [])] := ⟨_, rfl⟩
  rw [← eO]
  obtain ⟨g0, eg0⟩ : ∃ g0, g0 = g.push O := ⟨_, rfl⟩
  have kg0 : Kp g g0 := by rw [eg0]; exact (Kp.refl g).push O
  have hO : g0.get (h.n + 7) = some O := by rw [eg0]; exact AH.get_push_eq gn.symm
  rw [← eg0]
  clear eg0 eg'
  rw [eO] at hO
  have c0 := c0.kp kg0
  have m0 := m0.kp kg0
  have u0 := u0.kp kg0
  have k0 := kg.trans kg0
  clear kg kg0 eg
  obtain ⟨_, y0, e1, ⟨rfl, k1⟩⟩ := cLong c0
  unfold cP at e1
  have hO1 : y0.get (h.n + 7) = some _ := k1.get hO
  have c0 := c0.kp k1
  have u0 := u0.kp k1
  have k0 := k0.trans k1
  have m0 := m0.kp k1
  clear k1
  refine wp_unroll ?_
  cases w0 : longW T with
  | some w =>
    obtain ⟨a, b, c⟩ := w
    have ha := longW_pos T a b c w0
    rw [w0] at e1
    simp only [wrV] at e1
    (refine W_x (Aj hO e1) ?_; (repeat' first | apply Cj.mk | exact Nl.nl) <;> intros)
    exact ⟨k0, by simp only [checkW, w0, Option.none_or, Option.some_or, Option.or_some]; rfl⟩
  | none =>
  rw [w0] at e1
  simp only [wrV] at e1
  (refine W_x (Aj hO e1) ?_; (repeat' first | apply Cj.mk | exact Nl.nl) <;> intros)
  clear e1 hO
  have hO := hO1
  clear hO1
  obtain ⟨_, y1, e1, ⟨rfl, k1⟩⟩ := cForms c0 u0
  unfold cP at e1
  have hO1 : y1.get (h.n + 7) = some _ := k1.get hO
  have c0 := c0.kp k1
  have u0 := u0.kp k1
  have k0 := k0.trans k1
  have m0 := m0.kp k1
  clear k1
  refine wp_unroll ?_
  cases w1 : formsW T with
  | some w =>
    obtain ⟨a, b, c⟩ := w
    have ha := formsW_pos T a b c w1
    rw [w1] at e1
    simp only [wrV] at e1
    (refine W_x (Aj hO e1) ?_; (repeat' first | apply Cj.mk | exact Nl.nl) <;> intros)
    exact ⟨k0, by simp only [checkW, w0, w1, Option.none_or, Option.some_or, Option.or_some]; rfl⟩
  | none =>
  rw [w1] at e1
  simp only [wrV] at e1
  (refine W_x (Aj hO e1) ?_; (repeat' first | apply Cj.mk | exact Nl.nl) <;> intros)
  have fo := formOk w1
  clear e1 hO
  have hO := hO1
  clear hO1
  obtain ⟨_, y2, e1, ⟨rfl, k1, m1⟩⟩ := cOnce c0 m0 fo.cl
  unfold cP at e1
  have hO1 : y2.get (h.n + 7) = some _ := (k1.2 _ (by have := AH.get_lt hO; omega) (by omega)).trans hO
  have c0 := c0.kpm k1
  have u0 := u0.kpm hg (by decide) k1
  have k0 : Kp h y2 := ⟨Nat.le_trans k0.1 k1.1, fun b hb => by rw [k1.2 b (by have := k0.1; omega) (by omega), k0.2 b hb]⟩
  clear k1
  refine wp_unroll ?_
  cases w2 : twiceW T with
  | some w =>
    obtain ⟨a, b, c⟩ := w
    have ha := twiceW_pos T a b c w2
    rw [w2] at e1
    simp only [wrV] at e1
    (refine W_x (Aj hO e1) ?_; (repeat' first | apply Cj.mk | exact Nl.nl) <;> intros)
    exact ⟨k0, by simp only [checkW, w0, w1, w2, Option.none_or, Option.some_or, Option.or_some]; rfl⟩
  | none =>
  rw [w2] at e1
  simp only [wrV] at e1
  (refine W_x (Aj hO e1) ?_; (repeat' first | apply Cj.mk | exact Nl.nl) <;> intros)
  have m0 := m1 w2
  clear e1 hO
  have hO := hO1
  clear hO1
  obtain ⟨_, y3, e1, ⟨rfl, k1⟩⟩ := cPairs c0 m0 fo.cl
  unfold cP at e1
  have hO1 : y3.get (h.n + 7) = some _ := k1.get hO
  have c0 := c0.kp k1
  have u0 := u0.kp k1
  have k0 := k0.trans k1
  have m0 := m0.kp k1
  clear k1
  refine wp_unroll ?_
  cases w3 : pairsW T with
  | some w =>
    obtain ⟨a, b, c⟩ := w
    have ha := pairsW_pos T a b c w3
    rw [w3] at e1
    simp only [wrV] at e1
    (refine W_x (Aj hO e1) ?_; (repeat' first | apply Cj.mk | exact Nl.nl) <;> intros)
    exact ⟨k0, by simp only [checkW, w0, w1, w2, w3, Option.none_or, Option.some_or, Option.or_some]; rfl⟩
  | none =>
  rw [w3] at e1
  simp only [wrV] at e1
  (refine W_x (Aj hO e1) ?_; (repeat' first | apply Cj.mk | exact Nl.nl) <;> intros)
  clear e1 hO
  have hO := hO1
  clear hO1
  obtain ⟨_, y4, e1, ⟨rfl, k1⟩⟩ := cChains c0 m0
  unfold cP at e1
  have hO1 : y4.get (h.n + 7) = some _ := k1.get hO
  have c0 := c0.kp k1
  have u0 := u0.kp k1
  have k0 := k0.trans k1
  have m0 := m0.kp k1
  clear k1
  refine wp_unroll ?_
  cases w4 : chainsW T with
  | some w =>
    obtain ⟨a, b, c⟩ := w
    have ha := chainsW_pos T a b c w4
    rw [w4] at e1
    simp only [wrV] at e1
    (refine W_x (Aj hO e1) ?_; (repeat' first | apply Cj.mk | exact Nl.nl) <;> intros)
    exact ⟨k0, by simp only [checkW, w0, w1, w2, w3, w4, Option.none_or, Option.some_or, Option.or_some]; rfl⟩
  | none =>
  rw [w4] at e1
  simp only [wrV] at e1
  (refine W_x (Aj hO e1) ?_; (repeat' first | apply Cj.mk | exact Nl.nl) <;> intros)
  clear e1 hO
  have hO := hO1
  clear hO1
  obtain ⟨_, y5, e1, ⟨rfl, k1⟩⟩ := cDrops c0 fo.ok6
  unfold cP at e1
  have hO1 : y5.get (h.n + 7) = some _ := k1.get hO
  have c0 := c0.kp k1
  have u0 := u0.kp k1
  have k0 := k0.trans k1
  have m0 := m0.kp k1
  clear k1
  refine wp_unroll ?_
  cases w5 : dropsW T with
  | some w =>
    obtain ⟨a, b, c⟩ := w
    have ha := dropsW_pos T a b c w5
    rw [w5] at e1
    simp only [wrV] at e1
    (refine W_x (Aj hO e1) ?_; (repeat' first | apply Cj.mk | exact Nl.nl) <;> intros)
    exact ⟨k0, by simp only [checkW, w0, w1, w2, w3, w4, w5, Option.none_or, Option.some_or, Option.or_some]; rfl⟩
  | none =>
  rw [w5] at e1
  simp only [wrV] at e1
  (refine W_x (Aj hO e1) ?_; (repeat' first | apply Cj.mk | exact Nl.nl) <;> intros)
  clear e1 hO
  have hO := hO1
  clear hO1
  obtain ⟨_, y6, e1, ⟨rfl, k1⟩⟩ := cFroms c0 m0 fo.cl
  unfold cP at e1
  have hO1 : y6.get (h.n + 7) = some _ := k1.get hO
  have c0 := c0.kp k1
  have u0 := u0.kp k1
  have k0 := k0.trans k1
  have m0 := m0.kp k1
  clear k1
  refine wp_unroll ?_
  cases w6 : fromsW T with
  | some w =>
    obtain ⟨a, b, c⟩ := w
    have ha := fromsW_pos T a b c w6
    rw [w6] at e1
    simp only [wrV] at e1
    (refine W_x (Aj hO e1) ?_; (repeat' first | apply Cj.mk | exact Nl.nl) <;> intros)
    exact ⟨k0, by simp only [checkW, w0, w1, w2, w3, w4, w5, w6, Option.none_or, Option.some_or, Option.or_some]; rfl⟩
  | none =>
  rw [w6] at e1
  simp only [wrV] at e1
  (refine W_x (Aj hO e1) ?_; (repeat' first | apply Cj.mk | exact Nl.nl) <;> intros)
  clear e1 hO
  have hO := hO1
  clear hO1
  obtain ⟨_, y7, e1, ⟨rfl, k1⟩⟩ := cTos c0 m0 fo.cl fo.ok6 fo.v4 fo.v5
  unfold cP at e1
  have hO1 : y7.get (h.n + 7) = some _ := k1.get ((AH.get_set_ne _ (by omega)).trans hO)
  have k0 : Kp h y7 := ⟨Nat.le_trans k0.1 k1.1, fun b hb => by
    have hn := k0.1
    rw [k1.2 b (Nat.lt_of_lt_of_le hb k0.1), AH.get_set_ne _ (by omega), k0.2 b hb]⟩
  have hcn := c0.n
  have m0 : MpAt y7 h.n T.marks T.pairs T.folds T.looks := MpAt.kp ⟨(AH.get_set_ne _ (by omega)).trans m0.m1, (AH.get_set_ne _ (by omega)).trans m0.m2, (AH.get_set_ne _ (by omega)).trans m0.m3, (AH.get_set_ne _ (by omega)).trans m0.m4, (AH.get_set_ne _ (by omega)).trans m0.m5⟩ k1
  have cY : CAt (y6.set (h.n + 5) (.cells false (bV (S.s6.val 2) h.n))) h.n S T (S.s6.val 2) := ⟨hcn, (AH.get_set_ne _ (by omega)).trans c0.c, AH.get_set_same _ (by omega), by
    obtain ⟨h0, e, q0, t⟩ := c0.o
    exact ⟨h0, e, ⟨q0.1, fun b hb => (AH.get_set_ne _ (by omega)).trans (q0.2 b hb)⟩, t⟩⟩
  have c0 := cY.kp k1
  have u0 : U8T y7 := ⟨k1.get ((AH.get_set_ne _ (by have := g2.1; omega)).trans u0.f), k1.get ((AH.get_set_ne _ (by have := g2.2; omega)).trans u0.a)⟩
  clear k1
  refine wp_unroll ?_
  cases w7 : tosW T with
  | some w =>
    obtain ⟨a, b, c⟩ := w
    have ha := tosW_pos T a b c w7
    rw [w7] at e1
    simp only [wrV] at e1
    (refine W_x (Aj hO e1) ?_; (repeat' first | apply Cj.mk | exact Nl.nl) <;> intros)
    exact ⟨k0, by simp only [checkW, w0, w1, w2, w3, w4, w5, w6, w7, Option.none_or, Option.some_or, Option.or_some]; rfl⟩
  | none =>
  rw [w7] at e1
  simp only [wrV] at e1
  (refine W_x (Aj hO e1) ?_; (repeat' first | apply Cj.mk | exact Nl.nl) <;> intros)
  clear e1 hO
  have hO := hO1
  clear hO1
  obtain ⟨_, y8, e1, ⟨rfl, k1⟩⟩ := cHouse c0 fo.ok1 fo.ok7 fo.v4 fo.v5
  unfold cP at e1
  have hO1 : y8.get (h.n + 7) = some _ := k1.get hO
  have c0 := c0.kp k1
  have u0 := u0.kp k1
  have k0 := k0.trans k1
  have m0 := m0.kp k1
  clear k1
  refine wp_unroll ?_
  cases w8 : houseW T with
  | some w =>
    obtain ⟨a, b, c⟩ := w
    have ha := houseW_pos T a b c w8
    rw [w8] at e1
    simp only [wrV] at e1
    (refine W_x (Aj hO e1) ?_; (repeat' first | apply Cj.mk | exact Nl.nl) <;> intros)
    exact ⟨k0, by simp only [checkW, w0, w1, w2, w3, w4, w5, w6, w7, w8, Option.none_or, Option.some_or, Option.or_some]; rfl⟩
  | none =>
  rw [w8] at e1
  simp only [wrV] at e1
  (refine W_x (Aj hO e1) ?_; (repeat' first | apply Cj.mk | exact Nl.nl) <;> intros)
  clear e1 hO
  have hO := hO1
  clear hO1
  refine wp_unroll ?_
  have hc := c0.c
  unfold cV at hc
  obtain ⟨_, g2, e2, S', rfl, t2, k2⟩ := copied_spec c0.t
  unfold TS.vs at e2
  have hc2 := k2.get hc
  have hb := k2.get c0.b
  have hbl := AH.get_lt hb
  unfold bV at hb
  (refine W_x trivial ?_; (repeat' first | apply Cj.mk | exact Nl.nl) <;> intros)
  (refine W_y (Aj hc (Aj hc2 (Aj e2 hb))) ?_; (repeat' first | apply Cj.mk | exact Nl.nl) <;> intros)
  have hB := k0.1
  have hcn := c0.n
  have hk2 := k2.1
  refine ⟨⟨Nat.le_trans k0.1 k2.1, fun b hb => by rw [AH.get_set_ne _ (by omega), k2.2 b (by omega), k0.2 b hb]⟩, ?_⟩
  have hw : checkW T = none := by simp only [checkW, w0, w1, w2, w3, w4, w5, w6, w7, w8, Option.none_or]
  rw [hw]
  have m2 := m0.kp k2
  refine ⟨h.n + 5, h.n, S', rfl, ⟨AH.get_set_same _ hbl, ⟨(AH.get_set_ne _ (by omega)).trans m2.m1, (AH.get_set_ne _ (by omega)).trans m2.m2, (AH.get_set_ne _ (by omega)).trans m2.m3, (AH.get_set_ne _ (by omega)).trans m2.m4, (AH.get_set_ne _ (by omega)).trans m2.m5⟩, t2 _ fun b h1 h2 => AH.get_set_ne _ (by omega), hw⟩, Nat.le_refl _, by omega⟩
end Go.Proofs.YtblmakgjdenpfaaDoor.AM
namespace Go.Proofs.YtblmakgjdenpfaaDoor.AM
open Go
def largeI (T : Tab) (k : Nat) : Int := T.common.length + T.marks.length + T.pairs.length + T.folds.length + T.looks.length + T.drops.length + T.allowed.length + ((T.scripts.take k).map fun x => 1 + (x.2.length : Int)).sum
def largeB (T : Tab) : Bool := decide (6000 < largeI T 200 ∨ 100 < T.scripts.length)
theorem largeI_succ {T : Tab} {i : Nat} (hi : i < T.scripts.length) : largeI T (i + 1) = largeI T i + 1 + ((T.scripts[i]).2.length : Int) := by
  unfold largeI
  rw [take_snoc hi, List.map_append, List.sum_append]
  simp only [List.map_cons, List.map_nil, List.sum_cons, List.sum_nil]
  omega
theorem largeI_end {T : Tab} {i : Nat} (h1 : i ≤ 200) (h2 : ¬ (i < T.scripts.length ∧ i < 200)) : largeI T i = largeI T 200 := by
  unfold largeI
  rcases Nat.lt_or_ge i 200 with h | h
  · rw [List.take_of_length_le (by omega), List.take_of_length_le (by omega)]
  · rw [show i = 200 by omega]
theorem large_spec {h : AH} {S : TS} {T : Tab} (t : TabAt h S T) : callO PX 31 [.agg S.vs.toArray] h = some (.bool (largeB T), h) := by
  have f := t.fits
  have n0 := f.n0
  have hz := f.n0s
  have zs := t.zs
  have zl : S.z.length = T.scripts.length := by rw [← zs, List.length_map]
  have s0 := t.r0.len
  rw [zl] at s0
  have s1 := t.r1.len; have n1 := f.n1
  have s2 := t.r2.len; have n2 := f.n2
  have s3 := t.r3.len; have n3 := f.n3
  have s4 := t.r4.len; have n4 := f.n4
  have s5 := t.r5.len; have n5 := f.n5
  have s6 := t.r6.len; have n6 := f.n6
  have s7 := t.r7.len; have n7 := f.n7
  apply WpC.eqn
  refine wpc_fn (px_ext rfl) (px_fn fn_guisekeep6_Large) rfl ?_
  unfold LF_guisekeep6_Large
  simp only [argFr]
  unfold TS.vs
  have i0 : largeI T 0 = T.common.length + T.marks.length + T.pairs.length + T.folds.length + T.looks.length + T.drops.length + T.allowed.length := by
    unfold largeI
    simp
  have ib : 0 ≤ largeI T 0 ∧ largeI T 0 ≤ 1000000000 := by rw [i0]; omega
  (refine W_x (Aj s0 (Aj s1 (Aj s2 (Aj s3 (Aj s4 (Aj s5 (Aj s6 s7))))))) ?_; (repeat' first | apply Cj.mk | exact Nl.nl) <;> intros)
  rw [← i0]
  refine wp_loop (fun w fr lc h1 => ∃ (i : Nat), w = 200 - i ∧ i ≤ 200 ∧ 0 ≤ largeI T i ∧ largeI T i ≤ 1000000000 + i * 100000001 ∧ h1 = h ∧ lc = [(2, .cells false [S.s0.val 2, S.s1.val 2, S.s2.val 2, S.s3.val 3, S.s4.val 2, S.s5.val 2, S.s6.val 2, S.s7.val 2])] ∧
    fr = [(1, .pointer (some ⟨2, 0, some 1⟩)), (3, .int .i64 (largeI T i)), (4, .int .i64 i)]) 200 ⟨0, rfl, by omega, ib.1, by have := ib.2; omega, rfl, rfl, rfl⟩ ?_
  rintro w fr lc h1 ⟨i, rfl, hi, h0, hN, rfl, rfl, rfl⟩
  by_cases hin : i < T.scripts.length ∧ i < 200
  · have hiz : i < S.z.length := by omega
    have g1 := fun lc => rd_mapc (lc := lc) t.r0 hiz (k := 1) (by decide)
    have hm := List.getElem_mem hiz
    have sz := (t.rz _ hm).len
    have nz := (hz _ (by rw [← zs]; exact List.mem_map_of_mem hm)).1
    have hs := largeI_succ hin.1
    have he : T.scripts[i] = (S.z[i]).1 := by simp only [← zs, List.getElem_map]
    rw [he] at hs
    generalize S.z[i] = z at g1 sz nz hs
    unfold scrV at g1
    (refine W_x (Aj s0 (Aj g1 sz)) ?_; (repeat' first | apply Cj.mk | exact Nl.nl) <;> intros)
    all_goals exact ⟨_, by omega, i + 1, rfl, by omega, by omega, by omega, rfl, rfl, by rw [hs]; simp only [Int.natCast_add]; rfl⟩
  · have hl : largeB T = decide (6000 < largeI T i ∨ 100 < T.scripts.length) := by
      unfold largeB
      rw [largeI_end hi hin]
    rw [hl]
    (refine W_x s0 ?_; (repeat' first | apply Cj.mk | exact Nl.nl) <;> intros)
    all_goals refine ⟨?_, rfl⟩
    all_goals congr 1
    all_goals symm
    all_goals first | exact decide_eq_true (by omega) | exact decide_eq_false (by omega)
def goodB (T : Tab) : Bool := !largeB T && (checkW T).isNone
def OfQ (h : AH) (T : Tab) (v : Value) (h' : AH) : Prop :=
  Kp h h' ∧ if goodB T = true then ∃ k B S, v = .tuple (List.toArray [.pointer (some ⟨k, 0, none⟩), .bool true, .bool true]) ∧ BookAt h' k B S T ∧ h.n ≤ B ∧ h.n ≤ k
    else v = .tuple (List.toArray [.pointer none, .bool false, .bool true])
set_option maxHeartbeats 2000000 in
theorem of_spec {h : AH} {S : TS} {T : Tab} (t : TabAt h S T) (u : U8T h) (hg : 2 ≤ h.n) : WpC PX 9 [.agg S.vs.toArray] h (OfQ h T) := by
  have e1 := large_spec t
  obtain ⟨v, g, e2, kg, hv⟩ := new_spec t u hg
  obtain ⟨_, g2, e3, rfl, k2⟩ := check6_spec (t.kp kg)
  refine wpc_fn (px_ext rfl) (px_fn fn_guisekeep_Of) rfl ?_
  unfold LF_guisekeep_Of
  simp only [argFr]
  unfold TS.vs at *
  have eq3 : ∀ a b c : Int, eqCells [.int, .int, .int] [.int .i64 a, .int .i64 b, .int .i64 c] [.int .i64 a, .int .i64 b, .int .i64 c] = some true := fun a b c => by simp [eqCells]
  unfold OfQ goodB
  generalize largeB T = b at e1
  cases b
  · cases hw : checkW T with
    | some w =>
      obtain ⟨a, b, c⟩ := w
      have ha : a ≠ 0 := by
        have hp : PosW (checkW T) := .or (longW_pos T) (.or (formsW_pos T) (.or (twiceW_pos T) (.or (.or (pairsW_pos T) (chainsW_pos T)) (.or (dropsW_pos T) (.or (.or (fromsW_pos T) (tosW_pos T)) (houseW_pos T))))))
        exact hp a b c hw
      rw [hw] at hv e3
      simp only [wrV] at hv e3
      subst hv
      (refine W_x (Aj e1 (Aj e2 (Aj e3 eq3))) ?_; (repeat' first | apply Cj.mk | exact Nl.nl) <;> intros)
      exact ⟨kg.trans k2, by rw [if_neg (by simp)]⟩
    | none =>
      rw [hw] at hv e3
      obtain ⟨k, B, S', rfl, hb, hB, hk⟩ := hv
      simp only [wrV] at e2 e3
      (refine W_x (Aj e1 (Aj e2 e3)) ?_; (repeat' first | apply Cj.mk | exact Nl.nl) <;> intros)
      exact ⟨kg.trans k2, by rw [if_pos (by decide)]; exact ⟨k, B, S', rfl, hb.kp k2, hB, hk⟩⟩
  · (refine W_x e1 ?_; (repeat' first | apply Cj.mk | exact Nl.nl) <;> intros)
    exact ⟨Kp.refl _, by rw [if_neg (by simp)]⟩
end Go.Proofs.YtblmakgjdenpfaaDoor.AM
namespace Go.Proofs.YtblmakgjdenpfaaDoor.AM
open Go
theorem vsameL_val {s : Sl} {e : Nat} {r r' : List Value} : vsameL (s.val e :: r) (s.val e :: r') = vsameL r r' := by cases s <;> simp [vsameL, vsame0, Sl.val]
theorem vsameL_str {s : ByteArray} {r r' : List Value} : vsameL (.string s :: r) (.string s :: r') = vsameL r r' := by simp [vsameL, vsame0, bytes_beq_self]
theorem vsameL_bool {b : Bool} {r r' : List Value} : vsameL (.bool b :: r) (.bool b :: r') = vsameL r r' := by simp [vsameL, vsame0]
theorem vsameL_ptr {b : Option Addr} {r r' : List Value} : vsameL (.pointer b :: r) (.pointer b :: r') = vsameL r r' := by simp [vsameL, vsame0]
attribute [push_cast] vsameL_val vsameL_str vsameL_bool vsameL_ptr
def bs (l : Bytes) : ByteArray := ⟨l.toArray⟩
theorem bs_l (l : Bytes) : (bs l).data.toList = l := by simp [bs]
theorem bs_size (l : Bytes) : (bs l).size = l.length := by simp [ba_size, bs_l]
theorem Own.rd {lc : Lc} {h : AH} {e b o n : Nat} {xss : List (List Value)} (r : Own h e (.at b o n) xss) : Mem.rd ⟨lc, h⟩ ⟨b, o, none⟩ (n * e) = some xss.flatten := by
  have hl : n = xss.length := r.1
  obtain ⟨pre, h3, h4⟩ := r.2.2
  have hf := flatten_len r.2.1
  rw [rd_heap, h3]
  simp only [List.length_append, hf, h4]
  rw [if_pos (by rw [hl]; omega), ← h4, List.drop_left, hl, ← hf, List.take_length]
def r2sP (m : Mem) (v : Value) : Option Value := (ROp.r2s (.c v)).ev [] m
theorem ev_r2sP {fr : Fr} {m : Mem} {x : Opd} : (ROp.r2s x).ev fr m = r2sP m (opd fr x) := rfl
def b2sP (m : Mem) (v : Value) : Option Value := (ROp.b2s (.c v)).ev [] m
theorem ev_b2sP {fr : Fr} {m : Mem} {x : Opd} : (ROp.b2s x).ev fr m = b2sP m (opd fr x) := rfl
attribute [push_cast] ev_r2sP ev_b2sP
end Go.Proofs.YtblmakgjdenpfaaDoor.AM
namespace Go.Proofs.YtblmakgjdenpfaaDoor.AM
open Go
def LF_guisebook_House : LFunc :=
  .mk 0 [.cell 0 (some 8)] (.seq (R 0 [0] [.tmp 0 (xnl 0 [.slice none 0 0, .slice none 0 0, .slice none 0 0, .slice none 0 0, .slice none 0 0, .slice none 0 0, .slice none 0 0,
  .slice none 0 0])]) (.seq (R 1 [0] [.run (xst 8 (.sl 0) (.op (.p (.build [.slice none 0 0, .slice none 0 0, .slice none 0 0, .slice none 0 0, .slice none 0 0, .slice none 0 0,
  .slice none 0 0, .slice none 0 0] [(0, 1, .s 0), (1, 1, .s 1), (2, 1, .s 2), (3, 1, .s 3), (4, 1, .s 4), (5, 1, .s 5), (6, 1, .s 6), (7, 1, .s 7)])) (.cons (.op (.e (.litH 3 2
  [.string ⟨#[]⟩, .slice none 0 0] [(0, 2, .s 0), (2, 2, .s 1), (4, 2, .s 2)])) (.cons (.op (.p (.build [.string ⟨#[]⟩, .slice none 0 0] [(0, 1, .s 0), (1, 1, .s 1)])) (.cons (.cv
  (.string ⟨#[108, 97, 116, 105, 110]⟩)) (.op (.e (.litH 4 2 [.int .i32 0, .int .i32 0] [(0, 2, .s 0), (2, 2, .s 1), (4, 2, .s 2), (6, 2, .s 3)])) (.cons (.op (.p (.build [.int .i32
  0, .int .i32 0] [(0, 1, .s 0), (1, 1, .s 1)])) (.cons (xr 65) (xr 90))) (.cons (.op (.p (.build [.int .i32 0, .int .i32 0] [(0, 1, .s 0), (1, 1, .s 1)])) (.cons (xr 97) (xr 122)))
  (.cons (.op (.p (.build [.int .i32 0, .int .i32 0] [(0, 1, .s 0), (1, 1, .s 1)])) (.cons (xr 232) (xr 234))) (.op (.p (.build [.int .i32 0, .int .i32 0] [(0, 1, .s 0), (1, 1, .s
  1)])) (.cons (xr 7865) (xr 7871))))))))) (.cons (.op (.p (.build [.string ⟨#[]⟩, .slice none 0 0] [(0, 1, .s 0), (1, 1, .s 1)])) (.cons (.cv (.string ⟨#[103, 114, 101, 101,
  107]⟩)) (.op (.e (.litH 1 2 [.int .i32 0, .int .i32 0] [(0, 2, .s 0)])) (.op (.p (.build [.int .i32 0, .int .i32 0] [(0, 1, .s 0), (1, 1, .s 1)])) (.cons (xr 945) (xr 969))))))
  (.op (.p (.build [.string ⟨#[]⟩, .slice none 0 0] [(0, 1, .s 0), (1, 1, .s 1)])) (.cons (.cv (.string ⟨#[99, 121, 114, 105, 108, 108, 105, 99]⟩)) (.op (.e (.litH 1 2 [.int .i32 0,
  .int .i32 0] [(0, 2, .s 0)])) (.op (.p (.build [.int .i32 0, .int .i32 0] [(0, 1, .s 0), (1, 1, .s 1)])) (.cons (xr 1072) (xr 1103))))))))) (.cons (.op (.e (.litH 1 2 [.int .i32
  0, .int .i32 0] [(0, 2, .s 0)])) (.op (.p (.build [.int .i32 0, .int .i32 0] [(0, 1, .s 0), (1, 1, .s 1)])) (.cons (xr 45) (xr 57)))) (.cons (.op (.e (.litH 3 2 [.int .i32 0, .int
  .i64 0] [(0, 2, .s 0), (2, 2, .s 1), (4, 2, .s 2)])) (.cons (.op (.p (.build [.int .i32 0, .int .i64 0] [(0, 1, .s 0), (1, 1, .s 1)])) (.cons (xr 769) (xi 230))) (.cons (.op (.p
  (.build [.int .i32 0, .int .i64 0] [(0, 1, .s 0), (1, 1, .s 1)])) (.cons (xr 770) (xi 230))) (.op (.p (.build [.int .i32 0, .int .i64 0] [(0, 1, .s 0), (1, 1, .s 1)])) (.cons (xr
  803) (xi 220)))))) (.cons (.op (.e (.litH 4 3 [.int .i32 0, .int .i32 0, .int .i32 0] [(0, 3, .s 0), (3, 3, .s 1), (6, 3, .s 2), (9, 3, .s 3)])) (.cons (.op (.p (.build [.int .i32
  0, .int .i32 0, .int .i32 0] [(0, 1, .s 0), (1, 1, .s 1), (2, 1, .s 2)])) (.cons (xr 233) (.cons (xr 101) (xr 769)))) (.cons (.op (.p (.build [.int .i32 0, .int .i32 0, .int .i32
  0] [(0, 1, .s 0), (1, 1, .s 1), (2, 1, .s 2)])) (.cons (xr 234) (.cons (xr 101) (xr 770)))) (.cons (.op (.p (.build [.int .i32 0, .int .i32 0, .int .i32 0] [(0, 1, .s 0), (1, 1,
  .s 1), (2, 1, .s 2)])) (.cons (xr 7865) (.cons (xr 101) (xr 803)))) (.op (.p (.build [.int .i32 0, .int .i32 0, .int .i32 0] [(0, 1, .s 0), (1, 1, .s 1), (2, 1, .s 2)])) (.cons
  (xr 7871) (.cons (xr 234) (xr 769)))))))) (.cons (.op (.e (.litH 2 2 [.int .i32 0, .string ⟨#[]⟩] [(0, 2, .s 0), (2, 2, .s 1)])) (.cons (.op (.p (.build [.int .i32 0, .string
  ⟨#[]⟩] [(0, 1, .s 0), (1, 1, .s 1)])) (.cons (xr 65) (.cv (.string ⟨#[97]⟩)))) (.op (.p (.build [.int .i32 0, .string ⟨#[]⟩] [(0, 1, .s 0), (1, 1, .s 1)])) (.cons (xr 69) (.cv
  (.string ⟨#[101]⟩)))))) (.cons (.op (.e (.litH 3 2 [.int .i32 0, .string ⟨#[]⟩] [(0, 2, .s 0), (2, 2, .s 1), (4, 2, .s 2)])) (.cons (.op (.p (.build [.int .i32 0, .string ⟨#[]⟩]
  [(0, 1, .s 0), (1, 1, .s 1)])) (.cons (xr 1072) (.cv (.string ⟨#[97]⟩)))) (.cons (.op (.p (.build [.int .i32 0, .string ⟨#[]⟩] [(0, 1, .s 0), (1, 1, .s 1)])) (.cons (xr 49) (.cv
  (.string ⟨#[108]⟩)))) (.op (.p (.build [.int .i32 0, .string ⟨#[]⟩] [(0, 1, .s 0), (1, 1, .s 1)])) (.cons (xr 109) (.cv (.string ⟨#[114, 110]⟩))))))) (.cons (.op (.e (.litH 1 2
  [.int .i32 0, .int .i32 0] [(0, 2, .s 0)])) (.op (.p (.build [.int .i32 0, .int .i32 0] [(0, 1, .s 0), (1, 1, .s 1)])) (.cons (xr 8205) (xr 8205)))) (.op (.e (.litH 9 2 [.int .i32
  0, .int .i32 0] [(0, 2, .s 0), (2, 2, .s 1), (4, 2, .s 2), (6, 2, .s 3), (8, 2, .s 4), (10, 2, .s 5), (12, 2, .s 6), (14, 2, .s 7), (16, 2, .s 8)])) (.cons (.op (.p (.build [.int
  .i32 0, .int .i32 0] [(0, 1, .s 0), (1, 1, .s 1)])) (.cons (xr 45) (xr 45))) (.cons (.op (.p (.build [.int .i32 0, .int .i32 0] [(0, 1, .s 0), (1, 1, .s 1)])) (.cons (xr 48) (xr
  57))) (.cons (.op (.p (.build [.int .i32 0, .int .i32 0] [(0, 1, .s 0), (1, 1, .s 1)])) (.cons (xr 97) (xr 122))) (.cons (.op (.p (.build [.int .i32 0, .int .i32 0] [(0, 1, .s 0),
  (1, 1, .s 1)])) (.cons (xr 232) (xr 234))) (.cons (.op (.p (.build [.int .i32 0, .int .i32 0] [(0, 1, .s 0), (1, 1, .s 1)])) (.cons (xr 769) (xr 770))) (.cons (.op (.p (.build
  [.int .i32 0, .int .i32 0] [(0, 1, .s 0), (1, 1, .s 1)])) (.cons (xr 803) (xr 803))) (.cons (.op (.p (.build [.int .i32 0, .int .i32 0] [(0, 1, .s 0), (1, 1, .s 1)])) (.cons (xr
  945) (xr 969))) (.cons (.op (.p (.build [.int .i32 0, .int .i32 0] [(0, 1, .s 0), (1, 1, .s 1)])) (.cons (xr 1072) (xr 1103))) (.op (.p (.build [.int .i32 0, .int .i32 0] [(0, 1,
  .s 0), (1, 1, .s 1)])) (.cons (xr 7865) (xr 7871)))))))))))))))))))))]) .ret))
theorem fn_guisebook_House : (autoPrg Tryd.prog).fn 34 = some LF_guisebook_House := by kernel_rfl
def LF_guisebook_Within : LFunc :=
  .mk 3 [.tmp 6] (.seq (R 999 [0, 1, 2] [.set 6 (xi 0)]) (.seq (R 7 [0, 1, 2] [.set 0 (xb .rem (.va 0) (xb .add (xb .sub (.va 2) (.va 1)) (xi 1)))]) (.seq (.seq (R 13 [0, 1, 2, 14]
  [.tmp 14 (xb .lss (.va 0) (xi 0))]) (.cond (.s 14) (R 15 [0, 1] [.set 0 (xb .add (xb .sub (xb .add (.va 0) (.va 2)) (.va 1)) (xi 1))]) .skip)) (.seq (R 21 [6] [.set 6 (xb .add
  (.va 1) (.va 0))]) .ret))))
theorem fn_guisebook_Within : (autoPrg Tryd.prog).fn 14 = some LF_guisebook_Within := by kernel_rfl
end Go.Proofs.YtblmakgjdenpfaaDoor.AM
namespace Go.Proofs.YtblmakgjdenpfaaDoor.AM
open Go
def houseT : Tab where
  scripts := [(⟨#[108, 97, 116, 105, 110]⟩, [(65, 90), (97, 122), (232, 234), (7865, 7871)]), (⟨#[103, 114, 101, 101, 107]⟩, [(945, 969)]), (⟨#[99, 121, 114, 105, 108, 108, 105, 99]⟩, [(1072, 1103)])]
  common := [(45, 57)]
  marks := [(769, 230), (770, 230), (803, 220)]
  pairs := [(233, 101, 769), (234, 101, 770), (7865, 101, 803), (7871, 234, 769)]
  folds := [(65, ⟨#[97]⟩), (69, ⟨#[101]⟩)]
  looks := [(1072, ⟨#[97]⟩), (49, ⟨#[108]⟩), (109, ⟨#[114, 110]⟩)]
  drops := [(8205, 8205)]
  allowed := [(45, 45), (48, 57), (97, 122), (232, 234), (769, 770), (803, 803), (945, 969), (1072, 1103), (7865, 7871)]
instance (r : Int) : Decidable (r32 r) := by unfold r32; infer_instance
instance (r : Int) : Decidable (r64 r) := by unfold r64; infer_instance
theorem house_fits : Tab.Fits houseT :=
  ⟨by decide, by decide, by decide, by decide, by decide, by decide, by decide, by decide, by decide, by decide, by decide, by decide, by decide, by decide, by decide, by decide, by decide⟩
theorem reads_cells {h : AH} {b e n : Nat} {xss : List (List Value)} (hb : h.get b = some (.cells false xss.flatten)) (hn : n = xss.length) (he : ∀ x ∈ xss, x.length = e) : Reads h e (.at b 0 n) xss :=
  ⟨hn, he, .inr ⟨false, [], [], by rw [List.nil_append, List.append_nil]; exact hb, rfl⟩⟩
set_option maxHeartbeats 4000000 in
theorem house_spec (h : AH) : WpC PX 34 [] h fun v h' => ∃ S, v = .agg S.vs.toArray ∧ TabAt h' S houseT ∧ Kp h h' := by
  refine wpc_fn (px_ext rfl) (px_fn fn_guisebook_House) rfl ?_
  unfold LF_guisebook_House
  simp only [argFr]
  (refine W_x trivial ?_; (repeat' first | apply Cj.mk | exact Nl.nl) <;> intros)
  simp only [Nat.add_assoc, Nat.reduceAdd]
  refine ⟨⟨.at (h.n + 3) 0 3, .at (h.n + 4) 0 1, .at (h.n + 5) 0 3, .at (h.n + 6) 0 4, .at (h.n + 7) 0 2, .at (h.n + 8) 0 3, .at (h.n + 9) 0 1, .at (h.n + 10) 0 9,
    [((⟨#[108, 97, 116, 105, 110]⟩, [(65, 90), (97, 122), (232, 234), (7865, 7871)]), .at h.n 0 4), ((⟨#[103, 114, 101, 101, 107]⟩, [(945, 969)]), .at (h.n + 1) 0 1), ((⟨#[99, 121, 114, 105, 108, 108, 105, 99]⟩, [(1072, 1103)]), .at (h.n + 2) 0 1)]⟩, rfl,
    ⟨house_fits, reads_cells (by simp (disch := first | omega | (simp only [AH.nn_push, AH.nn_set, AH.nn_kill]; omega) | (simp only [AH.nn_push, AH.nn_set, AH.nn_kill]; done) | fail) only [AH.get_push_eq, AH.get_push_ne, AH.get_set_eq, AH.get_set_ne, AH.push_n]; rfl) rfl (by simp [houseT, scrV]), rfl, fun z hz => ?_, reads_cells (by simp (disch := first | omega | (simp only [AH.nn_push, AH.nn_set, AH.nn_kill]; omega) | (simp only [AH.nn_push, AH.nn_set, AH.nn_kill]; done) | fail) only [AH.get_push_eq, AH.get_push_ne, AH.get_set_eq, AH.get_set_ne, AH.push_n]; rfl) rfl (by simp [houseT, pairV]), reads_cells (by simp (disch := first | omega | (simp only [AH.nn_push, AH.nn_set, AH.nn_kill]; omega) | (simp only [AH.nn_push, AH.nn_set, AH.nn_kill]; done) | fail) only [AH.get_push_eq, AH.get_push_ne, AH.get_set_eq, AH.get_set_ne, AH.push_n]; rfl) rfl (by simp [houseT, markV]),
    reads_cells (by simp (disch := first | omega | (simp only [AH.nn_push, AH.nn_set, AH.nn_kill]; omega) | (simp only [AH.nn_push, AH.nn_set, AH.nn_kill]; done) | fail) only [AH.get_push_eq, AH.get_push_ne, AH.get_set_eq, AH.get_set_ne, AH.push_n]; rfl) rfl (by simp [houseT, tripV]), reads_cells (by simp (disch := first | omega | (simp only [AH.nn_push, AH.nn_set, AH.nn_kill]; omega) | (simp only [AH.nn_push, AH.nn_set, AH.nn_kill]; done) | fail) only [AH.get_push_eq, AH.get_push_ne, AH.get_set_eq, AH.get_set_ne, AH.push_n]; rfl) rfl (by simp [houseT, mapV]), reads_cells (by simp (disch := first | omega | (simp only [AH.nn_push, AH.nn_set, AH.nn_kill]; omega) | (simp only [AH.nn_push, AH.nn_set, AH.nn_kill]; done) | fail) only [AH.get_push_eq, AH.get_push_ne, AH.get_set_eq, AH.get_set_ne, AH.push_n]; rfl) rfl (by simp [houseT, mapV]),
    reads_cells (by simp (disch := first | omega | (simp only [AH.nn_push, AH.nn_set, AH.nn_kill]; omega) | (simp only [AH.nn_push, AH.nn_set, AH.nn_kill]; done) | fail) only [AH.get_push_eq, AH.get_push_ne, AH.get_set_eq, AH.get_set_ne, AH.push_n]; rfl) rfl (by simp [houseT, pairV]), reads_cells (by simp (disch := first | omega | (simp only [AH.nn_push, AH.nn_set, AH.nn_kill]; omega) | (simp only [AH.nn_push, AH.nn_set, AH.nn_kill]; done) | fail) only [AH.get_push_eq, AH.get_push_ne, AH.get_set_eq, AH.get_set_ne, AH.push_n]; rfl) rfl (by simp [houseT, pairV])⟩, ?_⟩
  · simp only [List.mem_cons, List.mem_nil_iff, or_false] at hz
    rcases hz with rfl | rfl | rfl
    · exact reads_cells (by simp (disch := first | omega | (simp only [AH.nn_push, AH.nn_set, AH.nn_kill]; omega) | (simp only [AH.nn_push, AH.nn_set, AH.nn_kill]; done) | fail) only [AH.get_push_eq, AH.get_push_ne, AH.get_set_eq, AH.get_set_ne, AH.push_n]; rfl) rfl (by simp [houseT, pairV])
    · exact reads_cells (by simp (disch := first | omega | (simp only [AH.nn_push, AH.nn_set, AH.nn_kill]; omega) | (simp only [AH.nn_push, AH.nn_set, AH.nn_kill]; done) | fail) only [AH.get_push_eq, AH.get_push_ne, AH.get_set_eq, AH.get_set_ne, AH.push_n]; rfl) rfl (by simp [houseT, pairV])
    · exact reads_cells (by simp (disch := first | omega | (simp only [AH.nn_push, AH.nn_set, AH.nn_kill]; omega) | (simp only [AH.nn_push, AH.nn_set, AH.nn_kill]; done) | fail) only [AH.get_push_eq, AH.get_push_ne, AH.get_set_eq, AH.get_set_ne, AH.push_n]; rfl) rfl (by simp [houseT, pairV])
  · exact (((((((((((Kp.refl h).push _).push _).push _).push _).push _).push _).push _).push _).push _).push _).push _
end Go.Proofs.YtblmakgjdenpfaaDoor.AM
namespace Go.Proofs.YtblmakgjdenpfaaDoor.AM
open Go
set_option maxRecDepth 100000 in
theorem house_good : goodB houseT = true := by decide +kernel
def fewB (s : ByteArray) (n : Nat) : ByteArray := if n < s.size then s.extract 0 n else s
theorem few_size {s : ByteArray} {n : Nat} (hs : s.size ≤ 1048576) : (fewB s n).size ≤ 1048576 := by
  unfold fewB
  split
  · rw [ba_size, ba_extract _ _ _ (by omega), List.length_take, List.length_drop]
    have := ba_size s
    omega
  · exact hs
end Go.Proofs.YtblmakgjdenpfaaDoor.AM
namespace Go.Proofs.YtblmakgjdenpfaaDoor.AM
section
variable (cl : Nat → Int)
def insR : List Nat → Nat → List Nat
  | [], r => [r]
  | x :: rs, r => if 0 < cl r ∧ cl r < cl x then x :: insR rs r else r :: x :: rs
def ord (l : List Nat) : List Nat := (l.foldl (insR cl) []).reverse
variable {cl}
end
end Go.Proofs.YtblmakgjdenpfaaDoor.AM
namespace Go.Proofs.YtblmakgjdenpfaaDoor.AM
open Go
theorem Tr.set_set : ∀ (f : Nat) (t : Tr) (k : Nat) (x y : Option AObj), Tr.set f (Tr.set f t k x) k y = Tr.set f t k y
  | 0, t, k, x, y => by simp only [Tr.set]
  | f + 1, .e, k, x, y => by
    by_cases h0 : k = 0
    · simp only [Tr.set, h0, if_true]
    · by_cases h1 : k % 2 = 1
      · simp only [Tr.set, if_neg h0, if_pos h1, Tr.set_set f]
      · simp only [Tr.set, if_neg h0, if_neg h1, Tr.set_set f]
  | f + 1, .n l v r, k, x, y => by
    by_cases h0 : k = 0
    · simp only [Tr.set, h0, if_true]
    · by_cases h1 : k % 2 = 1
      · simp only [Tr.set, if_neg h0, if_pos h1, Tr.set_set f]
      · simp only [Tr.set, if_neg h0, if_neg h1, Tr.set_set f]
theorem AH.set_set (h : AH) (b : Nat) (o o' : AObj) : (h.set b o).set b o' = h.set b o' := by
  simp only [AH.set, AH.put, Tr.set_set]
structure Pl where
  h0 : AH
  b : Nat
  pre : List Value
  post : List Value
  lt : b < h0.n
variable {α : Type} [Inhabited α]
def Pl.H (q : Pl) (enc : α → List Value) (D : List α) : AH := q.h0.set q.b (.cells false (q.pre ++ (D.map enc).flatten ++ q.post))
def Pl.s (q : Pl) (n : Nat) : Sl := .at q.b q.pre.length n
def ati (D : List α) (i : Int) : α := D.getD i.toNat default
theorem ati_get {D : List α} {i : Int} (h0 : 0 ≤ i) (h : i < D.length) : ∃ hi : i.toNat < D.length, ati D i = D[i.toNat] := ⟨by omega, by
  simp only [ati, List.getD_eq_getElem?_getD]
  rw [List.getElem?_eq_getElem (by omega), Option.getD_some]⟩
theorem Pl.get (q : Pl) (enc : α → List Value) (D : List α) : (q.H enc D).get q.b = some (.cells false (q.pre ++ (D.map enc).flatten ++ q.post)) := AH.get_set_same _ q.lt
theorem Pl.n (q : Pl) (enc : α → List Value) (D : List α) : (q.H enc D).n = q.h0.n := rfl
theorem Pl.reads (q : Pl) {enc : α → List Value} {e : Nat} (he : ∀ x, (enc x).length = e) (D : List α) : Reads (q.H enc D) e (q.s D.length) (D.map enc) :=
  ⟨by simp [Pl.s, Sl.len], fun x hx => by obtain ⟨y, _, rfl⟩ := List.mem_map.1 hx; exact he y, .inr ⟨false, _, _, q.get enc D, rfl⟩⟩
theorem Pl.rd (q : Pl) {enc : α → List Value} {e : Nat} (he : ∀ x, (enc x).length = e) {D : List α} {n : Nat} (hn : D.length = n) {lc : Lc} {i : Int} (h0 : 0 ≤ i) (h : i < n) :
    Mem.rd ⟨lc, q.H enc D⟩ ((q.s n).adr e i.toNat) e = some (enc (ati D i)) := by
  subst hn
  obtain ⟨hi, e1⟩ := ati_get h0 h
  rw [e1]
  exact rd_map (q.reads he D) hi
theorem Pl.wr (q : Pl) {enc : α → List Value} {e : Nat} (he : ∀ x, (enc x).length = e) {D : List α} {n : Nat} (hn : D.length = n) {lc : Lc} {i : Int} (h0 : 0 ≤ i) (h : i < n) (x : α) :
    Mem.wr ⟨lc, q.H enc D⟩ ((q.s n).adr e i.toNat) (enc x) = some ⟨lc, q.H enc (D.set i.toNat x)⟩ := by
  subst hn
  have hi : i.toNat < D.length := by omega
  have hl : ∀ l : List α, ((l.map enc).flatten).length = l.length * e := fun l => by
    rw [flatten_len (e := e) (fun x hx => by obtain ⟨y, _, rfl⟩ := List.mem_map.1 hx; exact he y), List.length_map]
  show Mem.wr ⟨lc, q.H enc D⟩ ⟨q.b, q.pre.length + i.toNat * e, none⟩ (enc x) = _
  rw [wr_heap, q.get enc D]
  have hie : i.toNat * e + e ≤ D.length * e := by
    have : (i.toNat + 1) * e ≤ D.length * e := Nat.mul_le_mul_right e hi
    rw [Nat.add_mul] at this; omega
  simp only [List.length_append, hl, he]
  rw [if_pos (by omega)]
  have hD : D = D.take i.toNat ++ D[i.toNat] :: D.drop (i.toNat + 1) := by rw [← List.drop_eq_getElem_cons hi, List.take_append_drop]
  have hset : D.set i.toNat x = D.take i.toNat ++ x :: D.drop (i.toNat + 1) := by rw [List.set_eq_take_append_cons_drop, if_pos hi]
  have htl : (D.take i.toNat).length = i.toNat := by rw [List.length_take]; omega
  have h1 : q.pre ++ (D.map enc).flatten ++ q.post = (q.pre ++ ((D.take i.toNat).map enc).flatten) ++ enc D[i.toNat] ++ (((D.drop (i.toNat + 1)).map enc).flatten ++ q.post) := by
    conv => lhs; rw [hD]
    simp only [List.map_append, List.map_cons, List.flatten_append, List.flatten_cons, List.append_assoc]
  have h2 : q.pre ++ ((D.set i.toNat x).map enc).flatten ++ q.post = (q.pre ++ ((D.take i.toNat).map enc).flatten) ++ enc x ++ (((D.drop (i.toNat + 1)).map enc).flatten ++ q.post) := by
    rw [hset]
    simp only [List.map_append, List.map_cons, List.flatten_append, List.flatten_cons, List.append_assoc]
  have h3 : (q.pre ++ ((D.take i.toNat).map enc).flatten).length = q.pre.length + i.toNat * e := by rw [List.length_append, hl, htl]
  have := setAll_eq (enc x) (q.pre ++ ((D.take i.toNat).map enc).flatten) (enc D[i.toNat]) (((D.drop (i.toNat + 1)).map enc).flatten ++ q.post) (by rw [he, he])
  rw [← h1, h3, ← h2] at this
  rw [this]
  simp only [Pl.H, AH.set_set]
structure Cmp (p : Prg) (q : Pl) (enc : α → List Value) (e : Nat) (val : α → Value) (cv : Value) (key : α → Int) : Prop where
  len : ∀ x, (enc x).length = e
  cells : ∀ x, vcells (val x) = enc x
  ok : ∀ x, (enc x).all cellOk = true
  okv : ∀ x, okV (val x) = true
  cvf : ∃ g, cv = .func (.func g) #[] #[] ∨ ∃ b o, cv = .func (.func g) #[] #[.pointer (some ⟨b, o, none⟩)]
  run : ∀ x y D, ∃ n : Int, callV p cv [val x, val y] (q.H enc D) = some (.int .i64 n, q.H enc D) ∧ (n < 0 ↔ key x < key y) ∧ -9223372036854775808 ≤ n ∧ n < 9223372036854775808
end Go.Proofs.YtblmakgjdenpfaaDoor.AM
namespace Go.Proofs.YtblmakgjdenpfaaDoor.AM
open Go
variable {α : Type} [Inhabited α] {q : Pl} {enc : α → List Value} {val : α → Value} {cv : Value} {key : α → Int}
structure CmpS (q : Pl) (enc : α → List Value) (val : α → Value) (cv : Value) (key : α → Int) : Prop extends Cmp PX q enc 1 val cv key where
  vw : ∀ x, val x = val x
  rdw : ∀ x, enc x = [val x]
theorem CmpS.rd (hc : CmpS q enc val cv key) {D : List α} {n : Nat} (hn : D.length = n) : ∀ lc (i : Int), 0 ≤ i → i < n → Mem.rd ⟨lc, q.H enc D⟩ ((q.s n).adr 1 i.toNat) 1 = some [val (ati D i)] := fun lc i h0 h => by
  have h1 := q.rd hc.len hn (lc := lc) h0 h
  rw [h1, hc.rdw]
theorem CmpS.wr (hc : CmpS q enc val cv key) {D : List α} {n : Nat} (hn : D.length = n) : ∀ lc (i : Int) x, 0 ≤ i → i < n → Mem.wr ⟨lc, q.H enc D⟩ ((q.s n).adr 1 i.toNat) (enc x) = some ⟨lc, q.H enc (D.set i.toNat x)⟩ := fun lc i x h0 h => q.wr hc.len hn h0 h x
end Go.Proofs.YtblmakgjdenpfaaDoor.AM
namespace Go.Proofs.YtblmakgjdenpfaaDoor.AM
open Go
variable {α : Type} [Inhabited α] {q : Pl} {enc : α → List Value} {val : α → Value} {cv : Value} {key : α → Int} {idx : α → Int}
end Go.Proofs.YtblmakgjdenpfaaDoor.AM
