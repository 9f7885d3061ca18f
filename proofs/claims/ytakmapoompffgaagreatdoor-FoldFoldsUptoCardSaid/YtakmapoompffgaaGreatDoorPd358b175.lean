/- Parts of proofs: lemmas, joined. -/
import Derived.Test.YtakmapoompffgaaGreatDoorPfeca7e4b
set_option linter.unusedVariables false
set_option linter.unusedSimpArgs false
set_option linter.unusedSectionVars false
namespace Go.Proofs.YtakmapoompffgaaGreatDoor.AM
open Go
structure FormOk (T:Tab):Prop where
  cl:∀ x∈T.marks,x.2≠0
  ok1:SpOk T.common
  ok6:SpOk T.drops
  ok7:SpOk T.allowed
  v4:∀ x∈T.folds,validB x.2.data.toList = true
  v5:∀ x∈T.looks,validB x.2.data.toList = true
theorem spOk_W {l:List Span} {n:Int} (h:spansW l n = none):SpOk l:=spOk_of (by
  unfold spansW at h
  exact Option.map_eq_none_iff.1 h)
theorem mapsW_valid {l:List (Int × ByteArray)} {n:Int} (h:mapsW l n = none):∀ x∈l,validB x.2.data.toList = true:=by
  intro x hx
  obtain ⟨i,hi,rfl⟩:=List.mem_iff_getElem.1 hx
  have:=scanL_none h i hi
  split at this
  · cases this
  · split at this
    · cases this
    · rename_i hb
      cases hv:validB (l[i]).2.data.toList with
      | true=>rfl
      | false=>exact absurd (.inl hv) hb
theorem formOk {T:Tab} (h:formsW T = none):FormOk T:=by
  unfold formsW at h
  simp only [Option.or_eq_none_iff] at h
  obtain ⟨_,h1,h2,_,h4,h5,h6,h7⟩:=h
  refine ⟨fun x hx=>?_,spOk_W h1,spOk_W h6,spOk_W h7,mapsW_valid h4,mapsW_valid h5⟩
  obtain ⟨i,hi,rfl⟩:=List.mem_iff_getElem.1 hx
  have:=scanL_none h2 i hi
  split at this
  · cases this
  · split at this
    · cases this
    · omega
structure BookAt (h:AH) (k B:Nat) (S:TS) (T:Tab):Prop where
  b:h.get k = some (.cells false (S.vs ++ [.map (some B),.map (some (B + 1)),.map (some (B + 2)),.map (some (B + 3)),.map (some (B + 4))]))
  mp:MpAt h B T.marks T.pairs T.folds T.looks
  t:TabAt h S T
  ok:checkW T = none
theorem BookAt.kp {h h':AH} {k B:Nat} {S:TS} {T:Tab} (b:BookAt h k B S T) (q:Kp h h'):BookAt h' k B S T:=⟨q.get b.b,b.mp.kp q,b.t.kp q,b.ok⟩
theorem checkW_none {T:Tab} (h:checkW T = none):longW T = none∧formsW T = none∧twiceW T = none∧pairsW T = none∧chainsW T = none∧dropsW T = none∧fromsW T = none∧tosW T = none∧houseW T = none:=by
  unfold checkW at h
  simp only [Option.or_eq_none_iff] at h
  obtain ⟨a,b,c,⟨d,e⟩,f,⟨g,i⟩,j⟩:=h
  exact ⟨a,b,c,d,e,f,g,i,j⟩
theorem BookAt.bk {h:AH} {k B:Nat} {S:TS} {T:Tab} (b:BookAt h k B S T):BkAt h k B S.s6 T :=
  have f:=formOk (checkW_none b.ok).2.1
  ⟨⟨_,_,_,_,_,_,_,b.b⟩,b.mp,b.t.r6,b.t.fits.n6,f.ok6,f.cl⟩
def NewQ (h:AH) (T:Tab) (v:Value) (h':AH):Prop :=
  Kp h h'∧match checkW T with
  | some w=>v = .tuple (List.toArray [.pointer none,wrV (some w)])
  | none => ∃ k B S,v = .tuple (List.toArray [.pointer (some ⟨k,0,none⟩),wrV none])∧BookAt h' k B S T∧h.n≤B∧h.n≤k
set_option maxHeartbeats 16000000 in
theorem new_spec {h:AH} {S:TS} {T:Tab} (t:TabAt h S T) (u:U8T h) (hg:2≤h.n):WpC PX 39 [.agg S.vs.toArray] h (NewQ h T):=by
  refine wpc_fn (px_ext rfl) (px_fn fn_tables_New) rfl ?_
  unfold LF_tables_New
  simp only [argFr]
  unfold TS.vs
  have g2:0 < 2∧1 < 2:=by decide
  have vm:∀ m,vcells (.map m) = [.map m]:=fun _=>rfl
  have vf:∀ f a b,vcells (.func f a b) = [.func f a b]:=fun _ _ _=>rfl
  (refine W_x (Aj vm vf) ?_; (repeat' first | apply Cj.mk | exact Nl.nl) <;> intros)
  obtain ⟨g,eg⟩:∃ g,g = ((((((h.push (.map [])).push (.map [])).push (.map [])).push (.map [])).push (.map [])).push (.cells false (bV (.slice none 0 0) h.n))).push (.cells false (cV S h.n)):=⟨_,rfl⟩
  have gn:g.n = h.n + 7:=by rw [eg]; rfl
  have kg:Kp h g:=by rw [eg]; exact (((((((Kp.refl h).push _).push _).push _).push _).push _).push _).push _
  have c0:CAt g h.n S T (.slice none 0 0):=by
    refine ⟨by omega, ?_, ?_,h,Nat.le_refl _,kg,t⟩
    · rw [eg]; exact AH.get_push_eq (by simp [AH.push_n])
    · rw [eg,AH.get_push_ne _ (by simp [AH.push_n])]; exact AH.get_push_eq (by simp [AH.push_n])
  have m0:MpAt g h.n [] [] [] []:=by
    refine ⟨?_, ?_, ?_, ?_, ?_⟩ <;> rw [eg] <;> simp (disch:=first | omega | (simp only [AH.nn_push,AH.nn_set,AH.nn_kill]; omega) | (simp only [AH.nn_push,AH.nn_set,AH.nn_kill]; done) | fail) only [AH.get_push_eq,AH.get_push_ne,AH.get_set_eq,AH.get_set_ne,List.map_nil,AH.push_n]
  have u0:=u.kp kg
  have eg':=eg
  unfold bV cV at eg'
  simp only [Nat.add_assoc,Nat.reduceAdd]
  change Wp PX _ _ _ (AH.push _ (.cells false [.func (.func 56) (List.toArray [.pointer (some ⟨h.n + 6,0,none⟩)]) (List.toArray []),.func (.func 57) (List.toArray [.pointer (some ⟨h.n + 6,0,none⟩)]) (List.toArray []),.func (.func 58) (List.toArray [.pointer (some ⟨h.n + 6,0,none⟩)]) (List.toArray []),.func (.func 59) (List.toArray [.pointer (some ⟨h.n + 6,0,none⟩)]) (List.toArray []),.func (.func 60) (List.toArray [.pointer (some ⟨h.n + 6,0,none⟩)]) (List.toArray []),.func (.func 61) (List.toArray [.pointer (some ⟨h.n + 6,0,none⟩)]) (List.toArray []),.func (.func 62) (List.toArray [.pointer (some ⟨h.n + 6,0,none⟩)]) (List.toArray []),.func (.func 63) (List.toArray [.pointer (some ⟨h.n + 6,0,none⟩)]) (List.toArray []),.func (.func 64) (List.toArray [.pointer (some ⟨h.n + 6,0,none⟩)]) (List.toArray [])])) _
  rw [← eg']
  obtain ⟨O,eO⟩:∃ O,O = AObj.cells false [.func (.func 56) (List.toArray [.pointer (some ⟨h.n + 6,0,none⟩)]) (List.toArray []),.func (.func 57) (List.toArray [.pointer (some ⟨h.n + 6,0,none⟩)]) (List.toArray []),.func (.func 58) (List.toArray [.pointer (some ⟨h.n + 6,0,none⟩)]) (List.toArray []),.func (.func 59) (List.toArray [.pointer (some ⟨h.n + 6,0,none⟩)]) (List.toArray []),.func (.func 60) (List.toArray [.pointer (some ⟨h.n + 6,0,none⟩)]) (List.toArray []),.func (.func 61) (List.toArray [.pointer (some ⟨h.n + 6,0,none⟩)]) (List.toArray []),.func (.func 62) (List.toArray [.pointer (some ⟨h.n + 6,0,none⟩)]) (List.toArray []),.func (.func 63) (List.toArray [.pointer (some ⟨h.n + 6,0,none⟩)]) (List.toArray []),.func (.func 64) (List.toArray [.pointer (some ⟨h.n + 6,0,none⟩)]) (List.toArray [])]:=⟨_,rfl⟩
  rw [← eO]
  obtain ⟨g0,eg0⟩:∃ g0,g0 = g.push O:=⟨_,rfl⟩
  have kg0:Kp g g0:=by rw [eg0]; exact (Kp.refl g).push O
  have hO:g0.get (h.n + 7) = some O:=by rw [eg0]; exact AH.get_push_eq gn.symm
  rw [← eg0]
  clear eg0 eg'
  rw [eO] at hO
  have c0:=c0.kp kg0
  have m0:=m0.kp kg0
  have u0:=u0.kp kg0
  have k0:=kg.trans kg0
  clear kg kg0 eg
  obtain ⟨_,y0,e1,⟨rfl,k1⟩⟩:=cLong c0
  unfold cP at e1
  have hO1:y0.get (h.n + 7) = some _:=k1.get hO
  have c0:=c0.kp k1
  have u0:=u0.kp k1
  have k0:=k0.trans k1
  have m0:=m0.kp k1
  clear k1
  refine wp_unroll ?_
  cases w0:longW T with
  | some w =>
    obtain ⟨a,b,c⟩:=w
    have ha:=longW_pos T a b c w0
    rw [w0] at e1
    simp only [wrV] at e1
    (refine W_x (Aj hO e1) ?_; (repeat' first | apply Cj.mk | exact Nl.nl) <;> intros)
    exact ⟨k0,by simp only [checkW,w0,Option.none_or,Option.some_or,Option.or_some]; rfl⟩
  | none =>
  rw [w0] at e1
  simp only [wrV] at e1
  (refine W_x (Aj hO e1) ?_; (repeat' first | apply Cj.mk | exact Nl.nl) <;> intros)
  clear e1 hO
  have hO:=hO1
  clear hO1
  obtain ⟨_,y1,e1,⟨rfl,k1⟩⟩:=cForms c0 u0
  unfold cP at e1
  have hO1:y1.get (h.n + 7) = some _:=k1.get hO
  have c0:=c0.kp k1
  have u0:=u0.kp k1
  have k0:=k0.trans k1
  have m0:=m0.kp k1
  clear k1
  refine wp_unroll ?_
  cases w1:formsW T with
  | some w =>
    obtain ⟨a,b,c⟩:=w
    have ha:=formsW_pos T a b c w1
    rw [w1] at e1
    simp only [wrV] at e1
    (refine W_x (Aj hO e1) ?_; (repeat' first | apply Cj.mk | exact Nl.nl) <;> intros)
    exact ⟨k0,by simp only [checkW,w0,w1,Option.none_or,Option.some_or,Option.or_some]; rfl⟩
  | none =>
  rw [w1] at e1
  simp only [wrV] at e1
  (refine W_x (Aj hO e1) ?_; (repeat' first | apply Cj.mk | exact Nl.nl) <;> intros)
  have fo:=formOk w1
  clear e1 hO
  have hO:=hO1
  clear hO1
  obtain ⟨_,y2,e1,⟨rfl,k1,m1⟩⟩:=cOnce c0 m0 fo.cl
  unfold cP at e1
  have hO1:y2.get (h.n + 7) = some _:=(k1.2 _ (by have:=AH.get_lt hO; omega) (by omega)).trans hO
  have c0:=c0.kpm k1
  have u0:=u0.kpm hg (by decide) k1
  have k0:Kp h y2:=⟨Nat.le_trans k0.1 k1.1,fun b hb=>by rw [k1.2 b (by have:=k0.1; omega) (by omega),k0.2 b hb]⟩
  clear k1
  refine wp_unroll ?_
  cases w2:twiceW T with
  | some w =>
    obtain ⟨a,b,c⟩:=w
    have ha:=twiceW_pos T a b c w2
    rw [w2] at e1
    simp only [wrV] at e1
    (refine W_x (Aj hO e1) ?_; (repeat' first | apply Cj.mk | exact Nl.nl) <;> intros)
    exact ⟨k0,by simp only [checkW,w0,w1,w2,Option.none_or,Option.some_or,Option.or_some]; rfl⟩
  | none =>
  rw [w2] at e1
  simp only [wrV] at e1
  (refine W_x (Aj hO e1) ?_; (repeat' first | apply Cj.mk | exact Nl.nl) <;> intros)
  have m0:=m1 w2
  clear e1 hO
  have hO:=hO1
  clear hO1
  obtain ⟨_,y3,e1,⟨rfl,k1⟩⟩:=cPairs c0 m0 fo.cl
  unfold cP at e1
  have hO1:y3.get (h.n + 7) = some _:=k1.get hO
  have c0:=c0.kp k1
  have u0:=u0.kp k1
  have k0:=k0.trans k1
  have m0:=m0.kp k1
  clear k1
  refine wp_unroll ?_
  cases w3:pairsW T with
  | some w =>
    obtain ⟨a,b,c⟩:=w
    have ha:=pairsW_pos T a b c w3
    rw [w3] at e1
    simp only [wrV] at e1
    (refine W_x (Aj hO e1) ?_; (repeat' first | apply Cj.mk | exact Nl.nl) <;> intros)
    exact ⟨k0,by simp only [checkW,w0,w1,w2,w3,Option.none_or,Option.some_or,Option.or_some]; rfl⟩
  | none =>
  rw [w3] at e1
  simp only [wrV] at e1
  (refine W_x (Aj hO e1) ?_; (repeat' first | apply Cj.mk | exact Nl.nl) <;> intros)
  clear e1 hO
  have hO:=hO1
  clear hO1
  obtain ⟨_,y4,e1,⟨rfl,k1⟩⟩:=cChains c0 m0
  unfold cP at e1
  have hO1:y4.get (h.n + 7) = some _:=k1.get hO
  have c0:=c0.kp k1
  have u0:=u0.kp k1
  have k0:=k0.trans k1
  have m0:=m0.kp k1
  clear k1
  refine wp_unroll ?_
  cases w4:chainsW T with
  | some w =>
    obtain ⟨a,b,c⟩:=w
    have ha:=chainsW_pos T a b c w4
    rw [w4] at e1
    simp only [wrV] at e1
    (refine W_x (Aj hO e1) ?_; (repeat' first | apply Cj.mk | exact Nl.nl) <;> intros)
    exact ⟨k0,by simp only [checkW,w0,w1,w2,w3,w4,Option.none_or,Option.some_or,Option.or_some]; rfl⟩
  | none =>
  rw [w4] at e1
  simp only [wrV] at e1
  (refine W_x (Aj hO e1) ?_; (repeat' first | apply Cj.mk | exact Nl.nl) <;> intros)
  clear e1 hO
  have hO:=hO1
  clear hO1
  obtain ⟨_,y5,e1,⟨rfl,k1⟩⟩:=cDrops c0 fo.ok6
  unfold cP at e1
  have hO1:y5.get (h.n + 7) = some _:=k1.get hO
  have c0:=c0.kp k1
  have u0:=u0.kp k1
  have k0:=k0.trans k1
  have m0:=m0.kp k1
  clear k1
  refine wp_unroll ?_
  cases w5:dropsW T with
  | some w =>
    obtain ⟨a,b,c⟩:=w
    have ha:=dropsW_pos T a b c w5
    rw [w5] at e1
    simp only [wrV] at e1
    (refine W_x (Aj hO e1) ?_; (repeat' first | apply Cj.mk | exact Nl.nl) <;> intros)
    exact ⟨k0,by simp only [checkW,w0,w1,w2,w3,w4,w5,Option.none_or,Option.some_or,Option.or_some]; rfl⟩
  | none =>
  rw [w5] at e1
  simp only [wrV] at e1
  (refine W_x (Aj hO e1) ?_; (repeat' first | apply Cj.mk | exact Nl.nl) <;> intros)
  clear e1 hO
  have hO:=hO1
  clear hO1
  obtain ⟨_,y6,e1,⟨rfl,k1⟩⟩:=cFroms c0 m0 fo.cl
  unfold cP at e1
  have hO1:y6.get (h.n + 7) = some _:=k1.get hO
  have c0:=c0.kp k1
  have u0:=u0.kp k1
  have k0:=k0.trans k1
  have m0:=m0.kp k1
  clear k1
  refine wp_unroll ?_
  cases w6:fromsW T with
  | some w =>
    obtain ⟨a,b,c⟩:=w
    have ha:=fromsW_pos T a b c w6
    rw [w6] at e1
    simp only [wrV] at e1
    (refine W_x (Aj hO e1) ?_; (repeat' first | apply Cj.mk | exact Nl.nl) <;> intros)
    exact ⟨k0,by simp only [checkW,w0,w1,w2,w3,w4,w5,w6,Option.none_or,Option.some_or,Option.or_some]; rfl⟩
  | none =>
  rw [w6] at e1
  simp only [wrV] at e1
  (refine W_x (Aj hO e1) ?_; (repeat' first | apply Cj.mk | exact Nl.nl) <;> intros)
  clear e1 hO
  have hO:=hO1
  clear hO1
  obtain ⟨_,y7,e1,⟨rfl,k1⟩⟩:=cTos c0 m0 fo.cl fo.ok6 fo.v4 fo.v5
  unfold cP at e1
  have hO1:y7.get (h.n + 7) = some _:=k1.get ((AH.get_set_ne _ (by omega)).trans hO)
  have k0:Kp h y7:=⟨Nat.le_trans k0.1 k1.1,fun b hb=>by
    have hn:=k0.1
    rw [k1.2 b (Nat.lt_of_lt_of_le hb k0.1),AH.get_set_ne _ (by omega),k0.2 b hb]⟩
  have hcn:=c0.n
  have m0:MpAt y7 h.n T.marks T.pairs T.folds T.looks:=MpAt.kp ⟨(AH.get_set_ne _ (by omega)).trans m0.m1,(AH.get_set_ne _ (by omega)).trans m0.m2,(AH.get_set_ne _ (by omega)).trans m0.m3,(AH.get_set_ne _ (by omega)).trans m0.m4,(AH.get_set_ne _ (by omega)).trans m0.m5⟩ k1
  have cY:CAt (y6.set (h.n + 5) (.cells false (bV (S.s6.val 2) h.n))) h.n S T (S.s6.val 2):=⟨hcn,(AH.get_set_ne _ (by omega)).trans c0.c,AH.get_set_same _ (by omega),by
    obtain ⟨h0,e,q0,t⟩:=c0.o
    exact ⟨h0,e,⟨q0.1,fun b hb=>(AH.get_set_ne _ (by omega)).trans (q0.2 b hb)⟩,t⟩⟩
  have c0:=cY.kp k1
  have u0:U8T y7:=⟨k1.get ((AH.get_set_ne _ (by have:=g2.1; omega)).trans u0.f),k1.get ((AH.get_set_ne _ (by have:=g2.2; omega)).trans u0.a)⟩
  clear k1
  refine wp_unroll ?_
  cases w7:tosW T with
  | some w =>
    obtain ⟨a,b,c⟩:=w
    have ha:=tosW_pos T a b c w7
    rw [w7] at e1
    simp only [wrV] at e1
    (refine W_x (Aj hO e1) ?_; (repeat' first | apply Cj.mk | exact Nl.nl) <;> intros)
    exact ⟨k0,by simp only [checkW,w0,w1,w2,w3,w4,w5,w6,w7,Option.none_or,Option.some_or,Option.or_some]; rfl⟩
  | none =>
  rw [w7] at e1
  simp only [wrV] at e1
  (refine W_x (Aj hO e1) ?_; (repeat' first | apply Cj.mk | exact Nl.nl) <;> intros)
  clear e1 hO
  have hO:=hO1
  clear hO1
  obtain ⟨_,y8,e1,⟨rfl,k1⟩⟩:=cHouse c0 fo.ok1 fo.ok7 fo.v4 fo.v5
  unfold cP at e1
  have hO1:y8.get (h.n + 7) = some _:=k1.get hO
  have c0:=c0.kp k1
  have u0:=u0.kp k1
  have k0:=k0.trans k1
  have m0:=m0.kp k1
  clear k1
  refine wp_unroll ?_
  cases w8:houseW T with
  | some w =>
    obtain ⟨a,b,c⟩:=w
    have ha:=houseW_pos T a b c w8
    rw [w8] at e1
    simp only [wrV] at e1
    (refine W_x (Aj hO e1) ?_; (repeat' first | apply Cj.mk | exact Nl.nl) <;> intros)
    exact ⟨k0,by simp only [checkW,w0,w1,w2,w3,w4,w5,w6,w7,w8,Option.none_or,Option.some_or,Option.or_some]; rfl⟩
  | none =>
  rw [w8] at e1
  simp only [wrV] at e1
  (refine W_x (Aj hO e1) ?_; (repeat' first | apply Cj.mk | exact Nl.nl) <;> intros)
  clear e1 hO
  have hO:=hO1
  clear hO1
  refine wp_unroll ?_
  have hc:=c0.c
  unfold cV at hc
  obtain ⟨_,g2,e2,S',rfl,t2,k2⟩:=copied_spec c0.t
  unfold TS.vs at e2
  have hc2:=k2.get hc
  have hb:=k2.get c0.b
  have hbl:=AH.get_lt hb
  unfold bV at hb
  (refine W_x trivial ?_; (repeat' first | apply Cj.mk | exact Nl.nl) <;> intros)
  (refine W_y (Aj hc (Aj hc2 (Aj e2 hb))) ?_; (repeat' first | apply Cj.mk | exact Nl.nl) <;> intros)
  have hB:=k0.1
  have hcn:=c0.n
  have hk2:=k2.1
  refine ⟨⟨Nat.le_trans k0.1 k2.1,fun b hb=>by rw [AH.get_set_ne _ (by omega),k2.2 b (by omega),k0.2 b hb]⟩, ?_⟩
  have hw:checkW T = none:=by simp only [checkW,w0,w1,w2,w3,w4,w5,w6,w7,w8,Option.none_or]
  rw [hw]
  have m2:=m0.kp k2
  refine ⟨h.n + 5,h.n,S',rfl,⟨AH.get_set_same _ hbl,⟨(AH.get_set_ne _ (by omega)).trans m2.m1,(AH.get_set_ne _ (by omega)).trans m2.m2,(AH.get_set_ne _ (by omega)).trans m2.m3,(AH.get_set_ne _ (by omega)).trans m2.m4,(AH.get_set_ne _ (by omega)).trans m2.m5⟩,t2 _ fun b h1 h2=>AH.get_set_ne _ (by omega),hw⟩,Nat.le_refl _,by omega⟩
end Go.Proofs.YtakmapoompffgaaGreatDoor.AM
namespace Go.Proofs.YtakmapoompffgaaGreatDoor.AM
open Go
def largeI (T:Tab) (k:Nat):Int:=T.common.length + T.marks.length + T.pairs.length + T.folds.length + T.looks.length + T.drops.length + T.allowed.length + ((T.scripts.take k).map fun x=>1 + (x.2.length:Int)).sum
def largeB (T:Tab):Bool:=decide (6000 < largeI T 200∨100 < T.scripts.length)
theorem largeI_succ {T:Tab} {i:Nat} (hi:i < T.scripts.length):largeI T (i + 1) = largeI T i + 1 + ((T.scripts[i]).2.length:Int):=by
  unfold largeI
  rw [take_snoc hi,List.map_append,List.sum_append]
  simp only [List.map_cons,List.map_nil,List.sum_cons,List.sum_nil]
  omega
theorem largeI_end {T:Tab} {i:Nat} (h1:i≤200) (h2 : ¬ (i < T.scripts.length∧i < 200)):largeI T i = largeI T 200:=by
  unfold largeI
  rcases Nat.lt_or_ge i 200 with h | h
  · rw [List.take_of_length_le (by omega),List.take_of_length_le (by omega)]
  · rw [show i = 200 by omega]
theorem large_spec {h:AH} {S:TS} {T:Tab} (t:TabAt h S T):callO PX 38 [.agg S.vs.toArray] h = some (.bool (largeB T),h):=by
  have f:=t.fits
  have n0:=f.n0
  have hz:=f.n0s
  have zs:=t.zs
  have zl:S.z.length = T.scripts.length:=by rw [← zs,List.length_map]
  have s0:=t.r0.len
  rw [zl] at s0
  have s1:=t.r1.len; have n1:=f.n1
  have s2:=t.r2.len; have n2:=f.n2
  have s3:=t.r3.len; have n3:=f.n3
  have s4:=t.r4.len; have n4:=f.n4
  have s5:=t.r5.len; have n5:=f.n5
  have s6:=t.r6.len; have n6:=f.n6
  have s7:=t.r7.len; have n7:=f.n7
  apply WpC.eqn
  refine wpc_fn (px_ext rfl) (px_fn fn_guisekeep6_Large) rfl ?_
  unfold LF_guisekeep6_Large
  simp only [argFr]
  unfold TS.vs
  have i0:largeI T 0 = T.common.length + T.marks.length + T.pairs.length + T.folds.length + T.looks.length + T.drops.length + T.allowed.length:=by
    unfold largeI
    simp
  have ib:0≤largeI T 0∧largeI T 0≤1000000000:=by rw [i0]; omega
  (refine W_x (Aj s0 (Aj s1 (Aj s2 (Aj s3 (Aj s4 (Aj s5 (Aj s6 s7))))))) ?_; (repeat' first | apply Cj.mk | exact Nl.nl) <;> intros)
  rw [← i0]
  refine wp_loop (fun w fr lc h1 => ∃ (i:Nat),w = 200 - i∧i≤200∧0≤largeI T i∧largeI T i≤1000000000 + i * 100000001∧h1 = h∧lc = [(2,.cells false [S.s0.val 2,S.s1.val 2,S.s2.val 2,S.s3.val 3,S.s4.val 2,S.s5.val 2,S.s6.val 2,S.s7.val 2])] ∧
    fr = [(1,.pointer (some ⟨2,0,some 1⟩)),(3,.int .i64 (largeI T i)),(4,.int .i64 i)]) 200 ⟨0,rfl,by omega,ib.1,by have:=ib.2; omega,rfl,rfl,rfl⟩ ?_
  rintro w fr lc h1 ⟨i,rfl,hi,h0,hN,rfl,rfl,rfl⟩
  by_cases hin:i < T.scripts.length∧i < 200
  · have hiz:i < S.z.length:=by omega
    have g1:=fun lc=>rd_mapc (lc:=lc) t.r0 hiz (k:=1) (by decide)
    have hm:=List.getElem_mem hiz
    have sz:=(t.rz _ hm).len
    have nz:=(hz _ (by rw [← zs]; exact List.mem_map_of_mem hm)).1
    have hs:=largeI_succ hin.1
    have he:T.scripts[i] = (S.z[i]).1:=by simp only [← zs,List.getElem_map]
    rw [he] at hs
    generalize S.z[i] = z at g1 sz nz hs
    unfold scrV at g1
    (refine W_x (Aj s0 (Aj g1 sz)) ?_; (repeat' first | apply Cj.mk | exact Nl.nl) <;> intros)
    all_goals exact ⟨_,by omega,i + 1,rfl,by omega,by omega,by omega,rfl,rfl,by rw [hs]; simp only [Int.natCast_add]; rfl⟩
  · have hl:largeB T = decide (6000 < largeI T i∨100 < T.scripts.length):=by
      unfold largeB
      rw [largeI_end hi hin]
    rw [hl]
    (refine W_x s0 ?_; (repeat' first | apply Cj.mk | exact Nl.nl) <;> intros)
    all_goals refine ⟨?_,rfl⟩
    all_goals congr 1
    all_goals symm
    all_goals first | exact decide_eq_true (by omega) | exact decide_eq_false (by omega)
def goodB (T:Tab):Bool := !largeB T && (checkW T).isNone
def OfQ (h:AH) (T:Tab) (v:Value) (h':AH):Prop :=
  Kp h h'∧if goodB T = true then ∃ k B S,v = .tuple (List.toArray [.pointer (some ⟨k,0,none⟩),.bool true,.bool true])∧BookAt h' k B S T∧h.n≤B∧h.n≤k
    else v = .tuple (List.toArray [.pointer none,.bool false,.bool true])
set_option maxHeartbeats 2000000 in
theorem of_spec {h:AH} {S:TS} {T:Tab} (t:TabAt h S T) (u:U8T h) (hg:2≤h.n):WpC PX 9 [.agg S.vs.toArray] h (OfQ h T):=by
  have e1:=large_spec t
  obtain ⟨v,g,e2,kg,hv⟩:=new_spec t u hg
  obtain ⟨_,g2,e3,rfl,k2⟩:=check6_spec (t.kp kg)
  refine wpc_fn (px_ext rfl) (px_fn fn_guisekeep_Of) rfl ?_
  unfold LF_guisekeep_Of
  simp only [argFr]
  unfold TS.vs at *
  have eq3:∀ a b c:Int,eqCells [.int,.int,.int] [.int .i64 a,.int .i64 b,.int .i64 c] [.int .i64 a,.int .i64 b,.int .i64 c] = some true:=fun a b c=>by simp [eqCells]
  unfold OfQ goodB
  generalize largeB T = b at e1
  cases b
  · cases hw:checkW T with
    | some w =>
      obtain ⟨a,b,c⟩:=w
      have ha:a≠0:=by
        have hp:PosW (checkW T):=.or (longW_pos T) (.or (formsW_pos T) (.or (twiceW_pos T) (.or (.or (pairsW_pos T) (chainsW_pos T)) (.or (dropsW_pos T) (.or (.or (fromsW_pos T) (tosW_pos T)) (houseW_pos T))))))
        exact hp a b c hw
      rw [hw] at hv e3
      simp only [wrV] at hv e3
      subst hv
      (refine W_x (Aj e1 (Aj e2 (Aj e3 eq3))) ?_; (repeat' first | apply Cj.mk | exact Nl.nl) <;> intros)
      exact ⟨kg.trans k2,by rw [if_neg (by simp)]⟩
    | none =>
      rw [hw] at hv e3
      obtain ⟨k,B,S',rfl,hb,hB,hk⟩:=hv
      simp only [wrV] at e2 e3
      (refine W_x (Aj e1 (Aj e2 e3)) ?_; (repeat' first | apply Cj.mk | exact Nl.nl) <;> intros)
      exact ⟨kg.trans k2,by rw [if_pos (by decide)]; exact ⟨k,B,S',rfl,hb.kp k2,hB,hk⟩⟩
  · (refine W_x e1 ?_; (repeat' first | apply Cj.mk | exact Nl.nl) <;> intros)
    exact ⟨Kp.refl _,by rw [if_neg (by simp)]⟩
end Go.Proofs.YtakmapoompffgaaGreatDoor.AM
namespace Go.Proofs.YtakmapoompffgaaGreatDoor.AM
open Go
theorem vsameL_val {s:Sl} {e:Nat} {r r':List Value}:vsameL (s.val e :: r) (s.val e :: r') = vsameL r r':=by cases s <;> simp [vsameL,vsame0,Sl.val]
theorem vsameL_str {s:ByteArray} {r r':List Value}:vsameL (.string s :: r) (.string s :: r') = vsameL r r':=by simp [vsameL,vsame0,bytes_beq_self]
theorem vsameL_bool {b:Bool} {r r':List Value}:vsameL (.bool b :: r) (.bool b :: r') = vsameL r r':=by simp [vsameL,vsame0]
theorem vsameL_ptr {b:Option Addr} {r r':List Value}:vsameL (.pointer b :: r) (.pointer b :: r') = vsameL r r':=by simp [vsameL,vsame0]
attribute [push_cast] vsameL_val vsameL_str vsameL_bool vsameL_ptr
def bs (l:Bytes):ByteArray:=⟨l.toArray⟩
theorem bs_l (l:Bytes):(bs l).data.toList = l:=by simp [bs]
theorem bs_inj {l m:Bytes}:bs l = bs m↔l = m:=⟨fun h=>by rw [← bs_l l,← bs_l m,h],fun h=>by rw [h]⟩
theorem bs_size (l:Bytes):(bs l).size = l.length:=by simp [ba_size,bs_l]
theorem runesFrom_eq {s:ByteArray} {l:Bytes} (hl:l = s.data.toList):∀ (n i:Nat) (acc:Array Value),i≤(spots l).length→(spots l).length≤i + n →
    (Conv.runesFrom s n (posn l i) acc).toList = acc.toList ++ ((spots l).drop i).map fun x=>.int .i32 x.1
  | 0,i,acc,h1,h2=>by
    rw [List.drop_of_length_le (by omega)]
    simp [Conv.runesFrom]
  | n + 1,i,acc,h1,h2=>by
    have hz:l.length = s.size:=by rw [hl]; rfl
    unfold Conv.runesFrom
    by_cases hi:i < (spots l).length
    · obtain ⟨p1,p2,p3⟩:=posn_lt hi
      rw [if_pos (by omega)]
      have hd:Utf8.decode s (posn l i) = (spots l)[i]:=by rw [decode_list s _ (by omega),← hl,p2]
      rw [hd]
      simp only
      rw [← posn_succ hi,runesFrom_eq hl n (i + 1) _ (by omega) (by omega),List.drop_eq_getElem_cons hi,List.map_cons,Array.toList_push,List.append_assoc]
      rfl
    · have:i = (spots l).length:=by omega
      subst this
      rw [posn_all,if_neg (by omega),List.drop_length]
      simp
theorem runesFrom_all (s:ByteArray):(Conv.runesFrom s s.size 0 #[]).toList = (runesB s.data.toList).map fun c:Nat=>Value.int .i32 c:=by
  have hz:s.data.toList.length = s.size:=rfl
  have:=runesFrom_eq (s:=s) rfl s.size 0 #[] (Nat.zero_le _) (by have:=spots_len s.data.toList; omega)
  rw [posn_zero] at this
  rw [this]
  simp [runesB]
theorem flat_rnV (L:List Nat):(L.map rnV).flatten = L.map fun c:Nat=>Value.int .i32 c:=by
  induction L with
  | nil=>rfl
  | cons c L ih=>simp only [List.map_cons,List.flatten_cons,ih]; rfl
theorem wo_s2r {p:Prg} {lc:Lc} {h h0:AH} {H:Value→Lc→AH→Prop} {s:ByteArray} (k:Kp h0 h) (hs:s.size≤70368744177664)
    (hq:∀ sl h',FOwn h0 h' 1 sl ((runesB s.data.toList).map rnV)→H (sl.val 1) lc h'):WpO p (.e (.s2r (.s 0))) [.string s] lc h H:=by
  have hr:=runesFrom_all s
  have hsz:(Conv.runesFrom s s.size 0 #[]).size = (runesB s.data.toList).length:=by rw [← Array.length_toList,hr,List.length_map]
  refine wo_e (v:=(Sl.at h.n 0 (runesB s.data.toList).length).val 1) (lc':=lc) (h':=h.push (.cells false (((runesB s.data.toList).map rnV).flatten))) ?_ (hq (.at h.n 0 (runesB s.data.toList).length) _ ?_)
  · simp only [EOp.ev,opd_s,fg0]
    rw [if_pos hs,hr,hsz,flat_rnV]
    rfl
  · exact ⟨⟨by simp [Sl.len],fun x hx=>by obtain ⟨c,_,rfl⟩:=List.mem_map.1 hx; rfl,[],by rw [List.nil_append]; exact AH.get_push_same h _,rfl⟩,k.push _,fun b hb=>by injection hb with hb; have:=k.1; omega⟩
theorem Own.rd {lc:Lc} {h:AH} {e b o n:Nat} {xss:List (List Value)} (r:Own h e (.at b o n) xss):Mem.rd ⟨lc,h⟩ ⟨b,o,none⟩ (n * e) = some xss.flatten:=by
  have hl:n = xss.length:=r.1
  obtain ⟨pre,h3,h4⟩:=r.2.2
  have hf:=flatten_len r.2.1
  rw [rd_heap,h3]
  simp only [List.length_append,hf,h4]
  rw [if_pos (by rw [hl]; omega),← h4,List.drop_left,hl,← hf,List.take_length]
def r2sP (m:Mem) (v:Value):Option Value:=(ROp.r2s (.c v)).ev [] m
theorem ev_r2sP {fr:Fr} {m:Mem} {x:Opd}:(ROp.r2s x).ev fr m = r2sP m (opd fr x):=rfl
theorem runesOf_map:∀ B:List Nat,runesOf ((B.map rnV).flatten) = some (B.map fun n:Nat=>(n:Int))
  | []=>rfl
  | c :: r=>by
    have ih:=runesOf_map r
    have e:((c :: r).map rnV).flatten = .int .i32 c :: (r.map rnV).flatten:=rfl
    rw [e]
    simp only [runesOf,ih,Option.map_some,List.map_cons]
theorem encAll_nat:∀ (B:List Nat) (acc:ByteArray),(∀ c∈B,RuneN c)→(encAll (B.map fun n:Nat=>(n:Int)) acc).data.toList = acc.data.toList ++ encs B
  | [],acc,_=>by simp [encAll,encs]
  | c :: r,acc,h=>by
    have ih:=encAll_nat r (acc ++ Utf8.encode c) (fun x hx=>h x (by simp [hx]))
    simp only [List.map_cons,encAll]
    rw [ih,encs_cons,ByteArray.data_append,Array.toList_append,encode_eq (h c (by simp)),List.append_assoc]
theorem r2s_own {h:AH} {lc:Lc} {s:Sl} {B:List Nat} (r:Own h 1 s (B.map rnV)) (hB:∀ c∈B,RuneN c):r2sP ⟨lc,h⟩ (s.val 1) = some (.string (bs (encs B))):=by
  cases s with
  | nil =>
    have:B = []:=by have:=r.1; simp [Sl.len] at this; exact List.eq_nil_of_length_eq_zero this.symm
    subst this
    rfl
  | «at» b o n =>
    have e:=r.rd (lc:=lc)
    rw [Nat.mul_one] at e
    simp only [r2sP,ROp.ev,opd,Sl.val,e,runesOf_map,Option.map_some]
    congr 2
    apply ba_ext
    rw [encAll_nat _ _ hB,bs_l]
    simp
def byteV (c:UInt8):List Value:=[.int .u8 c.toNat]
def b2sP (m:Mem) (v:Value):Option Value:=(ROp.b2s (.c v)).ev [] m
theorem ev_b2sP {fr:Fr} {m:Mem} {x:Opd}:(ROp.b2s x).ev fr m = b2sP m (opd fr x):=rfl
theorem bytesOf_map:∀ B:Bytes,bytesOf ((B.map byteV).flatten) = some B
  | []=>rfl
  | c :: r=>by
    have ih:=bytesOf_map r
    have e:((c :: r).map byteV).flatten = .int .u8 c.toNat :: (r.map byteV).flatten:=rfl
    rw [e]
    simp only [bytesOf,ih,Option.map_some,Int.toNat_natCast]
    rw [u8_eq rfl]
theorem b2s_own {h:AH} {lc:Lc} {s:Sl} {B:Bytes} (r:Own h 1 s (B.map byteV)):b2sP ⟨lc,h⟩ (s.val 1) = some (.string (bs B)):=by
  cases s with
  | nil =>
    have:B = []:=by have:=r.1; simp [Sl.len] at this; exact List.eq_nil_of_length_eq_zero this.symm
    subst this
    rfl
  | «at» b o n =>
    have e:=r.rd (lc:=lc)
    rw [Nat.mul_one] at e
    simp only [b2sP,ROp.ev,opd,Sl.val,e,bytesOf_map,Option.map_some]
    rfl
theorem enc_bs {c:Nat} (h:RuneN c):Utf8.encode (c:Int) = bs (encN c):=ba_ext (by rw [encode_eq h,bs_l])
attribute [push_cast] ev_r2sP ev_b2sP
end Go.Proofs.YtakmapoompffgaaGreatDoor.AM
namespace Go.Proofs.YtakmapoompffgaaGreatDoor.AM
open Go
def LF_marks_Order:LFunc :=
  .mk 2 [.tmp 4] (.seq (R 2 [1,2] [.tmp 2 (xbh 1 (.sl 0)),.set 4 (.cv (.string ⟨#[]⟩))]) (.seq (.seq (R 8 [1,2,9] [.tmp 9 (.op (.p (.eqk false .ptr (.s 0) (.s 1))) (.cons (xld
  (.sl 2)) (.cv (.pointer none))))]) (.cond (.s 9) (.seq (R 999 [4] [.set 4 (.cv (.string ⟨#[]⟩))]) .ret) .skip)) (.seq (R 10 [2,5] [.set 5 (.op (.e (.s2r (.s 0))) (.va 1))]) (.seq
  (.seq (R 999 [2,5,6] [.set 6 (xi 0)]) (.block 0 (.loop (.seq (.seq (R 12 [2,5,6,15] [.tmp 15 (xb .lss (.va 6) (xlen (.va 5)))]) (.cond (.s 15) .skip (.exit 0))) (.block 1
  (.seq (R 16 [2,5,6,7] [.set 7 (xb .add (.va 6) (xi 1))]) (.seq (.seq (R 18 [2,5,6,7,24] [.tmp 24 (xb .gtr (xc2 75 (xld (.sl 2)) (xld (xia 1 (.va 5)
  (.va 6)))) (xi 0))]) (.cond (.s 24) (.seq (.block 2 (.loop (.seq (.seq (R 25 [2,5,6,7,37] [.tmp 37 (.and (xb .lss (.va 7) (xlen (.va 5))) (xb .gtr (xc2
  75 (xld (.sl 2)) (xld (xia 1 (.va 5) (.va 7)))) (xi 0)))]) (.cond (.s 37) .skip (.exit 2))) (.block 3 (R 38 [2,5,6,7] [.set 7 (xb .add (.va 7) (xi
  1))]))))) (R 40 [2,5,7] [.tmp 46 (xc2 76 (.op (.p (.sl 1 (.s 0) (some (.s 1)) (some (.s 2)) (some (.s 3)))) (.cons (.va 5) (.cons (.va 6)
  (.cons (.va 7) (.va 7))))) (.op (.p (.mkfn (.func 77) [] [.s 0])) (.sl 2)))])) .skip)) (R 47 [2,5,6] [.set 6 (.va 7)])))))))) (.seq (R 48 [4] [.set 4 (.op (.r
  (.r2s (.s 0))) (.va 5))]) .ret)))))
theorem fn_marks_Order:(autoPrg Tryz.prog).fn 42 = some LF_marks_Order:=by kernel_rfl
def LF_marks_Order_1:LFunc :=
  .mk 3 [.tmp 5] (.seq (R 999 [0,1,2] [.set 5 (xi 0)]) (.seq (.region [.mk (some 6) (.r (.load none (.s 2))) none,.mk (some 7) (.p (.mv (.s 0))) none,.mk (some 8) (.e (.call
  75 [.s 6,.s 7])) none,.mk (some 9) (.r (.load none (.s 2))) none,.mk (some 10) (.p (.mv (.s 1))) none,.mk (some 11) (.e (.call 75
  [.s 9,.s 10])) none,.mk (some 12) (.e (.call 78 [.s 8,.s 11])) none,.mk (some 5) (.p (.mv (.s 12))) none] [5] [(3,0)]) .ret))
theorem fn_marks_Order_1:(autoPrg Tryz.prog).fn 77 = some LF_marks_Order_1:=by kernel_rfl
def LF_guiseref8_Text:LFunc :=
  .mk 1 [.tmp 2] (.seq (R 999 [0] [.set 2 (.cv (.string ⟨#[]⟩))]) (.seq (R 999 [0,3] [.set 3 (.cv (.slice none 0 0))]) (.seq (.seq (R 999 [0,3,4] [.set 4 (xi 0)]) (.block 0
  (.loop (.seq (.seq (R 5 [0,3,4,8] [.tmp 8 (xb .lss (.va 4) (xlen (.va 0)))]) (.cond (.s 8) .skip (.exit 0))) (.seq (.block 1 (R 11 [0,3,4] [.set 3 (xap 1 1 (.va 3) (.op (.p
  (.i2s (.s 0))) (xld (xia 1 (.va 0) (.va 4)))))])) (R 9 [0,3,4] [.set 4 (xb .add (.va 4) (xi 1))])))))) (.seq (R 18 [2] [.set 2 (.op (.r (.b2s (.s 0))) (.va 3))]) .ret))))
theorem fn_guiseref8_Text:(autoPrg Tryz.prog).fn 50 = some LF_guiseref8_Text:=by kernel_rfl
def LF_guiseref8_Sorted:LFunc :=
  .mk 2 [.tmp 4] (.seq (R 2 [1,2] [.tmp 2 (xbl 2 8 (.sl 0)),.set 4 (.cv (.slice none 0 0))]) (.seq (R 11 [2,5] [.set 5 (xap 1 4 (.op (.e (.litH 0 1 [] [])) .nil) (.va 1))]) (.seq
  (.seq (R 999 [2,5,6] [.set 6 (.cv (.bool true))]) (.block 0 (.loop (.seq (.seq (R 14 [2,5,14] [.tmp 14 (.va 6)]) (.cond (.s 14) .skip (.exit 0))) (.block 1 (.seq (R 999 [2,5,
  6] [.set 6 (.cv (.bool false))]) (.seq (R 999 [2,5,6,7] [.set 7 (xi 1)]) (.block 2 (.loop (.seq (.seq (R 15 [2,5,6,7,18] [.tmp 18 (xb .lss (.va 7) (xlen (.va 5)))]) (.cond
  (.s 18) .skip (.exit 2))) (.seq (.block 3 (.seq (R 21 [2,5,6,7,8] [.set 8 (xc2 131 (xln 8 (.sl 2)) (xld (xia 1 (.va 5) (xb .sub (.va 7) (xi 1)))))]) (.seq (R
  28 [2,5,6,7,8,9] [.set 9 (xc2 131 (xln 8 (.sl 2)) (xld (xia 1 (.va 5) (.va 7))))]) (.seq (R 34 [2,5,6,7,40] [.tmp 40 (.and (xb .gtr (.va 9) (xi 0)) (xb
  .lss (.va 9) (.va 8)))]) (.cond (.s 40) (.seq (R 41 [2,5,7,10] [.set 10 (xld (xia 1 (.va 5) (.va 7)))]) (.seq (R 45 [2,5,7,10] [.tmp 45 (.va 5),.tmp 46 (.va 7),.tmp 51
  (xld (xia 1 (.va 5) (xb .sub (.va 7) (xi 1)))),.run (xst 1 (xia 1 (.sl 45) (.sl 46)) (.sl 51))]) (.seq (R 53 [2,5,7] [.tmp 53 (.va 5),.tmp 55 (xb .sub (.va 7) (xi 1)),.tmp 56
  (.va 10),.run (xst 1 (xia 1 (.sl 53) (.sl 55)) (.sl 56))]) (R 999 [2,5,6,7] [.set 6 (.cv (.bool true))])))) .skip))))) (R 19 [2,5,6,7] [.set 7 (xb .add (.va 7) (xi
  1))])))))))))))) (.seq (R 58 [4] [.set 4 (.va 5)]) .ret))))
theorem fn_guiseref8_Sorted:(autoPrg Tryz.prog).fn 87 = some LF_guiseref8_Sorted:=by kernel_rfl
def LF_guiseref8_Runes:LFunc :=
  .mk 1 [.tmp 2] (.seq (R 999 [0] [.set 2 (.cv (.slice none 0 0))]) (.seq (R 999 [0,3] [.set 3 (.cv (.slice none 0 0))]) (.seq (.seq (R 6 [3,7] [.tmp 7 (.op (.e (.rngS 7 (.s 0)))
  (.va 0))]) (.block 0 (.loop (.seq (R 8 [3,7,8,9] [.tmp 8 (.op (.e (.nxtS (.s 0))) (.sl 7)),.tmp 9 (xex 0 (.sl 8))]) (.seq (.cond (.s 9) .skip (.exit 0)) (.block 1 (.seq (R 10
  [3,5,7] [.set 5 (xex 2 (.sl 8))]) (R 11 [3,7] [.set 3 (xap 1 4 (.va 3) (.op (.e (.litL 13 1 1 [.int .i32 0] [(0,1,.s 0)])) (.va 5)))])))))))) (.seq (R 15 [2] [.set 2 (.va
  3)]) .ret))))
theorem fn_guiseref8_Runes:(autoPrg Tryz.prog).fn 53 = some LF_guiseref8_Runes:=by kernel_rfl
def LF_guiseref6_Class:LFunc :=
  .mk 2 [.tmp 4] (.seq (R 2 [1,2] [.tmp 2 (xbl 2 8 (.sl 0)),.set 4 (xi 0)]) (.seq (.seq (R 999 [1,2,5] [.set 5 (xi 0)]) (.block 0 (.loop (.seq (.seq (R 6 [1,2,5,10] [.tmp 10
  (xb .lss (.va 5) (xlen (xld (xfa 2 (.sl 2)))))]) (.cond (.s 10) .skip (.exit 0))) (.seq (.block 1 (.seq (R 13 [1,2,5,20] [.tmp 20 (xb .eql (xld (xfa 0 (xia 2 (xld (xfa 2 (.sl
  2))) (.va 5)))) (.va 1))]) (.cond (.s 20) (.seq (R 21 [4] [.set 4 (xld (xfa 1 (xia 2 (xld (xfa 2 (.sl 2))) (.va 5))))]) .ret) .skip))) (R 11 [1,2,5] [.set 5 (xb .add (.va 5) (xi
  1))])))))) (.seq (R 999 [4] [.set 4 (xi 0)]) .ret)))
theorem fn_guiseref6_Class:(autoPrg Tryz.prog).fn 131 = some LF_guiseref6_Class:=by kernel_rfl
def LF_tables_Book_Class:LFunc :=
  .mk 2 [.tmp 4] (.seq (R 999 [0,1] [.set 4 (xi 0)]) (.seq (R 5 [4] [.set 4 (.op (.r (.lookup (.one .int) (.int .i64 0) false (.s 0) (.s 1))) (.cons (xld (xfa 8 (xnk (.va 0))))
  (.va 1)))]) .ret))
theorem fn_tables_Book_Class:(autoPrg Tryz.prog).fn 75 = some LF_tables_Book_Class:=by kernel_rfl
def LF_guisebook_Within:LFunc :=
  .mk 3 [.tmp 6] (.seq (R 999 [0,1,2] [.set 6 (xi 0)]) (.seq (R 7 [0,1,2] [.set 0 (xb .rem (.va 0) (xb .add (xb .sub (.va 2) (.va 1)) (xi 1)))]) (.seq (.seq (R 13 [0,1,2,14]
  [.tmp 14 (xb .lss (.va 0) (xi 0))]) (.cond (.s 14) (R 15 [0,1] [.set 0 (xb .add (xb .sub (xb .add (.va 0) (.va 2)) (.va 1)) (xi 1))]) .skip)) (.seq (R 21 [6] [.set 6 (xb .add
  (.va 1) (.va 0))]) .ret))))
theorem fn_guisebook_Within:(autoPrg Tryz.prog).fn 30 = some LF_guisebook_Within:=by kernel_rfl
def LF_cmp_Compare_int:LFunc :=
  .mk 2 [.tmp 4] (.seq (R 999 [0,1] [.set 4 (xi 0)]) (.seq (R 7 [0,1,5] [.set 5 (xc1 126 (.va 0))]) (.seq (R 9 [0,1,5,6] [.set 6 (xc1 126 (.va
  1))]) (.seq (.seq (R 11 [0,1,6,11] [.tmp 11 (.va 5)]) (.cond (.s 11) (.seq (.seq (R 12 [12] [.tmp 12 (.va 6)]) (.cond (.s 12) (.seq (R 999 [4] [.set 4 (xi 0)]) .ret) .skip))
  (.seq (R 999 [4] [.set 4 (xi (-1))]) .ret)) .skip)) (.seq (.seq (R 13 [0,1,13] [.tmp 13 (.va 6)]) (.cond (.s 13) (.seq (R 999 [4] [.set 4 (xi 1)]) .ret) .skip)) (.seq (.seq (R
  14 [0,1,16] [.tmp 16 (xb .lss (.va 0) (.va 1))]) (.cond (.s 16) (.seq (R 999 [4] [.set 4 (xi (-1))]) .ret) .skip)) (.seq (.seq (R 17 [19] [.tmp 19 (xb .gtr (.va 0) (.va 1))])
  (.cond (.s 19) (.seq (R 999 [4] [.set 4 (xi 1)]) .ret) .skip)) (.seq (R 999 [4] [.set 4 (xi 0)]) .ret))))))))
theorem fn_cmp_Compare_int:(autoPrg Tryz.prog).fn 78 = some LF_cmp_Compare_int:=by kernel_rfl
def LF_cmp_isNaN_int:LFunc :=
  .mk 1 [.tmp 2] (.seq (R 999 [0] [.set 2 (.cv (.bool false))]) (.seq (R 3 [2] [.set 2 (xb .neq (.va 0) (.va 0))]) .ret))
theorem fn_cmp_isNaN_int:(autoPrg Tryz.prog).fn 126 = some LF_cmp_isNaN_int:=by kernel_rfl
end Go.Proofs.YtakmapoompffgaaGreatDoor.AM
namespace Go.Proofs.YtakmapoompffgaaGreatDoor.AM
open Go
instance (r:Int):Decidable (r32 r):=by unfold r32; infer_instance
instance (r:Int):Decidable (r64 r):=by unfold r64; infer_instance
theorem reads_cells {h:AH} {b e n:Nat} {xss:List (List Value)} (hb:h.get b = some (.cells false xss.flatten)) (hn:n = xss.length) (he:∀ x∈xss,x.length = e):Reads h e (.at b 0 n) xss :=
  ⟨hn,he,.inr ⟨false,[],[],by rw [List.nil_append,List.append_nil]; exact hb,rfl⟩⟩
end Go.Proofs.YtakmapoompffgaaGreatDoor.AM
namespace Go.Proofs.YtakmapoompffgaaGreatDoor.AM
open Go
theorem class_eq {h:AH} {k B:Nat} {s6:Sl} {T:Tab} (bk:BkAt h k B s6 T) (r:Int):callO PX 75 [.pointer (some ⟨k,0,none⟩),.int .i32 r] h = some (.int .i64 (classI T r),h):=by
  obtain ⟨x0,x1,x2,x3,x4,x5,x7,hb⟩:=bk.b
  have m1:=m_mark bk.mp r
  apply WpC.eqn
  refine wpc_fn (px_ext rfl) (px_fn fn_tables_Book_Class) rfl ?_
  unfold LF_tables_Book_Class
  simp only [argFr]
  (refine W_x (Aj hb m1) ?_; (repeat' first | apply Cj.mk | exact Nl.nl) <;> intros)
  exact ⟨rfl,rfl⟩
theorem class6_eq {S:TS} {T:Tab} {h:AH} (t:TabAt h S T) (r:Int):callO PX 131 [.agg S.vs.toArray,.int .i32 r] h = some (.int .i64 (classI T r),h):=by
  have s2:=t.r2.len; have n2:=t.fits.n2
  apply WpC.eqn
  refine wpc_fn (px_ext rfl) (px_fn fn_guiseref6_Class) rfl ?_
  unfold LF_guiseref6_Class
  simp only [argFr]
  unfold TS.vs
  (refine W_x trivial ?_; (repeat' first | apply Cj.mk | exact Nl.nl) <;> intros)
  refine wp_scanF 5 T.marks (fun _ x=>if x.1 = r then some x.2 else none) (by intro n; simp only [setF,push_cast,Nat.reduceEqDiff, ↓reduceIte,reduceCtorEq,Nat.reduceAdd,Nat.reduceMul,Nat.reduceLeDiff]; rfl) rfl (fun i hi hit=>?_) fun fin=>?_
  · have g0:=fun lc=>rd_mapc (lc:=lc) t.r2 hi (k:=0) (by decide)
    have g1:=fun lc=>rd_mapc (lc:=lc) t.r2 hi (k:=1) (by decide)
    generalize T.marks[i] = x at g0 g1 hit
    unfold markV at g0 g1
    (refine W_x (Aj s2 (Aj g0 g1)) ?_; (repeat' first | apply Cj.mk | exact Nl.nl) <;> intros)
    · have h2:=hit _ (if_pos (by assumption))
      exact ⟨by unfold classI; rw [h2]; rfl,rfl⟩
    · exact ⟨if_neg (by assumption),rfl,rfl,rfl⟩
  · (refine W_x s2 ?_; (repeat' first | apply Cj.mk | exact Nl.nl) <;> intros)
    exact ⟨by unfold classI; rw [fin]; rfl,rfl⟩
def fewB (s:ByteArray) (n:Nat):ByteArray:=if n < s.size then s.extract 0 n else s
end Go.Proofs.YtakmapoompffgaaGreatDoor.AM
namespace Go.Proofs.YtakmapoompffgaaGreatDoor.AM
section
variable (cl:Nat→Int)
def insR:List Nat→Nat→List Nat
  | [],r=>[r]
  | x :: rs,r=>if 0 < cl r∧cl r < cl x then x :: insR rs r else r :: x :: rs
def ord (l:List Nat):List Nat:=(l.foldl (insR cl) []).reverse
def Ordered:List Nat→Prop
  | a :: c :: t => ¬ (0 < cl c∧cl c < cl a)∧Ordered (c :: t)
  | _=>True
def inv:List Nat→Nat
  | []=>0
  | a :: t=>t.countP (fun c=>decide (0 < cl c∧cl c < cl a)) + inv t
variable {cl}
theorem insR_perm:∀ (rs:List Nat) (r:Nat),(insR cl rs r).Perm (r :: rs)
  | [],r=>.refl _
  | x :: rs,r=>by
    simp only [insR]
    split
    · exact ((insR_perm rs r).cons x).trans (.swap _ _ _)
    · exact .refl _
theorem foldl_perm:∀ (l acc:List Nat),(l.foldl (insR cl) acc).Perm (l ++ acc)
  | [],acc=>.refl _
  | r :: l,acc=>(foldl_perm l (insR cl acc r)).trans (((insR_perm acc r).append_left l).trans List.perm_middle)
theorem ord_perm (l:List Nat):(ord cl l).Perm l:=(List.reverse_perm _).trans (by simpa using foldl_perm (cl:=cl) l [])
theorem ord_length (l:List Nat):(ord cl l).length = l.length:=(ord_perm l).length_eq
theorem ord_mem {l:List Nat} {r:Nat}:r∈ord cl l↔r∈l:=(ord_perm l).mem_iff
theorem ord_nil:ord cl [] = []:=rfl
theorem insR_wall {x:Nat} (hx:cl x≤0) (ts:List Nat):∀ (A:List Nat) (r:Nat),insR cl (A ++ x :: ts) r = insR cl A r ++ x :: ts
  | [],r=>by
    simp only [List.nil_append,insR]
    rw [if_neg (by omega)]
    rfl
  | a :: A,r=>by
    simp only [List.cons_append,insR]
    split
    · rw [insR_wall hx ts A r]; rfl
    · rfl
theorem foldl_wall {x:Nat} (hx:cl x≤0) (ts:List Nat):∀ (l A:List Nat),l.foldl (insR cl) (A ++ x :: ts) = l.foldl (insR cl) A ++ x :: ts
  | [],A=>rfl
  | r :: l,A=>by
    simp only [List.foldl_cons]
    rw [insR_wall hx,foldl_wall hx ts l]
theorem insR_base {r:Nat} (hr:cl r≤0) (rs:List Nat):insR cl rs r = r :: rs:=by
  cases rs with
  | nil=>rfl
  | cons x rs=>simp only [insR]; rw [if_neg (by omega)]
theorem ord_base {r:Nat} (hr:cl r≤0) (p q:List Nat):ord cl (p ++ r :: q) = ord cl p ++ r :: ord cl q:=by
  unfold ord
  rw [List.foldl_append,List.foldl_cons,insR_base hr]
  have:=foldl_wall hr (p.foldl (insR cl) []) q []
  rw [List.nil_append] at this
  rw [this]
  simp
theorem ord_base0 {r:Nat} (hr:cl r≤0) (q:List Nat):ord cl (r :: q) = r :: ord cl q:=by
  have:=ord_base hr [] q
  rw [List.nil_append,ord_nil,List.nil_append] at this
  exact this
theorem ord_append {p q:List Nat} (h:p = []∨q = []∨(∃ a p',p = p' ++ [a]∧cl a≤0)∨(∃ a q',q = a :: q'∧cl a≤0)):ord cl (p ++ q) = ord cl p ++ ord cl q:=by
  rcases h with rfl | rfl | ⟨a,p',rfl,ha⟩ | ⟨a,q',rfl,ha⟩
  · simp [ord_nil]
  · simp [ord_nil]
  · rw [List.append_assoc,List.singleton_append,ord_base ha,ord_base ha,ord_nil]; simp
  · rw [ord_base ha,ord_base0 ha]
theorem ordered_tail {a:Nat} {t:List Nat} (h:Ordered cl (a :: t)):Ordered cl t:=by
  cases t with
  | nil=>trivial
  | cons c t=>exact h.2
theorem ordered_foldl:∀ (l acc:List Nat),Ordered cl l→(∀ a c,acc.head? = some a→l.head? = some c → ¬ (0 < cl c∧cl c < cl a))→l.foldl (insR cl) acc = l.reverse ++ acc
  | [],acc,_,_=>rfl
  | r :: l,acc,h,hh=>by
    have hi:insR cl acc r = r :: acc:=by
      cases acc with
      | nil=>rfl
      | cons a acc =>
        simp only [insR]
        rw [if_neg (hh a r rfl rfl)]
    rw [List.foldl_cons,hi,ordered_foldl l (r :: acc) (ordered_tail h) (fun a c ha hc=>by
      injection ha with ha
      subst ha
      cases l with
      | nil=>cases hc
      | cons c' l=>injection hc with hc; subst hc; exact h.1)]
    simp
theorem ord_of_ordered {l:List Nat} (h:Ordered cl l):ord cl l = l:=by
  unfold ord
  rw [ordered_foldl l [] h (fun a c ha=>by cases ha)]
  simp
theorem insR_comm {a c:Nat} (hc:0 < cl c) (ha:cl c < cl a):∀ rs:List Nat,insR cl (insR cl rs a) c = insR cl (insR cl rs c) a
  | []=>by simp only [insR]; rw [if_pos ⟨hc,ha⟩,if_neg (by omega)]
  | x :: rs=>by
    have ih:=insR_comm hc ha rs
    by_cases h1:cl a < cl x
    · have h2:cl c < cl x:=by omega
      simp only [insR,if_pos (show 0 < cl a∧cl a < cl x from ⟨by omega,h1⟩),if_pos (show 0 < cl c∧cl c < cl x from ⟨hc,h2⟩),ih]
    · by_cases h2:cl c < cl x
      · simp only [insR,if_neg (show ¬ (0 < cl a∧cl a < cl x) by omega),if_pos (show 0 < cl c∧cl c < cl x from ⟨hc,h2⟩),if_pos (show 0 < cl c∧cl c < cl a from ⟨hc,ha⟩)]
      · simp only [insR,if_neg (show ¬ (0 < cl a∧cl a < cl x) by omega),if_neg (show ¬ (0 < cl c∧cl c < cl x) by omega),if_pos (show 0 < cl c∧cl c < cl a from ⟨hc,ha⟩),if_neg (show ¬ (0 < cl a∧cl a < cl c) by omega)]
theorem ord_swap {a c:Nat} (hc:0 < cl c) (ha:cl c < cl a) (p q:List Nat):ord cl (p ++ a :: c :: q) = ord cl (p ++ c :: a :: q):=by
  unfold ord
  rw [List.foldl_append,List.foldl_append,List.foldl_cons,List.foldl_cons,List.foldl_cons,List.foldl_cons,insR_comm hc ha]
theorem inv_swap {a c:Nat} (hc:0 < cl c) (ha:cl c < cl a) (q:List Nat):∀ p,inv cl (p ++ a :: c :: q) = inv cl (p ++ c :: a :: q) + 1
  | []=>by
    simp only [List.nil_append,inv,List.countP_cons]
    rw [if_pos (decide_eq_true ⟨hc,ha⟩),if_neg (by simp; omega)]
    omega
  | x :: p=>by
    have ih:=inv_swap hc ha q p
    simp only [List.cons_append,inv]
    have:(p ++ a :: c :: q).Perm (p ++ c :: a :: q):=(List.Perm.swap c a q).append_left p
    rw [this.countP_eq,ih]
    omega
def OrdR:List Nat→Prop
  | c :: a :: t => ¬ (0 < cl c∧cl c < cl a)∧OrdR (a :: t)
  | _=>True
theorem insR_ordR:∀ (rs:List Nat) (r:Nat),OrdR (cl:=cl) rs→OrdR (cl:=cl) (insR cl rs r)
  | [],r,_=>trivial
  | x :: rs,r,h=>by
    simp only [insR]
    split
    · rename_i hc
      have ht:OrdR (cl:=cl) rs:=by
        cases rs with
        | nil=>trivial
        | cons y rs=>exact h.2
      have ih:=insR_ordR rs r ht
      cases rs with
      | nil=>exact ⟨by omega,trivial⟩
      | cons y rs =>
        simp only [insR] at ih ⊢
        split at ih
        · rename_i h2; rw [if_pos h2]; exact ⟨h.1,ih⟩
        · rename_i h2; rw [if_neg h2]; exact ⟨by omega,ih⟩
    · rename_i hc
      exact ⟨hc,h⟩
theorem foldl_ordR:∀ (l acc:List Nat),OrdR (cl:=cl) acc→OrdR (cl:=cl) (l.foldl (insR cl) acc)
  | [],acc,h=>h
  | r :: l,acc,h=>foldl_ordR l _ (insR_ordR acc r h)
theorem ordered_snoc:∀ (l:List Nat) (c:Nat),Ordered cl l→(∀ a,l.getLast? = some a → ¬ (0 < cl c∧cl c < cl a))→Ordered cl (l ++ [c])
  | [],c,_,_=>trivial
  | [a],c,_,h=>⟨h a rfl,trivial⟩
  | a :: b :: l,c,h,hl=>⟨h.1,ordered_snoc (b :: l) c h.2 fun x hx=>hl x (by rw [List.getLast?_cons_cons]; exact hx)⟩
theorem ordered_reverse:∀ (l:List Nat),OrdR (cl:=cl) l→Ordered cl l.reverse
  | [],_=>trivial
  | [a],_=>trivial
  | c :: a :: t,h=>by
    rw [List.reverse_cons]
    refine ordered_snoc _ _ (ordered_reverse (a :: t) h.2) fun x hx=>?_
    rw [List.reverse_cons,List.getLast?_append] at hx
    simp at hx
    subst hx
    exact h.1
theorem ord_ordered (l:List Nat):Ordered cl (ord cl l):=ordered_reverse _ (foldl_ordR l [] trivial)
theorem ord_ord (l:List Nat):ord cl (ord cl l) = ord cl l:=ord_of_ordered (ord_ordered l)
end
end Go.Proofs.YtakmapoompffgaaGreatDoor.AM
namespace Go.Proofs.YtakmapoompffgaaGreatDoor.AM
open Go
theorem Tr.set_set:∀ (f:Nat) (t:Tr) (k:Nat) (x y:Option AObj),Tr.set f (Tr.set f t k x) k y = Tr.set f t k y
  | 0,t,k,x,y=>by simp only [Tr.set]
  | f + 1,.e,k,x,y=>by
    by_cases h0:k = 0
    · simp only [Tr.set,h0,if_true]
    · by_cases h1:k % 2 = 1
      · simp only [Tr.set,if_neg h0,if_pos h1,Tr.set_set f]
      · simp only [Tr.set,if_neg h0,if_neg h1,Tr.set_set f]
  | f + 1,.n l v r,k,x,y=>by
    by_cases h0:k = 0
    · simp only [Tr.set,h0,if_true]
    · by_cases h1:k % 2 = 1
      · simp only [Tr.set,if_neg h0,if_pos h1,Tr.set_set f]
      · simp only [Tr.set,if_neg h0,if_neg h1,Tr.set_set f]
theorem AH.set_set (h:AH) (b:Nat) (o o':AObj):(h.set b o).set b o' = h.set b o':=by
  simp only [AH.set,AH.put,Tr.set_set]
structure Pl where
  h0:AH
  b:Nat
  pre:List Value
  post:List Value
  lt:b < h0.n
variable {α:Type} [Inhabited α]
def Pl.H (q:Pl) (enc:α→List Value) (D:List α):AH:=q.h0.set q.b (.cells false (q.pre ++ (D.map enc).flatten ++ q.post))
def Pl.s (q:Pl) (n:Nat):Sl:=.at q.b q.pre.length n
def ati (D:List α) (i:Int):α:=D.getD i.toNat default
theorem ati_mid {P S:List α} {x:α} {i:Int} (h:i = P.length):ati (P ++ x :: S) i = x:=by
  subst h
  simp [ati]
theorem set_mid {P S:List α} {x y:α} {i:Int} (h:i = P.length):(P ++ x :: S).set i.toNat y = P ++ y :: S:=by
  subst h
  simp
theorem ati_get {D:List α} {i:Int} (h0:0≤i) (h:i < D.length):∃ hi:i.toNat < D.length,ati D i = D[i.toNat]:=⟨by omega,by
  simp only [ati,List.getD_eq_getElem?_getD]
  rw [List.getElem?_eq_getElem (by omega),Option.getD_some]⟩
theorem Pl.get (q:Pl) (enc:α→List Value) (D:List α):(q.H enc D).get q.b = some (.cells false (q.pre ++ (D.map enc).flatten ++ q.post)):=AH.get_set_same _ q.lt
theorem Pl.n (q:Pl) (enc:α→List Value) (D:List α):(q.H enc D).n = q.h0.n:=rfl
theorem Pl.reads (q:Pl) {enc:α→List Value} {e:Nat} (he:∀ x,(enc x).length = e) (D:List α):Reads (q.H enc D) e (q.s D.length) (D.map enc) :=
  ⟨by simp [Pl.s,Sl.len],fun x hx=>by obtain ⟨y,_,rfl⟩:=List.mem_map.1 hx; exact he y,.inr ⟨false,_,_,q.get enc D,rfl⟩⟩
theorem Pl.rd (q:Pl) {enc:α→List Value} {e:Nat} (he:∀ x,(enc x).length = e) {D:List α} {n:Nat} (hn:D.length = n) {lc:Lc} {i:Int} (h0:0≤i) (h:i < n) :
    Mem.rd ⟨lc,q.H enc D⟩ ((q.s n).adr e i.toNat) e = some (enc (ati D i)):=by
  subst hn
  obtain ⟨hi,e1⟩:=ati_get h0 h
  rw [e1]
  exact rd_map (q.reads he D) hi
theorem Pl.wr (q:Pl) {enc:α→List Value} {e:Nat} (he:∀ x,(enc x).length = e) {D:List α} {n:Nat} (hn:D.length = n) {lc:Lc} {i:Int} (h0:0≤i) (h:i < n) (x:α) :
    Mem.wr ⟨lc,q.H enc D⟩ ((q.s n).adr e i.toNat) (enc x) = some ⟨lc,q.H enc (D.set i.toNat x)⟩:=by
  subst hn
  have hi:i.toNat < D.length:=by omega
  have hl:∀ l:List α,((l.map enc).flatten).length = l.length * e:=fun l=>by
    rw [flatten_len (e:=e) (fun x hx=>by obtain ⟨y,_,rfl⟩:=List.mem_map.1 hx; exact he y),List.length_map]
  show Mem.wr ⟨lc,q.H enc D⟩ ⟨q.b,q.pre.length + i.toNat * e,none⟩ (enc x) = _
  rw [wr_heap,q.get enc D]
  have hie:i.toNat * e + e≤D.length * e:=by
    have:(i.toNat + 1) * e≤D.length * e:=Nat.mul_le_mul_right e hi
    rw [Nat.add_mul] at this; omega
  simp only [List.length_append,hl,he]
  rw [if_pos (by omega)]
  have hD:D = D.take i.toNat ++ D[i.toNat] :: D.drop (i.toNat + 1):=by rw [← List.drop_eq_getElem_cons hi,List.take_append_drop]
  have hset:D.set i.toNat x = D.take i.toNat ++ x :: D.drop (i.toNat + 1):=by rw [List.set_eq_take_append_cons_drop,if_pos hi]
  have htl:(D.take i.toNat).length = i.toNat:=by rw [List.length_take]; omega
  have h1:q.pre ++ (D.map enc).flatten ++ q.post = (q.pre ++ ((D.take i.toNat).map enc).flatten) ++ enc D[i.toNat] ++ (((D.drop (i.toNat + 1)).map enc).flatten ++ q.post):=by
    conv=>lhs; rw [hD]
    simp only [List.map_append,List.map_cons,List.flatten_append,List.flatten_cons,List.append_assoc]
  have h2:q.pre ++ ((D.set i.toNat x).map enc).flatten ++ q.post = (q.pre ++ ((D.take i.toNat).map enc).flatten) ++ enc x ++ (((D.drop (i.toNat + 1)).map enc).flatten ++ q.post):=by
    rw [hset]
    simp only [List.map_append,List.map_cons,List.flatten_append,List.flatten_cons,List.append_assoc]
  have h3:(q.pre ++ ((D.take i.toNat).map enc).flatten).length = q.pre.length + i.toNat * e:=by rw [List.length_append,hl,htl]
  have:=setAll_eq (enc x) (q.pre ++ ((D.take i.toNat).map enc).flatten) (enc D[i.toNat]) (((D.drop (i.toNat + 1)).map enc).flatten ++ q.post) (by rw [he,he])
  rw [← h1,h3,← h2] at this
  rw [this]
  simp only [Pl.H,AH.set_set]
def ltK (key:α→Int) (idx:α→Int) (x y:α):Prop:=key x < key y∨(key x = key y∧idx x < idx y)
structure Cmp (p:Prg) (q:Pl) (enc:α→List Value) (e:Nat) (val:α→Value) (cv:Value) (key:α→Int):Prop where
  len:∀ x,(enc x).length = e
  cells:∀ x,vcells (val x) = enc x
  ok:∀ x,(enc x).all cellOk = true
  okv:∀ x,okV (val x) = true
  cvf:∃ g,cv = .func (.func g) #[] #[]∨∃ b o,cv = .func (.func g) #[] #[.pointer (some ⟨b,o,none⟩)]
  run:∀ x y D,∃ n:Int,callV p cv [val x,val y] (q.H enc D) = some (.int .i64 n,q.H enc D)∧(n < 0↔key x < key y) ∧ -9223372036854775808≤n∧n < 9223372036854775808
end Go.Proofs.YtakmapoompffgaaGreatDoor.AM
namespace Go.Proofs.YtakmapoompffgaaGreatDoor.AM
open Go
def LF_slices_SortStableFunc_rune_rune:LFunc :=
  .mk 2 [] (.region [.mk (some 4) (.p (.mv (.s 0))) none,.mk (some 5) (.p (.mv (.s 0))) none,.mk (some 6) (.p (.len (.s 5))) none,.mk (some 7) (.p (.mv (.s 1))) none,.mk (some
  8) (.e (.call 125 [.s 4,.s 6,.s 7])) none] [] [])
theorem fn_slices_SortStableFunc_rune_rune:(autoPrg Tryz.prog).fn 76 = some LF_slices_SortStableFunc_rune_rune:=by kernel_rfl
def LF_slices_stableCmpFunc_rune:LFunc :=
  .mk 3 [] (.seq (.region [.mk (some 6) (.p (.mv (.c (.int .i64 20)))) none] [0,1,2,6] []) (.seq (.region [.mk (some 10) (.p (.mv (.s 6))) none,.mk (some 7) (.p (.mv (.c (.int
  .i64 0)))) none,.mk (some 8) (.p (.mv (.s 10))) none] [0,1,2,6,7,8] []) (.seq (.block 0 (.loop (.seq (.seq (.region [.mk (some 11) (.p (.mv (.s 8))) none,.mk (some 12) (.p
  (.mv (.s 1))) none,.mk (some 13) (.p (.bin .leq (.s 11) (.s 12))) none] [0,1,2,6,7,8,13] []) (.cond (.s 13) .skip (.exit 0))) (.block 1 (.seq (.region [.mk (some 14) (.p
  (.mv (.s 0))) none,.mk (some 15) (.p (.mv (.s 7))) none,.mk (some 16) (.p (.mv (.s 8))) none,.mk (some 17) (.p (.mv (.s 2))) none,.mk (some 18) (.e (.call
  145 [.s 14,.s 15,.s 16,.s 17])) none] [0,1,2,6,8] []) (.seq (.region [.mk (some 19) (.p (.mv (.s 8))) none,.mk (some 7) (.p (.mv (.s
  19))) none] [0,1,2,6,7,8] []) (.region [.mk (some 20) (.p (.mv (.s 8))) none,.mk (some 21) (.p (.mv (.s 6))) none,.mk (some 22) (.p (.bin .add (.s 20) (.s 21))) none,.mk
  (some 8) (.p (.mv (.s 22))) none] [0,1,2,6,7,8] []))))))) (.seq (.region [.mk (some 23) (.p (.mv (.s 0))) none,.mk (some 24) (.p (.mv (.s 7))) none,.mk (some 25) (.p (.mv
  (.s 1))) none,.mk (some 26) (.p (.mv (.s 2))) none,.mk (some 27) (.e (.call 145 [.s 23,.s 24,.s 25,.s 26])) none] [0,1,2,6] []) (.block 2
  (.loop (.seq (.seq (.region [.mk (some 28) (.p (.mv (.s 6))) none,.mk (some 29) (.p (.mv (.s 1))) none,.mk (some 30) (.p (.bin .lss (.s 28) (.s 29))) none] [0,1,2,6,30] [])
  (.cond (.s 30) .skip (.exit 2))) (.block 3 (.seq (.region [.mk (some 31) (.p (.mv (.s 6))) none,.mk (some 32) (.p (.bin .mul (.c (.int .i64 2)) (.s 31))) none,.mk (some 7) (.p
  (.mv (.c (.int .i64 0)))) none,.mk (some 8) (.p (.mv (.s 32))) none] [0,1,2,6,7,8] []) (.seq (.block 4 (.loop (.seq (.seq (.region [.mk (some 33) (.p (.mv (.s 8))) none,.mk
  (some 34) (.p (.mv (.s 1))) none,.mk (some 35) (.p (.bin .leq (.s 33) (.s 34))) none] [0,1,2,6,7,8,35] []) (.cond (.s 35) .skip (.exit 4))) (.block 5 (.seq (.region [.mk
  (some 36) (.p (.mv (.s 0))) none,.mk (some 37) (.p (.mv (.s 7))) none,.mk (some 38) (.p (.mv (.s 7))) none,.mk (some 39) (.p (.mv (.s 6))) none,.mk (some 40) (.p (.bin .add
  (.s 38) (.s 39))) none,.mk (some 41) (.p (.mv (.s 8))) none,.mk (some 42) (.p (.mv (.s 2))) none,.mk (some 43) (.e (.call 146 [.s 36,.s 37,.s 40,
  .s 41,.s 42])) none] [0,1,2,6,8] []) (.seq (.region [.mk (some 44) (.p (.mv (.s 8))) none,.mk (some 7) (.p (.mv (.s 44))) none] [0,1,2,6,7,8] []) (.region [.mk (some
  45) (.p (.mv (.s 8))) none,.mk (some 46) (.p (.mv (.s 6))) none,.mk (some 47) (.p (.bin .mul (.c (.int .i64 2)) (.s 46))) none,.mk (some 48) (.p (.bin .add (.s 45) (.s 47)))
  none,.mk (some 8) (.p (.mv (.s 48))) none] [0,1,2,6,7,8] []))))))) (.seq (.seq (.region [.mk (some 49) (.p (.mv (.s 7))) none,.mk (some 50) (.p (.mv (.s 6))) none,.mk
  (some 51) (.p (.bin .add (.s 49) (.s 50))) none,.mk (some 9) (.p (.mv (.s 51))) none] [0,1,2,6,7,9] []) (.seq (.region [.mk (some 52) (.p (.mv (.s 9))) none,.mk (some 53)
  (.p (.mv (.s 1))) none,.mk (some 54) (.p (.bin .lss (.s 52) (.s 53))) none] [0,1,2,6,7,9,54] []) (.cond (.s 54) (.region [.mk (some 55) (.p (.mv (.s 0))) none,.mk (some
  56) (.p (.mv (.s 7))) none,.mk (some 57) (.p (.mv (.s 9))) none,.mk (some 58) (.p (.mv (.s 1))) none,.mk (some 59) (.p (.mv (.s 2))) none,.mk (some 60) (.e (.call
  146 [.s 55,.s 56,.s 57,.s 58,.s 59])) none] [0,1,2,6] []) .skip))) (.region [.mk (some 61) (.p (.mv (.s 6))) none,.mk (some 62) (.p (.bin .mul
  (.s 61) (.c (.int .i64 2)))) none,.mk (some 6) (.p (.mv (.s 62))) none] [0,1,2,6] []))))))))))))
theorem fn_slices_stableCmpFunc_rune:(autoPrg Tryz.prog).fn 125 = some LF_slices_stableCmpFunc_rune:=by kernel_rfl
def LF_slices_insertionSortCmpFunc_rune:LFunc :=
  .mk 4 [] (.seq (.region [.mk (some 10) (.p (.mv (.s 1))) none,.mk (some 11) (.p (.bin .add (.s 10) (.c (.int .i64 1)))) none,.mk (some 8) (.p (.mv (.s 11))) none] [0,1,2,3,
  8] []) (.block 0 (.loop (.seq (.seq (.region [.mk (some 12) (.p (.mv (.s 8))) none,.mk (some 13) (.p (.mv (.s 2))) none,.mk (some 14) (.p (.bin .lss (.s 12) (.s 13))) none] [0,
  1,2,3,8,14] []) (.cond (.s 14) .skip (.exit 0))) (.seq (.block 1 (.seq (.region [.mk (some 17) (.p (.mv (.s 8))) none,.mk (some 9) (.p (.mv (.s 17))) none] [0,1,2,3,8,9]
  []) (.block 2 (.loop (.seq (.seq (.region [.mk (some 18) (.p (.mv (.s 9))) none,.mk (some 19) (.p (.mv (.s 1))) none,.mk (some 20) (.p (.bin .gtr (.s 18) (.s 19))) none,.mk
  (some 21) (.p (.mv (.s 20))) none,.mk (some 22) (.p (.mv (.s 3))) (some (21,true)),.mk (some 23) (.p (.mv (.s 0))) (some (21,true)),.mk (some 24) (.p (.mv (.s 9))) (some (21,
  true)),.mk (some 25) (.p (.iaddr 1 (.s 23) (.s 24))) (some (21,true)),.mk (some 26) (.r (.load none (.s 25))) (some (21,true)),.mk (some 27) (.p (.mv (.s 0))) (some (21,
  true)),.mk (some 28) (.p (.mv (.s 9))) (some (21,true)),.mk (some 29) (.p (.bin .sub (.s 28) (.c (.int .i64 1)))) (some (21,true)),.mk (some 30) (.p (.iaddr 1 (.s 27) (.s
  29))) (some (21,true)),.mk (some 31) (.r (.load none (.s 30))) (some (21,true)),.mk (some 32) (.e (.callv (.s 22) [.s 26,.s 31])) (some (21,true)),.mk (some 33) (.p (.bin
  .lss (.s 32) (.c (.int .i64 0)))) (some (21,true)),.mk (some 34) (.p (.pick (.s 21) (.s 33) (.c (.bool false)))) none] [0,1,2,3,8,9,34] []) (.cond (.s 34) .skip (.exit
  2))) (.seq (.block 3 (.region [.mk (some 37) (.p (.mv (.s 0))) none,.mk (some 38) (.p (.mv (.s 9))) none,.mk (some 39) (.p (.mv (.s 0))) none,.mk (some 40) (.p (.mv (.s 9)))
  none,.mk (some 41) (.p (.bin .sub (.s 40) (.c (.int .i64 1)))) none,.mk (some 42) (.p (.mv (.s 0))) none,.mk (some 43) (.p (.mv (.s 9))) none,.mk (some 44) (.p (.bin .sub (.s
  43) (.c (.int .i64 1)))) none,.mk (some 45) (.p (.iaddr 1 (.s 42) (.s 44))) none,.mk (some 46) (.r (.load none (.s 45))) none,.mk (some 47) (.p (.mv (.s 0))) none,.mk (some
  48) (.p (.mv (.s 9))) none,.mk (some 49) (.p (.iaddr 1 (.s 47) (.s 48))) none,.mk (some 50) (.r (.load none (.s 49))) none,.mk (some 51) (.p (.iaddr 1 (.s 37) (.s 38))) none,
  .mk none (.e (.store 1 (.s 51) (.s 46))) none,.mk (some 52) (.p (.iaddr 1 (.s 39) (.s 41))) none,.mk none (.e (.store 1 (.s 52) (.s 50))) none] [0,1,2,3,8,9] [])) (.region
  [.mk (some 35) (.p (.mv (.s 9))) none,.mk (some 36) (.p (.bin .sub (.s 35) (.c (.int .i64 1)))) none,.mk (some 9) (.p (.mv (.s 36))) none] [0,1,2,3,8,9] []))))))) (.region
  [.mk (some 15) (.p (.mv (.s 8))) none,.mk (some 16) (.p (.bin .add (.s 15) (.c (.int .i64 1)))) none,.mk (some 8) (.p (.mv (.s 16))) none] [0,1,2,3,8] []))))))
theorem fn_slices_insertionSortCmpFunc_rune:(autoPrg Tryz.prog).fn 145 = some LF_slices_insertionSortCmpFunc_rune:=by kernel_rfl
def LF_slices_symMergeCmpFunc_rune:LFunc :=
  .mk 5 [] (.seq (.seq (.region [.mk (some 25) (.p (.mv (.s 2))) none,.mk (some 26) (.p (.mv (.s 1))) none,.mk (some 27) (.p (.bin .sub (.s 25) (.s 26))) none,.mk (some 28) (.p
  (.bin .eql (.s 27) (.c (.int .i64 1)))) none] [0,1,2,3,4,28] []) (.cond (.s 28) (.seq (.region [.mk (some 29) (.p (.mv (.s 2))) none,.mk (some 10) (.p (.mv (.s 29))) none]
  [0,1,3,4,10] []) (.seq (.region [.mk (some 30) (.p (.mv (.s 3))) none,.mk (some 11) (.p (.mv (.s 30))) none] [0,1,4,10,11] []) (.seq (.block 0 (.loop (.seq (.seq (.region
  [.mk (some 31) (.p (.mv (.s 10))) none,.mk (some 32) (.p (.mv (.s 11))) none,.mk (some 33) (.p (.bin .lss (.s 31) (.s 32))) none] [0,1,4,10,11,33] []) (.cond (.s 33) .skip
  (.exit 0))) (.block 1 (.seq (.region [.mk (some 34) (.p (.mv (.s 10))) none,.mk (some 35) (.p (.mv (.s 11))) none,.mk (some 36) (.p (.bin .add (.s 34) (.s 35))) none,.mk (some
  37) (.p (.conv .u64 (.s 36))) none,.mk (some 38) (.p (.bin .shr (.s 37) (.c (.int .u64 1)))) none,.mk (some 39) (.p (.conv .i64 (.s 38))) none,.mk (some 12) (.p (.mv (.s 39)))
  none] [0,1,4,10,11,12] []) (.seq (.region [.mk (some 40) (.p (.mv (.s 4))) none,.mk (some 41) (.p (.mv (.s 0))) none,.mk (some 42) (.p (.mv (.s 12))) none,.mk (some 43)
  (.p (.iaddr 1 (.s 41) (.s 42))) none,.mk (some 44) (.r (.load none (.s 43))) none,.mk (some 45) (.p (.mv (.s 0))) none,.mk (some 46) (.p (.mv (.s 1))) none,.mk (some 47) (.p
  (.iaddr 1 (.s 45) (.s 46))) none,.mk (some 48) (.r (.load none (.s 47))) none,.mk (some 49) (.e (.callv (.s 40) [.s 44,.s 48])) none,.mk (some 50) (.p (.bin .lss (.s 49) (.c
  (.int .i64 0)))) none] [0,1,4,10,11,12,50] []) (.cond (.s 50) (.region [.mk (some 51) (.p (.mv (.s 12))) none,.mk (some 52) (.p (.bin .add (.s 51) (.c (.int .i64 1))))
  none,.mk (some 10) (.p (.mv (.s 52))) none] [0,1,4,10,11] []) (.region [.mk (some 53) (.p (.mv (.s 12))) none,.mk (some 11) (.p (.mv (.s 53))) none] [0,1,4,10,11]
  [])))))))) (.seq (.seq (.region [.mk (some 54) (.p (.mv (.s 1))) none,.mk (some 13) (.p (.mv (.s 54))) none] [0,10,13] []) (.block 2 (.loop (.seq (.seq (.region [.mk (some 55)
  (.p (.mv (.s 13))) none,.mk (some 56) (.p (.mv (.s 10))) none,.mk (some 57) (.p (.bin .sub (.s 56) (.c (.int .i64 1)))) none,.mk (some 58) (.p (.bin .lss (.s 55) (.s 57)))
  none] [0,10,13,58] []) (.cond (.s 58) .skip (.exit 2))) (.seq (.block 3 (.region [.mk (some 61) (.p (.mv (.s 0))) none,.mk (some 62) (.p (.mv (.s 13))) none,.mk (some 63) (.p
  (.mv (.s 0))) none,.mk (some 64) (.p (.mv (.s 13))) none,.mk (some 65) (.p (.bin .add (.s 64) (.c (.int .i64 1)))) none,.mk (some 66) (.p (.mv (.s 0))) none,.mk (some 67) (.p
  (.mv (.s 13))) none,.mk (some 68) (.p (.bin .add (.s 67) (.c (.int .i64 1)))) none,.mk (some 69) (.p (.iaddr 1 (.s 66) (.s 68))) none,.mk (some 70) (.r (.load none (.s 69)))
  none,.mk (some 71) (.p (.mv (.s 0))) none,.mk (some 72) (.p (.mv (.s 13))) none,.mk (some 73) (.p (.iaddr 1 (.s 71) (.s 72))) none,.mk (some 74) (.r (.load none (.s 73)))
  none,.mk (some 75) (.p (.iaddr 1 (.s 61) (.s 62))) none,.mk none (.e (.store 1 (.s 75) (.s 70))) none,.mk (some 76) (.p (.iaddr 1 (.s 63) (.s 65))) none,.mk none (.e (.store 1
  (.s 76) (.s 74))) none] [0,10,13] [])) (.region [.mk (some 59) (.p (.mv (.s 13))) none,.mk (some 60) (.p (.bin .add (.s 59) (.c (.int .i64 1)))) none,.mk (some 13) (.p (.mv
  (.s 60))) none] [0,10,13] [])))))) .ret)))) .skip)) (.seq (.seq (.region [.mk (some 77) (.p (.mv (.s 3))) none,.mk (some 78) (.p (.mv (.s 2))) none,.mk (some 79) (.p (.bin
  .sub (.s 77) (.s 78))) none,.mk (some 80) (.p (.bin .eql (.s 79) (.c (.int .i64 1)))) none] [0,1,2,3,4,80] []) (.cond (.s 80) (.seq (.region [.mk (some 81) (.p (.mv (.s 1)))
  none,.mk (some 14) (.p (.mv (.s 81))) none] [0,2,4,14] []) (.seq (.region [.mk (some 82) (.p (.mv (.s 2))) none,.mk (some 15) (.p (.mv (.s 82))) none] [0,2,4,14,15] [])
  (.seq (.block 4 (.loop (.seq (.seq (.region [.mk (some 83) (.p (.mv (.s 14))) none,.mk (some 84) (.p (.mv (.s 15))) none,.mk (some 85) (.p (.bin .lss (.s 83) (.s 84))) none] [0,
  2,4,14,15,85] []) (.cond (.s 85) .skip (.exit 4))) (.block 5 (.seq (.region [.mk (some 86) (.p (.mv (.s 14))) none,.mk (some 87) (.p (.mv (.s 15))) none,.mk (some 88) (.p
  (.bin .add (.s 86) (.s 87))) none,.mk (some 89) (.p (.conv .u64 (.s 88))) none,.mk (some 90) (.p (.bin .shr (.s 89) (.c (.int .u64 1)))) none,.mk (some 91) (.p (.conv .i64 (.s
  90))) none,.mk (some 16) (.p (.mv (.s 91))) none] [0,2,4,14,15,16] []) (.seq (.region [.mk (some 92) (.p (.mv (.s 4))) none,.mk (some 93) (.p (.mv (.s 0))) none,.mk (some
  94) (.p (.mv (.s 2))) none,.mk (some 95) (.p (.iaddr 1 (.s 93) (.s 94))) none,.mk (some 96) (.r (.load none (.s 95))) none,.mk (some 97) (.p (.mv (.s 0))) none,.mk (some 98)
  (.p (.mv (.s 16))) none,.mk (some 99) (.p (.iaddr 1 (.s 97) (.s 98))) none,.mk (some 100) (.r (.load none (.s 99))) none,.mk (some 101) (.e (.callv (.s 92) [.s 96,.s 100]))
  none,.mk (some 102) (.p (.bin .lss (.s 101) (.c (.int .i64 0)))) none,.mk (some 103) (.p (.un .not (.s 102))) none] [0,2,4,14,15,16,103] []) (.cond (.s 103) (.region [.mk
  (some 104) (.p (.mv (.s 16))) none,.mk (some 105) (.p (.bin .add (.s 104) (.c (.int .i64 1)))) none,.mk (some 14) (.p (.mv (.s 105))) none] [0,2,4,14,15] []) (.region [.mk
  (some 106) (.p (.mv (.s 16))) none,.mk (some 15) (.p (.mv (.s 106))) none] [0,2,4,14,15] [])))))))) (.seq (.seq (.region [.mk (some 107) (.p (.mv (.s 2))) none,.mk (some 17)
  (.p (.mv (.s 107))) none] [0,14,17] []) (.block 6 (.loop (.seq (.seq (.region [.mk (some 108) (.p (.mv (.s 17))) none,.mk (some 109) (.p (.mv (.s 14))) none,.mk (some 110) (.p
  (.bin .gtr (.s 108) (.s 109))) none] [0,14,17,110] []) (.cond (.s 110) .skip (.exit 6))) (.seq (.block 7 (.region [.mk (some 113) (.p (.mv (.s 0))) none,.mk (some 114) (.p
  (.mv (.s 17))) none,.mk (some 115) (.p (.mv (.s 0))) none,.mk (some 116) (.p (.mv (.s 17))) none,.mk (some 117) (.p (.bin .sub (.s 116) (.c (.int .i64 1)))) none,.mk (some
  118) (.p (.mv (.s 0))) none,.mk (some 119) (.p (.mv (.s 17))) none,.mk (some 120) (.p (.bin .sub (.s 119) (.c (.int .i64 1)))) none,.mk (some 121) (.p (.iaddr 1 (.s 118) (.s
  120))) none,.mk (some 122) (.r (.load none (.s 121))) none,.mk (some 123) (.p (.mv (.s 0))) none,.mk (some 124) (.p (.mv (.s 17))) none,.mk (some 125) (.p (.iaddr 1 (.s 123)
  (.s 124))) none,.mk (some 126) (.r (.load none (.s 125))) none,.mk (some 127) (.p (.iaddr 1 (.s 113) (.s 114))) none,.mk none (.e (.store 1 (.s 127) (.s 122))) none,.mk (some
  128) (.p (.iaddr 1 (.s 115) (.s 117))) none,.mk none (.e (.store 1 (.s 128) (.s 126))) none] [0,14,17] [])) (.region [.mk (some 111) (.p (.mv (.s 17))) none,.mk (some 112) (.p
  (.bin .sub (.s 111) (.c (.int .i64 1)))) none,.mk (some 17) (.p (.mv (.s 112))) none] [0,14,17] [])))))) .ret)))) .skip)) (.seq (.region [.mk (some 129) (.p (.mv (.s 1))) none,
  .mk (some 130) (.p (.mv (.s 3))) none,.mk (some 131) (.p (.bin .add (.s 129) (.s 130))) none,.mk (some 132) (.p (.conv .u64 (.s 131))) none,.mk (some 133) (.p (.bin .shr (.s
  132) (.c (.int .u64 1)))) none,.mk (some 134) (.p (.conv .i64 (.s 133))) none,.mk (some 18) (.p (.mv (.s 134))) none] [0,1,2,3,4,18] []) (.seq (.region [.mk (some 135) (.p
  (.mv (.s 18))) none,.mk (some 136) (.p (.mv (.s 2))) none,.mk (some 137) (.p (.bin .add (.s 135) (.s 136))) none,.mk (some 19) (.p (.mv (.s 137))) none] [0,1,2,3,4,18,19]
  []) (.seq (.region [.mk (some 20) (.p (.mv (.c (.int .i64 0)))) none,.mk (some 21) (.p (.mv (.c (.int .i64 0)))) none] [0,1,2,3,4,18,19] []) (.seq (.seq (.region [.mk (some
  138) (.p (.mv (.s 2))) none,.mk (some 139) (.p (.mv (.s 18))) none,.mk (some 140) (.p (.bin .gtr (.s 138) (.s 139))) none] [0,1,2,3,4,18,19,140] []) (.cond (.s 140) (.seq
  (.region [.mk (some 141) (.p (.mv (.s 19))) none,.mk (some 142) (.p (.mv (.s 3))) none,.mk (some 143) (.p (.bin .sub (.s 141) (.s 142))) none,.mk (some 20) (.p (.mv (.s 143)))
  none] [0,1,2,3,4,18,19,20] []) (.region [.mk (some 144) (.p (.mv (.s 18))) none,.mk (some 21) (.p (.mv (.s 144))) none] [0,1,2,3,4,18,19,20,21] [])) (.seq (.region
  [.mk (some 145) (.p (.mv (.s 1))) none,.mk (some 20) (.p (.mv (.s 145))) none] [0,1,2,3,4,18,19,20] []) (.region [.mk (some 146) (.p (.mv (.s 2))) none,.mk (some 21) (.p
  (.mv (.s 146))) none] [0,1,2,3,4,18,19,20,21] [])))) (.seq (.region [.mk (some 147) (.p (.mv (.s 19))) none,.mk (some 148) (.p (.bin .sub (.s 147) (.c (.int .i64 1))))
  none,.mk (some 22) (.p (.mv (.s 148))) none] [0,1,2,3,4,18,19,20,21,22] []) (.seq (.block 8 (.loop (.seq (.seq (.region [.mk (some 149) (.p (.mv (.s 20))) none,.mk
  (some 150) (.p (.mv (.s 21))) none,.mk (some 151) (.p (.bin .lss (.s 149) (.s 150))) none] [0,1,2,3,4,18,19,20,21,22,151] []) (.cond (.s 151) .skip (.exit 8))) (.block
  9 (.seq (.region [.mk (some 152) (.p (.mv (.s 20))) none,.mk (some 153) (.p (.mv (.s 21))) none,.mk (some 154) (.p (.bin .add (.s 152) (.s 153))) none,.mk (some 155) (.p (.conv
  .u64 (.s 154))) none,.mk (some 156) (.p (.bin .shr (.s 155) (.c (.int .u64 1)))) none,.mk (some 157) (.p (.conv .i64 (.s 156))) none,.mk (some 23) (.p (.mv (.s 157))) none] [0,
  1,2,3,4,18,19,20,21,22,23] []) (.seq (.region [.mk (some 158) (.p (.mv (.s 4))) none,.mk (some 159) (.p (.mv (.s 0))) none,.mk (some 160) (.p (.mv (.s 22))) none,.mk
  (some 161) (.p (.mv (.s 23))) none,.mk (some 162) (.p (.bin .sub (.s 160) (.s 161))) none,.mk (some 163) (.p (.iaddr 1 (.s 159) (.s 162))) none,.mk (some 164) (.r (.load none
  (.s 163))) none,.mk (some 165) (.p (.mv (.s 0))) none,.mk (some 166) (.p (.mv (.s 23))) none,.mk (some 167) (.p (.iaddr 1 (.s 165) (.s 166))) none,.mk (some 168) (.r (.load
  none (.s 167))) none,.mk (some 169) (.e (.callv (.s 158) [.s 164,.s 168])) none,.mk (some 170) (.p (.bin .lss (.s 169) (.c (.int .i64 0)))) none,.mk (some 171) (.p (.un .not
  (.s 170))) none] [0,1,2,3,4,18,19,20,21,22,23,171] []) (.cond (.s 171) (.region [.mk (some 172) (.p (.mv (.s 23))) none,.mk (some 173) (.p (.bin .add (.s 172) (.c
  (.int .i64 1)))) none,.mk (some 20) (.p (.mv (.s 173))) none] [0,1,2,3,4,18,19,20,21,22] []) (.region [.mk (some 174) (.p (.mv (.s 23))) none,.mk (some 21) (.p (.mv (.s
  174))) none] [0,1,2,3,4,18,19,20,21,22] [])))))))) (.seq (.region [.mk (some 175) (.p (.mv (.s 19))) none,.mk (some 176) (.p (.mv (.s 20))) none,.mk (some 177) (.p
  (.bin .sub (.s 175) (.s 176))) none,.mk (some 24) (.p (.mv (.s 177))) none] [0,1,2,3,4,18,20,24] []) (.seq (.seq (.region [.mk (some 178) (.p (.mv (.s 20))) none,.mk
  (some 179) (.p (.mv (.s 2))) none,.mk (some 180) (.p (.bin .lss (.s 178) (.s 179))) none,.mk (some 181) (.p (.mv (.s 180))) none,.mk (some 182) (.p (.mv (.s 2))) (some (181,
  true)),.mk (some 183) (.p (.mv (.s 24))) (some (181,true)),.mk (some 184) (.p (.bin .lss (.s 182) (.s 183))) (some (181,true)),.mk (some 185) (.p (.pick (.s 181) (.s 184) (.c
  (.bool false)))) none] [0,1,2,3,4,18,20,24,185] []) (.cond (.s 185) (.region [.mk (some 186) (.p (.mv (.s 0))) none,.mk (some 187) (.p (.mv (.s 20))) none,.mk (some 188)
  (.p (.mv (.s 2))) none,.mk (some 189) (.p (.mv (.s 24))) none,.mk (some 190) (.p (.mv (.s 4))) none,.mk (some 191) (.e (.call 151 [.s 186,.s 187,.s
  188,.s 189,.s 190])) none] [0,1,3,4,18,20,24] []) .skip)) (.seq (.seq (.region [.mk (some 192) (.p (.mv (.s 1))) none,.mk (some 193) (.p (.mv (.s 20))) none,.mk (some
  194) (.p (.bin .lss (.s 192) (.s 193))) none,.mk (some 195) (.p (.mv (.s 194))) none,.mk (some 196) (.p (.mv (.s 20))) (some (195,true)),.mk (some 197) (.p (.mv (.s 18)))
  (some (195,true)),.mk (some 198) (.p (.bin .lss (.s 196) (.s 197))) (some (195,true)),.mk (some 199) (.p (.pick (.s 195) (.s 198) (.c (.bool false)))) none] [0,1,3,4,18,
  20,24,199] []) (.cond (.s 199) (.region [.mk (some 200) (.p (.mv (.s 0))) none,.mk (some 201) (.p (.mv (.s 1))) none,.mk (some 202) (.p (.mv (.s 20))) none,.mk (some 203) (.p
  (.mv (.s 18))) none,.mk (some 204) (.p (.mv (.s 4))) none,.mk (some 205) (.e (.call 146 [.s 200,.s 201,.s 202,.s 203,.s 204])) none] [0,3,4,
  18,24] []) .skip)) (.seq (.region [.mk (some 206) (.p (.mv (.s 18))) none,.mk (some 207) (.p (.mv (.s 24))) none,.mk (some 208) (.p (.bin .lss (.s 206) (.s 207))) none,.mk
  (some 209) (.p (.mv (.s 208))) none,.mk (some 210) (.p (.mv (.s 24))) (some (209,true)),.mk (some 211) (.p (.mv (.s 3))) (some (209,true)),.mk (some 212) (.p (.bin .lss (.s
  210) (.s 211))) (some (209,true)),.mk (some 213) (.p (.pick (.s 209) (.s 212) (.c (.bool false)))) none] [0,3,4,18,24,213] []) (.cond (.s 213) (.region [.mk (some 214) (.p
  (.mv (.s 0))) none,.mk (some 215) (.p (.mv (.s 18))) none,.mk (some 216) (.p (.mv (.s 24))) none,.mk (some 217) (.p (.mv (.s 3))) none,.mk (some 218) (.p (.mv (.s 4))) none,
  .mk (some 219) (.e (.call 146 [.s 214,.s 215,.s 216,.s 217,.s 218])) none] [] []) .skip)))))))))))))
theorem fn_slices_symMergeCmpFunc_rune:(autoPrg Tryz.prog).fn 146 = some LF_slices_symMergeCmpFunc_rune:=by kernel_rfl
def LF_slices_rotateCmpFunc_rune:LFunc :=
  .mk 5 [] (.seq (.region [.mk (some 12) (.p (.mv (.s 2))) none,.mk (some 13) (.p (.mv (.s 1))) none,.mk (some 14) (.p (.bin .sub (.s 12) (.s 13))) none,.mk (some 10) (.p (.mv
  (.s 14))) none] [0,2,3,4,10] []) (.seq (.region [.mk (some 15) (.p (.mv (.s 3))) none,.mk (some 16) (.p (.mv (.s 2))) none,.mk (some 17) (.p (.bin .sub (.s 15) (.s 16)))
  none,.mk (some 11) (.p (.mv (.s 17))) none] [0,2,4,10,11] []) (.seq (.block 0 (.loop (.seq (.seq (.region [.mk (some 18) (.p (.mv (.s 10))) none,.mk (some 19) (.p (.mv (.s
  11))) none,.mk (some 20) (.p (.bin .neq (.s 18) (.s 19))) none] [0,2,4,10,11,20] []) (.cond (.s 20) .skip (.exit 0))) (.block 1 (.seq (.region [.mk (some 21) (.p (.mv (.s
  10))) none,.mk (some 22) (.p (.mv (.s 11))) none,.mk (some 23) (.p (.bin .gtr (.s 21) (.s 22))) none] [0,2,4,10,11,23] []) (.cond (.s 23) (.seq (.region [.mk (some 24) (.p
  (.mv (.s 0))) none,.mk (some 25) (.p (.mv (.s 2))) none,.mk (some 26) (.p (.mv (.s 10))) none,.mk (some 27) (.p (.bin .sub (.s 25) (.s 26))) none,.mk (some 28) (.p (.mv (.s
  2))) none,.mk (some 29) (.p (.mv (.s 11))) none,.mk (some 30) (.p (.mv (.s 4))) none,.mk (some 31) (.e (.call 153 [.s 24,.s 27,.s 28,.s 29,.s
  30])) none] [0,2,4,10,11] []) (.region [.mk (some 32) (.p (.mv (.s 10))) none,.mk (some 33) (.p (.mv (.s 11))) none,.mk (some 34) (.p (.bin .sub (.s 32) (.s 33))) none,.mk
  (some 10) (.p (.mv (.s 34))) none] [0,2,4,10,11] [])) (.seq (.region [.mk (some 35) (.p (.mv (.s 0))) none,.mk (some 36) (.p (.mv (.s 2))) none,.mk (some 37) (.p (.mv (.s
  10))) none,.mk (some 38) (.p (.bin .sub (.s 36) (.s 37))) none,.mk (some 39) (.p (.mv (.s 2))) none,.mk (some 40) (.p (.mv (.s 11))) none,.mk (some 41) (.p (.bin .add (.s 39)
  (.s 40))) none,.mk (some 42) (.p (.mv (.s 10))) none,.mk (some 43) (.p (.bin .sub (.s 41) (.s 42))) none,.mk (some 44) (.p (.mv (.s 10))) none,.mk (some 45) (.p (.mv (.s 4)))
  none,.mk (some 46) (.e (.call 153 [.s 35,.s 38,.s 43,.s 44,.s 45])) none] [0,2,4,10,11] []) (.region [.mk (some 47) (.p (.mv (.s 11))) none,
  .mk (some 48) (.p (.mv (.s 10))) none,.mk (some 49) (.p (.bin .sub (.s 47) (.s 48))) none,.mk (some 11) (.p (.mv (.s 49))) none] [0,2,4,10,11] [])))))))) (.region [.mk (some
  50) (.p (.mv (.s 0))) none,.mk (some 51) (.p (.mv (.s 2))) none,.mk (some 52) (.p (.mv (.s 10))) none,.mk (some 53) (.p (.bin .sub (.s 51) (.s 52))) none,.mk (some 54) (.p
  (.mv (.s 2))) none,.mk (some 55) (.p (.mv (.s 10))) none,.mk (some 56) (.p (.mv (.s 4))) none,.mk (some 57) (.e (.call 153 [.s 50,.s 53,.s 54,
  .s 55,.s 56])) none] [] []))))
theorem fn_slices_rotateCmpFunc_rune:(autoPrg Tryz.prog).fn 151 = some LF_slices_rotateCmpFunc_rune:=by kernel_rfl
def LF_slices_swapRangeCmpFunc_rune:LFunc :=
  .mk 5 [] (.seq (.region [.mk (some 10) (.p (.mv (.c (.int .i64 0)))) none] [0,1,2,3,10] []) (.block 0 (.loop (.seq (.seq (.region [.mk (some 11) (.p (.mv (.s 10))) none,.mk
  (some 12) (.p (.mv (.s 3))) none,.mk (some 13) (.p (.bin .lss (.s 11) (.s 12))) none] [0,1,2,3,10,13] []) (.cond (.s 13) .skip (.exit 0))) (.seq (.block 1 (.region [.mk
  (some 16) (.p (.mv (.s 0))) none,.mk (some 17) (.p (.mv (.s 1))) none,.mk (some 18) (.p (.mv (.s 10))) none,.mk (some 19) (.p (.bin .add (.s 17) (.s 18))) none,.mk (some 20)
  (.p (.mv (.s 0))) none,.mk (some 21) (.p (.mv (.s 2))) none,.mk (some 22) (.p (.mv (.s 10))) none,.mk (some 23) (.p (.bin .add (.s 21) (.s 22))) none,.mk (some 24) (.p (.mv
  (.s 0))) none,.mk (some 25) (.p (.mv (.s 2))) none,.mk (some 26) (.p (.mv (.s 10))) none,.mk (some 27) (.p (.bin .add (.s 25) (.s 26))) none,.mk (some 28) (.p (.iaddr 1 (.s
  24) (.s 27))) none,.mk (some 29) (.r (.load none (.s 28))) none,.mk (some 30) (.p (.mv (.s 0))) none,.mk (some 31) (.p (.mv (.s 1))) none,.mk (some 32) (.p (.mv (.s 10)))
  none,.mk (some 33) (.p (.bin .add (.s 31) (.s 32))) none,.mk (some 34) (.p (.iaddr 1 (.s 30) (.s 33))) none,.mk (some 35) (.r (.load none (.s 34))) none,.mk (some 36) (.p
  (.iaddr 1 (.s 16) (.s 19))) none,.mk none (.e (.store 1 (.s 36) (.s 29))) none,.mk (some 37) (.p (.iaddr 1 (.s 20) (.s 23))) none,.mk none (.e (.store 1 (.s 37) (.s 35))) none]
  [0,1,2,3,10] [])) (.region [.mk (some 14) (.p (.mv (.s 10))) none,.mk (some 15) (.p (.bin .add (.s 14) (.c (.int .i64 1)))) none,.mk (some 10) (.p (.mv (.s 15))) none] [0,
  1,2,3,10] []))))))
theorem fn_slices_swapRangeCmpFunc_rune:(autoPrg Tryz.prog).fn 153 = some LF_slices_swapRangeCmpFunc_rune:=by kernel_rfl
variable {α:Type} [Inhabited α] {q:Pl} {enc:α→List Value} {val:α→Value} {cv:Value} {key:α→Int}
theorem Cmp.isF {p:Prg} {e:Nat} (hc:Cmp p q enc e val cv key):IsF cv:=by
  obtain ⟨g,h | ⟨b,o,h⟩⟩:=hc.cvf
  · exact ⟨_,_,_,h⟩
  · exact ⟨_,_,_,h⟩
structure CmpS (q:Pl) (enc:α→List Value) (val:α→Value) (cv:Value) (key:α→Int):Prop extends Cmp PX q enc 1 val cv key where
  vw:∀ x,val x = val x
  rdw:∀ x,enc x = [val x]
theorem CmpS.rd (hc:CmpS q enc val cv key) {D:List α} {n:Nat} (hn:D.length = n):∀ lc (i:Int),0≤i→i < n→Mem.rd ⟨lc,q.H enc D⟩ ((q.s n).adr 1 i.toNat) 1 = some [val (ati D i)]:=fun lc i h0 h=>by
  have h1:=q.rd hc.len hn (lc:=lc) h0 h
  rw [h1,hc.rdw]
theorem CmpS.wr (hc:CmpS q enc val cv key) {D:List α} {n:Nat} (hn:D.length = n):∀ lc (i:Int) x,0≤i→i < n→Mem.wr ⟨lc,q.H enc D⟩ ((q.s n).adr 1 i.toNat) (enc x) = some ⟨lc,q.H enc (D.set i.toNat x)⟩:=fun lc i x h0 h=>q.wr hc.len hn h0 h x
theorem CmpS.wr2 (hc:CmpS q enc val cv key) {D:List α} {n:Nat} (hn:D.length = n):∀ lc (k:Nat) y (i:Int) x,0≤i→i < n→Mem.wr ⟨lc,q.H enc (D.set k y)⟩ ((q.s n).adr 1 i.toNat) (enc x) = some ⟨lc,q.H enc ((D.set k y).set i.toNat x)⟩:=fun lc k y i x h0 h =>
  q.wr hc.len (by rw [List.length_set]; exact hn) h0 h x
theorem swap_down {P R:List α} {x y:α} {j:Int} (h:j = P.length + 1):ati (P ++ y :: x :: R) j = x∧ati (P ++ y :: x :: R) (j - 1) = y∧((P ++ y :: x :: R).set j.toNat y).set (j - 1).toNat x = P ++ x :: y :: R:=by
  have e:P ++ y :: x :: R = (P ++ [y]) ++ x :: R:=by simp
  refine ⟨?_,ati_mid (by omega), ?_⟩
  · rw [e]; exact ati_mid (by simp; omega)
  · rw [e,set_mid (by simp; omega)]
    rw [List.append_assoc]
    exact set_mid (by omega)
theorem swap_up {P R:List α} {x y:α} {k:Int} (h:k = P.length):ati (P ++ x :: y :: R) k = x∧ati (P ++ x :: y :: R) (k + 1) = y∧((P ++ x :: y :: R).set k.toNat y).set (k + 1).toNat x = P ++ y :: x :: R:=by
  have e:∀ z,P ++ z :: y :: R = (P ++ [z]) ++ y :: R:=fun z=>by simp
  refine ⟨ati_mid h, ?_, ?_⟩
  · rw [e]; exact ati_mid (by simp; omega)
  · rw [set_mid h,e,set_mid (by simp; omega)]
    simp
theorem swapRange_eq (hc:CmpS q enc val cv key) {P A M B S:List α} {n:Nat} {a b k:Int} (hn:(P ++ A ++ M ++ B ++ S).length = n) (hn2:n < 1000000000000) (ha:a = P.length) (hb:b = P.length + A.length + M.length) (hk:k = A.length) (hk2:A.length = B.length) :
    callO PX 153 [(q.s n).val 1,.int .i64 a,.int .i64 b,.int .i64 k,cv] (q.H enc (P ++ A ++ M ++ B ++ S)) = some (.tuple #[],q.H enc (P ++ B ++ M ++ A ++ S)):=by
  have hlen:(q.s n).len = n:=rfl
  have hset:=hc.isF.set
  have hlc1:=hc.isF.lc1
  have hloc:=hc.isF.loc
  apply WpC.eqn
  refine wpc_fn (px_ext rfl) (px_fn fn_slices_swapRangeCmpFunc_rune) rfl ?_
  unfold LF_slices_swapRangeCmpFunc_rune
  simp only [argFr]
  simp only [List.length_append] at hn
  (refine W_g (Aj hset (Aj hlc1 hloc)) ?_; (repeat' first | apply Cj.mk | exact Nl.nl) <;> intros)
  refine wp_loop (fun m fr lc h1 => ∃ (i:Nat) (D:List α),m = A.length - i∧i≤A.length∧fr = [(0,(q.s n).val 1),(1,.int .i64 a),(2,.int .i64 b),(3,.int .i64 k),(10,.int .i64 i)]∧lc = []∧h1 = q.H enc D∧D = P ++ (B.take i ++ A.drop i) ++ M ++ (A.take i ++ B.drop i) ++ S)
    A.length ⟨0,_,rfl,Nat.zero_le _,rfl,rfl,rfl,by simp⟩ ?_
  rintro m fr lc h1 ⟨i,D,rfl,hi,rfl,rfl,rfl,hD⟩
  rcases Nat.lt_or_ge i A.length with hil | hil
  · have hDl:D.length = n:=by rw [hD]; simp only [List.length_append,List.length_take,List.length_drop]; omega
    have hr:=hc.rd hDl
    have hw:=hc.wr hDl
    have hw2:=hc.wr2 hDl
    have hcl:=hc.cells
    have hvw:=hc.vw
    have hl1:=hc.len
    have hok:=hc.ok
    (refine W_g (Aj hset (Aj hlc1 (Aj hloc (Aj hlen (Aj hr (Aj hw (Aj hw2 (Aj hl1 (Aj hok hcl))))))))) ?_; (repeat' first | apply Cj.mk | exact Nl.nl) <;> intros)
    refine ⟨A.length - (i + 1),by omega,i + 1,_,rfl,by omega,by simp only [Int.natCast_add]; rfl,rfl,rfl, ?_⟩
    have hiB:i < B.length:=by omega
    have e1:D = (P ++ B.take i) ++ A[i] :: (A.drop (i + 1) ++ M ++ (A.take i ++ B.drop i) ++ S):=by
      rw [hD,List.drop_eq_getElem_cons hil]; simp only [List.append_assoc,List.cons_append]
    have e2:D = (P ++ (B.take i ++ A.drop i) ++ M ++ A.take i) ++ B[i] :: (B.drop (i + 1) ++ S):=by
      rw [hD]; conv=>lhs; rw [List.drop_eq_getElem_cons hiB]
      simp only [List.append_assoc,List.cons_append]
    have t1:((P ++ B.take i).length:Int) = a + i:=by simp only [List.length_append,List.length_take]; omega
    have t2:((P ++ (B.take i ++ A.drop i) ++ M ++ A.take i).length:Int) = b + i:=by simp only [List.length_append,List.length_take,List.length_drop]; omega
    have t3:((P ++ B.take i ++ B[i] :: (A.drop (i + 1) ++ M ++ A.take i)).length:Int) = b + i:=by simp only [List.length_append,List.length_cons,List.length_take,List.length_drop]; omega
    have r1:ati D (a + i) = A[i]:=by rw [e1]; exact ati_mid t1.symm
    have r2:ati D (b + i) = B[i]:=by rw [e2]; exact ati_mid t2.symm
    rw [r1,r2]
    have s1:D.set (a + i).toNat B[i] = (P ++ B.take i) ++ B[i] :: (A.drop (i + 1) ++ M ++ (A.take i ++ B.drop i) ++ S):=by rw [e1]; exact set_mid t1.symm
    have s2:(P ++ B.take i) ++ B[i] :: (A.drop (i + 1) ++ M ++ (A.take i ++ B.drop i) ++ S) = (P ++ B.take i ++ B[i] :: (A.drop (i + 1) ++ M ++ A.take i)) ++ B[i] :: (B.drop (i + 1) ++ S):=by
      rw [List.drop_eq_getElem_cons hiB]; simp only [List.append_assoc,List.cons_append]
    rw [s1,s2,set_mid t3.symm]
    have u1:B.take (i + 1) = B.take i ++ [B[i]]:=List.take_succ_eq_append_getElem hiB
    have u2:A.take (i + 1) = A.take i ++ [A[i]]:=List.take_succ_eq_append_getElem hil
    rw [u1,u2]
    simp only [List.append_assoc,List.cons_append,List.nil_append]
  · have e:i = A.length:=by omega
    (refine W_g (Aj hset (Aj hlc1 hloc)) ?_; (repeat' first | apply Cj.mk | exact Nl.nl) <;> intros)
    refine ⟨rfl, ?_⟩
    rw [hD,e]
    congr 1
    simp only [List.take_length,List.drop_length,List.append_nil]
    rw [hk2,List.take_length,List.drop_length]
    simp
theorem rotate_eq (hc:CmpS q enc val cv key) {P U V S:List α} {n:Nat} {a m b:Int} (hn:(P ++ U ++ V ++ S).length = n) (hn2:n < 1000000000000) (ha:a = P.length) (hm:m = P.length + U.length) (hb:b = P.length + U.length + V.length) (hU:0 < U.length) (hV:0 < V.length) :
    callO PX 151 [(q.s n).val 1,.int .i64 a,.int .i64 m,.int .i64 b,cv] (q.H enc (P ++ U ++ V ++ S)) = some (.tuple #[],q.H enc (P ++ V ++ U ++ S)):=by
  have hlen:(q.s n).len = n:=rfl
  have hset:=hc.isF.set
  have hlc1:=hc.isF.lc1
  have hloc:=hc.isF.loc
  apply WpC.eqn
  refine wpc_fn (px_ext rfl) (px_fn fn_slices_rotateCmpFunc_rune) rfl ?_
  unfold LF_slices_rotateCmpFunc_rune
  simp only [argFr]
  have hn':=hn
  simp only [List.length_append] at hn'
  obtain ⟨D0,hD0⟩:∃ D0,D0 = P ++ U ++ V ++ S:=⟨_,rfl⟩
  rw [← hD0]
  (refine W_g (Aj hset (Aj hlc1 hloc)) ?_; (repeat' first | apply Cj.mk | exact Nl.nl) <;> intros)
  refine wp_loop (fun w fr lc h1 => ∃ (L A B R D:List α),w = A.length + B.length∧D = L ++ A ++ B ++ R∧L ++ B ++ A ++ R = P ++ V ++ U ++ S∧m = L.length + A.length∧0 < A.length∧0 < B.length∧L.length + A.length + B.length + R.length = n ∧
      fr = [(0,(q.s n).val 1),(2,.int .i64 m),(4,cv),(10,.int .i64 A.length),(11,.int .i64 B.length)]∧lc = []∧h1 = q.H enc D) (U.length + V.length)
    ⟨P,U,V,S,D0,rfl,hD0,rfl,hm,hU,hV,hn',by rw [show m - a = (U.length:Int) by omega,show b - m = (V.length:Int) by omega],rfl,rfl⟩ ?_
  rintro w fr lc h1 ⟨L,A,B,R,D,rfl,hD,hT,hm2,hA,hB,hl,rfl,rfl,rfl⟩
  rcases Nat.lt_trichotomy A.length B.length with hlt | heq | hgt
  · have hs:callO PX 153 [(q.s n).val 1,.int .i64 (m - A.length),.int .i64 (m + B.length - A.length),.int .i64 A.length,cv] (q.H enc D) = some (.tuple #[],q.H enc (L ++ B.drop (B.length - A.length) ++ B.take (B.length - A.length) ++ A ++ R)):=by
      have e:D = L ++ A ++ B.take (B.length - A.length) ++ B.drop (B.length - A.length) ++ R:=by rw [hD]; simp only [List.append_assoc]; rw [← List.append_assoc (List.take _ B),List.take_append_drop]
      rw [e]
      exact swapRange_eq hc (by simp only [List.length_append,List.length_take,List.length_drop]; omega) hn2 (by omega) (by simp only [List.length_take]; omega) rfl (by simp only [List.length_drop]; omega)
    (refine W_g (Aj hset (Aj hlc1 (Aj hloc hs))) ?_; (repeat' first | apply Cj.mk | exact Nl.nl) <;> intros)
    refine ⟨(B.drop (B.length - A.length)).length + (B.take (B.length - A.length)).length,by simp only [List.length_take,List.length_drop]; omega,L,B.drop (B.length - A.length),B.take (B.length - A.length),A ++ R,_,rfl,rfl, ?_,by simp only [List.length_drop]; omega,by simp only [List.length_drop]; omega,by simp only [List.length_take]; omega,by simp only [List.length_append,List.length_take,List.length_drop]; omega, ?_,rfl, ?_⟩
    · rw [← hT]; simp only [List.append_assoc]; rw [← List.append_assoc (List.take _ B),List.take_append_drop]
    · simp only [List.length_drop,List.length_take]
      rw [show ((B.length - (B.length - A.length):Nat):Int) = A.length by omega,show ((min (B.length - A.length) B.length:Nat):Int) = (B.length:Int) - A.length by omega]
    · simp only [List.append_assoc]
  · have hs:callO PX 153 [(q.s n).val 1,.int .i64 (m - A.length),.int .i64 m,.int .i64 A.length,cv] (q.H enc D) = some (.tuple #[],q.H enc (L ++ B ++ [] ++ A ++ R)):=by
      have e:D = L ++ A ++ [] ++ B ++ R:=by rw [hD]; simp
      rw [e]
      exact swapRange_eq hc (by simp only [List.length_append,List.length_nil]; omega) hn2 (by omega) (by simp; omega) rfl heq
    (refine W_g (Aj hset (Aj hlc1 (Aj hloc hs))) ?_; (repeat' first | apply Cj.mk | exact Nl.nl) <;> intros)
    exact ⟨rfl,by rw [← hT]⟩
  · have hs:callO PX 153 [(q.s n).val 1,.int .i64 (m - A.length),.int .i64 m,.int .i64 B.length,cv] (q.H enc D) = some (.tuple #[],q.H enc (L ++ B ++ A.drop B.length ++ A.take B.length ++ R)):=by
      have e:D = L ++ A.take B.length ++ A.drop B.length ++ B ++ R:=by rw [hD]; simp only [List.append_assoc]; rw [← List.append_assoc (List.take _ A),List.take_append_drop]
      rw [e]
      exact swapRange_eq hc (by simp only [List.length_append,List.length_take,List.length_drop]; omega) hn2 (by omega) (by simp only [List.length_take,List.length_drop]; omega) (by simp only [List.length_take]; omega) (by simp only [List.length_take]; omega)
    (refine W_g (Aj hset (Aj hlc1 (Aj hloc hs))) ?_; (repeat' first | apply Cj.mk | exact Nl.nl) <;> intros)
    refine ⟨(A.drop B.length).length + (A.take B.length).length,by simp only [List.length_take,List.length_drop]; omega,L ++ B,A.drop B.length,A.take B.length,R,_,rfl,rfl, ?_,by simp only [List.length_append,List.length_drop]; omega,by simp only [List.length_drop]; omega,by simp only [List.length_take]; omega,by simp only [List.length_append,List.length_take,List.length_drop]; omega, ?_,rfl,rfl⟩
    · rw [← hT]; simp only [List.append_assoc]; rw [← List.append_assoc (List.take _ A),List.take_append_drop]
    · simp only [List.length_drop,List.length_take]
      rw [show ((A.length - B.length:Nat):Int) = (A.length:Int) - B.length by omega,show ((min B.length A.length:Nat):Int) = (B.length:Int) by omega]
end Go.Proofs.YtakmapoompffgaaGreatDoor.AM
