/- Parts of proofs: lemmas, joined. -/
import Derived.Test.YtakmapoompffgaaGreatDoorPe459868a
set_option linter.unusedVariables false
set_option linter.unusedSimpArgs false
set_option linter.unusedSectionVars false
namespace Go.Proofs.YtakmapoompffgaaGreatDoor.AM
open Go
theorem scrE_pos {x:Scr} {e:Int} (h:scrE x = some e):e≠0:=by
  unfold scrE at h
  split at h
  · injection h with h; omega
  · unfold spansE at h
    cases hs:scanL x.2 (fun i y=>(spanE x.2 i y).map fun e=>(e,i)) with
    | none=>rw [hs] at h; cases h
    | some w =>
      rw [hs] at h
      obtain ⟨i,hi,hw⟩:=scanL_some hs
      cases he:spanE x.2 i x.2[i] with
      | none=>rw [he] at hw; cases hw
      | some e' =>
        rw [he] at hw
        simp only [Option.map_some,Option.some.injEq] at h hw
        subst hw
        have:=spanE_pos he
        simp only at h
        omega
theorem spansW_pos {l:List Span} {n a b c:Int} (h:spansW l n = some (a,b,c)):a≠0:=by
  unfold spansW spansE at h
  cases hs:scanL l (fun i x=>(spanE l i x).map fun e=>(e,i)) with
  | none=>rw [hs] at h; cases h
  | some w =>
    rw [hs] at h
    obtain ⟨i,hi,hw⟩:=scanL_some hs
    cases he:spanE l i l[i] with
    | none=>rw [he] at hw; cases hw
    | some e' =>
      rw [he] at hw
      simp only [Option.map_some,Option.some.injEq,Prod.mk.injEq] at h hw
      subst hw
      have:=spanE_pos he
      simp only at h
      omega
theorem mapsW_pos {l:List (Int × ByteArray)} {n a b c:Int} (h:mapsW l n = some (a,b,c)):a≠0:=by
  unfold mapsW at h
  obtain ⟨i,hi,hw⟩:=scanL_some h
  split at hw
  · injection hw with hw; injection hw with hw; omega
  · split at hw
    · injection hw with hw; injection hw with hw; omega
    · cases hw
set_option maxHeartbeats 1000000 in
theorem forms6_spec {S:TS} {T:Tab} {h:AH} (t:TabAt h S T):WpC PX 67 [.agg S.vs.toArray] h fun v h'=>v = wrV (formsW T)∧Kp h h':=by
  have f:=t.fits
  have n0:=f.n0
  have hz:=f.n0s
  rw [← t.zs] at hz n0
  rw [List.length_map] at n0
  have s0:=t.r0.len
  have s2:=t.r2.len; have n2:=f.n2
  have s3:=t.r3.len; have n3:=f.n3
  have e1:=rune6_eq
  have e2:=spans6_eq t.r1 f.n1 2
  refine wpc_fn (px_ext rfl) (px_fn fn_guiseref6_forms) rfl ?_
  unfold LF_guiseref6_forms
  simp only [argFr]
  unfold formsW TS.vs
  rw [← t.zs,scanL_map]
  (refine W_x s0 ?_; (repeat' first | apply Cj.mk | exact Nl.nl) <;> intros)
  refine wp_scanF 3 S.z (fun i z=>(scrE z.1).map fun e=>((e,1,(i:Int)):W3)) (by intro n; simp only [setF,push_cast,Nat.reduceEqDiff, ↓reduceIte,reduceCtorEq,Nat.reduceAdd,Nat.reduceMul,Nat.reduceLeDiff]; rfl) rfl (fun i hi hit=>?_) fun fin=>?_
  · have g1:=fun lc=>rd_map (lc:=lc) t.r0 hi
    have hm:=List.getElem_mem hi
    have rz:=t.rz _ hm
    have nz:=hz _ (List.mem_map_of_mem hm)
    generalize S.z[i] = z at g1 hit rz nz
    have e3:=script6_eq rz nz.1 nz.2
    have hp:=fun e=>scrE_pos (x:=z.1) (e:=e)
    unfold scrV at g1 e3
    generalize scrE z.1 = o at e3 hit hp
    cases o with
    | none =>
      simp only [Option.getD_none] at e3
      (refine W_x (Aj s0 (Aj g1 e3)) ?_; (repeat' first | apply Cj.mk | exact Nl.nl) <;> intros)
      exact ⟨rfl,rfl,rfl,rfl⟩
    | some e =>
      have:=hp e rfl
      simp only [Option.getD_some] at e3
      rw [hit _ rfl]
      (refine W_x (Aj s0 (Aj g1 e3)) ?_; (repeat' first | apply Cj.mk | exact Nl.nl) <;> intros)
      exact ⟨rfl,Kp.refl h⟩
  rw [fin,Option.none_or]
  have hp:=fun a b c=>spansW_pos (l:=T.common) (n:=2) (a:=a) (b:=b) (c:=c)
  generalize spansW T.common 2 = o at e2 hp
  match o,e2,hp with
  | some (a,b,c),e2,hp =>
    have:=hp a b c rfl
    simp only [wrV] at e2
    (refine W_x (Aj s0 e2) ?_; (repeat' first | apply Cj.mk | exact Nl.nl) <;> intros)
    exact ⟨rfl,Kp.refl h⟩
  | none,e2,hp =>
  simp only [wrV] at e2
  rw [Option.none_or]
  (refine W_x (Aj s0 e2) ?_; (repeat' first | apply Cj.mk | exact Nl.nl) <;> intros)
  refine wp_scanF 6 T.marks (fun i x=>if runeI x.1 = false then W 12 3 i else if x.2 < 1∨254 < x.2 then W 30 3 i else none) (by intro n; simp only [setF,push_cast,Nat.reduceEqDiff, ↓reduceIte,reduceCtorEq,Nat.reduceAdd,Nat.reduceMul,Nat.reduceLeDiff]; rfl) rfl (fun i hi hit=>?_) fun fin=>?_
  · have g0:=fun lc=>rd_mapc (lc:=lc) t.r2 hi (k:=0) (by decide)
    have g1:=fun lc=>rd_mapc (lc:=lc) t.r2 hi (k:=1) (by decide)
    generalize T.marks[i] = x at g0 g1 hit
    unfold markV at g0 g1
    have e3:=e1 x.1
    generalize runeI x.1 = b at e3 hit
    cases b
    · rw [hit _ (if_pos rfl)]
      (refine W_x (Aj s2 (Aj g0 e3)) ?_; (repeat' first | apply Cj.mk | exact Nl.nl) <;> intros)
      exact ⟨rfl,Kp.refl h⟩
    · simp only [Bool.true_eq_false,if_false] at hit ⊢
      (refine W_x (Aj s2 (Aj g0 (Aj g1 e3))) ?_; (repeat' first | apply Cj.mk | exact Nl.nl) <;> intros)
      · rw [hit _ (if_pos (by omega))]
        exact ⟨rfl,Kp.refl h⟩
      · rw [hit _ (if_pos (by omega))]
        exact ⟨rfl,Kp.refl h⟩
      · exact ⟨if_neg (by omega),rfl,rfl,rfl⟩
  rw [fin,Option.none_or]
  (refine W_x s2 ?_; (repeat' first | apply Cj.mk | exact Nl.nl) <;> intros)
  refine wp_scanF 7 T.pairs (fun i x=>if runeI x.1 = false∨runeI x.2.1 = false∨runeI x.2.2 = false then W 12 4 i else none) (by intro n; simp only [setF,push_cast,Nat.reduceEqDiff, ↓reduceIte,reduceCtorEq,Nat.reduceAdd,Nat.reduceMul,Nat.reduceLeDiff]; rfl) rfl (fun i hi hit=>?_) fun fin=>?_
  · have g0:=fun lc=>rd_mapc (lc:=lc) t.r3 hi (k:=0) (by decide)
    have g1:=fun lc=>rd_mapc (lc:=lc) t.r3 hi (k:=1) (by decide)
    have g2:=fun lc=>rd_mapc (lc:=lc) t.r3 hi (k:=2) (by decide)
    generalize T.pairs[i] = x at g0 g1 g2 hit
    unfold tripV at g0 g1 g2
    have e3:=e1 x.1
    have e4:=e1 x.2.1
    have e5:=e1 x.2.2
    generalize runeI x.1 = b1 at e3 hit
    generalize runeI x.2.1 = b2 at e4 hit
    generalize runeI x.2.2 = b3 at e5 hit
    cases b1
    · rw [hit _ (if_pos (.inl rfl))]
      (refine W_x (Aj s3 (Aj g0 e3)) ?_; (repeat' first | apply Cj.mk | exact Nl.nl) <;> intros)
      exact ⟨rfl,Kp.refl h⟩
    cases b2
    · rw [hit _ (if_pos (.inr (.inl rfl)))]
      (refine W_x (Aj s3 (Aj g0 (Aj g1 (Aj e3 e4)))) ?_; (repeat' first | apply Cj.mk | exact Nl.nl) <;> intros)
      exact ⟨rfl,Kp.refl h⟩
    cases b3
    · rw [hit _ (if_pos (.inr (.inr rfl)))]
      (refine W_x (Aj s3 (Aj g0 (Aj g1 (Aj g2 (Aj e3 (Aj e4 e5)))))) ?_; (repeat' first | apply Cj.mk | exact Nl.nl) <;> intros)
      exact ⟨rfl,Kp.refl h⟩
    · (refine W_x (Aj s3 (Aj g0 (Aj g1 (Aj g2 (Aj e3 (Aj e4 e5)))))) ?_; (repeat' first | apply Cj.mk | exact Nl.nl) <;> intros)
      exact ⟨if_neg (by simp),rfl,rfl,rfl⟩
  rw [fin,Option.none_or]
  obtain ⟨v,h1,e3,rfl,k1⟩:=maps6_spec t.r4 f.n4 f.v4 5
  have hp:=fun a b c=>mapsW_pos (l:=T.folds) (n:=5) (a:=a) (b:=b) (c:=c)
  generalize mapsW T.folds 5 = o at e3 hp
  match o,e3,hp with
  | some (a,b,c),e3,hp =>
    have:=hp a b c rfl
    simp only [wrV] at e3
    (refine W_x (Aj s3 e3) ?_; (repeat' first | apply Cj.mk | exact Nl.nl) <;> intros)
    exact ⟨rfl,k1⟩
  | none,e3,hp =>
  simp only [wrV] at e3
  rw [Option.none_or]
  obtain ⟨v,h2,e4,rfl,k2⟩:=maps6_spec (t.r5.kp k1) f.n5 f.v5 6
  have k2:=k1.trans k2
  have e5:=spans6_eq (t.r6.kp k2) f.n6 7
  have e6:=spans6_eq (t.r7.kp k2) f.n7 8
  have hp:=fun a b c=>mapsW_pos (l:=T.looks) (n:=6) (a:=a) (b:=b) (c:=c)
  generalize mapsW T.looks 6 = o at e4 hp
  match o,e4,hp with
  | some (a,b,c),e4,hp =>
    have:=hp a b c rfl
    simp only [wrV] at e4
    (refine W_x (Aj s3 (Aj e3 e4)) ?_; (repeat' first | apply Cj.mk | exact Nl.nl) <;> intros)
    exact ⟨rfl,k2⟩
  | none,e4,hp =>
  simp only [wrV] at e4
  rw [Option.none_or]
  have hp:=fun a b c=>spansW_pos (l:=T.drops) (n:=7) (a:=a) (b:=b) (c:=c)
  generalize spansW T.drops 7 = o at e5 hp
  match o,e5,hp with
  | some (a,b,c),e5,hp =>
    have:=hp a b c rfl
    simp only [wrV] at e5
    (refine W_x (Aj s3 (Aj e3 (Aj e4 e5))) ?_; (repeat' first | apply Cj.mk | exact Nl.nl) <;> intros)
    exact ⟨rfl,k2⟩
  | none,e5,hp =>
  simp only [wrV] at e5
  rw [Option.none_or]
  generalize spansW T.allowed 8 = o at e6
  match o,e6 with
  | some (a,b,c),e6 =>
    simp only [wrV] at e6
    (refine W_x (Aj s3 (Aj e3 (Aj e4 (Aj e5 e6)))) ?_; (repeat' first | apply Cj.mk | exact Nl.nl) <;> intros)
    exact ⟨rfl,k2⟩
  | none,e6 =>
    simp only [wrV] at e6
    (refine W_x (Aj s3 (Aj e3 (Aj e4 (Aj e5 e6)))) ?_; (repeat' first | apply Cj.mk | exact Nl.nl) <;> intros)
    exact ⟨rfl,k2⟩
end Go.Proofs.YtakmapoompffgaaGreatDoor.AM
namespace Go.Proofs.YtakmapoompffgaaGreatDoor.AM
open Go
theorem scanL_no {α:Type} {l:List α} {P:α→Prop} [DecidablePred P] (h:(scanL l fun _ x=>if P x then some () else none) = none) : ¬ ∃ y∈l,P y:=by
  rintro ⟨y,hy,hp⟩
  obtain ⟨i,hi,rfl⟩:=List.mem_iff_getElem.1 hy
  have:=scanL_none h i hi
  rw [if_pos hp] at this
  cases this
set_option maxHeartbeats 1000000 in
theorem twice6_spec {S:TS} {T:Tab} {h:AH} (t:TabAt h S T):callO PX 68 [.agg S.vs.toArray] h = some (wrV (twiceW T),h):=by
  have f:=t.fits
  have n0:=f.n0
  rw [← t.zs,List.length_map] at n0
  have s0:=t.r0.len
  have s2:=t.r2.len; have n2:=f.n2
  have s3:=t.r3.len; have n3:=f.n3
  have s4:=t.r4.len; have n4:=f.n4
  have s5:=t.r5.len; have n5:=f.n5
  have e4:=from6_eq t.r4 n4
  have e5:=from6_eq t.r5 n5
  apply WpC.eqn
  refine wpc_fn (px_ext rfl) (px_fn fn_guiseref6_twice) rfl ?_
  unfold LF_guiseref6_twice
  simp only [argFr]
  unfold twiceW TS.vs
  rw [← t.zs,scanL_map]
  (refine W_x trivial ?_; (repeat' first | apply Cj.mk | exact Nl.nl) <;> intros)
  refine wp_scanF 3 S.z (fun i z=>if ∃ y∈(S.z.map (·.1)).take i,z.1.1 = y.1 then W 14 1 i else none) (by intro n; simp only [setF,push_cast,Nat.reduceEqDiff, ↓reduceIte,reduceCtorEq,Nat.reduceAdd,Nat.reduceMul,Nat.reduceLeDiff]; rfl) rfl (fun i hi hit=>?_) fun fin=>?_
  · have g0:=fun lc=>rd_mapc (lc:=lc) t.r0 hi (k:=0) (by decide)
    have gj:=fun j (hj:j < S.z.length) lc=>rd_mapc (lc:=lc) t.r0 hj (k:=0) (by decide)
    obtain ⟨L,hL⟩:∃ L,L = (S.z.map (·.1)).take i:=⟨_,rfl⟩
    have hLl:L.length = i:=by rw [hL,List.length_take,List.length_map]; omega
    have hLj:∀ j (hj:j < L.length),L[j] = (S.z[j]'(by omega)).1:=fun j hj=>by simp only [hL,List.getElem_take,List.getElem_map]
    rw [← hL] at hit ⊢
    generalize S.z[i] = z at g0 hit
    unfold scrV at g0 gj
    (refine W_x s0 ?_; (repeat' first | apply Cj.mk | exact Nl.nl) <;> intros)
    refine wp_scanF 4 L (fun _ y=>if z.1.1 = y.1 then some () else none) (by intro n; simp only [setF,push_cast,Nat.reduceEqDiff, ↓reduceIte,reduceCtorEq,Nat.reduceAdd,Nat.reduceMul,Nat.reduceLeDiff]; rfl) rfl (fun j hj hit2=>?_) fun fin2=>?_
    · have g1:=gj j (by omega)
      have hy:=List.getElem_mem hj
      rw [← hLj j hj] at g1
      generalize L[j] = y at hit2 g1 hy
      (refine W_x (Aj s0 (Aj g0 g1)) ?_; (repeat' first | apply Cj.mk | exact Nl.nl) <;> intros)
      · rename_i he
        rw [hit _ (if_pos ⟨y,hy,he⟩)]
        exact ⟨rfl,rfl⟩
      · rename_i he
        exact ⟨if_neg he,rfl,rfl,rfl⟩
    · have:=scanL_no fin2
      (refine W_x (Aj s0 hLl) ?_; (repeat' first | apply Cj.mk | exact Nl.nl) <;> intros)
      exact ⟨if_neg this,rfl,rfl,rfl⟩
  rw [fin,Option.none_or]
  (refine W_x s0 ?_; (repeat' first | apply Cj.mk | exact Nl.nl) <;> intros)
  refine wp_scanF 5 T.marks (fun i x=>if ∃ y∈T.marks.take i,x.1 = y.1 then W 14 3 i else none) (by intro n; simp only [setF,push_cast,Nat.reduceEqDiff, ↓reduceIte,reduceCtorEq,Nat.reduceAdd,Nat.reduceMul,Nat.reduceLeDiff]; rfl) rfl (fun i hi hit=>?_) fun fin=>?_
  · have g0:=fun lc=>rd_mapc (lc:=lc) t.r2 hi (k:=0) (by decide)
    have gj:=fun j (hj:j < T.marks.length) lc=>rd_mapc (lc:=lc) t.r2 hj (k:=0) (by decide)
    obtain ⟨L,hL⟩:∃ L,L = T.marks.take i:=⟨_,rfl⟩
    have hLl:L.length = i:=by rw [hL,List.length_take]; omega
    have hLj:∀ j (hj:j < L.length),L[j] = (T.marks[j]'(by omega)):=fun j hj=>by simp only [hL,List.getElem_take]
    rw [← hL] at hit ⊢
    generalize T.marks[i] = z at g0 hit
    unfold markV at g0 gj
    (refine W_x s2 ?_; (repeat' first | apply Cj.mk | exact Nl.nl) <;> intros)
    refine wp_scanF 6 L (fun _ y=>if z.1 = y.1 then some () else none) (by intro n; simp only [setF,push_cast,Nat.reduceEqDiff, ↓reduceIte,reduceCtorEq,Nat.reduceAdd,Nat.reduceMul,Nat.reduceLeDiff]; rfl) rfl (fun j hj hit2=>?_) fun fin2=>?_
    · have g1:=gj j (by omega)
      have hy:=List.getElem_mem hj
      rw [← hLj j hj] at g1
      generalize L[j] = y at hit2 g1 hy
      (refine W_x (Aj s2 (Aj g0 g1)) ?_; (repeat' first | apply Cj.mk | exact Nl.nl) <;> intros)
      · rename_i he
        rw [hit _ (if_pos ⟨y,hy,he⟩)]
        exact ⟨rfl,rfl⟩
      · rename_i he
        exact ⟨if_neg he,rfl,rfl,rfl⟩
    · have:=scanL_no fin2
      (refine W_x (Aj s2 hLl) ?_; (repeat' first | apply Cj.mk | exact Nl.nl) <;> intros)
      exact ⟨if_neg this,rfl,rfl,rfl⟩
  rw [fin,Option.none_or]
  (refine W_x s2 ?_; (repeat' first | apply Cj.mk | exact Nl.nl) <;> intros)
  refine wp_scanF 7 T.pairs (fun i x=>if ∃ y∈T.pairs.take i,x.1 = y.1∨(x.2.1 = y.2.1∧x.2.2 = y.2.2) then W 14 4 i else none) (by intro n; simp only [setF,push_cast,Nat.reduceEqDiff, ↓reduceIte,reduceCtorEq,Nat.reduceAdd,Nat.reduceMul,Nat.reduceLeDiff]; rfl) rfl (fun i hi hit=>?_) fun fin=>?_
  · have g0:=fun lc=>rd_map (lc:=lc) t.r3 hi
    have gj:=fun j (hj:j < T.pairs.length) lc=>rd_map (lc:=lc) t.r3 hj
    obtain ⟨L,hL⟩:∃ L,L = T.pairs.take i:=⟨_,rfl⟩
    have hLl:L.length = i:=by rw [hL,List.length_take]; omega
    have hLj:∀ j (hj:j < L.length),L[j] = (T.pairs[j]'(by omega)):=fun j hj=>by simp only [hL,List.getElem_take]
    rw [← hL] at hit ⊢
    generalize T.pairs[i] = z at g0 hit
    unfold tripV at g0 gj
    (refine W_x s3 ?_; (repeat' first | apply Cj.mk | exact Nl.nl) <;> intros)
    refine wp_scanF 8 L (fun _ y=>if z.1 = y.1∨(z.2.1 = y.2.1∧z.2.2 = y.2.2) then some () else none) (by intro n; simp only [setF,push_cast,Nat.reduceEqDiff, ↓reduceIte,reduceCtorEq,Nat.reduceAdd,Nat.reduceMul,Nat.reduceLeDiff]; rfl) rfl (fun j hj hit2=>?_) fun fin2=>?_
    · have g1:=gj j (by omega)
      have hy:=List.getElem_mem hj
      rw [← hLj j hj] at g1
      generalize L[j] = y at hit2 g1 hy
      (refine W_x (Aj s3 (Aj g0 g1)) ?_; (repeat' first | apply Cj.mk | exact Nl.nl) <;> intros)
      · rw [hit _ (if_pos ⟨y,hy,by omega⟩)]
        exact ⟨rfl,rfl⟩
      · rw [hit _ (if_pos ⟨y,hy,by omega⟩)]
        exact ⟨rfl,rfl⟩
      all_goals exact ⟨if_neg (by omega),rfl,rfl,rfl⟩
    · have:=scanL_no fin2
      (refine W_x (Aj s3 hLl) ?_; (repeat' first | apply Cj.mk | exact Nl.nl) <;> intros)
      exact ⟨if_neg this,rfl,rfl,rfl⟩
  rw [fin,Option.none_or]
  (refine W_x s3 ?_; (repeat' first | apply Cj.mk | exact Nl.nl) <;> intros)
  refine wp_scanF 11 T.folds (fun i x=>if ixI (fromO T.folds x.1) < i then W 14 5 i else none) (by intro n; simp only [setF,push_cast,Nat.reduceEqDiff, ↓reduceIte,reduceCtorEq,Nat.reduceAdd,Nat.reduceMul,Nat.reduceLeDiff]; rfl) rfl (fun i hi hit=>?_) fun fin=>?_
  · have g0:=fun lc=>rd_mapc (lc:=lc) t.r4 hi (k:=0) (by decide)
    generalize T.folds[i] = x at g0 hit
    unfold mapV at g0
    (refine W_x (Aj s4 (Aj g0 e4)) ?_; (repeat' first | apply Cj.mk | exact Nl.nl) <;> intros)
    · rw [hit _ (if_pos (by omega))]
      exact ⟨rfl,rfl⟩
    · exact ⟨if_neg (by omega),rfl,rfl,rfl⟩
  rw [fin,Option.none_or]
  (refine W_x s4 ?_; (repeat' first | apply Cj.mk | exact Nl.nl) <;> intros)
  refine wp_scanF 12 T.looks (fun i x=>if ixI (fromO T.looks x.1) < i then W 14 6 i else none) (by intro n; simp only [setF,push_cast,Nat.reduceEqDiff, ↓reduceIte,reduceCtorEq,Nat.reduceAdd,Nat.reduceMul,Nat.reduceLeDiff]; rfl) rfl (fun i hi hit=>?_) fun fin=>?_
  · have g0:=fun lc=>rd_mapc (lc:=lc) t.r5 hi (k:=0) (by decide)
    generalize T.looks[i] = x at g0 hit
    unfold mapV at g0
    (refine W_x (Aj s5 (Aj g0 e5)) ?_; (repeat' first | apply Cj.mk | exact Nl.nl) <;> intros)
    · rw [hit _ (if_pos (by omega))]
      exact ⟨rfl,rfl⟩
    · exact ⟨if_neg (by omega),rfl,rfl,rfl⟩
  rw [fin]
  (refine W_x s5 ?_; (repeat' first | apply Cj.mk | exact Nl.nl) <;> intros)
  exact ⟨rfl,rfl⟩
theorem wholeO_lt {T:Tab} {r:Int} {j:Nat} (h:wholeO T r = some j):∃ hj:j < T.pairs.length,(T.pairs[j]).1 = r:=by
  obtain ⟨i,hi,hw⟩:=scanL_some h
  split at hw
  · rename_i he
    injection hw with hw
    subst hw
    exact ⟨hi,he⟩
  · cases hw
theorem chain6_eq {S:TS} {T:Tab} {h:AH} (t:TabAt h S T) (i:Nat) (hi:i < T.pairs.length):callO PX 120 [.agg S.vs.toArray,.int .i64 i] h = some (.int .i64 (chainN T T.pairs.length 1 (T.pairs[i]).2.1),h):=by
  have s3:=t.r3.len; have n3:=t.fits.n3
  have e1:=whole6_eq t
  apply WpC.eqn
  refine wpc_fn (px_ext rfl) (px_fn fn_guiseref6_chain) rfl ?_
  unfold LF_guiseref6_chain
  simp only [argFr]
  unfold TS.vs
  unfold TS.vs at e1
  (refine W_x trivial ?_; (repeat' first | apply Cj.mk | exact Nl.nl) <;> intros)
  refine wp_loop (fun w fr lc h1 => ∃ (n j:Nat) (hj:j < T.pairs.length),w = T.pairs.length + 1 - n∧1≤n∧n≤T.pairs.length + 1∧chainN T T.pairs.length 1 (T.pairs[i]).2.1 = chainN T (T.pairs.length + 1 - n) n (T.pairs[j]).2.1∧h1 = h ∧
      fr = [(1,.int .i64 j),(2,.pointer (some ⟨4,0,some 1⟩)),(5,.int .i64 n)]∧lc = [(4,.cells false [S.s0.val 2,S.s1.val 2,S.s2.val 2,S.s3.val 3,S.s4.val 2,S.s5.val 2,S.s6.val 2,S.s7.val 2])]) T.pairs.length
    ⟨1,i,hi,by omega,Nat.le_refl _,by omega,by rw [Nat.add_sub_cancel],rfl,rfl,rfl⟩ ?_
  rintro w fr lc h1 ⟨n,j,hj,rfl,hn1,hn2,he,rfl,rfl,rfl⟩
  have g0:=fun lc=>rd_mapc (lc:=lc) t.r3 hj (k:=1) (by decide)
  rcases Nat.lt_or_ge T.pairs.length n with hn | hn
  · rw [show T.pairs.length + 1 - n = 0 by omega] at he
    (refine W_x s3 ?_; (repeat' first | apply Cj.mk | exact Nl.nl) <;> intros)
    exact ⟨by rw [he]; rfl,rfl⟩
  · obtain ⟨k,hk⟩:∃ k,T.pairs.length + 1 - n = k + 1:=⟨T.pairs.length - n,by omega⟩
    rw [hk] at he
    simp only [chainN] at he
    generalize T.pairs[j] = x at g0 he
    unfold tripV at g0
    have e2:=e1 x.2.1
    have hlt:=fun k=>wholeO_lt (T:=T) (r:=x.2.1) (j:=k)
    generalize wholeO T x.2.1 = o at e2 he hlt
    cases o with
    | none =>
      simp only [ixI] at e2
      (refine W_x (Aj s3 (Aj g0 e2)) ?_; (repeat' first | apply Cj.mk | exact Nl.nl) <;> intros)
      exact ⟨by rw [he],rfl⟩
    | some m =>
      obtain ⟨hm,_⟩:=hlt m rfl
      simp only [ixI,List.getD_eq_getElem?_getD,List.getElem?_eq_getElem hm,Option.getD_some] at e2 he
      (refine W_x (Aj s3 (Aj g0 e2)) ?_; (repeat' first | apply Cj.mk | exact Nl.nl) <;> intros)
      exact ⟨_,by omega,n + 1,m,hm,rfl,by omega,by omega,by rw [he,show T.pairs.length + 1 - (n + 1) = k by omega],rfl,by simp only [Int.natCast_add]; rfl,rfl⟩
theorem pairs6_eq {S:TS} {T:Tab} {h:AH} (t:TabAt h S T):callO PX 69 [.agg S.vs.toArray] h = some (wrV ((pairsW T).or (chainsW T)),h):=by
  have s3:=t.r3.len; have n3:=t.fits.n3
  have e1:=mark6_eq t
  have e2:=chain6_eq t
  apply WpC.eqn
  refine wpc_fn (px_ext rfl) (px_fn fn_guiseref6_pairs) rfl ?_
  unfold LF_guiseref6_pairs
  simp only [argFr]
  unfold pairsW chainsW TS.vs
  unfold TS.vs at e1 e2
  (refine W_x trivial ?_; (repeat' first | apply Cj.mk | exact Nl.nl) <;> intros)
  refine wp_scanF 3 T.pairs (fun i x=>if isMark T x.1 = true∨isMark T x.2.1 = true∨isMark T x.2.2 = false then W 32 4 i else none) (by intro n; simp only [setF,push_cast,Nat.reduceEqDiff, ↓reduceIte,reduceCtorEq,Nat.reduceAdd,Nat.reduceMul,Nat.reduceLeDiff]; rfl) rfl (fun i hi hit=>?_) fun fin=>?_
  · have g0:=fun lc=>rd_mapc (lc:=lc) t.r3 hi (k:=0) (by decide)
    have g1:=fun lc=>rd_mapc (lc:=lc) t.r3 hi (k:=1) (by decide)
    have g2:=fun lc=>rd_mapc (lc:=lc) t.r3 hi (k:=2) (by decide)
    generalize T.pairs[i] = x at g0 g1 g2 hit
    unfold tripV at g0 g1 g2
    have e3:=e1 x.1
    have e4:=e1 x.2.1
    have e5:=e1 x.2.2
    generalize isMark T x.1 = b1 at e3 hit
    generalize isMark T x.2.1 = b2 at e4 hit
    generalize isMark T x.2.2 = b3 at e5 hit
    cases b1
    · cases b2
      · cases b3
        · rw [hit _ (if_pos (.inr (.inr rfl)))]
          (refine W_x (Aj s3 (Aj g0 (Aj g1 (Aj g2 (Aj e3 (Aj e4 e5)))))) ?_; (repeat' first | apply Cj.mk | exact Nl.nl) <;> intros)
          exact ⟨rfl,rfl⟩
        · (refine W_x (Aj s3 (Aj g0 (Aj g1 (Aj g2 (Aj e3 (Aj e4 e5)))))) ?_; (repeat' first | apply Cj.mk | exact Nl.nl) <;> intros)
          exact ⟨if_neg (by simp),rfl,rfl,rfl⟩
      · rw [hit _ (if_pos (.inr (.inl rfl)))]
        (refine W_x (Aj s3 (Aj g0 (Aj g1 (Aj e3 e4)))) ?_; (repeat' first | apply Cj.mk | exact Nl.nl) <;> intros)
        exact ⟨rfl,rfl⟩
    · rw [hit _ (if_pos (.inl rfl))]
      (refine W_x (Aj s3 (Aj g0 e3)) ?_; (repeat' first | apply Cj.mk | exact Nl.nl) <;> intros)
      exact ⟨rfl,rfl⟩
  rw [fin,Option.none_or]
  (refine W_x s3 ?_; (repeat' first | apply Cj.mk | exact Nl.nl) <;> intros)
  refine wp_scanF 4 T.pairs (fun i x=>if chainN T T.pairs.length 1 x.2.1 < 0 then W 33 4 i else if 4 < chainN T T.pairs.length 1 x.2.1 then W 34 4 i else none) (by intro n; simp only [setF,push_cast,Nat.reduceEqDiff, ↓reduceIte,reduceCtorEq,Nat.reduceAdd,Nat.reduceMul,Nat.reduceLeDiff]; rfl) rfl (fun i hi hit=>?_) fun fin=>?_
  · have e3:=e2 i hi
    generalize T.pairs[i] = x at hit e3
    (refine W_x (Aj s3 e3) ?_; (repeat' first | apply Cj.mk | exact Nl.nl) <;> intros)
    · rw [hit _ (if_pos (by omega))]
      exact ⟨rfl,rfl⟩
    · rw [if_neg (by omega),if_pos (by omega)] at hit
      rw [hit _ rfl]
      exact ⟨rfl,rfl⟩
    · exact ⟨by rw [if_neg (by omega),if_neg (by omega)],rfl,rfl,rfl⟩
  rw [fin]
  (refine W_x s3 ?_; (repeat' first | apply Cj.mk | exact Nl.nl) <;> intros)
  exact ⟨rfl,rfl⟩
end Go.Proofs.YtakmapoompffgaaGreatDoor.AM
namespace Go.Proofs.YtakmapoompffgaaGreatDoor.AM
open Go
theorem drops6_eq {S:TS} {T:Tab} {h:AH} (t:TabAt h S T):callO PX 70 [.agg S.vs.toArray] h = some (wrV (dropsW T),h):=by
  have f:=t.fits
  have s2:=t.r2.len; have n2:=f.n2
  have s3:=t.r3.len; have n3:=f.n3
  have s4:=t.r4.len; have n4:=f.n4
  have s5:=t.r5.len; have n5:=f.n5
  have e0:=fun r=>of6_eq t.r6 f.n6 (r:=r)
  apply WpC.eqn
  refine wpc_fn (px_ext rfl) (px_fn fn_guiseref6_drops) rfl ?_
  unfold LF_guiseref6_drops
  simp only [argFr]
  unfold dropsW TS.vs
  (refine W_x trivial ?_; (repeat' first | apply Cj.mk | exact Nl.nl) <;> intros)
  refine wp_scanF 3 T.marks (fun i x=>if ofI x.1 T.drops = true then W 37 3 i else none) (by intro n; simp only [setF,push_cast,Nat.reduceEqDiff, ↓reduceIte,reduceCtorEq,Nat.reduceAdd,Nat.reduceMul,Nat.reduceLeDiff]; rfl) rfl (fun i hi hit=>?_) fun fin=>?_
  · have g0:=fun lc=>rd_mapc (lc:=lc) t.r2 hi (k:=0) (by decide)
    generalize T.marks[i] = x at g0 hit
    unfold markV at g0
    have e1:=e0 x.1
    generalize ofI x.1 T.drops = b at e1 hit
    cases b
    · (refine W_x (Aj s2 (Aj g0 e1)) ?_; (repeat' first | apply Cj.mk | exact Nl.nl) <;> intros)
      exact ⟨rfl,rfl,rfl,rfl⟩
    · rw [hit _ (if_pos rfl)]
      (refine W_x (Aj s2 (Aj g0 e1)) ?_; (repeat' first | apply Cj.mk | exact Nl.nl) <;> intros)
      exact ⟨rfl,rfl⟩
  rw [fin,Option.none_or]
  (refine W_x s2 ?_; (repeat' first | apply Cj.mk | exact Nl.nl) <;> intros)
  refine wp_scanF 4 T.pairs (fun i x=>if ofI x.1 T.drops = true∨ofI x.2.1 T.drops = true∨ofI x.2.2 T.drops = true then W 37 4 i else none) (by intro n; simp only [setF,push_cast,Nat.reduceEqDiff, ↓reduceIte,reduceCtorEq,Nat.reduceAdd,Nat.reduceMul,Nat.reduceLeDiff]; rfl) rfl (fun i hi hit=>?_) fun fin=>?_
  · have g0:=fun lc=>rd_mapc (lc:=lc) t.r3 hi (k:=0) (by decide)
    have g1:=fun lc=>rd_mapc (lc:=lc) t.r3 hi (k:=1) (by decide)
    have g2:=fun lc=>rd_mapc (lc:=lc) t.r3 hi (k:=2) (by decide)
    generalize T.pairs[i] = x at g0 g1 g2 hit
    unfold tripV at g0 g1 g2
    have e1:=e0 x.1
    have e2:=e0 x.2.1
    have e3:=e0 x.2.2
    generalize ofI x.1 T.drops = b1 at e1 hit
    generalize ofI x.2.1 T.drops = b2 at e2 hit
    generalize ofI x.2.2 T.drops = b3 at e3 hit
    cases b1
    · cases b2
      · cases b3
        · (refine W_x (Aj s3 (Aj g0 (Aj g1 (Aj g2 (Aj e1 (Aj e2 e3)))))) ?_; (repeat' first | apply Cj.mk | exact Nl.nl) <;> intros)
          exact ⟨if_neg (by simp),rfl,rfl,rfl⟩
        · rw [hit _ (if_pos (.inr (.inr rfl)))]
          (refine W_x (Aj s3 (Aj g0 (Aj g1 (Aj g2 (Aj e1 (Aj e2 e3)))))) ?_; (repeat' first | apply Cj.mk | exact Nl.nl) <;> intros)
          exact ⟨rfl,rfl⟩
      · rw [hit _ (if_pos (.inr (.inl rfl)))]
        (refine W_x (Aj s3 (Aj g0 (Aj g1 (Aj e1 e2)))) ?_; (repeat' first | apply Cj.mk | exact Nl.nl) <;> intros)
        exact ⟨rfl,rfl⟩
    · rw [hit _ (if_pos (.inl rfl))]
      (refine W_x (Aj s3 (Aj g0 e1)) ?_; (repeat' first | apply Cj.mk | exact Nl.nl) <;> intros)
      exact ⟨rfl,rfl⟩
  rw [fin,Option.none_or]
  (refine W_x s3 ?_; (repeat' first | apply Cj.mk | exact Nl.nl) <;> intros)
  refine wp_scanF 5 T.folds (fun i x=>if ofI x.1 T.drops = true then W 37 5 i else none) (by intro n; simp only [setF,push_cast,Nat.reduceEqDiff, ↓reduceIte,reduceCtorEq,Nat.reduceAdd,Nat.reduceMul,Nat.reduceLeDiff]; rfl) rfl (fun i hi hit=>?_) fun fin=>?_
  · have g0:=fun lc=>rd_mapc (lc:=lc) t.r4 hi (k:=0) (by decide)
    generalize T.folds[i] = x at g0 hit
    unfold mapV at g0
    have e1:=e0 x.1
    generalize ofI x.1 T.drops = b at e1 hit
    cases b
    · (refine W_x (Aj s4 (Aj g0 e1)) ?_; (repeat' first | apply Cj.mk | exact Nl.nl) <;> intros)
      exact ⟨rfl,rfl,rfl,rfl⟩
    · rw [hit _ (if_pos rfl)]
      (refine W_x (Aj s4 (Aj g0 e1)) ?_; (repeat' first | apply Cj.mk | exact Nl.nl) <;> intros)
      exact ⟨rfl,rfl⟩
  rw [fin,Option.none_or]
  (refine W_x s4 ?_; (repeat' first | apply Cj.mk | exact Nl.nl) <;> intros)
  refine wp_scanF 6 T.looks (fun i x=>if ofI x.1 T.drops = true then W 37 6 i else none) (by intro n; simp only [setF,push_cast,Nat.reduceEqDiff, ↓reduceIte,reduceCtorEq,Nat.reduceAdd,Nat.reduceMul,Nat.reduceLeDiff]; rfl) rfl (fun i hi hit=>?_) fun fin=>?_
  · have g0:=fun lc=>rd_mapc (lc:=lc) t.r5 hi (k:=0) (by decide)
    generalize T.looks[i] = x at g0 hit
    unfold mapV at g0
    have e1:=e0 x.1
    generalize ofI x.1 T.drops = b at e1 hit
    cases b
    · (refine W_x (Aj s5 (Aj g0 e1)) ?_; (repeat' first | apply Cj.mk | exact Nl.nl) <;> intros)
      exact ⟨rfl,rfl,rfl,rfl⟩
    · rw [hit _ (if_pos rfl)]
      (refine W_x (Aj s5 (Aj g0 e1)) ?_; (repeat' first | apply Cj.mk | exact Nl.nl) <;> intros)
      exact ⟨rfl,rfl⟩
  rw [fin]
  (refine W_x s5 ?_; (repeat' first | apply Cj.mk | exact Nl.nl) <;> intros)
  exact ⟨rfl,rfl⟩
theorem ixI_pos {o:Option Nat}:(0≤ixI o)↔o.isSome = true:=by cases o <;> simp [ixI]
set_option maxHeartbeats 1000000 in
theorem tos6_spec {S:TS} {T:Tab} {h:AH} (t:TabAt h S T):WpC PX 71 [.agg S.vs.toArray] h fun v h'=>v = wrV ((fromsW T).or (tosW T))∧Kp h h':=by
  have f:=t.fits
  have s4:=t.r4.len; have n4:=f.n4
  have s5:=t.r5.len; have n5:=f.n5
  have e1:=mark6_eq t
  have e2:=whole6_eq t
  have i2:=fun r=>ixI_pos (o:=wholeO T r)
  have ep:=fun h' (k:Kp h h')=>plain6_eq (t.kp k)
  have ef:=fun h' (k:Kp h h')=>from6_eq (t.kp k).r5 n5
  refine wpc_fn (px_ext rfl) (px_fn fn_guiseref6_tos) rfl ?_
  unfold LF_guiseref6_tos
  simp only [argFr]
  unfold fromsW tosW TS.vs
  unfold TS.vs at e1 e2 ep
  rw [Option.or_assoc]
  (refine W_x trivial ?_; (repeat' first | apply Cj.mk | exact Nl.nl) <;> intros)
  refine wp_scanF 3 T.folds (fun i x=>if isMark T x.1 = true∨(wholeO T x.1).isSome = true then W 31 5 i else none) (by intro n; simp only [setF,push_cast,Nat.reduceEqDiff, ↓reduceIte,reduceCtorEq,Nat.reduceAdd,Nat.reduceMul,Nat.reduceLeDiff]; rfl) rfl (fun i hi hit=>?_) fun fin=>?_
  · have g0:=fun lc=>rd_mapc (lc:=lc) t.r4 hi (k:=0) (by decide)
    generalize T.folds[i] = x at g0 hit
    unfold mapV at g0
    have e3:=e1 x.1
    have i3:=i2 x.1
    generalize isMark T x.1 = b at e3 hit
    cases b
    · (refine W_x (Aj s4 (Aj g0 (Aj e3 e2))) ?_; (repeat' first | apply Cj.mk | exact Nl.nl) <;> intros)
      · rw [hit _ (if_pos (.inr (i3.1 (by omega))))]
        exact ⟨rfl,Kp.refl h⟩
      · rename_i hn
        exact ⟨if_neg (fun q=>q.elim (by simp) fun q=>hn (i3.2 q)),rfl,rfl,rfl⟩
    · rw [hit _ (if_pos (.inl rfl))]
      (refine W_x (Aj s4 (Aj g0 e3)) ?_; (repeat' first | apply Cj.mk | exact Nl.nl) <;> intros)
      exact ⟨rfl,Kp.refl h⟩
  rw [fin,Option.none_or]
  (refine W_x s4 ?_; (repeat' first | apply Cj.mk | exact Nl.nl) <;> intros)
  refine wp_scanF 4 T.looks (fun i x=>if isMark T x.1 = true∨(wholeO T x.1).isSome = true then W 31 6 i else none) (by intro n; simp only [setF,push_cast,Nat.reduceEqDiff, ↓reduceIte,reduceCtorEq,Nat.reduceAdd,Nat.reduceMul,Nat.reduceLeDiff]; rfl) rfl (fun i hi hit=>?_) fun fin=>?_
  · have g0:=fun lc=>rd_mapc (lc:=lc) t.r5 hi (k:=0) (by decide)
    generalize T.looks[i] = x at g0 hit
    unfold mapV at g0
    have e3:=e1 x.1
    have i3:=i2 x.1
    generalize isMark T x.1 = b at e3 hit
    cases b
    · (refine W_x (Aj s5 (Aj g0 (Aj e3 e2))) ?_; (repeat' first | apply Cj.mk | exact Nl.nl) <;> intros)
      · rw [hit _ (if_pos (.inr (i3.1 (by omega))))]
        exact ⟨rfl,Kp.refl h⟩
      · rename_i hn
        exact ⟨if_neg (fun q=>q.elim (by simp) fun q=>hn (i3.2 q)),rfl,rfl,rfl⟩
    · rw [hit _ (if_pos (.inl rfl))]
      (refine W_x (Aj s5 (Aj g0 e3)) ?_; (repeat' first | apply Cj.mk | exact Nl.nl) <;> intros)
      exact ⟨rfl,Kp.refl h⟩
  rw [fin,Option.none_or]
  (refine W_x s5 ?_; (repeat' first | apply Cj.mk | exact Nl.nl) <;> intros)
  refine wp_scanH (Kp h) 5 T.folds (fun i x=>if ∃ c∈(rnO x.2).getD [],plainI T (c:Nat) = false then W 35 5 i else none) (by intro n; simp only [setF,push_cast,Nat.reduceEqDiff, ↓reduceIte,reduceCtorEq,Nat.reduceAdd,Nat.reduceMul,Nat.reduceLeDiff]; rfl) rfl (Kp.refl h) (fun i hi h1 kp hit=>?_) fun h1 kp fin=>?_
  · have g1:=fun lc=>rd_mapc (lc:=lc) (t.r4.kp kp) hi (k:=1) (by decide)
    have hx:=f.v4 _ (List.getElem_mem hi)
    generalize T.folds[i] = x at g1 hit hx
    unfold mapV at g1
    obtain ⟨v,h2,e3,sr,rfl,fo⟩:=runes6_spec x.2 h1 hx.2
    have hlr:((rnO x.2).getD []).length≤x.2.size:=by
      unfold rnO
      split
      · exact (List.length_map ..).symm ▸ spots_len _
      · exact Nat.zero_le _
    have k2:=kp.trans fo.kp
    have ep:=ep h2 k2
    generalize (rnO x.2).getD [] = R at fo hlr hit ⊢
    have hs:=fo.reads.len
    (refine W_x (Aj s4 (Aj g1 e3)) ?_; (repeat' first | apply Cj.mk | exact Nl.nl) <;> intros)
    refine wp_scanF 8 R (fun _ c=>if plainI T (c:Nat) = false then some () else none) (by intro n; simp only [setF,push_cast,Nat.reduceEqDiff, ↓reduceIte,reduceCtorEq,Nat.reduceAdd,Nat.reduceMul,Nat.reduceLeDiff]; rfl) rfl (fun j hj hit2=>?_) fun fin2=>?_
    · have g2:=fun lc=>rd_map (lc:=lc) fo.reads hj
      have hm:=List.getElem_mem hj
      generalize R[j] = c at g2 hit2 hm
      unfold rnV at g2
      have ep:=ep (c:Nat)
      cases hb:plainI T (c:Nat)
      · rw [hb] at ep
        rw [hit _ (if_pos ⟨c,hm,hb⟩)]
        (refine W_x (Aj hs (Aj g2 ep)) ?_; (repeat' first | apply Cj.mk | exact Nl.nl) <;> intros)
        exact ⟨rfl,k2⟩
      · rw [hb] at ep
        (refine W_x (Aj hs (Aj g2 ep)) ?_; (repeat' first | apply Cj.mk | exact Nl.nl) <;> intros)
        exact ⟨rfl,rfl,rfl,rfl⟩
    · have:=scanL_no fin2
      (refine W_x hs ?_; (repeat' first | apply Cj.mk | exact Nl.nl) <;> intros)
      exact ⟨if_neg this,rfl,rfl,k2⟩
  rw [fin,Option.none_or]
  (refine W_x s4 ?_; (repeat' first | apply Cj.mk | exact Nl.nl) <;> intros)
  refine wp_scanH (Kp h) 9 T.looks (fun i x=>if ∃ c∈(rnO x.2).getD [],plainI T (c:Nat) = false∨(fromO T.looks (c:Nat)).isSome = true then W 36 6 i else none) (by intro n; simp only [setF,push_cast,Nat.reduceEqDiff, ↓reduceIte,reduceCtorEq,Nat.reduceAdd,Nat.reduceMul,Nat.reduceLeDiff]; rfl) rfl kp (fun i hi h1 kp hit=>?_) fun h1 kp fin=>?_
  · have g1:=fun lc=>rd_mapc (lc:=lc) (t.r5.kp kp) hi (k:=1) (by decide)
    have hx:=f.v5 _ (List.getElem_mem hi)
    generalize T.looks[i] = x at g1 hit hx
    unfold mapV at g1
    obtain ⟨v,h2,e3,sr,rfl,fo⟩:=runes6_spec x.2 h1 hx.2
    have hlr:((rnO x.2).getD []).length≤x.2.size:=by
      unfold rnO
      split
      · exact (List.length_map ..).symm ▸ spots_len _
      · exact Nat.zero_le _
    have k2:=kp.trans fo.kp
    have ep:=ep h2 k2
    have ef:=ef h2 k2
    generalize (rnO x.2).getD [] = R at fo hlr hit ⊢
    have hs:=fo.reads.len
    (refine W_x (Aj s5 (Aj g1 e3)) ?_; (repeat' first | apply Cj.mk | exact Nl.nl) <;> intros)
    refine wp_scanF 12 R (fun _ c=>if plainI T (c:Nat) = false∨(fromO T.looks (c:Nat)).isSome = true then some () else none) (by intro n; simp only [setF,push_cast,Nat.reduceEqDiff, ↓reduceIte,reduceCtorEq,Nat.reduceAdd,Nat.reduceMul,Nat.reduceLeDiff]; rfl) rfl (fun j hj hit2=>?_) fun fin2=>?_
    · have g2:=fun lc=>rd_map (lc:=lc) fo.reads hj
      have hm:=List.getElem_mem hj
      generalize R[j] = c at g2 hit2 hm
      unfold rnV at g2
      have ep:=ep (c:Nat)
      have ef:=ef (c:Nat)
      have i3:=ixI_pos (o:=fromO T.looks (c:Nat))
      cases hb:plainI T (c:Nat)
      · rw [hb] at ep
        rw [hit _ (if_pos ⟨c,hm,.inl hb⟩)]
        (refine W_x (Aj hs (Aj g2 ep)) ?_; (repeat' first | apply Cj.mk | exact Nl.nl) <;> intros)
        exact ⟨rfl,k2⟩
      · rw [hb] at ep
        (refine W_x (Aj hs (Aj g2 (Aj ep ef))) ?_; (repeat' first | apply Cj.mk | exact Nl.nl) <;> intros)
        · rw [hit _ (if_pos ⟨c,hm,.inr (i3.1 (by omega))⟩)]
          exact ⟨rfl,k2⟩
        · rename_i hn
          exact ⟨if_neg (fun q=>q.elim (by simp) fun q=>hn (i3.2 q)),rfl,rfl,rfl⟩
    · have:=scanL_no fin2
      (refine W_x hs ?_; (repeat' first | apply Cj.mk | exact Nl.nl) <;> intros)
      exact ⟨if_neg this,rfl,rfl,k2⟩
  rw [fin]
  (refine W_x s5 ?_; (repeat' first | apply Cj.mk | exact Nl.nl) <;> intros)
  exact ⟨rfl,kp⟩
end Go.Proofs.YtakmapoompffgaaGreatDoor.AM
namespace Go.Proofs.YtakmapoompffgaaGreatDoor.AM
open Go
set_option maxHeartbeats 1000000 in
theorem rows6_spec {S:TS} {T:Tab} {h:AH} (t:TabAt h S T):WpC PX 124 [.agg S.vs.toArray] h fun v h'=>v = wrV (rowsW T)∧Kp h h':=by
  have f:=t.fits
  have s2:=t.r2.len; have n2:=f.n2
  have s3:=t.r3.len; have n3:=f.n3
  have s4:=t.r4.len; have n4:=f.n4
  have s5:=t.r5.len; have n5:=f.n5
  have e0:=fun r=>of6_eq t.r1 f.n1 (r:=r)
  have e1:=low6_eq
  have e2:=set6_eq
  refine wpc_fn (px_ext rfl) (px_fn fn_guiseref6_rows) rfl ?_
  unfold LF_guiseref6_rows
  simp only [argFr]
  unfold rowsW TS.vs
  (refine W_x trivial ?_; (repeat' first | apply Cj.mk | exact Nl.nl) <;> intros)
  refine wp_scanN .i32 45 13 3 (fun i=>if i≠2∧ofI ((45 + i:Nat):Int) T.common = false then W 5 2 0 else none) (by intro n; simp only [setF,push_cast,Nat.reduceEqDiff, ↓reduceIte,reduceCtorEq,Nat.reduceAdd,Nat.reduceMul,Nat.reduceLeDiff]; rfl) rfl (fun i hi hit=>?_) fun fin=>?_
  · have e3:=e0 (45 + (i:Int))
    have hc:((45 + i:Nat):Int) = 45 + (i:Int):=by omega
    rw [hc] at hit ⊢
    generalize ofI (45 + (i:Int)) T.common = b at e3 hit
    by_cases h2:i = 2
    · (refine W_x trivial ?_; (repeat' first | apply Cj.mk | exact Nl.nl) <;> intros)
      exact ⟨if_neg (fun q=>q.1 h2),rfl,rfl,rfl⟩
    · cases b
      · rw [hit _ (if_pos ⟨h2,rfl⟩)]
        (refine W_x e3 ?_; (repeat' first | apply Cj.mk | exact Nl.nl) <;> intros)
        exact ⟨rfl,Kp.refl h⟩
      · (refine W_x e3 ?_; (repeat' first | apply Cj.mk | exact Nl.nl) <;> intros)
        exact ⟨if_neg (by simp),rfl,rfl,rfl⟩
  rw [fin,Option.none_or]
  (refine W_x trivial ?_; (repeat' first | apply Cj.mk | exact Nl.nl) <;> intros)
  refine wp_scanF 4 T.marks (fun i x=>if lowI x.1 = true then W 5 3 i else none) (by intro n; simp only [setF,push_cast,Nat.reduceEqDiff, ↓reduceIte,reduceCtorEq,Nat.reduceAdd,Nat.reduceMul,Nat.reduceLeDiff]; rfl) rfl (fun i hi hit=>?_) fun fin=>?_
  · have g0:=fun lc=>rd_mapc (lc:=lc) t.r2 hi (k:=0) (by decide)
    generalize T.marks[i] = x at g0 hit
    unfold markV at g0
    have e3:=e1 x.1
    generalize lowI x.1 = b at e3 hit
    cases b
    · (refine W_x (Aj s2 (Aj g0 e3)) ?_; (repeat' first | apply Cj.mk | exact Nl.nl) <;> intros)
      exact ⟨rfl,rfl,rfl,rfl⟩
    · rw [hit _ (if_pos rfl)]
      (refine W_x (Aj s2 (Aj g0 e3)) ?_; (repeat' first | apply Cj.mk | exact Nl.nl) <;> intros)
      exact ⟨rfl,Kp.refl h⟩
  rw [fin,Option.none_or]
  (refine W_x s2 ?_; (repeat' first | apply Cj.mk | exact Nl.nl) <;> intros)
  refine wp_scanF 5 T.pairs (fun i x=>if lowI x.1 = true then W 5 4 i else none) (by intro n; simp only [setF,push_cast,Nat.reduceEqDiff, ↓reduceIte,reduceCtorEq,Nat.reduceAdd,Nat.reduceMul,Nat.reduceLeDiff]; rfl) rfl (fun i hi hit=>?_) fun fin=>?_
  · have g0:=fun lc=>rd_mapc (lc:=lc) t.r3 hi (k:=0) (by decide)
    generalize T.pairs[i] = x at g0 hit
    unfold tripV at g0
    have e3:=e1 x.1
    generalize lowI x.1 = b at e3 hit
    cases b
    · (refine W_x (Aj s3 (Aj g0 e3)) ?_; (repeat' first | apply Cj.mk | exact Nl.nl) <;> intros)
      exact ⟨rfl,rfl,rfl,rfl⟩
    · rw [hit _ (if_pos rfl)]
      (refine W_x (Aj s3 (Aj g0 e3)) ?_; (repeat' first | apply Cj.mk | exact Nl.nl) <;> intros)
      exact ⟨rfl,Kp.refl h⟩
  rw [fin,Option.none_or]
  (refine W_x s3 ?_; (repeat' first | apply Cj.mk | exact Nl.nl) <;> intros)
  refine wp_scanH (Kp h) 6 T.folds (fun i x=>if (lowI x.1 = true∧(x.1 < 65∨90 < x.1))∨setsB x.2 = true then W 5 5 i else none) (by intro n; simp only [setF,push_cast,Nat.reduceEqDiff, ↓reduceIte,reduceCtorEq,Nat.reduceAdd,Nat.reduceMul,Nat.reduceLeDiff]; rfl) rfl (Kp.refl h) (fun i hi h1 kp hit=>?_) fun h1 kp fin=>?_
  · have g0:=fun lc=>rd_mapc (lc:=lc) (t.r4.kp kp) hi (k:=0) (by decide)
    have g1:=fun lc=>rd_mapc (lc:=lc) (t.r4.kp kp) hi (k:=1) (by decide)
    have hx:=f.v4 _ (List.getElem_mem hi)
    generalize T.folds[i] = x at g0 g1 hit hx
    unfold mapV at g0 g1
    obtain ⟨v,h2,e4,rfl,k2⟩:=sets6_spec x.2 h1 hx.2
    have k2:=kp.trans k2
    have e3:=e1 x.1
    generalize lowI x.1 = b at e3 hit
    generalize setsB x.2 = b2 at e4 hit
    cases b
    · cases b2
      · (refine W_x (Aj s4 (Aj g0 (Aj g1 (Aj e3 e4)))) ?_; (repeat' first | apply Cj.mk | exact Nl.nl) <;> intros)
        exact ⟨if_neg (by simp),rfl,rfl,k2⟩
      · rw [hit _ (if_pos (.inr rfl))]
        (refine W_x (Aj s4 (Aj g0 (Aj g1 (Aj e3 e4)))) ?_; (repeat' first | apply Cj.mk | exact Nl.nl) <;> intros)
        exact ⟨rfl,k2⟩
    · cases b2
      · (refine W_x (Aj s4 (Aj g0 (Aj g1 (Aj e3 e4)))) ?_; (repeat' first | apply Cj.mk | exact Nl.nl) <;> intros)
        · rw [hit _ (if_pos (.inl ⟨rfl,by omega⟩))]
          exact ⟨rfl,kp⟩
        · rw [hit _ (if_pos (.inl ⟨rfl,by omega⟩))]
          exact ⟨rfl,kp⟩
        · exact ⟨if_neg (by simp; omega),rfl,rfl,k2⟩
      · rw [hit _ (if_pos (.inr rfl))]
        (refine W_x (Aj s4 (Aj g0 (Aj g1 (Aj e3 e4)))) ?_; (repeat' first | apply Cj.mk | exact Nl.nl) <;> intros)
        · exact ⟨rfl,kp⟩
        · exact ⟨rfl,kp⟩
        · exact ⟨rfl,k2⟩
  rw [fin,Option.none_or]
  (refine W_x s4 ?_; (repeat' first | apply Cj.mk | exact Nl.nl) <;> intros)
  refine wp_scanH (Kp h) 8 T.looks (fun i x=>if setI x.1 = true∨setsB x.2 = true then W 5 6 i else none) (by intro n; simp only [setF,push_cast,Nat.reduceEqDiff, ↓reduceIte,reduceCtorEq,Nat.reduceAdd,Nat.reduceMul,Nat.reduceLeDiff]; rfl) rfl kp (fun i hi h1 kp hit=>?_) fun h1 kp fin=>?_
  · have g0:=fun lc=>rd_mapc (lc:=lc) (t.r5.kp kp) hi (k:=0) (by decide)
    have g1:=fun lc=>rd_mapc (lc:=lc) (t.r5.kp kp) hi (k:=1) (by decide)
    have hx:=f.v5 _ (List.getElem_mem hi)
    generalize T.looks[i] = x at g0 g1 hit hx
    unfold mapV at g0 g1
    obtain ⟨v,h2,e4,rfl,k2⟩:=sets6_spec x.2 h1 hx.2
    have k2:=kp.trans k2
    have e3:=e2 x.1
    generalize setI x.1 = b at e3 hit
    generalize setsB x.2 = b2 at e4 hit
    cases b
    · cases b2
      · (refine W_x (Aj s5 (Aj g0 (Aj g1 (Aj e3 e4)))) ?_; (repeat' first | apply Cj.mk | exact Nl.nl) <;> intros)
        exact ⟨if_neg (by simp),rfl,rfl,k2⟩
      · rw [hit _ (if_pos (.inr rfl))]
        (refine W_x (Aj s5 (Aj g0 (Aj g1 (Aj e3 e4)))) ?_; (repeat' first | apply Cj.mk | exact Nl.nl) <;> intros)
        exact ⟨rfl,k2⟩
    · rw [hit _ (if_pos (.inl rfl))]
      (refine W_x (Aj s5 (Aj g0 e3)) ?_; (repeat' first | apply Cj.mk | exact Nl.nl) <;> intros)
      exact ⟨rfl,kp⟩
  rw [fin]
  (refine W_x s5 ?_; (repeat' first | apply Cj.mk | exact Nl.nl) <;> intros)
  exact ⟨rfl,kp⟩
theorem odd_some {x:Span} {r:Int} (h1:x.1≤r) (h2:r≤x.2) (h3:0≤r) (h4:r < 128) (h5:lettI r = false):oddA x = true:=by
  unfold oddA
  have e:((r.toNat:Nat):Int) = r:=by omega
  exact List.any_eq_true.2 ⟨r.toNat,List.mem_range.2 (by omega),by rw [e,h5]; simp only [Bool.and_eq_true,decide_eq_true_eq]; exact ⟨⟨h1,h2⟩,rfl⟩⟩
theorem odd_none {x:Span} (h:∀ r:Int,x.1≤r→r≤x.2→0≤r→r < 128→lettI r = true):oddA x = false:=by
  unfold oddA
  refine List.any_eq_false.2 fun c hc=>?_
  have:=List.mem_range.1 hc
  simp only [Bool.and_eq_true,decide_eq_true_eq,Bool.not_eq_true']
  rintro ⟨⟨h1,h2⟩,h3⟩
  rw [h c h1 h2 (by omega) (by omega)] at h3
  cases h3
theorem rowsW_pos {T:Tab} {a b c:Int} (h:rowsW T = some (a,b,c)):a≠0:=by
  unfold rowsW at h
  have key:∀ {β:Type} {l:List β} {P:Nat→β→Prop} [∀ i x,Decidable (P i x)] {m:Int},∀ w,(scanL l fun i x=>if P i x then W 5 m i else none) = some w→w.1 = 5:=by
    intro β l P _ m w hw
    obtain ⟨i,hi,hw⟩:=scanL_some hw
    split at hw
    · injection hw with hw; rw [← hw]
    · cases hw
  have k0:∀ w,(scan 13 fun i=>if i≠2∧ofI ((45 + i:Nat):Int) T.common = false then W 5 2 0 else none) = some w→w.1 = 5:=by
    intro w hw
    obtain ⟨i,hi,hw⟩:=scan_some hw
    split at hw
    · injection hw with hw; rw [← hw]
    · cases hw
  have:(a,b,c).1 = 5:=by
    rcases Option.or_eq_some_iff.1 h with h | ⟨_,h⟩
    · exact k0 _ h
    rcases Option.or_eq_some_iff.1 h with h | ⟨_,h⟩
    · exact key _ h
    rcases Option.or_eq_some_iff.1 h with h | ⟨_,h⟩
    · exact key _ h
    rcases Option.or_eq_some_iff.1 h with h | ⟨_,h⟩
    · exact key _ h
    · exact key _ h
  simp only at this
  omega
set_option maxHeartbeats 1000000 in
theorem house6_spec {S:TS} {T:Tab} {h:AH} (t:TabAt h S T) (ha:∀ x∈T.allowed,0≤x.1):WpC PX 72 [.agg S.vs.toArray] h fun v h'=>v = wrV (houseW T)∧Kp h h':=by
  have f:=t.fits
  have n6:=f.n6
  have n7:=f.n7
  obtain ⟨v,h1,e1,rfl,k1⟩:=rows6_spec t
  refine wpc_fn (px_ext rfl) (px_fn fn_guiseref6_house) rfl ?_
  unfold LF_guiseref6_house
  simp only [argFr]
  unfold houseW
  unfold TS.vs at e1 ⊢
  have t:=t.kp k1
  have s6:=t.r6.len
  have s7:=t.r7.len
  have e0:=fun r=>of6_eq t.r7 n7 (r:=r)
  have hp:=fun a b c=>rowsW_pos (T:=T) (a:=a) (b:=b) (c:=c)
  generalize rowsW T = o at e1 hp
  match o,e1,hp with
  | some (a,b,c),e1,hp =>
    have:=hp a b c rfl
    simp only [wrV] at e1
    (refine W_x e1 ?_; (repeat' first | apply Cj.mk | exact Nl.nl) <;> intros)
    exact ⟨rfl,k1⟩
  | none,e1,hp =>
  simp only [wrV] at e1
  rw [Option.none_or]
  (refine W_x e1 ?_; (repeat' first | apply Cj.mk | exact Nl.nl) <;> intros)
  refine wp_scanF 4 T.drops (fun i x=>if x.1 < 128∨(x.1≤65533∧65533≤x.2) then W 5 7 i else none) (by intro n; simp only [setF,push_cast,Nat.reduceEqDiff, ↓reduceIte,reduceCtorEq,Nat.reduceAdd,Nat.reduceMul,Nat.reduceLeDiff]; rfl) rfl (fun i hi hit=>?_) fun fin=>?_
  · have g0:=fun lc=>rd_mapc (lc:=lc) t.r6 hi (k:=0) (by decide)
    have g1:=fun lc=>rd_mapc (lc:=lc) t.r6 hi (k:=1) (by decide)
    generalize T.drops[i] = x at g0 g1 hit
    unfold pairV at g0 g1
    (refine W_x (Aj s6 (Aj g0 g1)) ?_; (repeat' first | apply Cj.mk | exact Nl.nl) <;> intros)
    · rw [hit _ (if_pos (by omega))]
      exact ⟨rfl,k1⟩
    · rw [hit _ (if_pos (by omega))]
      exact ⟨rfl,k1⟩
    all_goals exact ⟨if_neg (by omega),rfl,rfl,rfl⟩
  rw [fin,Option.none_or]
  (refine W_x s6 ?_; (repeat' first | apply Cj.mk | exact Nl.nl) <;> intros)
  refine wp_scanF 5 T.allowed (fun i x=>if oddA x = true then W 5 8 i else none) (by intro n; simp only [setF,push_cast,Nat.reduceEqDiff, ↓reduceIte,reduceCtorEq,Nat.reduceAdd,Nat.reduceMul,Nat.reduceLeDiff]; rfl) rfl (fun i hi hit=>?_) fun fin=>?_
  · have g0:=fun lc=>rd_mapc (lc:=lc) t.r7 hi (k:=0) (by decide)
    have g1:=fun lc=>rd_mapc (lc:=lc) t.r7 hi (k:=1) (by decide)
    have hx:=ha _ (List.getElem_mem hi)
    generalize T.allowed[i] = x at g0 g1 hit hx
    unfold pairV at g0 g1
    (refine W_x (Aj s7 g0) ?_; (repeat' first | apply Cj.mk | exact Nl.nl) <;> intros)
    refine wp_loop (fun w fr lc h2 => ∃ r:Int,w = (128 - r).toNat∧x.1≤r∧(∀ c:Int,x.1≤c→c < r→c≤x.2∧c < 128→lettI c = true)∧h2 = h1∧lc = [(2,.cells false [S.s0.val 2,S.s1.val 2,S.s2.val 2,S.s3.val 3,S.s4.val 2,S.s5.val 2,S.s6.val 2,S.s7.val 2]),(4,.cells false [.int .i64 0,.int .i64 0,.int .i64 0])] ∧
      fr = [(1,.pointer (some ⟨2,0,some 1⟩)),(2,.pointer (some ⟨4,0,some 1⟩)),(5,.int .i64 i),(6,.int .i32 r)]) (128 - x.1).toNat ⟨x.1,rfl,Int.le_refl _,fun c h1 h2=>by omega,rfl,rfl,rfl⟩ ?_
    rintro w fr lc h2 ⟨r,rfl,hr,hall,rfl,rfl,rfl⟩
    by_cases hin:r≤x.2∧r < 128
    · by_cases hl:lettI r = true
      · have hl2:=of_decide_eq_true hl
        (refine W_x (Aj s7 (Aj g0 g1)) ?_; (repeat' first | apply Cj.mk | exact Nl.nl) <;> intros)
        all_goals exact ⟨_,by omega,r + 1,rfl,by omega,fun c h3 h4 h5=>by
          by_cases h6:c < r
          · exact hall c h3 h6 h5
          · rw [show c = r by omega]; exact hl,rfl,rfl,rfl⟩
      · have hl2 : ¬ (r = 45∨(48≤r∧r≤57)∨(97≤r∧r≤122)):=fun q=>hl (decide_eq_true q)
        rw [hit _ (if_pos (odd_some hr hin.1 (by omega) hin.2 (Bool.eq_false_iff.2 hl)))]
        (refine W_x (Aj s7 (Aj g0 g1)) ?_; (repeat' first | apply Cj.mk | exact Nl.nl) <;> intros)
        all_goals exact ⟨rfl,k1⟩
    · have ho:oddA x = false:=odd_none fun c h1 h2 h3 h4=>hall c h1 (by omega) ⟨h2,h4⟩
      (refine W_x (Aj s7 (Aj g0 g1)) ?_; (repeat' first | apply Cj.mk | exact Nl.nl) <;> intros)
      all_goals exact ⟨if_neg (by rw [ho]; decide),rfl,rfl,rfl⟩
  rw [fin,Option.none_or]
  (refine W_x s7 ?_; (repeat' first | apply Cj.mk | exact Nl.nl) <;> intros)
  refine wp_scanN .i32 45 78 7 (fun i=>if lettI ((45 + i:Nat):Int) = true∧ofI ((45 + i:Nat):Int) T.allowed = false then W 5 8 0 else none) (by intro n; simp only [setF,push_cast,Nat.reduceEqDiff, ↓reduceIte,reduceCtorEq,Nat.reduceAdd,Nat.reduceMul,Nat.reduceLeDiff]; rfl) rfl (fun i hi hit=>?_) fun fin=>?_
  · have e3:=e0 (45 + (i:Int))
    have hc:((45 + i:Nat):Int) = 45 + (i:Int):=by omega
    rw [hc] at hit ⊢
    generalize ofI (45 + (i:Int)) T.allowed = b at e3 hit
    by_cases h2:lettI (45 + (i:Int)) = true
    · have h3:=of_decide_eq_true h2
      cases b
      · rw [hit _ (if_pos ⟨h2,rfl⟩)]
        (refine W_x e3 ?_; (repeat' first | apply Cj.mk | exact Nl.nl) <;> intros)
        all_goals exact ⟨rfl,k1⟩
      · (refine W_x e3 ?_; (repeat' first | apply Cj.mk | exact Nl.nl) <;> intros)
        all_goals exact ⟨if_neg (by simp),rfl,rfl,rfl⟩
    · have h3 : ¬ (45 + (i:Int) = 45∨(48≤45 + (i:Int)∧45 + (i:Int)≤57)∨(97≤45 + (i:Int)∧45 + (i:Int)≤122)):=fun q=>h2 (decide_eq_true q)
      (refine W_x trivial ?_; (repeat' first | apply Cj.mk | exact Nl.nl) <;> intros)
      all_goals exact ⟨if_neg (fun q=>h2 q.1),rfl,rfl,rfl⟩
  rw [fin]
  (refine W_x trivial ?_; (repeat' first | apply Cj.mk | exact Nl.nl) <;> intros)
  exact ⟨rfl,k1⟩
theorem formsW_allowed {T:Tab} (h:formsW T = none):∀ x∈T.allowed,0≤x.1:=by
  intro x hx
  unfold formsW at h
  simp only [Option.or_eq_none_iff] at h
  have h7:=h.2.2.2.2.2.2.2
  unfold spansW spansE at h7
  rw [Option.map_eq_none_iff] at h7
  obtain ⟨i,hi,rfl⟩:=List.mem_iff_getElem.1 hx
  have:=scanL_none h7 i hi
  rw [Option.map_eq_none_iff] at this
  unfold spanE at this
  split at this
  · cases this
  · rename_i hr
    have h1:runeI (T.allowed[i]).1 = true:=by
      cases hb:runeI (T.allowed[i]).1 with
      | true=>rfl
      | false=>exact absurd (.inl hb) hr
    have:=of_decide_eq_true h1
    omega
def PosW (o:Option W3):Prop:=∀ a b c,o = some (a,b,c)→a≠0
theorem PosW.or {o p:Option W3} (h1:PosW o) (h2:PosW p):PosW (o.or p):=fun a b c h=>by
  rcases Option.or_eq_some_iff.1 h with h | ⟨_,h⟩
  · exact h1 a b c h
  · exact h2 a b c h
theorem PosW.none:PosW none:=fun a b c h=>by cases h
theorem PosW.mk {a b c:Int} (h:a≠0):PosW (W a b c):=fun x y z e=>by injection e with e; injection e with e; omega
theorem PosW.ite {P:Prop} [Decidable P] {o p:Option W3} (h1:PosW o) (h2:PosW p):PosW (if P then o else p):=by split; exact h1; exact h2
theorem PosW.scan {n:Nat} {f:Nat→Option W3} (h:∀ i,PosW (f i)):PosW (scan n f):=fun a b c e=>by
  obtain ⟨i,_,hw⟩:=scan_some e
  exact h i a b c hw
theorem PosW.scanL {α:Type} {l:List α} {g:Nat→α→Option W3} (h:∀ i x,PosW (g i x)):PosW (scanL l g):=fun a b c e=>by
  obtain ⟨i,_,hw⟩:=scanL_some e
  exact h _ _ a b c hw
theorem longW_pos (T:Tab):PosW (longW T):=by
  unfold longW
  refine .ite (.mk (by decide)) (.or (.scanL fun i x=>.ite (.mk (by decide)) .none) ?_)
  repeat' refine .ite (.mk (by decide)) ?_
  exact .none
theorem formsW_pos (T:Tab):PosW (formsW T):=by
  unfold formsW
  refine .or (.scanL fun i x=>fun a b c h=>?_) (.or (fun a b c h=>spansW_pos h) (.or (.scanL fun i x=>.ite (.mk (by decide)) (.ite (.mk (by decide)) .none)) (.or (.scanL fun i x=>.ite (.mk (by decide)) .none)
    (.or (fun a b c h=>mapsW_pos h) (.or (fun a b c h=>mapsW_pos h) (.or (fun a b c h=>spansW_pos h) (fun a b c h=>spansW_pos h)))))))
  cases hs:scrE x with
  | none=>rw [hs] at h; cases h
  | some e =>
    rw [hs] at h
    injection h with h
    injection h with h
    have:=scrE_pos hs
    omega
theorem twiceW_pos (T:Tab):PosW (twiceW T):=by
  unfold twiceW
  exact .or (.scanL fun i x=>.ite (.mk (by decide)) .none) (.or (.scanL fun i x=>.ite (.mk (by decide)) .none) (.or (.scanL fun i x=>.ite (.mk (by decide)) .none) (.or (.scanL fun i x=>.ite (.mk (by decide)) .none) (.scanL fun i x=>.ite (.mk (by decide)) .none))))
theorem pairsW_pos (T:Tab):PosW (pairsW T):=.scanL fun i x=>.ite (.mk (by decide)) .none
theorem chainsW_pos (T:Tab):PosW (chainsW T):=.scanL fun i x=>.ite (.mk (by decide)) (.ite (.mk (by decide)) .none)
theorem dropsW_pos (T:Tab):PosW (dropsW T):=by
  unfold dropsW
  exact .or (.scanL fun i x=>.ite (.mk (by decide)) .none) (.or (.scanL fun i x=>.ite (.mk (by decide)) .none) (.or (.scanL fun i x=>.ite (.mk (by decide)) .none) (.scanL fun i x=>.ite (.mk (by decide)) .none)))
theorem fromsW_pos (T:Tab):PosW (fromsW T):=.or (.scanL fun i x=>.ite (.mk (by decide)) .none) (.scanL fun i x=>.ite (.mk (by decide)) .none)
theorem tosW_pos (T:Tab):PosW (tosW T):=.or (.scanL fun i x=>.ite (.mk (by decide)) .none) (.scanL fun i x=>.ite (.mk (by decide)) .none)
theorem houseW_pos (T:Tab):PosW (houseW T):=.or (fun a b c h=>rowsW_pos h) (.or (.scanL fun i x=>.ite (.mk (by decide)) .none) (.or (.scanL fun i x=>.ite (.mk (by decide)) .none) (.scan fun i=>.ite (.mk (by decide)) .none)))
set_option maxHeartbeats 1000000 in
theorem check6_spec {S:TS} {T:Tab} {h:AH} (t:TabAt h S T):WpC PX 40 [.agg S.vs.toArray] h fun v h'=>v = wrV (checkW T)∧Kp h h':=by
  obtain ⟨v,h1,e1,rfl,k1⟩:=long6_spec t
  refine wpc_fn (px_ext rfl) (px_fn fn_guiseref6_Check) rfl ?_
  unfold LF_guiseref6_Check
  simp only [argFr]
  unfold checkW
  have t1:=t.kp k1
  obtain ⟨v,h2,e2,rfl,k2⟩:=forms6_spec t1
  have t2:=t1.kp k2
  have hfa:=formsW_allowed (T:=T)
  have k2:=k1.trans k2
  have e3:=twice6_spec t2
  have e4:=pairs6_eq t2
  have e5:=drops6_eq t2
  obtain ⟨v,h3,e6,rfl,k3⟩:=tos6_spec t2
  have t3:=t2.kp k3
  have k3:=k2.trans k3
  have hh:=fun ha=>house6_spec t3 ha
  have hp:=longW_pos T
  generalize longW T = o at e1 hp
  unfold TS.vs at e1 e2 e3 e4 e5 e6 hh ⊢
  match o,e1,hp with
  | some (a,b,c),e1,hp =>
    have:=hp a b c rfl
    simp only [wrV] at e1
    (refine W_x e1 ?_; (repeat' first | apply Cj.mk | exact Nl.nl) <;> intros)
    exact ⟨rfl,k1⟩
  | none,e1,hp =>
  simp only [wrV] at e1
  rw [Option.none_or]
  have hp:=formsW_pos T
  generalize formsW T = o at e2 hp hfa
  match o,e2,hp,hfa with
  | some (a,b,c),e2,hp,_ =>
    have:=hp a b c rfl
    simp only [wrV] at e2
    (refine W_x (Aj e1 e2) ?_; (repeat' first | apply Cj.mk | exact Nl.nl) <;> intros)
    exact ⟨rfl,k2⟩
  | none,e2,hp,hfa =>
  simp only [wrV] at e2
  rw [Option.none_or]
  have hp:=twiceW_pos T
  generalize twiceW T = o at e3 hp
  match o,e3,hp with
  | some (a,b,c),e3,hp =>
    have:=hp a b c rfl
    simp only [wrV] at e3
    (refine W_x (Aj e1 (Aj e2 e3)) ?_; (repeat' first | apply Cj.mk | exact Nl.nl) <;> intros)
    exact ⟨rfl,k2⟩
  | none,e3,hp =>
  simp only [wrV] at e3
  rw [Option.none_or]
  have hp:=(pairsW_pos T).or (chainsW_pos T)
  generalize (pairsW T).or (chainsW T) = o at e4 hp
  match o,e4,hp with
  | some (a,b,c),e4,hp =>
    have:=hp a b c rfl
    simp only [wrV] at e4
    (refine W_x (Aj e1 (Aj e2 (Aj e3 e4))) ?_; (repeat' first | apply Cj.mk | exact Nl.nl) <;> intros)
    exact ⟨rfl,k2⟩
  | none,e4,hp =>
  simp only [wrV] at e4
  rw [Option.none_or]
  have hp:=dropsW_pos T
  generalize dropsW T = o at e5 hp
  match o,e5,hp with
  | some (a,b,c),e5,hp =>
    have:=hp a b c rfl
    simp only [wrV] at e5
    (refine W_x (Aj e1 (Aj e2 (Aj e3 (Aj e4 e5)))) ?_; (repeat' first | apply Cj.mk | exact Nl.nl) <;> intros)
    exact ⟨rfl,k2⟩
  | none,e5,hp =>
  simp only [wrV] at e5
  rw [Option.none_or]
  have hp:=(fromsW_pos T).or (tosW_pos T)
  generalize (fromsW T).or (tosW T) = o at e6 hp
  match o,e6,hp with
  | some (a,b,c),e6,hp =>
    have:=hp a b c rfl
    simp only [wrV] at e6
    (refine W_x (Aj e1 (Aj e2 (Aj e3 (Aj e4 (Aj e5 e6))))) ?_; (repeat' first | apply Cj.mk | exact Nl.nl) <;> intros)
    exact ⟨rfl,k3⟩
  | none,e6,hp =>
  simp only [wrV] at e6
  rw [Option.none_or]
  obtain ⟨v,h4,e7,rfl,k4⟩:=hh (hfa rfl)
  have k4:=k3.trans k4
  generalize houseW T = o at e7
  match o,e7 with
  | some (a,b,c),e7 =>
    simp only [wrV] at e7
    (refine W_x (Aj e1 (Aj e2 (Aj e3 (Aj e4 (Aj e5 (Aj e6 e7)))))) ?_; (repeat' first | apply Cj.mk | exact Nl.nl) <;> intros)
    exact ⟨rfl,k4⟩
  | none,e7 =>
    simp only [wrV] at e7
    (refine W_x (Aj e1 (Aj e2 (Aj e3 (Aj e4 (Aj e5 (Aj e6 e7)))))) ?_; (repeat' first | apply Cj.mk | exact Nl.nl) <;> intros)
    exact ⟨rfl,k4⟩
end Go.Proofs.YtakmapoompffgaaGreatDoor.AM
namespace Go.Proofs.YtakmapoompffgaaGreatDoor.AM
open Go
theorem wrong_eq (a b c:Int) (h:AH):callO PX 92 [.int .i64 a,.int .i64 b,.int .i64 c] h = some (wrV (some (a,b,c)),h):=by
  apply WpC.eqn
  refine wpc_fn (px_ext rfl) (px_fn fn_tables_wrong) rfl ?_
  unfold LF_tables_wrong
  simp only [argFr]
  (refine W_x trivial ?_; (repeat' first | apply Cj.mk | exact Nl.nl) <;> intros)
  exact ⟨rfl,rfl⟩
theorem validRune_eq (r:Int) (h:AH):callO PX 95 [.int .i32 r] h = some (.bool (runeI r),h):=by
  apply WpC.eqn
  refine wpc_fn (px_ext rfl) (px_fn fn_utf8_ValidRune) rfl ?_
  unfold LF_utf8_ValidRune
  simp only [argFr]
  (refine W_x trivial ?_; (repeat' first | apply Cj.mk | exact Nl.nl) <;> intros)
  all_goals (refine ⟨?_,rfl⟩; congr 1; symm; unfold runeI; first | (exact decide_eq_true (by omega)) | (exact decide_eq_false (by omega)))
theorem low_eq (r:Int) (h:AH):callO PX 101 [.int .i32 r] h = some (.bool (lowI r),h):=by
  apply WpC.eqn
  refine wpc_fn (px_ext rfl) (px_fn fn_tables_low) rfl ?_
  unfold LF_tables_low
  simp only [argFr]
  (refine W_x trivial ?_; (repeat' first | apply Cj.mk | exact Nl.nl) <;> intros)
  all_goals (refine ⟨?_,rfl⟩; congr 1; symm; unfold lowI; first | (exact decide_eq_true (by omega)) | (exact decide_eq_false (by omega)))
theorem fixed_eq (r:Int) (h:AH):callO PX 103 [.int .i32 r] h = some (.bool (setI r),h):=by
  apply WpC.eqn
  refine wpc_fn (px_ext rfl) (px_fn fn_tables_fixed) rfl ?_
  unfold LF_tables_fixed
  simp only [argFr]
  (refine W_x trivial ?_; (repeat' first | apply Cj.mk | exact Nl.nl) <;> intros)
  all_goals (refine ⟨?_,rfl⟩; congr 1; symm; unfold setI; first | (exact decide_eq_true (by omega)) | (exact decide_eq_false (by omega)))
def badSp (i:Nat) (x:Nat × Nat):Prop := ¬ (97≤x.1∧x.1≤122)∧(i = 0∨(x.1≠45∧(x.1 < 48∨57 < x.1)))
instance (i:Nat) (x:Nat × Nat):Decidable (badSp i x):=by unfold badSp; infer_instance
theorem dec1_low {l:Bytes} (h:bat l 0 < 128):dec1 l = (bat l 0,1):=by unfold dec1; rw [if_pos h]
theorem dec1_high {l:Bytes} (hl:l≠[]) (h : ¬ bat l 0 < 128):128≤(dec1 l).1:=by
  rcases dec_cases hl with ⟨c,rest,hc,e,hd⟩ | ⟨hd,_⟩
  · rw [hd]
    by_cases hc8:c < 128
    · exfalso
      apply h
      rw [e]
      unfold encN
      rw [if_pos hc8]
      show (UInt8.ofNat c).toNat < 128
      rw [of_small (by omega)]
      exact hc8
    · exact Nat.le_of_not_lt hc8
  · rw [hd]; decide
theorem name_spots (n:Nat):∀ (l:Bytes),l.length = n→∀ (k:Nat),(∃ i,∃ hi:i < (spots l).length,badSp (k + i) (spots l)[i])↔∃ i,∃ hi:i < l.length,badNm (k + i) l[i]:=by
  induction n using Nat.strongRecOn with
  | ind n ih =>
    intro l hn k
    match l,hn with
    | [],hn =>
      subst hn
      constructor
      · rintro ⟨i,hi,_⟩; exact absurd hi (Nat.not_lt_zero _)
      · rintro ⟨i,hi,_⟩; exact absurd hi (Nat.not_lt_zero _)
    | a :: t,hn =>
      subst hn
      have hs:=spots_cons (l:=a :: t) (by simp)
      have hb:bat (a :: t) 0 = a.toNat:=rfl
      by_cases ha:a.toNat < 128
      · have hd:=dec1_low (l:=a :: t) (by rw [hb]; exact ha)
        rw [hd,hb] at hs
        simp only [List.drop_succ_cons,List.drop_zero] at hs
        have ih2:=ih t.length (by simp) t rfl (k + 1)
        constructor
        · rintro ⟨i,hi,h⟩
          simp only [hs] at h hi
          cases i with
          | zero=>exact ⟨0,by simp,h⟩
          | succ i =>
            obtain ⟨j,hj,h2⟩:=ih2.1 ⟨i,by simpa using hi,by simpa [Nat.add_assoc,Nat.add_comm 1] using h⟩
            exact ⟨j + 1,by simpa using hj,by simpa [Nat.add_assoc,Nat.add_comm 1] using h2⟩
        · rintro ⟨i,hi,h⟩
          cases i with
          | zero=>exact ⟨0,by rw [hs]; simp,by simp only [hs]; exact h⟩
          | succ i =>
            obtain ⟨j,hj,h2⟩:=ih2.2 ⟨i,by simpa using hi,by simpa [Nat.add_assoc,Nat.add_comm 1] using h⟩
            exact ⟨j + 1,by rw [hs]; simpa using hj,by simp only [hs,List.getElem_cons_succ]; simpa [Nat.add_assoc,Nat.add_comm 1] using h2⟩
      · have hh:=dec1_high (l:=a :: t) (by simp) (by rw [hb]; exact ha)
        constructor
        · intro _
          refine ⟨0,by simp, ?_⟩
          unfold badNm
          simp only [List.getElem_cons_zero]
          omega
        · intro _
          refine ⟨0,by rw [hs]; simp, ?_⟩
          simp only [hs,List.getElem_cons_zero]
          unfold badSp
          omega
theorem scanL_isNone {α:Type} {l:List α} {P:Nat→α→Prop} [∀ i x,Decidable (P i x)]:(scanL l fun i x=>if P i x then some () else none).isNone = decide (¬ ∃ i,∃ hi:i < l.length,P i l[i]):=by
  cases h:scanL l fun i x=>if P i x then some () else none with
  | some w =>
    obtain ⟨i,hi,hw⟩:=scanL_some h
    have hp:P i l[i]:=by by_cases hp:P i l[i]; exact hp; rw [if_neg hp] at hw; cases hw
    symm
    exact decide_eq_false (fun q=>q ⟨i,hi,hp⟩)
  | none =>
    symm
    refine decide_eq_true ?_
    rintro ⟨i,hi,hp⟩
    have:=scanL_none h i hi
    rw [if_pos hp] at this
    cases this
theorem nameB_spots (l:Bytes):nameB l = ((scanL (spots l) fun i x=>if badSp i x then some () else none).isNone && decide (l≠[]∧l.length≤32)):=by
  unfold nameB
  rw [scanL_isNone,scanL_isNone]
  have:=name_spots _ l rfl 0
  simp only [Nat.zero_add] at this
  congr 1
  · exact decide_eq_decide.2 (not_congr this.symm)
  · exact decide_eq_decide.2 (by rw [← List.length_pos_iff]; omega)
theorem posn_pos {l:Bytes} {i:Nat} (hi:i≤(spots l).length):posn l i = 0↔i = 0:=by
  constructor
  · intro h
    cases i with
    | zero=>rfl
    | succ i =>
      have hil:i < (spots l).length:=hi
      have:=posn_succ hil
      obtain ⟨p1,p2,p3⟩:=posn_lt hil
      have:=dec_width p3
      rw [p2] at this
      omega
  · rintro rfl; exact posn_zero l
theorem name_eq (s:ByteArray) (h:AH) (hsz:s.size < 100000000):callO PX 93 [.string s] h = some (.bool (nameB s.data.toList),h):=by
  apply WpC.eqn
  obtain ⟨l,hl⟩:∃ l,l = s.data.toList:=⟨_,rfl⟩
  have hll:l.length = s.size:=by rw [hl]; rfl
  rw [← hl,nameB_spots]
  refine wpc_fn (px_ext rfl) (px_fn fn_tables_name) rfl ?_
  unfold LF_tables_name
  simp only [argFr]
  (refine W_x @ev_rngS ?_; (repeat' first | apply Cj.mk | exact Nl.nl) <;> intros)
  refine wp_spots none 12 s l (fun h'=>h' = h) (fun i x=>if badSp i x then some () else none) hl (fun _=>rfl) (by repeat' first | exact True.intro | refine And.intro rfl ?_) (fun _=>rfl) (by intro n; simp only [setL,push_cast,Nat.reduceEqDiff, ↓reduceIte,reduceCtorEq,Nat.reduceAdd,Nat.reduceMul,Nat.reduceLeDiff]; rfl) rfl rfl (fun i hi h1 hj hit=>?_) fun h1 hj fin=>?_
  · subst hj
    have pp:=posn_pos (l:=l) (i:=i) (Nat.le_of_lt hi)
    (refine W_x trivial ?_; (repeat' first | apply Cj.mk | exact Nl.nl) <;> intros)
    refine wo_next hl rfl hi ?_
    generalize (spots l)[i] = x at hit
    generalize posn l i = q at pp
    (refine W_x trivial ?_; (repeat' first | apply Cj.mk | exact Nl.nl) <;> intros)
    all_goals first
      | exact ⟨if_neg (by unfold badSp; omega),(by repeat' first | exact True.intro | refine And.intro rfl ?_),rfl,rfl⟩
      | (rw [hit () (if_pos (by unfold badSp; omega))]; exact ⟨rfl,rfl⟩)
  · subst hj
    rw [fin]
    (refine W_x trivial ?_; (repeat' first | apply Cj.mk | exact Nl.nl) <;> intros)
    refine wo_nextE hl rfl ?_
    have hne:s = ⟨#[]⟩↔l = []:=by
      rw [hl]
      obtain ⟨⟨d⟩⟩:=s
      simp
    (refine W_x trivial ?_; (repeat' first | apply Cj.mk | exact Nl.nl) <;> intros)
    all_goals (refine ⟨?_,rfl⟩; congr 1; symm; simp only [Option.isNone_none,Bool.true_and])
    · rename_i h1; exact decide_eq_false (fun q=>q.1 (hne.1 h1))
    · rename_i h1 h2; exact decide_eq_true ⟨fun q=>h1 (hne.2 q),by omega⟩
    · rename_i h1 h2; exact decide_eq_false (fun q=>h2 (by omega))
end Go.Proofs.YtakmapoompffgaaGreatDoor.AM
namespace Go.Proofs.YtakmapoompffgaaGreatDoor.AM
open Go
def spanF (x:Span):Option Int:=if runeI x.1 = false∨runeI x.2 = false then some 12 else if x.2 < x.1 then some 11 else none
theorem setsWrong_eq (x:Span) (h:AH):callO PX 133 [.agg (pairV x).toArray] h = some (.int .i64 ((spanF x).getD 0),h):=by
  have e1:=validRune_eq
  apply WpC.eqn
  refine wpc_fn (px_ext rfl) (px_fn fn_sets_wrong) rfl ?_
  unfold LF_sets_wrong
  simp only [argFr]
  unfold spanF pairV
  have e2:=e1 x.1
  have e3:=e1 x.2
  generalize runeI x.1 = b1 at e2
  generalize runeI x.2 = b2 at e3
  cases b1
  · (refine W_x e2 ?_; (repeat' first | apply Cj.mk | exact Nl.nl) <;> intros)
    rw [if_pos (.inl rfl)]
    exact ⟨rfl,rfl⟩
  cases b2
  · (refine W_x (Aj e2 e3) ?_; (repeat' first | apply Cj.mk | exact Nl.nl) <;> intros)
    rw [if_pos (.inr rfl)]
    exact ⟨rfl,rfl⟩
  · (refine W_x (Aj e2 e3) ?_; (repeat' first | apply Cj.mk | exact Nl.nl) <;> intros)
    · rw [if_neg (by simp),if_pos (by omega)]; exact ⟨rfl,rfl⟩
    · rw [if_neg (by simp),if_neg (by omega)]; exact ⟨rfl,rfl⟩
theorem spanE_F (l:List Span) (i:Nat) (x:Span):spanE l i x = (spanF x).or (if 0 < i∧x.1≤(l.getD (i - 1) (0,0)).2 then some 13 else none):=by
  unfold spanE spanF
  repeat' split
  all_goals rfl
theorem spanF_pos {x:Span} {e:Int} (h:spanF x = some e):e≠0:=by
  unfold spanF at h
  repeat' split at h
  all_goals first | (injection h with h; omega) | cases h
theorem setsRight_eq {s:Sl} {l:List Span} {h:AH} (rd:Reads h 2 s (l.map pairV)) (hl:l.length < 100000000) :
    callO PX 94 [s.val 2] h = some (.tuple (List.toArray (match spansE l with | some (e,i)=>[.int .i64 i,.int .i64 e] | none=>[.int .i64 0,.int .i64 0])),h):=by
  have hs:=rd.len
  have e1:=fun x h=>setsWrong_eq x h
  apply WpC.eqn
  refine wpc_fn (px_ext rfl) (px_fn fn_sets_Right) rfl ?_
  unfold LF_sets_Right
  simp only [argFr]
  unfold spansE
  (refine W_x hs ?_; (repeat' first | apply Cj.mk | exact Nl.nl) <;> intros)
  refine wp_scanF 9 l (fun i x=>(spanE l i x).map fun e=>(e,i)) (by intro n; simp only [setF,push_cast,Nat.reduceEqDiff, ↓reduceIte,reduceCtorEq,Nat.reduceAdd,Nat.reduceMul,Nat.reduceLeDiff]; rfl) rfl (fun i hi hit=>?_) fun fin=>?_
  · have g0:=fun lc=>rd_map (lc:=lc) rd hi
    have gp:0 < i→∀ lc,Mem.rd ⟨lc,h⟩ (ptrOff (s.adr 2 (i - 1)) 1) 1 = some [.int .i32 (l.getD (i - 1) (0,0)).2]:=fun h0 lc=>by
      have:=rd_mapc (lc:=lc) rd (i:=i - 1) (by omega) (k:=1) (by decide)
      rw [this,List.getD_eq_getElem?_getD,List.getElem?_eq_getElem (by omega:i - 1 < l.length),Option.getD_some]
      rfl
    have t1:((i:Int) - 1).toNat = i - 1:=by omega
    generalize l[i] = x at g0 hit
    rw [spanE_F] at hit ⊢
    generalize l.getD (i - 1) (0,0) = y at gp hit
    have e2:=e1 x
    have hp:=fun e=>spanF_pos (x:=x) (e:=e)
    unfold pairV at e2 g0
    generalize spanF x = o at e2 hit hp
    cases o with
    | some e =>
      have:=hp e rfl
      simp only [Option.getD_some] at e2
      rw [hit (e,i) rfl]
      (refine W_x (Aj hs (Aj g0 e2)) ?_; (repeat' first | apply Cj.mk | exact Nl.nl) <;> intros)
      exact ⟨rfl,rfl⟩
    | none =>
      simp only [Option.getD_none,Option.none_or] at e2 hit ⊢
      by_cases h0:0 < i
      · have gp:=gp h0
        (refine W_x (Aj hs (Aj g0 (Aj e2 (Aj gp t1)))) ?_; (repeat' first | apply Cj.mk | exact Nl.nl) <;> intros)
        · rw [hit (13,i) (by rw [if_pos (by omega)]; rfl)]
          exact ⟨rfl,rfl⟩
        · exact ⟨by rw [if_neg (by omega)]; rfl,rfl,rfl,rfl⟩
      · (refine W_x (Aj hs (Aj g0 e2)) ?_; (repeat' first | apply Cj.mk | exact Nl.nl) <;> intros)
        exact ⟨by rw [if_neg (by omega)]; rfl,rfl,rfl,rfl⟩
  · rw [fin]
    (refine W_x hs ?_; (repeat' first | apply Cj.mk | exact Nl.nl) <;> intros)
    exact ⟨rfl,rfl⟩
structure SpOk (l:List Span):Prop where
  rune:∀ x∈l,runeI x.1 = true∧runeI x.2 = true∧x.1≤x.2
  ord:∀ i j (hi:i < j) (hj:j < l.length),(l[i]'(by omega)).2 < (l[j]).1
theorem spOk_of {l:List Span} (h:spansE l = none):SpOk l:=by
  unfold spansE at h
  have hx:∀ i (hi:i < l.length),spanE l i l[i] = none:=fun i hi=>by
    have:=scanL_none h i hi
    rwa [Option.map_eq_none_iff] at this
  have h1:∀ i (hi:i < l.length),runeI (l[i]).1 = true∧runeI (l[i]).2 = true∧(l[i]).1≤(l[i]).2:=fun i hi=>by
    have:=hx i hi
    unfold spanE at this
    split at this
    · cases this
    · rename_i hr
      split at this
      · cases this
      · rename_i h2
        exact ⟨by cases hb:runeI (l[i]).1; exact absurd (.inl hb) hr; rfl,by cases hb:runeI (l[i]).2; exact absurd (.inr hb) hr; rfl,by omega⟩
  have h2 : ∀ i (hi:i + 1 < l.length),(l[i]'(by omega)).2 < (l[i + 1]).1:=fun i hi=>by
    have:=hx (i + 1) hi
    unfold spanE at this
    split at this
    · cases this
    · split at this
      · cases this
      · split at this
        · cases this
        · rename_i h3
          rw [Nat.add_sub_cancel,List.getD_eq_getElem?_getD,List.getElem?_eq_getElem (by omega:i < l.length),Option.getD_some] at h3
          omega
  refine ⟨fun x hx=>?_,fun i j hi hj=>?_⟩
  · obtain ⟨i,hi,rfl⟩:=List.mem_iff_getElem.1 hx
    exact h1 i hi
  · induction j with
    | zero=>omega
    | succ j ih =>
      rcases Nat.lt_or_ge i j with h3 | h3
      · have h4:=ih h3 (by omega)
        have h5:=(h1 j (by omega)).2.2
        have h6:=h2 j hj
        omega
      · have:i = j:=by omega
        subst this
        exact h2 i hj
theorem of1_eq (x:Span) (r:Int) (h:AH) (h1:runeI x.1 = true) (h2:runeI r = true):callO PX 136 [.agg (pairV x).toArray,.int .i32 r] h = some (.int .i64 (x.1 - r),h):=by
  have a1:=of_decide_eq_true h1
  have a2:=of_decide_eq_true h2
  apply WpC.eqn
  refine wpc_fn (px_ext rfl) (px_fn fn_tables_of_1) rfl ?_
  unfold LF_tables_of_1
  simp only [argFr]
  unfold pairV
  (refine W_x trivial ?_; (repeat' first | apply Cj.mk | exact Nl.nl) <;> intros)
  exact ⟨rfl,rfl⟩
set_option maxHeartbeats 1000000 in
theorem bsf_eq {s:Sl} {l:List Span} {h:AH} (rd:Reads h 2 s (l.map pairV)) (hl:l.length < 100000000) (ok:SpOk l) (r:Int) (hr:runeI r = true) :
    ∃ k:Nat,k≤l.length∧(∀ j (hj:j < k) (hjl:j < l.length),(l[j]).1 < r)∧(∀ j (hj:j < l.length),k≤j→r≤(l[j]).1) ∧
      callO PX 135 [s.val 2,.int .i32 r,.func (.func 136) #[] #[]] h = some (.tuple (List.toArray [.int .i64 k,.bool (decide (k < l.length∧(l.getD k (0,0)).1 = r))]),h):=by
  have hs:=rd.len
  have ho:=ok.ord
  have hm:∀ i j (hi:i≤j) (hj:j < l.length),(l[i]'(by omega)).1≤(l[j]).1:=fun i j hi hj=>by
    rcases Nat.eq_or_lt_of_le hi with h1 | h1
    · subst h1; exact Int.le_refl _
    · have:=ho i j h1 hj
      have:=(ok.rune _ (List.getElem_mem (show i < l.length by omega))).2.2
      omega
  have main : WpC PX 135 [s.val 2,.int .i32 r,.func (.func 136) #[] #[]] h fun v h' => ∃ k:Nat,k≤l.length∧(∀ j (hj:j < k) (hjl:j < l.length),(l[j]).1 < r)∧(∀ j (hj:j < l.length),k≤j→r≤(l[j]).1) ∧
      v = .tuple (List.toArray [.int .i64 k,.bool (decide (k < l.length∧(l.getD k (0,0)).1 = r))])∧h' = h:=by
    refine wpc_fn (px_ext rfl) (px_fn fn_slices_BinarySearchFunc_api_Span_api_Span_rune) rfl ?_
    unfold LF_slices_BinarySearchFunc_api_Span_api_Span_rune
    simp only [argFr]
    (refine W_x hs ?_; (repeat' first | apply Cj.mk | exact Nl.nl) <;> intros)
    refine wp_loop (fun w fr lc h1 => ∃ i j:Nat,w = j - i∧i≤j∧j≤l.length∧(∀ m (hm:m < i) (hml:m < l.length),(l[m]).1 < r)∧(∀ m (hm:m < l.length),j≤m→r≤(l[m]).1)∧h1 = h∧lc = [] ∧
      fr = [(0,s.val 2),(1,.int .i32 r),(2,.func (.func 136) #[] #[]),(8,.int .i64 l.length),(9,.int .i64 i),(10,.int .i64 j)]) l.length
      ⟨0,l.length,rfl,Nat.zero_le _,Nat.le_refl _,fun m h=>absurd h (Nat.not_lt_zero _),fun m h1 h2=>by omega,rfl,rfl,rfl⟩ ?_
    rintro w fr lc h1 ⟨i,j,rfl,hij,hjl,hlo,hhi,rfl,rfl,rfl⟩
    rcases Nat.lt_or_ge i j with hlt | hge
    · obtain ⟨m,hm2⟩:∃ m:Nat,((i:Int) + j) / 2 = m:=⟨(i + j) / 2,by omega⟩
      have hml:m < l.length:=by omega
      have g0:=fun lc=>rd_map (lc:=lc) rd hml
      have hx:=ok.rune _ (List.getElem_mem hml)
      have e1:=fun h=>of1_eq l[m] r h hx.1 hr
      have ha:∀ q (hq:q≤m),(l[q]'(by omega)).1≤(l[m]).1:=fun q hq=>hm q m hq hml
      have hb:∀ q (hq:m≤q) (hql:q < l.length),(l[m]).1≤(l[q]).1:=fun q hq hql=>hm m q hq hql
      have r1:=of_decide_eq_true hx.1
      have r2:=of_decide_eq_true hr
      generalize l[m] = x at g0 e1 ha hb r1
      unfold pairV at g0 e1
      (refine W_x (Aj hs (Aj hm2 (Aj g0 e1))) ?_; (repeat' first | apply Cj.mk | exact Nl.nl) <;> intros)
      · exact ⟨_,by omega,m + 1,j,rfl,by omega,hjl,fun q hq hql=>by have:=ha q (by omega); omega,hhi,rfl,rfl,by simp only [Int.natCast_add]; rfl⟩
      · exact ⟨_,by omega,i,m,rfl,by omega,by omega,hlo,fun q hq hmq=>by have:=hb q hmq hq; omega,rfl,rfl,rfl⟩
    · have hie:i = j:=by omega
      subst hie
      rcases Nat.lt_or_ge i l.length with hil | hil
      · have g0:=fun lc=>rd_map (lc:=lc) rd hil
        have hx:=ok.rune _ (List.getElem_mem hil)
        have e1:=fun h=>of1_eq l[i] r h hx.1 hr
        have hgd:l.getD i (0,0) = l[i]:=by rw [List.getD_eq_getElem?_getD,List.getElem?_eq_getElem hil,Option.getD_some]
        have fact:∀ b,decide (i < l.length∧(l.getD i (0,0)).1 = r) = b→∃ k:Nat,k≤l.length∧(∀ j (hj:j < k) (hjl:j < l.length),(l[j]).1 < r)∧(∀ j (hj:j < l.length),k≤j→r≤(l[j]).1) ∧
            Value.tuple (List.toArray [.int .i64 i,.bool b]) = .tuple (List.toArray [.int .i64 k,.bool (decide (k < l.length∧(l.getD k (0,0)).1 = r))])∧h1 = h1:=fun b hb=>⟨i,hjl,hlo,hhi,by rw [hb],rfl⟩
        rw [hgd] at fact
        generalize l[i] = x at g0 e1 fact
        unfold pairV at g0 e1
        (refine W_x (Aj hs (Aj g0 e1)) ?_; (repeat' first | apply Cj.mk | exact Nl.nl) <;> intros)
        · exact fact true (decide_eq_true ⟨hil,by omega⟩)
        · exact fact false (decide_eq_false (by omega))
      · (refine W_x hs ?_; (repeat' first | apply Cj.mk | exact Nl.nl) <;> intros)
        exact ⟨i,hjl,hlo,hhi,by rw [decide_eq_false (by omega)],rfl⟩
  obtain ⟨v,h',e,k,h1,h2,h3,rfl,rfl⟩:=main
  exact ⟨k,h1,h2,h3,e⟩
theorem of_eq {s:Sl} {l:List Span} {h:AH} (rd:Reads h 2 s (l.map pairV)) (hl:l.length < 100000000) (ok:SpOk l) (r:Int):callO PX 99 [.int .i32 r,s.val 2] h = some (.bool (ofI r l),h):=by
  have hs:=rd.len
  have e1:=validRune_eq r
  unfold ofI
  apply WpC.eqn
  refine wpc_fn (px_ext rfl) (px_fn fn_tables_of) rfl ?_
  unfold LF_tables_of
  simp only [argFr]
  cases hr:runeI r with
  | false =>
    rw [hr] at e1
    (refine W_x e1 ?_; (repeat' first | apply Cj.mk | exact Nl.nl) <;> intros)
    exact ⟨rfl,rfl⟩
  | true =>
    rw [hr] at e1
    obtain ⟨k,h1,h2,h3,e2⟩:=bsf_eq rd hl ok r hr
    have hany:∀ b,(b = true↔∃ x∈l,x.1≤r∧r≤x.2)→(l.any fun s=>decide (s.1≤r∧r≤s.2)) = b:=fun b hb=>by
      rw [Bool.eq_iff_iff,hb,List.any_eq_true]
      simp only [decide_eq_true_eq]
    have hk : (∃ x∈l,x.1≤r∧r≤x.2)↔(k < l.length∧(l.getD k (0,0)).1 = r)∨(0 < k∧r≤(l.getD (k - 1) (0,0)).2):=by
      constructor
      · rintro ⟨x,hx,hx1,hx2⟩
        obtain ⟨i,hi,rfl⟩:=List.mem_iff_getElem.1 hx
        rcases Nat.lt_or_ge i k with hik | hik
        · right
          refine ⟨by omega, ?_⟩
          rw [List.getD_eq_getElem?_getD,List.getElem?_eq_getElem (by omega:k - 1 < l.length),Option.getD_some]
          rcases Nat.eq_or_lt_of_le (show i≤k - 1 by omega) with h | h
          · subst h; exact hx2
          · have:=ok.ord i (k - 1) h (by omega)
            have:=h2 (k - 1) (by omega) (by omega)
            omega
        · left
          have a1:=h3 i hi hik
          have hkl:k < l.length:=by omega
          refine ⟨hkl, ?_⟩
          rw [List.getD_eq_getElem?_getD,List.getElem?_eq_getElem hkl,Option.getD_some]
          have a2:=h3 k hkl (Nat.le_refl _)
          rcases Nat.eq_or_lt_of_le hik with h | h
          · subst h; omega
          · have:=ok.ord k i h hi
            have:=(ok.rune _ (List.getElem_mem hkl)).2.2
            omega
      · rintro (⟨hkl,he⟩ | ⟨h0,he⟩)
        · rw [List.getD_eq_getElem?_getD,List.getElem?_eq_getElem hkl,Option.getD_some] at he
          have:=(ok.rune _ (List.getElem_mem hkl)).2.2
          exact ⟨_,List.getElem_mem hkl,by omega,by omega⟩
        · rw [List.getD_eq_getElem?_getD,List.getElem?_eq_getElem (by omega:k - 1 < l.length),Option.getD_some] at he
          have:=h2 (k - 1) (by omega) (by omega)
          exact ⟨_,List.getElem_mem (by omega:k - 1 < l.length),by omega,he⟩
    have gp:0 < k→∀ lc,Mem.rd ⟨lc,h⟩ (ptrOff (s.adr 2 (k - 1)) 1) 1 = some [.int .i32 (l.getD (k - 1) (0,0)).2]:=fun h0 lc=>by
      have:=rd_mapc (lc:=lc) rd (i:=k - 1) (by omega) (k:=1) (by decide)
      rw [this,List.getD_eq_getElem?_getD,List.getElem?_eq_getElem (by omega:k - 1 < l.length),Option.getD_some]
      rfl
    have t1:((k:Int) - 1).toNat = k - 1:=by omega
    rw [Bool.true_and]
    by_cases hd:k < l.length∧(l.getD k (0,0)).1 = r
    · rw [decide_eq_true hd] at e2
      rw [hany true (by rw [hk]; exact iff_of_true rfl (.inl hd))]
      (refine W_x (Aj e1 e2) ?_; (repeat' first | apply Cj.mk | exact Nl.nl) <;> intros)
      exact ⟨rfl,rfl⟩
    · rw [decide_eq_false hd] at e2
      by_cases h0:0 < k
      · have gp:=gp h0
        (refine W_x (Aj hs (Aj e1 (Aj e2 (Aj gp t1)))) ?_; (repeat' first | apply Cj.mk | exact Nl.nl) <;> intros)
        · rw [hany true (by rw [hk]; exact iff_of_true rfl (.inr ⟨h0,by omega⟩))]
          exact ⟨rfl,rfl⟩
        · rw [hany false (by rw [hk]; exact iff_of_false (by decide) (fun q=>q.elim hd (fun q=>by omega)))]
          exact ⟨rfl,rfl⟩
      · (refine W_x (Aj hs (Aj e1 e2)) ?_; (repeat' first | apply Cj.mk | exact Nl.nl) <;> intros)
        rw [hany false (by rw [hk]; exact iff_of_false (by decide) (fun q=>q.elim hd (fun q=>h0 q.1)))]
        exact ⟨rfl,rfl⟩
end Go.Proofs.YtakmapoompffgaaGreatDoor.AM
namespace Go.Proofs.YtakmapoompffgaaGreatDoor.AM
open Go
theorem runeCount_eq (s:ByteArray) (h:AH) (hsz:s.size < 100000000):callO PX 96 [.string s] h = some (.int .i64 (spots s.data.toList).length,h):=by
  apply WpC.eqn
  obtain ⟨l,hl⟩:∃ l,l = s.data.toList:=⟨_,rfl⟩
  have hll:l.length = s.size:=by rw [hl]; rfl
  have hsp:=spots_len l
  rw [← hl]
  refine wpc_fn (px_ext rfl) (px_fn fn_utf8_RuneCountInString) rfl ?_
  unfold LF_utf8_RuneCountInString
  simp only [argFr]
  (refine W_x @ev_rngS ?_; (repeat' first | apply Cj.mk | exact Nl.nl) <;> intros)
  refine wp_spots (some 2) 8 s l (fun h'=>h' = h) (fun i x=>(none:Option Unit)) hl (by intro n; simp only [setF,push_cast,Nat.reduceEqDiff, ↓reduceIte,reduceCtorEq,Nat.reduceAdd,Nat.reduceMul,Nat.reduceLeDiff]; rfl) (by repeat' first | exact True.intro | refine And.intro rfl ?_) (fun _=>rfl) (by intro n; simp only [setL,push_cast,Nat.reduceEqDiff, ↓reduceIte,reduceCtorEq,Nat.reduceAdd,Nat.reduceMul,Nat.reduceLeDiff]; rfl) rfl rfl (fun i hi h1 hj hit=>?_) fun h1 hj fin=>?_
  · subst hj
    (refine W_x trivial ?_; (repeat' first | apply Cj.mk | exact Nl.nl) <;> intros)
    refine wo_next hl rfl hi ?_
    (refine W_x trivial ?_; (repeat' first | apply Cj.mk | exact Nl.nl) <;> intros)
    exact ⟨rfl,(by repeat' first | exact True.intro | refine And.intro rfl ?_),rfl,rfl⟩
  · subst hj
    (refine W_x trivial ?_; (repeat' first | apply Cj.mk | exact Nl.nl) <;> intros)
    refine wo_nextE hl rfl ?_
    (refine W_x trivial ?_; (repeat' first | apply Cj.mk | exact Nl.nl) <;> intros)
    exact ⟨rfl,rfl⟩
def fixB (s:ByteArray):Bool:=(runesB s.data.toList).any fun c=>setI (c:Nat)
theorem any_runes {l:Bytes} {P:Nat→Bool}:(runesB l).any P = (scanL (spots l) fun i x=>if P x.1 = true then some i else none).isSome:=by
  unfold runesB
  rw [List.any_map]
  cases h:scanL (spots l) fun i x=>if P x.1 = true then some i else none with
  | some w =>
    obtain ⟨i,hi,hw⟩:=scanL_some h
    rw [List.any_eq_true.2 ⟨_,List.getElem_mem hi,by by_cases hp:P (spots l)[i].1 = true; exact hp; rw [if_neg hp] at hw; cases hw⟩]; rfl
  | none =>
    rw [List.any_eq_false.2 fun x hx hp=>?_]; rfl
    obtain ⟨i,hi,rfl⟩:=List.mem_iff_getElem.1 hx
    have:=scanL_none h i hi
    rw [if_pos (show P (spots l)[i].1 = true from hp)] at this
    cases this
theorem containsFixed_eq (s:ByteArray) (h:AH) (hsz:s.size < 100000000):callO PX 102 [.string s,.func (.func 103) #[] #[]] h = some (.bool (fixB s),h):=by
  obtain ⟨l,hl⟩:∃ l,l = s.data.toList:=⟨_,rfl⟩
  have hll:l.length = s.size:=by rw [hl]; rfl
  have e0:=fixed_eq
  have e1:callO PX 147 [.string s,.func (.func 103) #[] #[],.bool true] h = some (.int .i64 (match scanL (spots l) fun i x=>if setI (x.1:Nat) = true then some i else none with | some i=>(posn l i:Nat) | none => -1),h):=by
    apply WpC.eqn
    refine wpc_fn (px_ext rfl) (px_fn fn_strings_indexFunc) rfl ?_
    unfold LF_strings_indexFunc
    simp only [argFr]
    (refine W_x @ev_rngS ?_; (repeat' first | apply Cj.mk | exact Nl.nl) <;> intros)
    refine wp_spots none 20 s l (fun h'=>h' = h) (fun i x=>if setI (x.1:Nat) = true then some i else none) hl (fun _=>rfl) (by repeat' first | exact True.intro | refine And.intro rfl ?_) (fun _=>rfl) (by intro n; simp only [setL,push_cast,Nat.reduceEqDiff, ↓reduceIte,reduceCtorEq,Nat.reduceAdd,Nat.reduceMul,Nat.reduceLeDiff]; rfl) rfl rfl (fun i hi h1 hj hit=>?_) fun h1 hj fin=>?_
    · subst hj
      (refine W_x trivial ?_; (repeat' first | apply Cj.mk | exact Nl.nl) <;> intros)
      refine wo_next hl rfl hi ?_
      generalize (spots l)[i] = x at hit
      have e2:=e0 (x.1:Nat)
      generalize setI (x.1:Nat) = b at e2 hit
      cases b
      · (refine W_x e2 ?_; (repeat' first | apply Cj.mk | exact Nl.nl) <;> intros)
        exact ⟨rfl,(by repeat' first | exact True.intro | refine And.intro rfl ?_),rfl,rfl⟩
      · rw [hit i rfl]
        (refine W_x e2 ?_; (repeat' first | apply Cj.mk | exact Nl.nl) <;> intros)
        exact ⟨rfl,rfl⟩
    · subst hj
      rw [fin]
      (refine W_x trivial ?_; (repeat' first | apply Cj.mk | exact Nl.nl) <;> intros)
      refine wo_nextE hl rfl ?_
      (refine W_x trivial ?_; (repeat' first | apply Cj.mk | exact Nl.nl) <;> intros)
      exact ⟨rfl,rfl⟩
  have e2:callO PX 138 [.string s,.func (.func 103) #[] #[]] h = some (.int .i64 (match scanL (spots l) fun i x=>if setI (x.1:Nat) = true then some i else none with | some i=>(posn l i:Nat) | none => -1),h):=by
    apply WpC.eqn
    refine wpc_fn (px_ext rfl) (px_fn fn_strings_IndexFunc) rfl ?_
    unfold LF_strings_IndexFunc
    simp only [argFr]
    (refine W_x e1 ?_; (repeat' first | apply Cj.mk | exact Nl.nl) <;> intros)
    exact ⟨rfl,rfl⟩
  apply WpC.eqn
  refine wpc_fn (px_ext rfl) (px_fn fn_strings_ContainsFunc) rfl ?_
  unfold LF_strings_ContainsFunc
  simp only [argFr]
  unfold fixB
  rw [← hl,any_runes]
  cases hc:scanL (spots l) fun i x=>if setI (x.1:Nat) = true then some i else none with
  | none =>
    rw [hc] at e2
    simp only at e2
    (refine W_x e2 ?_; (repeat' first | apply Cj.mk | exact Nl.nl) <;> intros)
    exact ⟨rfl,rfl⟩
  | some i =>
    rw [hc] at e2
    simp only at e2
    (refine W_x e2 ?_; (repeat' first | apply Cj.mk | exact Nl.nl) <;> intros)
    exact ⟨rfl,rfl⟩
def lettS:ByteArray:=⟨#[45,48,49,50,51,52,53,54,55,56,57,97,98,99,100,101,102,103,104,105,106,107,108,109,110,111,112,113,114,115,116,117,118,119,120,121,122]⟩
def idxBI (s:ByteArray) (n:Nat):Int:=match (List.range s.size).find? fun i=>s[i]! == UInt8.ofNat n with
  | some i=>(i:Int)
  | none => -1
set_option maxRecDepth 100000 in
theorem lett_idx:∀ n:Fin 128,decide (0≤idxBI lettS n.val) = lettI ((n.val:Nat):Int):=by decide
def idxBP (v w:Value):Option Value:=(POp.idxB (.c v) (.c w)).ev []
theorem ev_idxBP {fr:Fr} {x c:Opd}:(POp.idxB x c).ev fr = idxBP (opd fr x) (opd fr c):=rfl
theorem idxBP_mk {s:ByteArray} {n:Int}:idxBP (.string s) (.int .u8 n) = some (.int .i64 (idxBI s n.toNat)):=rfl
theorem containsLett_eq (r:Int) (h:AH) (h0:0≤r) (h1:r < 128):callO PX 104 [.string lettS,.int .i32 r] h = some (.bool (lettI r),h):=by
  obtain ⟨n,rfl⟩:∃ n:Nat,r = n:=⟨r.toNat,by omega⟩
  have e0:callO PX 152 [.string lettS,.int .u8 n] h = some (.int .i64 (idxBI lettS n),h):=by
    apply WpC.eqn
    refine wpc_fn (px_ext rfl) (px_fn fn_internal_stringslite_IndexByte) rfl ?_
    unfold LF_internal_stringslite_IndexByte
    simp only [argFr]
    (refine W_x (Aj @ev_idxBP @idxBP_mk) ?_; (repeat' first | apply Cj.mk | exact Nl.nl) <;> intros)
    exact ⟨rfl,rfl⟩
  have e1:callO PX 148 [.string lettS,.int .u8 n] h = some (.int .i64 (idxBI lettS n),h):=by
    apply WpC.eqn
    refine wpc_fn (px_ext rfl) (px_fn fn_strings_IndexByte) rfl ?_
    unfold LF_strings_IndexByte
    simp only [argFr]
    (refine W_x e0 ?_; (repeat' first | apply Cj.mk | exact Nl.nl) <;> intros)
    exact ⟨rfl,rfl⟩
  have e2:callO PX 139 [.string lettS,.int .i32 n] h = some (.int .i64 (idxBI lettS n),h):=by
    apply WpC.eqn
    refine wpc_fn (px_ext rfl) (px_fn fn_strings_IndexRune) rfl ?_
    unfold LF_strings_IndexRune
    simp only [argFr]
    (refine W_x e1 ?_; (repeat' first | apply Cj.mk | exact Nl.nl) <;> intros)
    exact ⟨rfl,rfl⟩
  apply WpC.eqn
  refine wpc_fn (px_ext rfl) (px_fn fn_strings_ContainsRune) rfl ?_
  unfold LF_strings_ContainsRune
  simp only [argFr]
  rw [← lett_idx ⟨n,by omega⟩]
  generalize idxBI lettS n = z at e2
  (refine W_x e2 ?_; (repeat' first | apply Cj.mk | exact Nl.nl) <;> intros)
  all_goals (refine ⟨?_,rfl⟩; congr 1; symm; first | (exact decide_eq_true (by assumption)) | (exact decide_eq_false (by assumption)))
end Go.Proofs.YtakmapoompffgaaGreatDoor.AM
namespace Go.Proofs.YtakmapoompffgaaGreatDoor.AM
open Go
theorem or64 {a b:Nat} (ha:a < 18446744073709551616) (hb:b < 18446744073709551616):binA .or (.int .u64 a) (.int .u64 b) = some (.int .u64 ((a ||| b:Nat):Int))∧(a ||| b) < 18446744073709551616:=by
  have hl:(a ||| b) < 2 ^ 64:=Nat.or_lt_two_pow ha hb
  refine ⟨?_,hl⟩
  show some (Value.int .u64 (IntKind.u64.wrap (BitVec.ofInt 64 (a:Int) ||| BitVec.ofInt 64 (b:Int)).toNat)) = _
  have e:(BitVec.ofInt 64 (a:Int) ||| BitVec.ofInt 64 (b:Int)).toNat = a ||| b:=by
    rw [BitVec.toNat_or,show BitVec.ofInt 64 (a:Int) = BitVec.ofNat 64 a from BitVec.ofInt_natCast ..,show BitVec.ofInt 64 (b:Int) = BitVec.ofNat 64 b from BitVec.ofInt_natCast ..,BitVec.toNat_ofNat,BitVec.toNat_ofNat,Nat.mod_eq_of_lt ha,Nat.mod_eq_of_lt hb]
  rw [e,wrap_u64 (by omega) (by omega)]
theorem and64 {a b:Nat} (ha:a < 18446744073709551616) (hb:b < 18446744073709551616):binA .and (.int .u64 a) (.int .u64 b) = some (.int .u64 ((a &&& b:Nat):Int)):=by
  have hl:(a &&& b) < 2 ^ 64:=Nat.and_lt_two_pow a hb
  show some (Value.int .u64 (IntKind.u64.wrap (BitVec.ofInt 64 (a:Int) &&& BitVec.ofInt 64 (b:Int)).toNat)) = _
  have e:(BitVec.ofInt 64 (a:Int) &&& BitVec.ofInt 64 (b:Int)).toNat = a &&& b:=by
    rw [BitVec.toNat_and,show BitVec.ofInt 64 (a:Int) = BitVec.ofNat 64 a from BitVec.ofInt_natCast ..,show BitVec.ofInt 64 (b:Int) = BitVec.ofNat 64 b from BitVec.ofInt_natCast ..,BitVec.toNat_ofNat,BitVec.toNat_ofNat,Nat.mod_eq_of_lt ha,Nat.mod_eq_of_lt hb]
  rw [e,wrap_u64 (by omega) (by omega)]
theorem shl64 {b:Nat} (hb:b < 256) (k:Nat) (hk:k≤56):∃ m:Nat,binA .shl (.int .u64 b) (.int .u64 k) = some (.int .u64 m)∧m = b <<< k∧m < 18446744073709551616:=by
  have hp:2 ^ k≤2 ^ 56:=Nat.pow_le_pow_right (by decide) hk
  have hm:b * 2 ^ k < 18446744073709551616:=by
    have:b * 2 ^ k≤255 * 2 ^ 56:=Nat.mul_le_mul (by omega) hp
    omega
  refine ⟨b <<< k, ?_,rfl,by rw [Nat.shiftLeft_eq]; exact hm⟩
  have e0:binA .shl (.int .u64 b) (.int .u64 k) = if (k:Int) < 0 then none else some (Value.int .u64 (IntKind.u64.wrap ((b:Int) * 2 ^ (min (k:Int).toNat 64)))):=rfl
  rw [e0,if_neg (by omega),Nat.shiftLeft_eq]
  have e:min ((k:Int).toNat) 64 = k:=by omega
  have e2:((b * 2 ^ k:Nat):Int) = (b:Int) * 2 ^ k:=by rw [Int.natCast_mul,Int.natCast_pow]; rfl
  rw [e,← e2]
  generalize b * 2 ^ k = z at hm
  rw [wrap_u64 (by omega) (by omega)]
def wordN (l:Bytes):Nat:=((((((bat l 0 ||| bat l 1 <<< 8) ||| bat l 2 <<< 16) ||| bat l 3 <<< 24) ||| bat l 4 <<< 32) ||| bat l 5 <<< 40) ||| bat l 6 <<< 48) ||| bat l 7 <<< 56
def hiC:Nat:=9259542123273814144
set_option maxRecDepth 10000 in
theorem byte_low {b:Nat} (hb:b < 256) (h:b.testBit 7 = false):b < 128:=by
  have:∀ x:Fin 256,x.val.testBit 7 = false→x.val < 128:=by decide
  exact this ⟨b,hb⟩ h
theorem word_low {l:Bytes} (h:wordN l &&& hiC = 0):∀ k,k < 8→bat l k < 128:=by
  have hb:=fun k=>bat_lt l k
  have ht:∀ i,(wordN l).testBit i = true→hiC.testBit i = true→False:=fun i h1 h2=>by
    have:=congrArg (fun n=>Nat.testBit n i) h
    simp only [Nat.testBit_and,h1,h2,Nat.zero_testBit,Bool.and_self] at this
    cases this
  have hw:∀ k,k < 8→(bat l k).testBit 7 = true→(wordN l).testBit (8 * k + 7) = true:=fun k hk h7=>by
    unfold wordN
    simp only [Nat.testBit_or,Nat.testBit_shiftLeft]
    rcases (show k = 0∨k = 1∨k = 2∨k = 3∨k = 4∨k = 5∨k = 6∨k = 7 by omega) with rfl | rfl | rfl | rfl | rfl | rfl | rfl | rfl <;> simp [h7]
  have hc:∀ k,k < 8→hiC.testBit (8 * k + 7) = true:=by decide
  intro k hk
  refine byte_low (hb k) ?_
  cases h7:(bat l k).testBit 7 with
  | false=>rfl
  | true=>exact (ht _ (hw k hk h7) (hc k hk)).elim
theorem or_zero {a b:Nat} (h:(a ||| b) &&& hiC = 0):a &&& hiC = 0∧b &&& hiC = 0:=by
  rw [Nat.and_or_distrib_right] at h
  exact Nat.or_eq_zero_iff.1 h
theorem word_eq (s:ByteArray) (h:AH) (hs:8≤s.size):callO PX 134 [.string s] h = some (.int .u64 (wordN s.data.toList),h)∧wordN s.data.toList < 18446744073709551616:=by
  obtain ⟨l,hl⟩:∃ l,l = s.data.toList:=⟨_,rfl⟩
  rw [← hl]
  have hb:=fun k=>bat_lt l k
  unfold wordN
  obtain ⟨b0,q0⟩:∃ x,bat l 0 = x:=⟨_,rfl⟩
  obtain ⟨b1,q1⟩:∃ x,bat l 1 = x:=⟨_,rfl⟩
  obtain ⟨b2,q2⟩:∃ x,bat l 2 = x:=⟨_,rfl⟩
  obtain ⟨b3,q3⟩:∃ x,bat l 3 = x:=⟨_,rfl⟩
  obtain ⟨b4,q4⟩:∃ x,bat l 4 = x:=⟨_,rfl⟩
  obtain ⟨b5,q5⟩:∃ x,bat l 5 = x:=⟨_,rfl⟩
  obtain ⟨b6,q6⟩:∃ x,bat l 6 = x:=⟨_,rfl⟩
  obtain ⟨b7,q7⟩:∃ x,bat l 7 = x:=⟨_,rfl⟩
  have c0:=hb 0; have c1:=hb 1; have c2:=hb 2; have c3:=hb 3; have c4:=hb 4; have c5:=hb 5; have c6:=hb 6; have c7:=hb 7
  rw [q0] at c0; rw [q1] at c1; rw [q2] at c2; rw [q3] at c3; rw [q4] at c4; rw [q5] at c5; rw [q6] at c6; rw [q7] at c7
  rw [q0,q1,q2,q3,q4,q5,q6,q7]
  obtain ⟨m1,s1,r1,d1⟩:=shl64 c1 8 (by decide)
  obtain ⟨m2,s2,r2,d2⟩:=shl64 c2 16 (by decide)
  obtain ⟨m3,s3,r3,d3⟩:=shl64 c3 24 (by decide)
  obtain ⟨m4,s4,r4,d4⟩:=shl64 c4 32 (by decide)
  obtain ⟨m5,s5,r5,d5⟩:=shl64 c5 40 (by decide)
  obtain ⟨m6,s6,r6,d6⟩:=shl64 c6 48 (by decide)
  obtain ⟨m7,s7,r7,d7⟩:=shl64 c7 56 (by decide)
  rw [← r1,← r2,← r3,← r4,← r5,← r6,← r7]
  obtain ⟨o1,p1⟩:=or64 (show b0 < 18446744073709551616 by omega) d1
  generalize b0 ||| m1 = n1 at o1 p1
  obtain ⟨o2,p2⟩:=or64 p1 d2
  generalize n1 ||| m2 = n2 at o2 p2
  obtain ⟨o3,p3⟩:=or64 p2 d3
  generalize n2 ||| m3 = n3 at o3 p3
  obtain ⟨o4,p4⟩:=or64 p3 d4
  generalize n3 ||| m4 = n4 at o4 p4
  obtain ⟨o5,p5⟩:=or64 p4 d5
  generalize n4 ||| m5 = n5 at o5 p5
  obtain ⟨o6,p6⟩:=or64 p5 d6
  generalize n5 ||| m6 = n6 at o6 p6
  obtain ⟨o7,p7⟩:=or64 p6 d7
  generalize n6 ||| m7 = n7 at o7 p7
  refine ⟨?_,p7⟩
  clear r1 r2 r3 r4 r5 r6 r7
  push_cast at s1 s2 s3 s4 s5 s6 s7
  apply WpC.eqn
  refine wpc_fn (px_ext rfl) (px_fn fn_utf8_word_string) rfl ?_
  unfold LF_utf8_word_string
  simp only [argFr]
  (refine W_x (Aj hl.symm (Aj q0 (Aj q1 (Aj q2 (Aj q3 (Aj q4 (Aj q5 (Aj q6 (Aj q7 (Aj s1 (Aj s2 (Aj s3 (Aj s4 (Aj s5 (Aj s6 (Aj s7 (Aj o1 (Aj o2 (Aj o3 (Aj o4 (Aj o5 (Aj o6 o7)))))))))))))))))))))) ?_; (repeat' first | apply Cj.mk | exact Nl.nl) <;> intros)
  exact ⟨rfl,rfl⟩
end Go.Proofs.YtakmapoompffgaaGreatDoor.AM
