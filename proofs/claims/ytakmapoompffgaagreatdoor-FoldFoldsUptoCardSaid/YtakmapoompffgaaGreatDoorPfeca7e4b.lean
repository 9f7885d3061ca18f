/- Parts of proofs: lemmas, joined. -/
import Derived.Test.YtakmapoompffgaaGreatDoorPd3c72959
set_option linter.unusedVariables false
set_option linter.unusedSimpArgs false
set_option linter.unusedSectionVars false
namespace Go.Proofs.YtakmapoompffgaaGreatDoor.AM
open Go
theorem chkT_cons {ops:List LInstr} {c:Nat × Nat} {cs:List (Nat × Nat)} {tr:List (Fr × Mem)} (h1:chk1 ops tr c = true) (h2:chkT ops cs tr):chkT ops (c :: cs) tr:=by
  unfold chkT at *
  simp only [List.all_cons,h1,h2,Bool.and_self]
theorem chk1_of {ops:List LInstr} {tr:List (Fr × Mem)} {i j:Nat} {d:Option Nat} {o:ROp} {fr fr':Fr} {m m':Mem} {u v:Value} (h1:ops[i]? = some ⟨d,.r o,none⟩) (h2:tr[i]? = some (fr,m)) (h3:tr[j]? = some (fr',m'))
    (h4:o.ev fr m = some u) (h5:o.ev fr m' = some v) (h6:vsame u v = true):chk1 ops tr (i,j) = true:=by
  simp only [chk1,h1,h2,h3,wantedA,h4,h5,h6]
theorem vsame_aggs {xs ys:Array Value}:vsame (.agg xs) (.agg ys) = vsameL xs.toList ys.toList:=rfl
attribute [push_cast] vsame_aggs
theorem fromO_lt {l : List (Int × ByteArray)} {i:Nat} (hi:i < l.length):(ixI (fromO l (l[i]).1) < i)↔∃ y∈l.take i,(l[i]).1 = y.1:=by
  cases h:fromO l (l[i]).1 with
  | none =>
    exfalso
    have:=scanL_none h i hi
    rw [if_pos rfl] at this
    cases this
  | some j =>
    simp only [ixI]
    have hj:∃ hj:j < l.length,(l[j]).1 = (l[i]).1:=by
      obtain ⟨k,hk,hw⟩:=scanL_some h
      split at hw
      · rename_i he
        injection hw with hw
        subst hw
        exact ⟨hk,he⟩
      · cases hw
    obtain ⟨hjl,hje⟩:=hj
    constructor
    · intro hlt
      have hlt:j < i:=by omega
      refine ⟨l[j], ?_,hje.symm⟩
      rw [List.mem_take_iff_getElem]
      exact ⟨j,by omega,rfl⟩
    · rintro ⟨y,hy,he⟩
      rw [List.mem_take_iff_getElem] at hy
      obtain ⟨k,hk,rfl⟩:=hy
      rcases Nat.lt_or_ge j i with h1 | h1
      · omega
      · exfalso
        have hn : ∀ m,m < j→∀ hm:m < l.length,(l[m]).1≠(l[i]).1:=fun m hm hml he'=>by
          have hs : fromO l (l[i]).1≠some j:=fun q=>by
            unfold fromO scanL at q
            have hlow : ∃ m',m' < j∧m' < l.length∧(∀ q',q' < m'→((l[q']?).bind fun x=>if x.1 = (l[i]).1 then some q' else none) = none)∧((l[m']?).bind fun x=>if x.1 = (l[i]).1 then some m' else none) = some m':=by
              have:∃ m',m'≤m∧((l[m']?).bind fun x=>if x.1 = (l[i]).1 then some m' else none) = some m'∧∀ q',q' < m'→((l[q']?).bind fun x=>if x.1 = (l[i]).1 then some q' else none) = none:=by
                clear q hm
                induction m using Nat.strongRecOn with
                | ind m ih =>
                  by_cases hex:∃ q',q' < m∧((l[q']?).bind fun x=>if x.1 = (l[i]).1 then some q' else none)≠none
                  · obtain ⟨q',hq1,hq2⟩:=hex
                    have hql:q' < l.length:=by omega
                    rw [List.getElem?_eq_getElem hql] at hq2
                    have hqe:(l[q']).1 = (l[i]).1:=by
                      by_cases hc:(l[q']).1 = (l[i]).1
                      · exact hc
                      · exact absurd (if_neg hc) hq2
                    obtain ⟨m',a,b,c⟩:=ih q' hq1 hql hqe
                    exact ⟨m',by omega,b,c⟩
                  · refine ⟨m,Nat.le_refl _,by rw [List.getElem?_eq_getElem hml]; exact if_pos he',fun q' hq=>?_⟩
                    by_cases hc:((l[q']?).bind fun x=>if x.1 = (l[i]).1 then some q' else none) = none
                    · exact hc
                    · exact absurd ⟨q',hq,hc⟩ hex
              obtain ⟨m',a,b,c⟩:=this
              exact ⟨m',by omega,by omega,c,b⟩
            obtain ⟨m',a,b,c,e⟩:=hlow
            rw [scan_hit c b e] at q
            injection q with q
            omega
          exact hs h
        exact hn k (by omega) (by omega) he.symm
theorem find_some {α:Type} {L:List α} {P:α→Prop} [DecidablePred P]:(L.find? fun x=>decide (P x)).isSome = true↔∃ y∈L,P y:=by
  rw [List.find?_isSome]
  simp only [decide_eq_true_eq]
theorem find_true {α:Type} {L:List α} {P:α→Prop} [DecidablePred P]:((L.find? fun x=>decide (P x)).map fun _=>Value.bool true).getD (.bool false) = .bool (L.find? fun x=>decide (P x)).isSome:=by
  cases L.find? fun x=>decide (P x) <;> rfl
end Go.Proofs.YtakmapoompffgaaGreatDoor.AM
namespace Go.Proofs.YtakmapoompffgaaGreatDoor.AM
open Go
theorem take_snoc {α:Type} {l:List α} {i:Nat} (hi:i < l.length):l.take (i + 1) = l.take i ++ [l[i]]:=List.take_succ_eq_append_getElem hi
set_option maxHeartbeats 8000000 in
theorem cOnce {h:AH} {B:Nat} {S:TS} {T:Tab} {d:Value} (c:CAt h B S T d) (mp:MpAt h B [] [] [] []) (hcl:∀ x∈T.marks,x.2≠0) :
    WpC PX 58 [cP B] h fun v h'=>v = wrV (twiceW T)∧KpM B h h'∧(twiceW T = none→MpAt h' B T.marks T.pairs T.folds T.looks):=by
  have t:=c.t
  have hc:=c.c
  have hb:=c.b
  have hcn:=c.n
  have f:=t.fits
  have n0:=f.n0
  have hz:=f.n0s
  rw [← t.zs] at hz n0
  rw [List.length_map] at n0
  have s0:=t.r0.len
  have s2:=t.r2.len; have n2:=f.n2
  have s3:=t.r3.len; have n3:=f.n3
  have s4:=t.r4.len; have n4:=f.n4
  have s5:=t.r5.len; have n5:=f.n5
  have ew:=fun a b c h=>wrong_eq a b c h
  simp only [wrV] at ew
  refine wpc_fn (px_ext rfl) (px_fn fn_tables_check_once) rfl ?_
  unfold LF_tables_check_once
  simp only [argFr]
  unfold twiceW cP
  unfold cV at hc
  unfold bV at hb
  rw [← t.zs,scanL_map]
  (refine W_x (Aj hc (Aj s0 ew)) ?_; (repeat' first | apply Cj.mk | exact Nl.nl) <;> intros)
  obtain ⟨Z,hZ⟩:∃ Z,Z = S.z.map (·.1):=⟨_,rfl⟩
  have hZl:Z.length = S.z.length:=by rw [hZ,List.length_map]
  have hZi:∀ i (hi:i < S.z.length),Z[i]'(by omega) = (S.z[i]).1:=fun i hi=>by simp only [hZ,List.getElem_map]
  rw [← hZ]
  refine wp_scanJ (fun i h1=>Kp h h1∧h1.get h.n = some (.map ((Z.take i).map fun x=>(kS x.1,.bool true)))) 28 S.z (fun i z=>if ∃ y∈Z.take i,z.1.1 = y.1 then W 14 1 i else none) (by intro n; simp only [setF,push_cast,Nat.reduceEqDiff, ↓reduceIte,reduceCtorEq,Nat.reduceAdd,Nat.reduceMul,Nat.reduceLeDiff]; rfl) rfl
    ⟨(Kp.refl h).push _,by rw [List.take_zero]; exact AH.get_push_same h _⟩ (fun i hi h1 hj hit=>?_) fun h1 hj fin=>?_
  · obtain ⟨k1,hm⟩:=hj
    have g0:=fun lc=>rd_map (lc:=lc) (t.kp k1).r0 hi
    have hzi:=hZi i hi
    have hsn:=take_snoc (l:=Z) (i:=i) (by omega)
    rw [hzi] at hsn
    have hln:=AH.get_lt hm
    generalize S.z[i] = z at g0 hit hsn
    unfold scrV at g0
    have lk:=look_map (val:=fun _:Scr=>Value.bool true) kS_ok hm (.bool false) z.1.1
    rw [find_true] at lk
    have fs:=find_some (L:=Z.take i) (P:=fun y=>z.1.1 = y.1)
    generalize (Z.take i).find? (fun y=>decide (z.1.1 = y.1)) = o at lk fs
    unfold kS at lk
    cases hbo:o.isSome
    · rw [hbo] at lk fs
      have hno : ¬ ∃ y∈Z.take i,z.1.1 = y.1:=fun q=>by have:=fs.2 q; cases this
      have um:=fun lc=>up_map (val:=fun _:Scr=>Value.bool true) kS_ok hm lc z.1 rfl (fun y hy e=>hno ⟨y,hy,e⟩)
      unfold kS at um
      (refine W_x (Aj s0 (Aj g0 (Aj lk um))) ?_; (repeat' first | apply Cj.mk | exact Nl.nl) <;> intros)
      refine ⟨if_neg hno,rfl,rfl,⟨by rw [AH.set_n]; exact k1.1,fun b hb=>by rw [AH.get_set_ne _ (by omega)]; exact k1.2 b hb⟩, ?_⟩
      rw [AH.get_set_same _ hln,hsn]
      rfl
    · rw [hbo] at lk fs
      rw [hit _ (if_pos (fs.1 rfl))]
      (refine W_x (Aj s0 (Aj g0 (Aj lk ew))) ?_; (repeat' first | apply Cj.mk | exact Nl.nl) <;> intros)
      exact ⟨rfl,k1.m,fun q=>by cases q⟩
  rw [fin,Option.none_or]
  obtain ⟨k1,_⟩:=hj
  have c1:=c.kp k1
  have mp:=mp.kp k1
  clear fin hZi hZl
  have hc:=c1.c
  have hb:=c1.b
  unfold cV at hc
  unfold bV at hb
  have t:=c1.t
  have hcn:=c1.n
  (refine W_x (Aj hc (Aj hb (Aj s0 s2))) ?_; (repeat' first | apply Cj.mk | exact Nl.nl) <;> intros)
  refine wp_scanJ (fun i h2=>KpM B h1 h2∧MpAt h2 B (T.marks.take i) [] [] []) 49 T.marks (fun i x=>if ∃ y∈T.marks.take i,x.1 = y.1 then W 14 3 i else none) (by intro n; simp only [setF,push_cast,Nat.reduceEqDiff, ↓reduceIte,reduceCtorEq,Nat.reduceAdd,Nat.reduceMul,Nat.reduceLeDiff]; rfl) rfl
    ⟨(Kp.refl _).m,mp⟩ (fun i hi h2 hj hit=>?_) fun h2 hj fin=>?_
  · obtain ⟨k2,mp⟩:=hj
    have c2:=c1.kpm k2
    have hc:=c2.c
    have hb:=c2.b
    unfold cV at hc
    unfold bV at hb
    have hm:=mp.m1
    have g0:=fun lc=>rd_map (lc:=lc) c2.t.r2 hi
    have hsn:=take_snoc hi
    have hln:=AH.get_lt hm
    have hx:=fun y (hy:y∈T.marks.take i)=>hcl y (List.mem_of_mem_take hy)
    generalize T.marks[i] = x at g0 hit hsn
    unfold markV at g0
    have lk:=look_map (val:=mvC) kI_ok hm (.int .i64 0) x.1
    have fs:=find_some (L:=T.marks.take i) (P:=fun y=>x.1 = y.1)
    have fx:∀ y,(T.marks.take i).find? (fun y=>decide (x.1 = y.1)) = some y→y.2≠0:=fun y hy=>hx y (List.mem_of_find?_eq_some hy)
    generalize (T.marks.take i).find? (fun y=>decide (x.1 = y.1)) = o at lk fs fx
    unfold kI at lk
    cases o with
    | none =>
      have hno : ¬ ∃ y∈T.marks.take i,x.1 = y.1:=fun q=>by have:=fs.2 q; cases this
      have um:=fun lc=>up_map (val:=mvC) kI_ok hm lc x rfl (fun y hy e=>hno ⟨y,hy,e⟩)
      unfold kI mvC at um
      simp only [Option.map_none,Option.getD_none] at lk
      (refine W_x (Aj hc (Aj hb (Aj s2 (Aj g0 (Aj lk um))))) ?_; (repeat' first | apply Cj.mk | exact Nl.nl) <;> intros)
      refine ⟨if_neg hno,rfl,rfl,k2.trans (KpM.set _ (Nat.le_refl _) (by omega)), ?_,by rw [AH.get_set_ne _ (by omega)]; exact mp.m2,by rw [AH.get_set_ne _ (by omega)]; exact mp.m3,by rw [AH.get_set_ne _ (by omega)]; exact mp.m4,by rw [AH.get_set_ne _ (by omega)]; exact mp.m5⟩
      rw [AH.get_set_same _ hln,hsn]
      rfl
    | some y =>
      have:=fx y rfl
      simp only [Option.map_some,Option.getD_some,mvC] at lk
      rw [hit _ (if_pos (fs.1 rfl))]
      (refine W_x (Aj hc (Aj hb (Aj s2 (Aj g0 (Aj lk ew))))) ?_; (repeat' first | apply Cj.mk | exact Nl.nl) <;> intros)
      exact ⟨rfl,k1.m.trans k2,fun q=>by cases q⟩
  rw [fin,Option.none_or]
  obtain ⟨k2,mp⟩:=hj
  rw [List.take_length] at mp
  have c2:=c1.kpm k2
  have k2:=k1.m.trans k2
  clear fin
  have hc:=c2.c
  have hb:=c2.b
  unfold cV at hc
  unfold bV at hb
  (refine W_x (Aj hc (Aj hb (Aj s2 s3))) ?_; (repeat' first | apply Cj.mk | exact Nl.nl) <;> intros)
  refine wp_scanJ (fun i h3=>KpM B h2 h3∧MpAt h3 B T.marks (T.pairs.take i) [] []) 85 T.pairs (fun i x=>if ∃ y∈T.pairs.take i,x.1 = y.1∨(x.2.1 = y.2.1∧x.2.2 = y.2.2) then W 14 4 i else none) (by intro n; simp only [setF,push_cast,Nat.reduceEqDiff, ↓reduceIte,reduceCtorEq,Nat.reduceAdd,Nat.reduceMul,Nat.reduceLeDiff]; rfl) rfl
    ⟨(Kp.refl _).m,mp⟩ (fun i hi h3 hj hit=>?_) fun h3 hj fin=>?_
  · obtain ⟨k3,mp⟩:=hj
    have c3:=c2.kpm k3
    have hcn:=c3.n
    have hc:=c3.c
    have hb:=c3.b
    unfold cV at hc
    unfold bV at hb
    have g0:=fun lc=>rd_map (lc:=lc) c3.t.r3 hi
    have hsn:=take_snoc hi
    generalize T.pairs[i] = x at g0 hit hsn
    unfold tripV at g0
    have lk:=look_mapOk (val:=mvP) kI_ok mp.m2 (.agg (Array.mk [.int .i32 0,.int .i32 0])) x.1
    have fs:=find_some (L:=T.pairs.take i) (P:=fun y=>x.1 = y.1)
    have lk2:=look_mapOk (key:=fun x:Int × Int × Int=>(x.2.1,x.2.2)) (val:=mvJ) kP_ok mp.m3 (.int .i32 0) (x.2.1,x.2.2)
    have fs2:=find_some (L:=T.pairs.take i) (P:=fun y=>(x.2.1,x.2.2) = (y.2.1,y.2.2))
    generalize (T.pairs.take i).find? (fun y=>decide (x.1 = y.1)) = o at lk fs
    generalize (T.pairs.take i).find? (fun y=>decide ((x.2.1,x.2.2) = (y.2.1,y.2.2))) = o2 at lk2 fs2
    unfold kI at lk
    unfold kP at lk2
    cases o with
    | some y =>
      simp only [Option.map_some,Option.getD_some,mvP,kP,Option.isSome_some] at lk
      obtain ⟨q,hq1,hq2⟩:=fs.1 rfl
      rw [hit _ (if_pos ⟨q,hq1,.inl hq2⟩)]
      (refine W_y (Aj hc (Aj hb (Aj s3 (Aj g0 (Aj lk ew))))) ?_; (repeat' first | apply Cj.mk | exact Nl.nl) <;> intros)
      exact ⟨rfl,k2.trans k3,fun q=>by cases q⟩
    | none =>
      simp only [Option.map_none,Option.getD_none,Option.isSome_none] at lk
      have hno : ¬ ∃ y∈T.pairs.take i,x.1 = y.1:=fun q=>by have:=fs.2 q; cases this
      cases o2 with
      | some y =>
        simp only [Option.map_some,Option.getD_some,mvJ,Option.isSome_some] at lk2
        obtain ⟨q,hq1,hq2⟩:=fs2.1 rfl
        rw [hit _ (if_pos ⟨q,hq1,.inr (by simpa using hq2)⟩)]
        (refine W_y (Aj hc (Aj hb (Aj s3 (Aj g0 (Aj lk (Aj lk2 ew)))))) ?_; (repeat' first | apply Cj.mk | exact Nl.nl) <;> intros)
        exact ⟨rfl,k2.trans k3,fun q=>by cases q⟩
      | none =>
        simp only [Option.map_none,Option.getD_none,Option.isSome_none] at lk2
        have hno2 : ¬ ∃ y∈T.pairs.take i,(x.2.1,x.2.2) = (y.2.1,y.2.2):=fun q=>by have:=fs2.2 q; cases this
        obtain ⟨L,hL⟩:∃ L,L = T.pairs.take i:=⟨_,rfl⟩
        rw [← hL] at hno hno2 hsn
        have m2:=mp.m2
        have m3:=mp.m3
        rw [← hL] at m2 m3
        have en1:=fun lc=>ent_map (val:=mvP) kI_ok m2 (.agg (Array.mk [.int .i32 0,.int .i32 0])) lc x.1 (fun y hy e=>hno ⟨y,hy,e⟩)
        obtain ⟨hA,eA⟩:∃ hA,hA = h3.set (B + 1) (.map ((L.map fun x=>(kI x.1,mvP x)) ++ [(kI x.1,.agg (Array.mk [.int .i32 0,.int .i32 0]))])):=⟨_,rfl⟩
        have st1:=fun lc=>st_map (h:=hA) (m:=B + 1) (ke:=kI) (key:=fun x:Int × Int × Int=>x.1) (val:=mvP) (L:=L) (z:=.agg (Array.mk [.int .i32 0,.int .i32 0])) lc x (by rw [eA,AH.get_set_same _ (by omega)]) rfl
        obtain ⟨hB,eB⟩:∃ hB,hB = hA.set (B + 1) (.map ((L ++ [x]).map fun x=>(kI x.1,mvP x))):=⟨_,rfl⟩
        have m3b:hB.get (B + 2) = some (.map (L.map fun x=>(kP (x.2.1,x.2.2),mvJ x))):=by rw [eB,AH.get_set_ne _ (by omega),eA,AH.get_set_ne _ (by omega)]; exact m3
        have en2:=fun lc=>ent_map (key:=fun x:Int × Int × Int=>(x.2.1,x.2.2)) (val:=mvJ) kP_ok m3b (.int .i32 0) lc (x.2.1,x.2.2) (fun y hy e=>hno2 ⟨y,hy,e⟩)
        obtain ⟨hC,eC⟩:∃ hC,hC = hB.set (B + 2) (.map ((L.map fun x=>(kP (x.2.1,x.2.2),mvJ x)) ++ [(kP (x.2.1,x.2.2),.int .i32 0)])):=⟨_,rfl⟩
        have nA:hA.n = h3.n:=by rw [eA]; rfl
        have nB:hB.n = h3.n:=by rw [eB]; exact nA
        have nC:hC.n = h3.n:=by rw [eC]; exact nB
        have st2:=fun lc=>st_map (h:=hC) (m:=B + 2) (ke:=kP) (key:=fun x:Int × Int × Int=>(x.2.1,x.2.2)) (val:=mvJ) (L:=L) (z:=.int .i32 0) lc x (by rw [eC,AH.get_set_same _ (by omega)]) rfl
        obtain ⟨hD,eD⟩:∃ hD,hD = hC.set (B + 2) (.map ((L ++ [x]).map fun x=>(kP (x.2.1,x.2.2),mvJ x))):=⟨_,rfl⟩
        have nD:hD.n = h3.n:=by rw [eD]; exact nC
        rw [← eA] at en1
        rw [← eB] at st1
        rw [← eC] at en2
        rw [← eD] at st2
        have gD:∀ b,b≠B + 1→b≠B + 2→hD.get b = h3.get b:=fun b h1 h2=>by
          rw [eD,AH.get_set_ne _ h2,eC,AH.get_set_ne _ h2,eB,AH.get_set_ne _ h1,eA,AH.get_set_ne _ h1]
        simp only [kI] at en1
        simp only [mvP,kP] at st1
        simp only [kP] at en2
        simp only [mvJ] at st2
        (refine W_y (Aj hc (Aj hb (Aj s3 (Aj g0 (Aj lk (Aj lk2 (Aj ew (Aj en1 (Aj st1 (Aj en2 st2)))))))))) ?_; (repeat' first | apply Cj.mk | exact Nl.nl) <;> intros)
        refine ⟨if_neg ?_,rfl,rfl,k3.trans ⟨by rw [nD]; exact Nat.le_refl _,fun b _ hn=>gD b (by omega) (by omega)⟩, ?_, ?_, ?_, ?_, ?_⟩
        · rintro ⟨y,hy,he⟩
          rw [← hL] at hy
          rcases he with he | he
          · exact hno ⟨y,hy,he⟩
          · exact hno2 ⟨y,hy,by rw [he.1,he.2]⟩
        · rw [gD _ (by omega) (by omega)]; exact mp.m1
        · rw [eD,AH.get_set_ne _ (by omega),eC,AH.get_set_ne _ (by omega),eB,AH.get_set_same _ (by omega),hsn]
        · rw [eD,AH.get_set_same _ (by omega),hsn]
        · rw [gD _ (by omega) (by omega)]; exact mp.m4
        · rw [gD _ (by omega) (by omega)]; exact mp.m5
  rw [fin,Option.none_or]
  obtain ⟨k3,mp⟩:=hj
  rw [List.take_length] at mp
  have c3:=c2.kpm k3
  have k3:=k2.trans k3
  clear fin
  have hcn:=c3.n
  have hc:=c3.c
  have hb:=c3.b
  unfold cV at hc
  unfold bV at hb
  (refine W_x (Aj hc (Aj hb s3)) ?_; (repeat' first | apply Cj.mk | exact Nl.nl) <;> intros)
  refine wp_unroll ?_
  (refine W_x (Aj hc (Aj hb s4)) ?_; (repeat' first | apply Cj.mk | exact Nl.nl) <;> intros)
  refine wp_scanJ (fun i h4=>KpM B h3 h4∧h4.get h3.n = some (.cells false [.map (some (B + 3)),.map (some (B + 4))])∧MpAt h4 B T.marks T.pairs (T.folds.take i) []) 187 T.folds (fun i x=>if ixI (fromO T.folds x.1) < i then W 14 5 i else none) (by intro n; simp only [setF,push_cast,Nat.reduceEqDiff, ↓reduceIte,reduceCtorEq,Nat.reduceAdd,Nat.reduceMul,Nat.reduceLeDiff]; rfl) rfl
    ⟨(((Kp.refl _).push _).push _).m,by rw [AH.get_push_ne _ (by rw [AH.push_n]; omega)]; exact AH.get_push_same h3 _,mp.kp (((Kp.refl _).push _).push _)⟩ (fun i hi h4 hj hit=>?_) fun h4 hj fin=>?_
  · obtain ⟨k4,hx,mp⟩:=hj
    have c4:=c3.kpm k4
    have hcn:=c4.n
    have g0:=fun lc=>rd_map (lc:=lc) c4.t.r4 hi
    have hsn:=take_snoc hi
    have hlt:=fromO_lt hi
    generalize T.folds[i] = x at g0 hit hsn hlt
    unfold mapV at g0
    have hm:=mp.m4
    have lk:=look_mapOk (val:=mvF) kI_ok hm (.string ⟨#[]⟩) x.1
    have fs:=find_some (L:=T.folds.take i) (P:=fun y=>x.1 = y.1)
    cases ho:(T.folds.take i).find? (fun y=>decide (x.1 = y.1)) with
    | none =>
      rw [ho] at lk fs
      have hno : ¬ ∃ y∈T.folds.take i,x.1 = y.1:=fun q=>by have:=fs.2 q; cases this
      have um:=fun lc=>up_map (val:=mvF) kI_ok hm lc x rfl (fun y hy e=>hno ⟨y,hy,e⟩)
      unfold kI mvF at um
      unfold kI at lk
      simp only [Option.map_none,Option.getD_none,Option.isSome_none] at lk
      (refine W_x (Aj hx (Aj s4 (Aj g0 (Aj lk um)))) ?_; (repeat' first | apply Cj.mk | exact Nl.nl) <;> intros)
      refine ⟨if_neg (fun q=>hno (hlt.1 q)),rfl,rfl,k4.trans (KpM.set _ (by omega) (by omega)),by rw [AH.get_set_ne _ (by omega)]; exact hx,by rw [AH.get_set_ne _ (by omega)]; exact mp.m1,by rw [AH.get_set_ne _ (by omega)]; exact mp.m2,by rw [AH.get_set_ne _ (by omega)]; exact mp.m3, ?_,by rw [AH.get_set_ne _ (by omega)]; exact mp.m5⟩
      rw [AH.get_set_same _ (by omega),hsn]
      rfl
    | some y =>
      rw [ho] at lk fs
      unfold kI at lk
      simp only [Option.map_some,Option.getD_some,Option.isSome_some,mvF] at lk
      rw [hit _ (if_pos (hlt.2 (fs.1 rfl)))]
      (refine W_x (Aj hx (Aj s4 (Aj g0 (Aj lk ew)))) ?_; (repeat' first | apply Cj.mk | exact Nl.nl) <;> intros)
      exact ⟨rfl,k3.trans k4,fun q=>by cases q⟩
  rw [fin,Option.none_or]
  obtain ⟨k4,hx,mp⟩:=hj
  rw [List.take_length] at mp
  have c4:=c3.kpm k4
  have k3:=k3.trans k4
  clear fin
  have hcn:=c4.n
  have hc:=c4.c
  have hb:=c4.b
  unfold cV at hc
  unfold bV at hb
  (refine W_x (Aj hc (Aj hb (Aj hx s4))) ?_; (repeat' first | apply Cj.mk | exact Nl.nl) <;> intros)
  refine wp_unroll ?_
  (refine W_x (Aj hc (Aj hb (Aj hx s5))) ?_; (repeat' first | apply Cj.mk | exact Nl.nl) <;> intros)
  refine wp_scanJ (fun i h5=>KpM B h4 h5∧h5.get h3.n = some (.cells false [.map (some (B + 3)),.map (some (B + 4))])∧MpAt h5 B T.marks T.pairs T.folds (T.looks.take i)) 187 T.looks (fun i x=>if ixI (fromO T.looks x.1) < i then W 14 6 i else none) (by intro n; simp only [setF,push_cast,Nat.reduceEqDiff, ↓reduceIte,reduceCtorEq,Nat.reduceAdd,Nat.reduceMul,Nat.reduceLeDiff]; rfl) rfl
    ⟨(((Kp.refl _).push _)).m,by rw [AH.get_push_ne _ (by have:=AH.get_lt hx; omega)]; exact hx,mp.kp ((Kp.refl _).push _)⟩ (fun i hi h5 hj hit=>?_) fun h5 hj fin=>?_
  · obtain ⟨k5,hx,mp⟩:=hj
    have c4:=c4.kpm k5
    have hcn:=c4.n
    have g0:=fun lc=>rd_map (lc:=lc) c4.t.r5 hi
    have hsn:=take_snoc hi
    have hlt:=fromO_lt hi
    generalize T.looks[i] = x at g0 hit hsn hlt
    unfold mapV at g0
    have hm:=mp.m5
    have lk:=look_mapOk (val:=mvF) kI_ok hm (.string ⟨#[]⟩) x.1
    have fs:=find_some (L:=T.looks.take i) (P:=fun y=>x.1 = y.1)
    cases ho:(T.looks.take i).find? (fun y=>decide (x.1 = y.1)) with
    | none =>
      rw [ho] at lk fs
      have hno : ¬ ∃ y∈T.looks.take i,x.1 = y.1:=fun q=>by have:=fs.2 q; cases this
      have um:=fun lc=>up_map (val:=mvF) kI_ok hm lc x rfl (fun y hy e=>hno ⟨y,hy,e⟩)
      unfold kI mvF at um
      unfold kI at lk
      simp only [Option.map_none,Option.getD_none,Option.isSome_none] at lk
      (refine W_x (Aj hx (Aj s5 (Aj g0 (Aj lk um)))) ?_; (repeat' first | apply Cj.mk | exact Nl.nl) <;> intros)
      refine ⟨if_neg (fun q=>hno (hlt.1 q)),rfl,rfl,k5.trans (KpM.set _ (by omega) (by omega)),by rw [AH.get_set_ne _ (by omega)]; exact hx,by rw [AH.get_set_ne _ (by omega)]; exact mp.m1,by rw [AH.get_set_ne _ (by omega)]; exact mp.m2,by rw [AH.get_set_ne _ (by omega)]; exact mp.m3,by rw [AH.get_set_ne _ (by omega)]; exact mp.m4, ?_⟩
      rw [AH.get_set_same _ (by omega),hsn]
      rfl
    | some y =>
      rw [ho] at lk fs
      unfold kI at lk
      simp only [Option.map_some,Option.getD_some,Option.isSome_some,mvF] at lk
      rw [hit _ (if_pos (hlt.2 (fs.1 rfl)))]
      (refine W_x (Aj hx (Aj s5 (Aj g0 (Aj lk ew)))) ?_; (repeat' first | apply Cj.mk | exact Nl.nl) <;> intros)
      exact ⟨rfl,k3.trans k5,fun q=>by cases q⟩
  rw [fin]
  obtain ⟨k5,hx,mp⟩:=hj
  rw [List.take_length] at mp
  have c4:=c4.kpm k5
  have k3:=k3.trans k5
  clear fin
  have hcn:=c4.n
  have hc:=c4.c
  have hb:=c4.b
  unfold cV at hc
  unfold bV at hb
  (refine W_x (Aj hc (Aj hb (Aj hx s5))) ?_; (repeat' first | apply Cj.mk | exact Nl.nl) <;> intros)
  refine wp_unroll ?_
  (refine W_x hx ?_; (repeat' first | apply Cj.mk | exact Nl.nl) <;> intros)
  exact ⟨rfl,k3,fun _=>mp⟩
end Go.Proofs.YtakmapoompffgaaGreatDoor.AM
namespace Go.Proofs.YtakmapoompffgaaGreatDoor.AM
open Go
theorem scanL_ix {α:Type} {L:List α} {P:α→Prop} [DecidablePred P] (d:α):(L.find? fun x=>decide (P x)) = (scanL L fun i x=>if P x then some i else none).map fun j=>L.getD j d:=by
  cases h:scanL L fun i x=>if P x then some i else none with
  | none =>
    rw [Option.map_none,List.find?_eq_none]
    intro x hx
    obtain ⟨i,hi,rfl⟩:=List.mem_iff_getElem.1 hx
    have:=scanL_none h i hi
    intro hp
    rw [if_pos (of_decide_eq_true hp)] at this
    cases this
  | some j =>
    rw [Option.map_some]
    cases hf:L.find? fun x=>decide (P x) with
    | none =>
      exfalso
      obtain ⟨k,hk,hw⟩:=scanL_some h
      have:=List.find?_eq_none.1 hf _ (List.getElem_mem hk)
      rw [if_neg (by simpa using this)] at hw
      cases hw
    | some x =>
      obtain ⟨hp,ps,bs,rfl,hn⟩:=List.find?_eq_some_iff_append.1 hf
      have:(scanL (ps ++ x :: bs) fun i x=>if P x then some i else none) = some ps.length:=by
        refine scan_hit (i:=ps.length) (fun j hj=>?_) (by simp) ?_
        · rw [List.getElem?_append_left hj,List.getElem?_eq_getElem hj]
          have:=hn _ (List.getElem_mem hj)
          exact if_neg (by simpa using this)
        · rw [List.getElem?_append_right (Nat.le_refl _),Nat.sub_self]
          exact if_pos (of_decide_eq_true hp)
      rw [this] at h
      injection h with h
      subst h
      simp
theorem find_comm {α:Type} {L:List α} {f:α→Int} {r:Int}:(L.find? fun x=>decide (r = f x)) = L.find? fun x=>decide (f x = r):=by
  congr 1
  funext x
  exact decide_eq_decide.2 eq_comm
abbrev rowP (T:Tab) (j:Nat):Int × Int × Int:=T.pairs.getD j (0,0,0)
theorem whole_find (T:Tab) (r:Int):(T.pairs.find? fun x=>decide (r = x.1)) = (wholeO T r).map (rowP T):=by rw [find_comm]; exact scanL_ix _
theorem from_find (l:List (Int × ByteArray)) (r:Int):(l.find? fun x=>decide (r = x.1)) = (fromO l r).map fun j=>l.getD j (0,⟨#[]⟩):=by rw [find_comm]; exact scanL_ix _
theorem class_find (T:Tab) (r:Int):classI T r = ((T.marks.find? fun x=>decide (r = x.1)).map (·.2)).getD 0:=by
  unfold classI
  rw [find_comm,← scanL_find (P:=fun x:Int × Int=>x.1 = r) (val:=fun x=>x.2)]
theorem isMark_find (T:Tab) (r:Int):isMark T r = (T.marks.find? fun x=>decide (r = x.1)).isSome:=by
  unfold isMark
  rw [find_comm,Bool.eq_iff_iff,List.find?_isSome,List.any_eq_true]
theorem class_zero {T:Tab} (hcl:∀ x∈T.marks,x.2≠0) (r:Int):classI T r = 0↔isMark T r = false:=by
  rw [class_find,isMark_find]
  cases h:T.marks.find? fun x=>decide (r = x.1) with
  | none=>simp
  | some x =>
    have:=hcl x (List.mem_of_find?_eq_some h)
    simp [this]
section
variable {h:AH} {B:Nat} {T:Tab}
theorem m_mark (m:MpAt h B T.marks T.pairs T.folds T.looks) (r:Int):lookV (.one .int) (.int .i64 0) false h (.map (some B)) (.int .i32 r) = some (.int .i64 (classI T r)):=by
  have:=look_map kI_ok m.m1 (.int .i64 0) r
  unfold kI at this
  rw [this,class_find]
  cases T.marks.find? fun x=>decide (r = x.1) <;> rfl
theorem m_whole (m:MpAt h B T.marks T.pairs T.folds T.looks) (r:Int):lookV (.one .int) (.agg (Array.mk [.int .i32 0,.int .i32 0])) true h (.map (some (B + 1))) (.int .i32 r) =
    some (.tuple (List.toArray [((wholeO T r).map fun j=>kP (rowP T j).2).getD (.agg (Array.mk [.int .i32 0,.int .i32 0])),.bool (wholeO T r).isSome])):=by
  have:=look_mapOk kI_ok m.m2 (.agg (Array.mk [.int .i32 0,.int .i32 0])) r
  rw [whole_find,Option.map_map,Option.isSome_map] at this
  exact this
theorem m_fold (m:MpAt h B T.marks T.pairs T.folds T.looks) (r:Int):lookV (.one .int) (.string ⟨#[]⟩) true h (.map (some (B + 3))) (.int .i32 r) =
    some (.tuple (List.toArray [.string (((fromO T.folds r).map fun j=>(T.folds.getD j (0,⟨#[]⟩)).2).getD ⟨#[]⟩),.bool (fromO T.folds r).isSome])):=by
  have:=look_mapOk (val:=mvF) kI_ok m.m4 (.string ⟨#[]⟩) r
  rw [from_find,Option.map_map,Option.isSome_map] at this
  unfold kI at this
  rw [this]
  cases fromO T.folds r <;> rfl
theorem m_looks (m:MpAt h B T.marks T.pairs T.folds T.looks) (r:Int):lookV (.one .int) (.string ⟨#[]⟩) true h (.map (some (B + 4))) (.int .i32 r) =
    some (.tuple (List.toArray [.string (((fromO T.looks r).map fun j=>(T.looks.getD j (0,⟨#[]⟩)).2).getD ⟨#[]⟩),.bool (fromO T.looks r).isSome])):=by
  have:=look_mapOk (val:=mvF) kI_ok m.m5 (.string ⟨#[]⟩) r
  rw [from_find,Option.map_map,Option.isSome_map] at this
  unfold kI at this
  rw [this]
  cases fromO T.looks r <;> rfl
end
set_option maxHeartbeats 4000000 in
theorem cPairs {h:AH} {B:Nat} {S:TS} {T:Tab} {d:Value} (c:CAt h B S T d) (mp:MpAt h B T.marks T.pairs T.folds T.looks) (hcl:∀ x∈T.marks,x.2≠0) :
    WpC PX 59 [cP B] h fun v h'=>v = wrV (pairsW T)∧Kp h h':=by
  have t:=c.t
  have hc:=c.c
  have hb:=c.b
  have f:=t.fits
  have s3:=t.r3.len; have n3:=f.n3
  have ew:=fun a b c h=>wrong_eq a b c h
  simp only [wrV] at ew
  have cz:=fun r=>class_zero hcl r
  have cn:∀ r, ¬ classI T r = 0→isMark T r = true:=fun r q=>by cases e:isMark T r with | true=>rfl | false=>exact absurd ((cz r).2 e) q
  have mm:=fun r=>m_mark mp r
  refine wpc_fn (px_ext rfl) (px_fn fn_tables_check_pairs) rfl ?_
  unfold LF_tables_check_pairs
  simp only [argFr]
  unfold pairsW cP
  unfold cV at hc
  unfold bV at hb
  (refine W_x (Aj hc s3) ?_; (repeat' first | apply Cj.mk | exact Nl.nl) <;> intros)
  refine wp_scanF 11 T.pairs (fun i x=>if isMark T x.1 = true∨isMark T x.2.1 = true∨isMark T x.2.2 = false then W 32 4 i else none) (by intro n; simp only [setF,push_cast,Nat.reduceEqDiff, ↓reduceIte,reduceCtorEq,Nat.reduceAdd,Nat.reduceMul,Nat.reduceLeDiff]; rfl) rfl (fun i hi hit=>?_) fun fin=>?_
  · have g0:=fun lc=>rd_map (lc:=lc) t.r3 hi
    generalize T.pairs[i] = x at g0 hit
    unfold tripV at g0
    have z1:=cz x.1
    have z2:=cz x.2.1
    have z3:=cz x.2.2
    (refine W_x (Aj hc (Aj hb (Aj s3 (Aj g0 (Aj mm ew))))) ?_; (repeat' first | apply Cj.mk | exact Nl.nl) <;> intros)
    · rename_i q
      rw [hit _ (if_pos (.inr (.inr (z3.1 q))))]
      exact ⟨rfl,Kp.refl h⟩
    · rename_i q1 q2 q3
      refine ⟨if_neg ?_,rfl,rfl,rfl⟩
      rintro (q | q | q)
      · rw [z1.1 q1] at q; cases q
      · rw [z2.1 q2] at q; cases q
      · exact q3 (z3.2 q)
    · rename_i q
      rw [hit _ (if_pos (.inr (.inl (cn _ q))))]
      exact ⟨rfl,Kp.refl h⟩
    · rename_i q
      rw [hit _ (if_pos (.inl (cn _ q)))]
      exact ⟨rfl,Kp.refl h⟩
  · rw [fin]
    (refine W_x trivial ?_; (repeat' first | apply Cj.mk | exact Nl.nl) <;> intros)
    exact ⟨rfl,Kp.refl h⟩
end Go.Proofs.YtakmapoompffgaaGreatDoor.AM
namespace Go.Proofs.YtakmapoompffgaaGreatDoor.AM
open Go
set_option maxHeartbeats 4000000 in
theorem cChains {h:AH} {B:Nat} {S:TS} {T:Tab} {d:Value} (c:CAt h B S T d) (mp:MpAt h B T.marks T.pairs T.folds T.looks) :
    WpC PX 60 [cP B] h fun v h'=>v = wrV (chainsW T)∧Kp h h':=by
  have t:=c.t
  have hc:=c.c
  have hb:=c.b
  have f:=t.fits
  have s3:=t.r3.len; have n3:=f.n3
  have ew:=fun a b c h=>wrong_eq a b c h
  simp only [wrV] at ew
  have mw:=fun r=>m_whole mp r
  refine wpc_fn (px_ext rfl) (px_fn fn_tables_check_chains) rfl ?_
  unfold LF_tables_check_chains
  simp only [argFr]
  unfold chainsW cP
  unfold cV at hc
  unfold bV at hb
  (refine W_x (Aj hc s3) ?_; (repeat' first | apply Cj.mk | exact Nl.nl) <;> intros)
  refine wp_scanF 15 T.pairs (fun i x=>if chainN T T.pairs.length 1 x.2.1 < 0 then W 33 4 i else if 4 < chainN T T.pairs.length 1 x.2.1 then W 34 4 i else none) (by intro n; simp only [setF,push_cast,Nat.reduceEqDiff, ↓reduceIte,reduceCtorEq,Nat.reduceAdd,Nat.reduceMul,Nat.reduceLeDiff]; rfl) rfl (fun i hi hit=>?_) fun fin=>?_
  · have g0:=fun lc=>rd_map (lc:=lc) t.r3 hi
    generalize T.pairs[i] = x at g0 hit
    unfold tripV at g0
    (refine W_x (Aj hc (Aj hb (Aj s3 g0))) ?_; (repeat' first | apply Cj.mk | exact Nl.nl) <;> intros)
    refine wp_loop (fun w fr lc h1 => ∃ (n:Nat) (b:Int),w = T.pairs.length + 1 - n∧1≤n∧n≤T.pairs.length + 1∧chainN T T.pairs.length 1 x.2.1 = chainN T (T.pairs.length + 1 - n) n b∧h1 = h ∧
      fr = [(0,.pointer (some ⟨B + 6,0,none⟩)),(2,.pointer (some ⟨4,0,some 1⟩)),(3,.int .i64 i),(5,.int .i64 n),(6,.int .i32 b),(13,S.s3.val 3),(14,.int .i64 T.pairs.length),(15,.int .i64 i)]∧lc = [(4,.cells false [.int .i64 0,.int .i64 0,.int .i64 0])]) T.pairs.length
      ⟨1,x.2.1,by omega,Nat.le_refl _,by omega,by rw [Nat.add_sub_cancel],rfl,rfl,rfl⟩ ?_
    rintro w fr lc h1 ⟨n,b,rfl,hn1,hn2,he,rfl,rfl,rfl⟩
    rcases Nat.lt_or_ge T.pairs.length n with hn | hn
    · rw [show T.pairs.length + 1 - n = 0 by omega] at he
      simp only [chainN] at he
      rw [he,if_pos (by omega)] at hit
      (refine W_x (Aj hc (Aj hb (Aj s3 ew))) ?_; (repeat' first | apply Cj.mk | exact Nl.nl) <;> intros)
      rw [hit _ rfl]
      exact ⟨rfl,Kp.refl _⟩
    · obtain ⟨k,hk⟩:∃ k,T.pairs.length + 1 - n = k + 1:=⟨T.pairs.length - n,by omega⟩
      rw [hk] at he
      simp only [chainN] at he
      have mb:=mw b
      generalize wholeO T b = o at mb he
      cases o with
      | none =>
        simp only at he
        simp only [Option.map_none,Option.getD_none,Option.isSome_none] at mb
        (refine W_x (Aj hc (Aj hb (Aj s3 (Aj mb ew)))) ?_; (repeat' first | apply Cj.mk | exact Nl.nl) <;> intros)
        · rw [he,if_neg (by omega),if_pos (by omega)] at hit
          rw [hit _ rfl]
          exact ⟨rfl,Kp.refl _⟩
        · exact ⟨by rw [he,if_neg (by omega),if_neg (by omega)],rfl,rfl,rfl⟩
      | some m =>
        simp only at he
        simp only [Option.map_some,Option.getD_some,Option.isSome_some,kP] at mb
        (refine W_x (Aj hc (Aj hb (Aj s3 (Aj mb ew)))) ?_; (repeat' first | apply Cj.mk | exact Nl.nl) <;> intros)
        exact ⟨_,by omega,n + 1,(rowP T m).2.1,rfl,by omega,by omega,by rw [he,show T.pairs.length + 1 - (n + 1) = k by omega],rfl,by simp only [Int.natCast_add]; rfl,rfl⟩
  · rw [fin]
    (refine W_x trivial ?_; (repeat' first | apply Cj.mk | exact Nl.nl) <;> intros)
    exact ⟨rfl,Kp.refl h⟩
end Go.Proofs.YtakmapoompffgaaGreatDoor.AM
namespace Go.Proofs.YtakmapoompffgaaGreatDoor.AM
open Go
theorem drops1_eq {h:AH} {B b:Nat} {S:TS} {T:Tab} {d:Value} (c:CAt h B S T d) (ok:SpOk T.drops) (hx:h.get b = some (.cells false [cP B])) {s:Sl} {l:List Int} (rd:Reads h 1 s (l.map fun r=>[.int .i32 r])) (hl:l.length < 100000000) :
    callO PX 98 [s.val 1,.pointer (some ⟨b,0,none⟩)] h = some (.bool (l.any fun r=>ofI r T.drops),h):=by
  have hs:=rd.len
  have hc:=c.c
  have e1:=fun r=>of_eq c.t.r6 c.t.fits.n6 ok r
  have ha:(l.any fun r=>ofI r T.drops) = (scanL l fun _ r=>if ofI r T.drops = true then some () else none).isSome:=by
    rw [scanL_find (P:=fun r=>ofI r T.drops = true) (val:=fun _=>()),Option.isSome_map,Bool.eq_iff_iff,List.find?_isSome,List.any_eq_true]
    simp only [decide_eq_true_eq]
  rw [ha]
  apply WpC.eqn
  refine wpc_fn (px_ext rfl) (px_fn fn_tables_check_drops_1) rfl ?_
  unfold LF_tables_check_drops_1
  simp only [argFr]
  unfold cP at hx
  unfold cV at hc
  (refine W_x hs ?_; (repeat' first | apply Cj.mk | exact Nl.nl) <;> intros)
  refine wp_scanF 8 l (fun _ r=>if ofI r T.drops = true then some () else none) (by intro n; simp only [setF,push_cast,Nat.reduceEqDiff, ↓reduceIte,reduceCtorEq,Nat.reduceAdd,Nat.reduceMul,Nat.reduceLeDiff]; rfl) rfl (fun i hi hit=>?_) fun fin=>?_
  · have g0:=fun lc=>rd_map (lc:=lc) rd hi
    generalize l[i] = r at g0 hit
    have e2:=e1 r
    cases ho:ofI r T.drops
    · rw [ho] at e2
      (refine W_x (Aj hs (Aj g0 (Aj hx (Aj hc e2)))) ?_; (repeat' first | apply Cj.mk | exact Nl.nl) <;> intros)
      exact ⟨if_neg (by decide),rfl,rfl,rfl⟩
    · rw [ho] at e2
      (refine W_x (Aj hs (Aj g0 (Aj hx (Aj hc e2)))) ?_; (repeat' first | apply Cj.mk | exact Nl.nl) <;> intros)
      rw [hit _ (if_pos ho)]
      exact ⟨rfl,rfl⟩
  · rw [fin]
    (refine W_x trivial ?_; (repeat' first | apply Cj.mk | exact Nl.nl) <;> intros)
    exact ⟨rfl,rfl⟩
theorem reads_lit {h:AH} {l:List Int}:Reads (h.push (.cells false (l.map fun r=>Value.int .i32 r))) 1 (.at h.n 0 l.length) (l.map fun r=>[Value.int .i32 r]) :=
  ⟨by simp [Sl.len],fun x hx=>by obtain ⟨r,_,rfl⟩:=List.mem_map.1 hx; rfl,.inr ⟨false,[],[],by
    rw [AH.get_push_same,List.nil_append,List.append_nil]
    congr 2
    induction l with
    | nil=>rfl
    | cons a l ih=>rw [List.map_cons,List.map_cons,List.flatten_cons,← ih]; rfl,rfl⟩⟩
set_option maxHeartbeats 4000000 in
theorem cDrops {h:AH} {B:Nat} {S:TS} {T:Tab} {d:Value} (c:CAt h B S T d) (ok:SpOk T.drops) :
    WpC PX 61 [cP B] h fun v h'=>v = wrV (dropsW T)∧Kp h h':=by
  have t:=c.t
  have hc:=c.c
  have hb:=c.b
  have f:=t.fits
  have s2:=t.r2.len; have n2:=f.n2
  have s3:=t.r3.len; have n3:=f.n3
  have s4:=t.r4.len; have n4:=f.n4
  have s5:=t.r5.len; have n5:=f.n5
  have ew:=fun a b c h=>wrong_eq a b c h
  simp only [wrV] at ew
  have kx:=(Kp.refl h).push (.cells false [cP B])
  have hx0:=AH.get_push_same h (.cells false [cP B])
  have e1:∀ h1,Kp (h.push (.cells false [cP B])) h1→∀ r,callO PX 98 [.slice (some ⟨h1.n,0,none⟩) 1 1,.pointer (some ⟨h.n,0,none⟩)] (h1.push (.cells false [.int .i32 r])) = some (.bool (ofI r T.drops),h1.push (.cells false [.int .i32 r])):=fun h1 k r=>by
    have:=drops1_eq (c.kp (kx.trans (k.push (.cells false [.int .i32 r])))) ok ((k.push (.cells false [.int .i32 r])).get hx0) (reads_lit (l:=[r])) (by simp)
    simpa [Sl.val] using this
  have e3:∀ h1,Kp (h.push (.cells false [cP B])) h1→∀ r q p,callO PX 98 [.slice (some ⟨h1.n,0,none⟩) 3 1,.pointer (some ⟨h.n,0,none⟩)] (h1.push (.cells false [.int .i32 r,.int .i32 q,.int .i32 p])) = some (.bool (ofI r T.drops || (ofI q T.drops || ofI p T.drops)),h1.push (.cells false [.int .i32 r,.int .i32 q,.int .i32 p])):=fun h1 k r q p=>by
    have:=drops1_eq (c.kp (kx.trans (k.push (.cells false [.int .i32 r,.int .i32 q,.int .i32 p])))) ok ((k.push (.cells false [.int .i32 r,.int .i32 q,.int .i32 p])).get hx0) (reads_lit (l:=[r,q,p])) (by simp)
    simpa [Sl.val] using this
  refine wpc_fn (px_ext rfl) (px_fn fn_tables_check_drops) rfl ?_
  unfold LF_tables_check_drops
  simp only [argFr]
  unfold dropsW
  obtain ⟨hX,eX⟩:∃ hX,hX = h.push (.cells false [cP B]):=⟨_,rfl⟩
  rw [← eX] at kx hx0 e1 e3
  have cX:=c.kp kx
  unfold cP at eX hx0
  unfold cP
  have hc:=cX.c
  unfold cV at hc
  have bx:=AH.get_lt hx0
  (refine W_x (Aj eX.symm (Aj hx0 (Aj hc s2))) ?_; (repeat' first | apply Cj.mk | exact Nl.nl) <;> intros)
  refine wp_scanJ (fun _ h1=>Kp hX h1) 19 T.marks (fun i x=>if ofI x.1 T.drops = true then W 37 3 i else none) (by intro n; simp only [setF,push_cast,Nat.reduceEqDiff, ↓reduceIte,reduceCtorEq,Nat.reduceAdd,Nat.reduceMul,Nat.reduceLeDiff]; rfl) rfl (Kp.refl _) (fun i hi h1 k1 hit=>?_) fun h2 k1 fin=>?_
  · have c1:=cX.kp k1
    have hx:=k1.get hx0
    have hlt:=k1.1
    have g0:=fun lc=>rd_map (lc:=lc) c1.t.r2 hi
    generalize T.marks[i] = x at g0 hit
    unfold markV at g0
    have e:=e1 h1 k1 x.1
    cases ho:ofI x.1 T.drops
    · rw [ho] at e
      (refine W_x (Aj hx (Aj s2 (Aj g0 e))) ?_; (repeat' first | apply Cj.mk | exact Nl.nl) <;> intros)
      exact ⟨if_neg (by decide),rfl,rfl,k1.push _⟩
    · rw [ho] at e
      (refine W_x (Aj hx (Aj s2 (Aj g0 (Aj e ew)))) ?_; (repeat' first | apply Cj.mk | exact Nl.nl) <;> intros)
      rw [hit _ (if_pos ho)]
      exact ⟨rfl,kx.trans (k1.push _)⟩
  rw [fin,Option.none_or]
  clear fin
  have c1:=cX.kp k1
  have hx:=k1.get hx0
  have hlt:=k1.1
  have hc:=c1.c
  unfold cV at hc
  (refine W_x (Aj hx (Aj hc s3)) ?_; (repeat' first | apply Cj.mk | exact Nl.nl) <;> intros)
  refine wp_scanJ (fun _ h1=>Kp hX h1) 38 T.pairs (fun i x=>if ofI x.1 T.drops = true∨ofI x.2.1 T.drops = true∨ofI x.2.2 T.drops = true then W 37 4 i else none) (by intro n; simp only [setF,push_cast,Nat.reduceEqDiff, ↓reduceIte,reduceCtorEq,Nat.reduceAdd,Nat.reduceMul,Nat.reduceLeDiff]; rfl) rfl k1 (fun i hi h1 k1 hit=>?_) fun h3 k1 fin=>?_
  · have c1:=cX.kp k1
    have hx:=k1.get hx0
    have hlt:=k1.1
    have g0:=fun lc=>rd_map (lc:=lc) c1.t.r3 hi
    generalize T.pairs[i] = x at g0 hit
    unfold tripV at g0
    have e:=e3 h1 k1 x.1 x.2.1 x.2.2
    cases ho:(ofI x.1 T.drops || (ofI x.2.1 T.drops || ofI x.2.2 T.drops))
    · rw [ho] at e
      (refine W_x (Aj hx (Aj s3 (Aj g0 e))) ?_; (repeat' first | apply Cj.mk | exact Nl.nl) <;> intros)
      refine ⟨if_neg fun q=>?_,rfl,rfl,k1.push _⟩
      simp only [← Bool.or_eq_true,ho] at q
      cases q
    · rw [ho] at e
      (refine W_x (Aj hx (Aj s3 (Aj g0 (Aj e ew)))) ?_; (repeat' first | apply Cj.mk | exact Nl.nl) <;> intros)
      rw [hit _ (if_pos (by simp only [← Bool.or_eq_true]; exact ho))]
      exact ⟨rfl,kx.trans (k1.push _)⟩
  rw [fin,Option.none_or]
  clear fin
  have c1:=cX.kp k1
  have hx:=k1.get hx0
  have hlt:=k1.1
  have hc:=c1.c
  unfold cV at hc
  obtain ⟨O,eO⟩:∃ O,O = AObj.cells false [S.s4.val 2,S.s5.val 2]:=⟨_,rfl⟩
  have kO:=k1.push O
  have hO:=AH.get_push_same h3 O
  obtain ⟨hY,eY⟩:∃ hY,hY = h3.push O:=⟨_,rfl⟩
  rw [← eY] at kO hO
  subst eO
  have hOn:=AH.get_lt hO
  (refine W_x (Aj hx (Aj hc eY.symm)) ?_; (repeat' first | apply Cj.mk | exact Nl.nl) <;> intros)
  refine wp_unroll ?_
  (refine W_x (Aj hO s4) ?_; (repeat' first | apply Cj.mk | exact Nl.nl) <;> intros)
  refine wp_scanJ (fun _ h1=>Kp hX h1∧h1.get h3.n = some (.cells false [S.s4.val 2,S.s5.val 2])) 74 T.folds (fun i x=>if ofI x.1 T.drops = true then W 37 5 i else none) (by intro n; simp only [setF,push_cast,Nat.reduceEqDiff, ↓reduceIte,reduceCtorEq,Nat.reduceAdd,Nat.reduceMul,Nat.reduceLeDiff]; rfl) rfl ⟨kO,hO⟩ (fun i hi h1 hj hit=>?_) fun h4 hj fin=>?_
  · obtain ⟨k1,hO⟩:=hj
    have c1:=cX.kp k1
    have hx:=k1.get hx0
    have hlt:=k1.1
    have g0:=fun lc=>rd_map (lc:=lc) c1.t.r4 hi
    generalize T.folds[i] = x at g0 hit
    unfold mapV at g0
    have e:=e1 h1 k1 x.1
    cases ho:ofI x.1 T.drops
    · rw [ho] at e
      (refine W_x (Aj hx (Aj s4 (Aj g0 e))) ?_; (repeat' first | apply Cj.mk | exact Nl.nl) <;> intros)
      exact ⟨if_neg (by decide),rfl,rfl,k1.push _,by rw [AH.get_push_ne _ (by have:=AH.get_lt hO; omega)]; exact hO⟩
    · rw [ho] at e
      (refine W_x (Aj hx (Aj s4 (Aj g0 (Aj e ew)))) ?_; (repeat' first | apply Cj.mk | exact Nl.nl) <;> intros)
      rw [hit _ (if_pos ho)]
      exact ⟨rfl,kx.trans (k1.push _)⟩
  rw [fin,Option.none_or]
  clear fin
  obtain ⟨k1,hO⟩:=hj
  (refine W_x trivial ?_; (repeat' first | apply Cj.mk | exact Nl.nl) <;> intros)
  refine wp_unroll ?_
  (refine W_x (Aj hO s5) ?_; (repeat' first | apply Cj.mk | exact Nl.nl) <;> intros)
  refine wp_scanJ (fun _ h1=>Kp hX h1∧h1.get h3.n = some (.cells false [S.s4.val 2,S.s5.val 2])) 74 T.looks (fun i x=>if ofI x.1 T.drops = true then W 37 6 i else none) (by intro n; simp only [setF,push_cast,Nat.reduceEqDiff, ↓reduceIte,reduceCtorEq,Nat.reduceAdd,Nat.reduceMul,Nat.reduceLeDiff]; rfl) rfl ⟨k1,hO⟩ (fun i hi h1 hj hit=>?_) fun h5 hj fin=>?_
  · obtain ⟨k1,hO⟩:=hj
    have c1:=cX.kp k1
    have hx:=k1.get hx0
    have hlt:=k1.1
    have g0:=fun lc=>rd_map (lc:=lc) c1.t.r5 hi
    generalize T.looks[i] = x at g0 hit
    unfold mapV at g0
    have e:=e1 h1 k1 x.1
    cases ho:ofI x.1 T.drops
    · rw [ho] at e
      (refine W_x (Aj hx (Aj s5 (Aj g0 e))) ?_; (repeat' first | apply Cj.mk | exact Nl.nl) <;> intros)
      exact ⟨if_neg (by decide),rfl,rfl,k1.push _,by rw [AH.get_push_ne _ (by have:=AH.get_lt hO; omega)]; exact hO⟩
    · rw [ho] at e
      (refine W_x (Aj hx (Aj s5 (Aj g0 (Aj e ew)))) ?_; (repeat' first | apply Cj.mk | exact Nl.nl) <;> intros)
      rw [hit _ (if_pos ho)]
      exact ⟨rfl,kx.trans (k1.push _)⟩
  rw [fin]
  clear fin
  obtain ⟨k1,hO⟩:=hj
  (refine W_x trivial ?_; (repeat' first | apply Cj.mk | exact Nl.nl) <;> intros)
  refine wp_unroll ?_
  (refine W_x trivial ?_; (repeat' first | apply Cj.mk | exact Nl.nl) <;> intros)
  exact ⟨rfl,kx.trans k1⟩
end Go.Proofs.YtakmapoompffgaaGreatDoor.AM
namespace Go.Proofs.YtakmapoompffgaaGreatDoor.AM
open Go
set_option maxHeartbeats 4000000 in
theorem cFroms {h:AH} {B:Nat} {S:TS} {T:Tab} {d:Value} (c:CAt h B S T d) (mp:MpAt h B T.marks T.pairs T.folds T.looks) (hcl:∀ x∈T.marks,x.2≠0) :
    WpC PX 62 [cP B] h fun v h'=>v = wrV (fromsW T)∧Kp h h':=by
  have t:=c.t
  have hc:=c.c
  have hb:=c.b
  have f:=t.fits
  have s4:=t.r4.len; have n4:=f.n4
  have s5:=t.r5.len; have n5:=f.n5
  have ew:=fun a b c h=>wrong_eq a b c h
  simp only [wrV] at ew
  have cz:=fun r=>class_zero hcl r
  have cn:∀ r, ¬ classI T r = 0→isMark T r = true:=fun r q=>by cases e:isMark T r with | true=>rfl | false=>exact absurd ((cz r).2 e) q
  refine wpc_fn (px_ext rfl) (px_fn fn_tables_check_froms) rfl ?_
  unfold LF_tables_check_froms
  simp only [argFr]
  unfold fromsW cP
  unfold cV at hc
  (refine W_x hc ?_; (repeat' first | apply Cj.mk | exact Nl.nl) <;> intros)
  obtain ⟨O,eO⟩:∃ O,O = AObj.cells false [S.s4.val 2,S.s5.val 2]:=⟨_,rfl⟩
  have kO:=(Kp.refl h).push O
  have hO:=AH.get_push_same h O
  obtain ⟨hY,eY⟩:∃ hY,hY = h.push O:=⟨_,rfl⟩
  rw [← eY] at kO hO
  subst eO
  rw [← eY]
  have c:=c.kp kO
  have mp:=mp.kp kO
  have hc:=c.c
  have hb:=c.b
  unfold cV at hc
  unfold bV at hb
  have mm:=fun r=>m_mark mp r
  have mw:=fun r=>m_whole mp r
  refine wp_unroll ?_
  (refine W_x (Aj hO s4) ?_; (repeat' first | apply Cj.mk | exact Nl.nl) <;> intros)
  refine wp_scanF 28 T.folds (fun i x=>if isMark T x.1 = true∨(wholeO T x.1).isSome = true then W 31 5 i else none) (by intro n; simp only [setF,push_cast,Nat.reduceEqDiff, ↓reduceIte,reduceCtorEq,Nat.reduceAdd,Nat.reduceMul,Nat.reduceLeDiff]; rfl) rfl (fun i hi hit=>?_) fun fin=>?_
  · have g0:=fun lc=>rd_map (lc:=lc) c.t.r4 hi
    generalize T.folds[i] = x at g0 hit
    unfold mapV at g0
    have m1:=mm x.1
    have m2:=mw x.1
    have z:=cz x.1
    have z':=cn x.1
    have fv:∃ a b:Int,((wholeO T x.1).map fun j=>kP (rowP T j).2).getD (.agg (Array.mk [.int .i32 0,.int .i32 0])) = .agg (List.toArray [.int .i32 a,.int .i32 b]):=by
      cases wholeO T x.1 with
      | none=>exact ⟨0,0,rfl⟩
      | some j=>exact ⟨_,_,rfl⟩
    obtain ⟨a,b,hab⟩:=fv
    rw [hab] at m2
    generalize (wholeO T x.1).isSome = o at m2 hit
    cases o
    · (refine W_y (Aj hc (Aj hb (Aj s4 (Aj g0 (Aj m1 (Aj m2 ew)))))) ?_; (repeat' first | apply Cj.mk | exact Nl.nl) <;> intros)
      · rename_i q
        refine ⟨if_neg ?_,rfl,rfl,rfl⟩
        rw [z.1 q]
        simp
      · rename_i q
        rw [hit _ (if_pos (.inl (z' q)))]
        exact ⟨rfl,kO⟩
    · (refine W_y (Aj hc (Aj hb (Aj s4 (Aj g0 (Aj m1 (Aj m2 ew)))))) ?_; (repeat' first | apply Cj.mk | exact Nl.nl) <;> intros)
      rw [hit _ (if_pos (.inr rfl))]
      exact ⟨rfl,kO⟩
  rw [fin,Option.none_or]
  clear fin
  (refine W_x trivial ?_; (repeat' first | apply Cj.mk | exact Nl.nl) <;> intros)
  refine wp_unroll ?_
  (refine W_x (Aj hO s5) ?_; (repeat' first | apply Cj.mk | exact Nl.nl) <;> intros)
  refine wp_scanF 28 T.looks (fun i x=>if isMark T x.1 = true∨(wholeO T x.1).isSome = true then W 31 6 i else none) (by intro n; simp only [setF,push_cast,Nat.reduceEqDiff, ↓reduceIte,reduceCtorEq,Nat.reduceAdd,Nat.reduceMul,Nat.reduceLeDiff]; rfl) rfl (fun i hi hit=>?_) fun fin=>?_
  · have g0:=fun lc=>rd_map (lc:=lc) c.t.r5 hi
    generalize T.looks[i] = x at g0 hit
    unfold mapV at g0
    have m1:=mm x.1
    have m2:=mw x.1
    have z:=cz x.1
    have z':=cn x.1
    have fv:∃ a b:Int,((wholeO T x.1).map fun j=>kP (rowP T j).2).getD (.agg (Array.mk [.int .i32 0,.int .i32 0])) = .agg (List.toArray [.int .i32 a,.int .i32 b]):=by
      cases wholeO T x.1 with
      | none=>exact ⟨0,0,rfl⟩
      | some j=>exact ⟨_,_,rfl⟩
    obtain ⟨a,b,hab⟩:=fv
    rw [hab] at m2
    generalize (wholeO T x.1).isSome = o at m2 hit
    cases o
    · (refine W_y (Aj hc (Aj hb (Aj s5 (Aj g0 (Aj m1 (Aj m2 ew)))))) ?_; (repeat' first | apply Cj.mk | exact Nl.nl) <;> intros)
      · rename_i q
        refine ⟨if_neg ?_,rfl,rfl,rfl⟩
        rw [z.1 q]
        simp
      · rename_i q
        rw [hit _ (if_pos (.inl (z' q)))]
        exact ⟨rfl,kO⟩
    · (refine W_y (Aj hc (Aj hb (Aj s5 (Aj g0 (Aj m1 (Aj m2 ew)))))) ?_; (repeat' first | apply Cj.mk | exact Nl.nl) <;> intros)
      rw [hit _ (if_pos (.inr rfl))]
      exact ⟨rfl,kO⟩
  rw [fin]
  clear fin
  (refine W_x trivial ?_; (repeat' first | apply Cj.mk | exact Nl.nl) <;> intros)
  refine wp_unroll ?_
  (refine W_x trivial ?_; (repeat' first | apply Cj.mk | exact Nl.nl) <;> intros)
  exact ⟨rfl,kO⟩
end Go.Proofs.YtakmapoompffgaaGreatDoor.AM
namespace Go.Proofs.YtakmapoompffgaaGreatDoor.AM
open Go
structure BkAt (h:AH) (k B:Nat) (s6:Sl) (T:Tab):Prop where
  b:∃ x0 x1 x2 x3 x4 x5 x7:Value,h.get k = some (.cells false [x0,x1,x2,x3,x4,x5,s6.val 2,x7,.map (some B),.map (some (B + 1)),.map (some (B + 2)),.map (some (B + 3)),.map (some (B + 4))])
  mp:MpAt h B T.marks T.pairs T.folds T.looks
  r6:Reads h 2 s6 (T.drops.map pairV)
  n6:T.drops.length < 100000000
  ok:SpOk T.drops
  cl:∀ x∈T.marks,x.2≠0
theorem BkAt.kp {h h':AH} {k B:Nat} {s6:Sl} {T:Tab} (b:BkAt h k B s6 T) (q:Kp h h'):BkAt h' k B s6 T :=
  ⟨let ⟨x0,x1,x2,x3,x4,x5,x7,e⟩:=b.b; ⟨x0,x1,x2,x3,x4,x5,x7,q.get e⟩,b.mp.kp q,b.r6.kp q,b.n6,b.ok,b.cl⟩
theorem dropped_eq {h:AH} {k B:Nat} {s6:Sl} {T:Tab} (bk:BkAt h k B s6 T) (r:Int):callO PX 137 [.pointer (some ⟨k,0,none⟩),.int .i32 r] h = some (.bool (ofI r T.drops),h):=by
  obtain ⟨x0,x1,x2,x3,x4,x5,x7,hb⟩:=bk.b
  have e1:=of_eq bk.r6 bk.n6 bk.ok r
  apply WpC.eqn
  refine wpc_fn (px_ext rfl) (px_fn fn_tables_Book_Dropped) rfl ?_
  unfold LF_tables_Book_Dropped
  simp only [argFr]
  (refine W_x (Aj hb e1) ?_; (repeat' first | apply Cj.mk | exact Nl.nl) <;> intros)
  exact ⟨rfl,rfl⟩
theorem plain_eq {h:AH} {k B:Nat} {s6:Sl} {T:Tab} (bk:BkAt h k B s6 T) (r:Int):callO PX 100 [.pointer (some ⟨k,0,none⟩),.int .i32 r] h = some (.bool (plainI T r),h):=by
  have e1:=dropped_eq bk r
  obtain ⟨x0,x1,x2,x3,x4,x5,x7,hb⟩:=bk.b
  have e2:=validRune_eq r
  have m1:=m_mark bk.mp r
  have m2:=m_whole bk.mp r
  have m3:=m_fold bk.mp r
  have z:=class_zero bk.cl r
  have fv:∃ a b:Int,((wholeO T r).map fun j=>kP (rowP T j).2).getD (.agg (Array.mk [.int .i32 0,.int .i32 0])) = .agg (List.toArray [.int .i32 a,.int .i32 b]):=by
    cases wholeO T r with
    | none=>exact ⟨0,0,rfl⟩
    | some j=>exact ⟨_,_,rfl⟩
  obtain ⟨a,b,hab⟩:=fv
  rw [hab] at m2
  apply WpC.eqn
  refine wpc_fn (px_ext rfl) (px_fn fn_tables_Book_Plain) rfl ?_
  unfold LF_tables_Book_Plain
  simp only [argFr]
  unfold plainI
  rw [← Option.not_isSome,← Option.not_isSome]
  generalize (wholeO T r).isSome = o at m2 ⊢
  generalize (fromO T.folds r).isSome = o2 at m3 ⊢
  generalize runeI r = o3 at e2 ⊢
  generalize ofI r T.drops = o4 at e1 ⊢
  cases o3
  · (refine W_x (Aj hb (Aj e1 (Aj e2 (Aj m1 (Aj m2 m3))))) ?_; (repeat' first | apply Cj.mk | exact Nl.nl) <;> intros)
    exact ⟨by simp,rfl⟩
  cases hm:isMark T r
  · have hz:=z.2 hm
    rw [hz] at m1
    cases o
    · cases o2
      · cases o4
        · (refine W_x (Aj hb (Aj e1 (Aj e2 (Aj m1 (Aj m2 m3))))) ?_; (repeat' first | apply Cj.mk | exact Nl.nl) <;> intros)
          exact ⟨by simp,rfl⟩
        · (refine W_x (Aj hb (Aj e1 (Aj e2 (Aj m1 (Aj m2 m3))))) ?_; (repeat' first | apply Cj.mk | exact Nl.nl) <;> intros)
          exact ⟨by simp,rfl⟩
      · (refine W_x (Aj hb (Aj e1 (Aj e2 (Aj m1 (Aj m2 m3))))) ?_; (repeat' first | apply Cj.mk | exact Nl.nl) <;> intros)
        exact ⟨by simp,rfl⟩
    · (refine W_x (Aj hb (Aj e1 (Aj e2 (Aj m1 (Aj m2 m3))))) ?_; (repeat' first | apply Cj.mk | exact Nl.nl) <;> intros)
      exact ⟨by simp,rfl⟩
  · have hz : ¬ classI T r = 0:=fun q=>by rw [z.1 q] at hm; cases hm
    (refine W_x (Aj hb (Aj e1 (Aj e2 (Aj m1 (Aj m2 m3))))) ?_; (repeat' first | apply Cj.mk | exact Nl.nl) <;> intros)
    exact ⟨by simp,rfl⟩
theorem rnO_any {s:ByteArray} {l:Bytes} (hl:l = s.data.toList) (hv:validB l = true) {P:Nat→Prop} {Q:Nat→Bool} (hPQ:∀ c,P c↔Q c = true) :
    (∃ c∈(rnO s).getD [],P c)↔(scanL (spots l) fun i x=>if Q x.1 = true then some i else none).isSome = true:=by
  unfold rnO
  rw [← any_runes,← hl,if_pos hv,Option.getD_some,List.any_eq_true]
  exact ⟨fun ⟨c,h1,h2⟩=>⟨c,h1,(hPQ c).1 h2⟩,fun ⟨c,h1,h2⟩=>⟨c,h1,(hPQ c).2 h2⟩⟩
set_option maxHeartbeats 8000000 in
theorem cTos {h:AH} {B:Nat} {S:TS} {T:Tab} {d:Value} (c:CAt h B S T d) (mp:MpAt h B T.marks T.pairs T.folds T.looks) (hcl:∀ x∈T.marks,x.2≠0) (ok:SpOk T.drops)
    (hv4:∀ x∈T.folds,validB x.2.data.toList = true) (hv5:∀ x∈T.looks,validB x.2.data.toList = true) :
    WpC PX 63 [cP B] h fun v h'=>v = wrV (tosW T)∧Kp (h.set (B + 5) (.cells false (bV (S.s6.val 2) B))) h':=by
  have t:=c.t
  have hc:=c.c
  have hb:=c.b
  have hcn:=c.n
  have f:=t.fits
  have s4:=t.r4.len; have n4:=f.n4
  have s5:=t.r5.len; have n5:=f.n5
  have ew:=fun a b c h=>wrong_eq a b c h
  simp only [wrV] at ew
  obtain ⟨hY,eY⟩:∃ hY,hY = h.set (B + 5) (.cells false (bV (S.s6.val 2) B)):=⟨_,rfl⟩
  have gY:∀ b,b≠B + 5→hY.get b = h.get b:=fun b q=>by rw [eY]; exact AH.get_set_ne _ q
  have hbY:hY.get (B + 5) = some (.cells false (bV (S.s6.val 2) B)):=by rw [eY]; exact AH.get_set_same _ (by omega)
  have nY:hY.n = h.n:=by rw [eY]; rfl
  have mp:MpAt hY B T.marks T.pairs T.folds T.looks:=⟨by rw [gY _ (by omega)]; exact mp.m1,by rw [gY _ (by omega)]; exact mp.m2,by rw [gY _ (by omega)]; exact mp.m3,by rw [gY _ (by omega)]; exact mp.m4,by rw [gY _ (by omega)]; exact mp.m5⟩
  have cY:CAt hY B S T (S.s6.val 2):=⟨by rw [nY]; exact hcn,by rw [gY _ (by omega)]; exact c.c,hbY,by
    obtain ⟨h0,e,k0,t⟩:=c.o
    exact ⟨h0,e,⟨by rw [nY]; exact k0.1,fun b hb=>by rw [gY _ (by omega)]; exact k0.2 b hb⟩,t⟩⟩
  have bk:BkAt hY (B + 5) B S.s6 T:=⟨⟨_,_,_,_,_,_,_,hbY⟩,mp,cY.t.r6,f.n6,ok,hcl⟩
  have e1:=plain_eq bk
  have mf:=m_looks mp
  have hc':=cY.c
  rw [← eY]
  refine wpc_fn (px_ext rfl) (px_fn fn_tables_check_tos) rfl ?_
  unfold LF_tables_check_tos
  simp only [argFr]
  unfold tosW cP
  unfold cV at hc hc'
  unfold bV at hb hbY eY
  (refine W_x (Aj hc (Aj hb eY.symm)) ?_; (repeat' first | apply Cj.mk | exact Nl.nl) <;> intros)
  have hc:=hc'
  (refine W_x (Aj hc s4) ?_; (repeat' first | apply Cj.mk | exact Nl.nl) <;> intros)
  refine wp_scanF 31 T.folds (fun i x=>if ∃ c∈(rnO x.2).getD [],plainI T (c:Nat) = false then W 35 5 i else none) (by intro n; simp only [setF,push_cast,Nat.reduceEqDiff, ↓reduceIte,reduceCtorEq,Nat.reduceAdd,Nat.reduceMul,Nat.reduceLeDiff]; rfl) rfl (fun i hi hit=>?_) fun fin=>?_
  · have g0:=fun lc=>rd_map (lc:=lc) cY.t.r4 hi
    have hv:=hv4 _ (List.getElem_mem hi)
    generalize T.folds[i] = x at g0 hit hv
    unfold mapV at g0
    obtain ⟨l,hl⟩:∃ l,l = x.2.data.toList:=⟨_,rfl⟩
    have ra:=rnO_any (P:=fun c=>plainI T (c:Nat) = false) (Q:=fun c => !plainI T (c:Nat)) hl (hl ▸ hv) (fun c=>by cases plainI T (c:Nat) <;> simp)
    (refine W_x (Aj hc (Aj hbY (Aj s4 (Aj g0 @ev_rngS)))) ?_; (repeat' first | apply Cj.mk | exact Nl.nl) <;> intros)
    refine wp_spots none 76 x.2 l (fun h'=>h' = hY) (fun i x=>if (!plainI T (x.1:Nat)) = true then some i else none) hl (fun _=>rfl) (by repeat' first | exact True.intro | refine And.intro rfl ?_) (fun _=>rfl) (by intro n; simp only [setL,push_cast,Nat.reduceEqDiff, ↓reduceIte,reduceCtorEq,Nat.reduceAdd,Nat.reduceMul,Nat.reduceLeDiff]; rfl) rfl rfl (fun j hj h1 hh jit=>?_) fun h1 hh fin=>?_
    · subst hh
      (refine W_x trivial ?_; (repeat' first | apply Cj.mk | exact Nl.nl) <;> intros)
      refine wo_next hl rfl hj ?_
      generalize (spots l)[j] = y at jit
      have e2:=e1 (y.1:Nat)
      cases ho:plainI T (y.1:Nat)
      · rw [ho] at e2
        rw [hit _ (if_pos (ra.2 (by rw [jit j (if_pos (by rw [ho]; rfl))]; rfl)))]
        (refine W_x (Aj hc (Aj e2 ew)) ?_; (repeat' first | apply Cj.mk | exact Nl.nl) <;> intros)
        exact ⟨rfl,Kp.refl _⟩
      · rw [ho] at e2
        (refine W_x (Aj hc e2) ?_; (repeat' first | apply Cj.mk | exact Nl.nl) <;> intros)
        exact ⟨if_neg (by simp),(by repeat' first | exact True.intro | refine And.intro rfl ?_),rfl,rfl⟩
    · subst hh
      (refine W_x trivial ?_; (repeat' first | apply Cj.mk | exact Nl.nl) <;> intros)
      refine wo_nextE hl rfl ?_
      (refine W_x trivial ?_; (repeat' first | apply Cj.mk | exact Nl.nl) <;> intros)
      exact ⟨if_neg (fun q=>by have:=ra.1 q; rw [fin] at this; cases this),rfl,rfl,rfl⟩
  rw [fin,Option.none_or]
  (refine W_x (Aj hc s5) ?_; (repeat' first | apply Cj.mk | exact Nl.nl) <;> intros)
  refine wp_scanF 58 T.looks (fun i x=>if ∃ c∈(rnO x.2).getD [],plainI T (c:Nat) = false∨(fromO T.looks (c:Nat)).isSome = true then W 36 6 i else none) (by intro n; simp only [setF,push_cast,Nat.reduceEqDiff, ↓reduceIte,reduceCtorEq,Nat.reduceAdd,Nat.reduceMul,Nat.reduceLeDiff]; rfl) rfl (fun i hi hit=>?_) fun fin=>?_
  · have g0:=fun lc=>rd_map (lc:=lc) cY.t.r5 hi
    have hv:=hv5 _ (List.getElem_mem hi)
    generalize T.looks[i] = x at g0 hit hv
    unfold mapV at g0
    obtain ⟨l,hl⟩:∃ l,l = x.2.data.toList:=⟨_,rfl⟩
    have ra:=rnO_any (P:=fun c=>plainI T (c:Nat) = false∨(fromO T.looks (c:Nat)).isSome = true) (Q:=fun c => !plainI T (c:Nat) || (fromO T.looks (c:Nat)).isSome) hl (hl ▸ hv) (fun c=>by simp)
    (refine W_x (Aj hc (Aj hbY (Aj s5 (Aj g0 @ev_rngS)))) ?_; (repeat' first | apply Cj.mk | exact Nl.nl) <;> intros)
    refine wp_spots none 130 x.2 l (fun h'=>h' = hY) (fun i x=>if (!plainI T (x.1:Nat) || (fromO T.looks (x.1:Nat)).isSome) = true then some i else none) hl (fun _=>rfl) (by repeat' first | exact True.intro | refine And.intro rfl ?_) (fun _=>rfl) (by intro n; simp only [setL,push_cast,Nat.reduceEqDiff, ↓reduceIte,reduceCtorEq,Nat.reduceAdd,Nat.reduceMul,Nat.reduceLeDiff]; rfl) rfl rfl (fun j hj h1 hh jit=>?_) fun h1 hh fin=>?_
    · subst hh
      (refine W_x trivial ?_; (repeat' first | apply Cj.mk | exact Nl.nl) <;> intros)
      refine wo_next hl rfl hj ?_
      generalize (spots l)[j] = y at jit
      have e2:=e1 (y.1:Nat)
      have m5:=mf (y.1:Nat)
      cases ho2:(fromO T.looks (y.1:Nat)).isSome
      · rw [ho2] at m5
        cases ho:plainI T (y.1:Nat)
        · rw [ho] at e2
          rw [hit _ (if_pos (ra.2 (by rw [jit j (if_pos (by rw [ho]; rfl))]; rfl)))]
          (refine W_x (Aj hc (Aj hbY (Aj m5 (Aj e2 ew)))) ?_; (repeat' first | apply Cj.mk | exact Nl.nl) <;> intros)
          exact ⟨rfl,Kp.refl _⟩
        · rw [ho] at e2
          (refine W_x (Aj hc (Aj hbY (Aj m5 e2))) ?_; (repeat' first | apply Cj.mk | exact Nl.nl) <;> intros)
          exact ⟨if_neg (by simp),(by repeat' first | exact True.intro | refine And.intro rfl ?_),rfl,rfl⟩
      · rw [ho2] at m5
        rw [hit _ (if_pos (ra.2 (by rw [jit j (if_pos (by rw [ho2]; simp))]; rfl)))]
        (refine W_x (Aj hc (Aj hbY (Aj m5 ew))) ?_; (repeat' first | apply Cj.mk | exact Nl.nl) <;> intros)
        exact ⟨rfl,Kp.refl _⟩
    · subst hh
      (refine W_x trivial ?_; (repeat' first | apply Cj.mk | exact Nl.nl) <;> intros)
      refine wo_nextE hl rfl ?_
      (refine W_x trivial ?_; (repeat' first | apply Cj.mk | exact Nl.nl) <;> intros)
      exact ⟨if_neg (fun q=>by have:=ra.1 q; rw [fin] at this; cases this),rfl,rfl,rfl⟩
  rw [fin]
  (refine W_x trivial ?_; (repeat' first | apply Cj.mk | exact Nl.nl) <;> intros)
  exact ⟨rfl,Kp.refl _⟩
end Go.Proofs.YtakmapoompffgaaGreatDoor.AM
namespace Go.Proofs.YtakmapoompffgaaGreatDoor.AM
open Go
theorem scanL_const {α β:Type} {l:List α} {P:α→Prop} [DecidablePred P] {c:β}:(scanL l fun _ x=>if P x then some c else none) = if ∃ x∈l,P x then some c else none:=by
  rw [scanL_find (P:=P) (val:=fun _=>c)]
  have:=find_some (L:=l) (P:=P)
  cases h:l.find? fun x=>decide (P x) with
  | none =>
    rw [h] at this
    rw [if_neg fun q=>by have:=this.2 q; cases this]; rfl
  | some x =>
    rw [h] at this
    rw [if_pos (this.1 rfl)]; rfl
theorem scan_const {β:Type} {n:Nat} {P:Nat→Prop} [DecidablePred P] {c:β}:(scan n fun i=>if P i then some c else none) = if ∃ i,i < n∧P i then some c else none:=by
  by_cases h:∃ i,i < n∧P i
  · rw [if_pos h]
    cases hs:scan n fun i=>if P i then some c else none with
    | none =>
      obtain ⟨i,hi,hp⟩:=h
      have:=scan_none hs i hi
      rw [if_pos hp] at this
      cases this
    | some w =>
      obtain ⟨i,hi,hw⟩:=scan_some hs
      split at hw
      · exact hw.symm
      · cases hw
  · rw [if_neg h]
    exact scan_end fun j hj=>if_neg fun q=>h ⟨j,hj,q⟩
def digS:ByteArray:=⟨#[45,46,48,49,50,51,52,53,54,55,56,57]⟩
set_option maxRecDepth 100000 in
theorem spots_dig:(spots digS.data.toList).map (·.1) = ((List.range 13).filter fun i=>decide (i≠2)).map (45 + ·):=by decide
set_option maxRecDepth 100000 in
theorem spots_lett:(spots lettS.data.toList).map (·.1) = ((List.range 78).filter fun i=>lettI ((45 + i:Nat):Int)).map (45 + ·):=by decide
theorem ex_dig {P:Nat→Prop}:(∃ x∈spots digS.data.toList,P x.1)↔∃ i,i < 13∧i≠2∧P (45 + i):=by
  have:(∃ x∈spots digS.data.toList,P x.1)↔∃ r∈(spots digS.data.toList).map (·.1),P r:=by simp
  rw [this,spots_dig]
  simp only [List.mem_map,List.mem_filter,List.mem_range,decide_eq_true_eq]
  exact ⟨fun ⟨r,⟨a,⟨h1,h2⟩,e⟩,h3⟩=>⟨a,h1,h2,by rw [e]; exact h3⟩,fun ⟨a,h1,h2,h3⟩=>⟨_,⟨a,⟨h1,h2⟩,rfl⟩,h3⟩⟩
theorem ex_lett {P:Nat→Prop}:(∃ x∈spots lettS.data.toList,P x.1)↔∃ i,i < 78∧lettI ((45 + i:Nat):Int) = true∧P (45 + i):=by
  have:(∃ x∈spots lettS.data.toList,P x.1)↔∃ r∈(spots lettS.data.toList).map (·.1),P r:=by simp
  rw [this,spots_lett]
  simp only [List.mem_map,List.mem_filter,List.mem_range,decide_eq_true_eq]
  exact ⟨fun ⟨r,⟨a,⟨h1,h2⟩,e⟩,h3⟩=>⟨a,h1,h2,by rw [e]; exact h3⟩,fun ⟨a,h1,h2,h3⟩=>⟨_,⟨a,⟨h1,h2⟩,rfl⟩,h3⟩⟩
theorem fixB_sets {s:ByteArray} (hv:validB s.data.toList = true):fixB s = setsB s:=by
  unfold fixB setsB rnO
  rw [if_pos hv,Option.getD_some]
set_option maxHeartbeats 8000000 in
theorem cHouse {h:AH} {B:Nat} {S:TS} {T:Tab} {d:Value} (c:CAt h B S T d) (ok1:SpOk T.common) (ok7:SpOk T.allowed)
    (hv4:∀ x∈T.folds,validB x.2.data.toList = true) (hv5:∀ x∈T.looks,validB x.2.data.toList = true) :
    WpC PX 64 [cP B] h fun v h'=>v = wrV (houseW T)∧Kp h h':=by
  have t:=c.t
  have hc:=c.c
  have f:=t.fits
  have s2:=t.r2.len; have n2:=f.n2
  have s3:=t.r3.len; have n3:=f.n3
  have s4:=t.r4.len; have n4:=f.n4
  have s5:=t.r5.len; have n5:=f.n5
  have s6:=t.r6.len; have n6:=f.n6
  have s7:=t.r7.len; have n7:=f.n7
  have ew:=fun a b c h=>wrong_eq a b c h
  simp only [wrV] at ew
  have e0:=fun r=>of_eq t.r1 f.n1 ok1 r
  have e7:=fun r=>of_eq t.r7 f.n7 ok7 r
  have e1:=low_eq
  have e2:=fixed_eq
  refine wpc_fn (px_ext rfl) (px_fn fn_tables_check_house) rfl ?_
  unfold LF_tables_check_house
  simp only [argFr]
  unfold houseW rowsW cP
  unfold cV at hc
  (refine W_x @ev_rngS ?_; (repeat' first | apply Cj.mk | exact Nl.nl) <;> intros)
  refine wp_spots none 40 digS digS.data.toList (fun h'=>h' = h) (fun _ x=>if ofI (x.1:Nat) T.common = false then W 5 2 0 else none) rfl (fun _=>rfl) (by repeat' first | exact True.intro | refine And.intro rfl ?_) (fun _=>rfl) (by intro n; simp only [setL,push_cast,Nat.reduceEqDiff, ↓reduceIte,reduceCtorEq,Nat.reduceAdd,Nat.reduceMul,Nat.reduceLeDiff]; rfl) rfl rfl (fun j hj h1 hh jit=>?_) fun h1 hh fin=>?_
  · subst hh
    (refine W_x trivial ?_; (repeat' first | apply Cj.mk | exact Nl.nl) <;> intros)
    refine wo_next rfl rfl hj ?_
    have hm:=List.getElem_mem hj
    generalize (spots digS.data.toList)[j] = y at jit hm
    have e3:=e0 (y.1:Nat)
    cases ho:ofI (y.1:Nat) T.common
    · rw [ho] at e3
      have hr:(scan 13 fun i=>if i≠2∧ofI ((45 + i:Nat):Int) T.common = false then W 5 2 0 else none) = W 5 2 0:=by
        rw [scan_const]
        exact if_pos ((ex_dig (P:=fun n=>ofI (n:Nat) T.common = false)).1 ⟨y,hm,ho⟩)
      rw [hr]
      (refine W_x (Aj hc (Aj e3 ew)) ?_; (repeat' first | apply Cj.mk | exact Nl.nl) <;> intros)
      exact ⟨rfl,Kp.refl _⟩
    · rw [ho] at e3
      (refine W_x (Aj hc e3) ?_; (repeat' first | apply Cj.mk | exact Nl.nl) <;> intros)
      exact ⟨if_neg (by simp),(by repeat' first | exact True.intro | refine And.intro rfl ?_),rfl,rfl⟩
  subst hh
  have hr:(scan 13 fun i=>if i≠2∧ofI ((45 + i:Nat):Int) T.common = false then W 5 2 0 else none) = none:=by
    rw [scanL_const] at fin
    rw [scan_const]
    exact if_neg fun q=>by rw [if_pos ((ex_dig (P:=fun n=>ofI (n:Nat) T.common = false)).2 q)] at fin; cases fin
  rw [hr,Option.none_or]
  clear fin hr
  (refine W_x (Aj hc s2) ?_; (repeat' first | apply Cj.mk | exact Nl.nl) <;> intros)
  refine wp_scanF 39 T.marks (fun i x=>if lowI x.1 = true then W 5 3 i else none) (by intro n; simp only [setF,push_cast,Nat.reduceEqDiff, ↓reduceIte,reduceCtorEq,Nat.reduceAdd,Nat.reduceMul,Nat.reduceLeDiff]; rfl) rfl (fun i hi hit=>?_) fun fin=>?_
  · have g0:=fun lc=>rd_map (lc:=lc) t.r2 hi
    generalize T.marks[i] = x at g0 hit
    unfold markV at g0
    have e3:=e1 x.1
    generalize lowI x.1 = b at e3 hit
    cases b
    · (refine W_x (Aj s2 (Aj g0 e3)) ?_; (repeat' first | apply Cj.mk | exact Nl.nl) <;> intros)
      exact ⟨rfl,rfl,rfl,rfl⟩
    · rw [hit _ (if_pos rfl)]
      (refine W_x (Aj s2 (Aj g0 (Aj e3 ew))) ?_; (repeat' first | apply Cj.mk | exact Nl.nl) <;> intros)
      exact ⟨rfl,Kp.refl _⟩
  rw [fin,Option.none_or]
  (refine W_x (Aj hc s3) ?_; (repeat' first | apply Cj.mk | exact Nl.nl) <;> intros)
  refine wp_scanF 56 T.pairs (fun i x=>if lowI x.1 = true then W 5 4 i else none) (by intro n; simp only [setF,push_cast,Nat.reduceEqDiff, ↓reduceIte,reduceCtorEq,Nat.reduceAdd,Nat.reduceMul,Nat.reduceLeDiff]; rfl) rfl (fun i hi hit=>?_) fun fin=>?_
  · have g0:=fun lc=>rd_map (lc:=lc) t.r3 hi
    generalize T.pairs[i] = x at g0 hit
    unfold tripV at g0
    have e3:=e1 x.1
    generalize lowI x.1 = b at e3 hit
    cases b
    · (refine W_x (Aj s3 (Aj g0 e3)) ?_; (repeat' first | apply Cj.mk | exact Nl.nl) <;> intros)
      exact ⟨rfl,rfl,rfl,rfl⟩
    · rw [hit _ (if_pos rfl)]
      (refine W_x (Aj s3 (Aj g0 (Aj e3 ew))) ?_; (repeat' first | apply Cj.mk | exact Nl.nl) <;> intros)
      exact ⟨rfl,Kp.refl _⟩
  rw [fin,Option.none_or]
  (refine W_x (Aj hc s4) ?_; (repeat' first | apply Cj.mk | exact Nl.nl) <;> intros)
  refine wp_scanF 73 T.folds (fun i x=>if (lowI x.1 = true∧(x.1 < 65∨90 < x.1))∨setsB x.2 = true then W 5 5 i else none) (by intro n; simp only [setF,push_cast,Nat.reduceEqDiff, ↓reduceIte,reduceCtorEq,Nat.reduceAdd,Nat.reduceMul,Nat.reduceLeDiff]; rfl) rfl (fun i hi hit=>?_) fun fin=>?_
  · have g0:=fun lc=>rd_map (lc:=lc) t.r4 hi
    have hx:=f.v4 _ (List.getElem_mem hi)
    have hv:=hv4 _ (List.getElem_mem hi)
    generalize T.folds[i] = x at g0 hit hx hv
    unfold mapV at g0
    have e4:=containsFixed_eq x.2 h1 hx.2
    rw [fixB_sets hv] at e4
    have e3:=e1 x.1
    generalize lowI x.1 = b at e3 hit
    generalize setsB x.2 = b2 at e4 hit
    cases b
    · cases b2
      · (refine W_x (Aj s4 (Aj g0 (Aj e3 e4))) ?_; (repeat' first | apply Cj.mk | exact Nl.nl) <;> intros)
        exact ⟨if_neg (by simp),rfl,rfl,rfl⟩
      · rw [hit _ (if_pos (.inr rfl))]
        (refine W_x (Aj s4 (Aj g0 (Aj e3 (Aj e4 ew)))) ?_; (repeat' first | apply Cj.mk | exact Nl.nl) <;> intros)
        exact ⟨rfl,Kp.refl _⟩
    · cases b2
      · (refine W_x (Aj s4 (Aj g0 (Aj e3 (Aj e4 ew)))) ?_; (repeat' first | apply Cj.mk | exact Nl.nl) <;> intros)
        · rw [hit _ (if_pos (.inl ⟨rfl,by omega⟩))]
          exact ⟨rfl,Kp.refl _⟩
        · rw [hit _ (if_pos (.inl ⟨rfl,by omega⟩))]
          exact ⟨rfl,Kp.refl _⟩
        · exact ⟨if_neg (by simp; omega),rfl,rfl,rfl⟩
      · rw [hit _ (if_pos (.inr rfl))]
        (refine W_x (Aj s4 (Aj g0 (Aj e3 (Aj e4 ew)))) ?_; (repeat' first | apply Cj.mk | exact Nl.nl) <;> intros)
        all_goals exact ⟨rfl,Kp.refl _⟩
  rw [fin,Option.none_or]
  (refine W_x (Aj hc s5) ?_; (repeat' first | apply Cj.mk | exact Nl.nl) <;> intros)
  refine wp_scanF 105 T.looks (fun i x=>if setI x.1 = true∨setsB x.2 = true then W 5 6 i else none) (by intro n; simp only [setF,push_cast,Nat.reduceEqDiff, ↓reduceIte,reduceCtorEq,Nat.reduceAdd,Nat.reduceMul,Nat.reduceLeDiff]; rfl) rfl (fun i hi hit=>?_) fun fin=>?_
  · have g0:=fun lc=>rd_map (lc:=lc) t.r5 hi
    have hx:=f.v5 _ (List.getElem_mem hi)
    have hv:=hv5 _ (List.getElem_mem hi)
    generalize T.looks[i] = x at g0 hit hx hv
    unfold mapV at g0
    have e4:=containsFixed_eq x.2 h1 hx.2
    rw [fixB_sets hv] at e4
    have e3:=e2 x.1
    generalize setI x.1 = b at e3 hit
    generalize setsB x.2 = b2 at e4 hit
    cases b
    · cases b2
      · (refine W_x (Aj s5 (Aj g0 (Aj e3 e4))) ?_; (repeat' first | apply Cj.mk | exact Nl.nl) <;> intros)
        exact ⟨if_neg (by simp),rfl,rfl,rfl⟩
      · rw [hit _ (if_pos (.inr rfl))]
        (refine W_x (Aj s5 (Aj g0 (Aj e3 (Aj e4 ew)))) ?_; (repeat' first | apply Cj.mk | exact Nl.nl) <;> intros)
        exact ⟨rfl,Kp.refl _⟩
    · rw [hit _ (if_pos (.inl rfl))]
      (refine W_x (Aj s5 (Aj g0 (Aj e3 ew))) ?_; (repeat' first | apply Cj.mk | exact Nl.nl) <;> intros)
      exact ⟨rfl,Kp.refl _⟩
  rw [fin,Option.none_or]
  (refine W_x (Aj hc s6) ?_; (repeat' first | apply Cj.mk | exact Nl.nl) <;> intros)
  refine wp_scanF 127 T.drops (fun i x=>if x.1 < 128∨(x.1≤65533∧65533≤x.2) then W 5 7 i else none) (by intro n; simp only [setF,push_cast,Nat.reduceEqDiff, ↓reduceIte,reduceCtorEq,Nat.reduceAdd,Nat.reduceMul,Nat.reduceLeDiff]; rfl) rfl (fun i hi hit=>?_) fun fin=>?_
  · have g0:=fun lc=>rd_map (lc:=lc) t.r6 hi
    generalize T.drops[i] = x at g0 hit
    unfold pairV at g0
    (refine W_x (Aj s6 (Aj g0 ew)) ?_; (repeat' first | apply Cj.mk | exact Nl.nl) <;> intros)
    · rw [hit _ (if_pos (by omega))]
      exact ⟨rfl,Kp.refl _⟩
    · rw [hit _ (if_pos (by omega))]
      exact ⟨rfl,Kp.refl _⟩
    all_goals exact ⟨if_neg (by omega),rfl,rfl,rfl⟩
  rw [fin,Option.none_or]
  (refine W_x (Aj hc s7) ?_; (repeat' first | apply Cj.mk | exact Nl.nl) <;> intros)
  refine wp_scanF 154 T.allowed (fun i x=>if oddA x = true then W 5 8 i else none) (by intro n; simp only [setF,push_cast,Nat.reduceEqDiff, ↓reduceIte,reduceCtorEq,Nat.reduceAdd,Nat.reduceMul,Nat.reduceLeDiff]; rfl) rfl (fun i hi hit=>?_) fun fin=>?_
  · have g0:=fun lc=>rd_map (lc:=lc) t.r7 hi
    have hx:=ok7.rune _ (List.getElem_mem hi)
    generalize T.allowed[i] = x at g0 hit hx
    have hx:=(of_decide_eq_true hx.1).1
    unfold pairV at g0
    (refine W_x (Aj s7 g0) ?_; (repeat' first | apply Cj.mk | exact Nl.nl) <;> intros)
    refine wp_loop (fun w fr lc h2 => ∃ r:Int,w = (128 - r).toNat∧x.1≤r∧(∀ c:Int,x.1≤c→c < r→c≤x.2∧c < 128→lettI c = true)∧h2 = h1∧lc = [(4,.cells false [.int .i64 0,.int .i64 0,.int .i64 0]),(32,.cells false [.int .i32 x.1,.int .i32 x.2])] ∧
      fr = [(0,.pointer (some ⟨B + 6,0,none⟩)),(2,.pointer (some ⟨4,0,some 1⟩)),(15,.int .i64 i),(16,.pointer (some ⟨32,0,some 1⟩)),(17,.int .i32 r),(152,S.s7.val 2),(153,.int .i64 T.allowed.length),(154,.int .i64 i)]) (128 - x.1).toNat ⟨x.1,rfl,Int.le_refl _,fun c h1 h2=>by omega,rfl,rfl,rfl⟩ ?_
    rintro w fr lc h2 ⟨r,rfl,hr,hall,rfl,rfl,rfl⟩
    by_cases hin:r≤x.2∧r < 128
    · have e5:=containsLett_eq r h2 (by omega) (by omega)
      unfold lettS at e5
      by_cases hl:lettI r = true
      · rw [hl] at e5
        (refine W_x (Aj s7 e5) ?_; (repeat' first | apply Cj.mk | exact Nl.nl) <;> intros)
        all_goals exact ⟨_,by omega,r + 1,rfl,by omega,fun c h3 h4 h5=>by
          by_cases h6:c < r
          · exact hall c h3 h6 h5
          · rw [show c = r by omega]; exact hl,rfl,rfl,rfl⟩
      · rw [Bool.eq_false_iff.2 hl] at e5
        rw [hit _ (if_pos (odd_some hr hin.1 (by omega) hin.2 (Bool.eq_false_iff.2 hl)))]
        (refine W_x (Aj s7 (Aj e5 ew)) ?_; (repeat' first | apply Cj.mk | exact Nl.nl) <;> intros)
        all_goals exact ⟨rfl,Kp.refl _⟩
    · have ho:oddA x = false:=odd_none fun c h1 h2 h3 h4=>hall c h1 (by omega) ⟨h2,h4⟩
      (refine W_x s7 ?_; (repeat' first | apply Cj.mk | exact Nl.nl) <;> intros)
      all_goals exact ⟨if_neg (by rw [ho]; decide),rfl,rfl,rfl⟩
  rw [fin,Option.none_or]
  (refine W_x @ev_rngS ?_; (repeat' first | apply Cj.mk | exact Nl.nl) <;> intros)
  refine wp_spots none 348 lettS lettS.data.toList (fun h'=>h' = h1) (fun _ x=>if ofI (x.1:Nat) T.allowed = false then W 5 8 0 else none) rfl (fun _=>rfl) (by repeat' first | exact True.intro | refine And.intro rfl ?_) (fun _=>rfl) (by intro n; simp only [setL,push_cast,Nat.reduceEqDiff, ↓reduceIte,reduceCtorEq,Nat.reduceAdd,Nat.reduceMul,Nat.reduceLeDiff]; rfl) rfl rfl (fun j hj h2 hh jit=>?_) fun h2 hh fin=>?_
  · subst hh
    (refine W_x trivial ?_; (repeat' first | apply Cj.mk | exact Nl.nl) <;> intros)
    refine wo_next rfl rfl hj ?_
    have hm:=List.getElem_mem hj
    generalize (spots lettS.data.toList)[j] = y at jit hm
    have e3:=e7 (y.1:Nat)
    cases ho:ofI (y.1:Nat) T.allowed
    · rw [ho] at e3
      have hr:(scan 78 fun i=>if lettI ((45 + i:Nat):Int) = true∧ofI ((45 + i:Nat):Int) T.allowed = false then W 5 8 0 else none) = W 5 8 0:=by
        rw [scan_const]
        exact if_pos ((ex_lett (P:=fun n=>ofI (n:Nat) T.allowed = false)).1 ⟨y,hm,ho⟩)
      rw [hr]
      (refine W_x (Aj hc (Aj e3 ew)) ?_; (repeat' first | apply Cj.mk | exact Nl.nl) <;> intros)
      exact ⟨rfl,Kp.refl _⟩
    · rw [ho] at e3
      (refine W_x (Aj hc e3) ?_; (repeat' first | apply Cj.mk | exact Nl.nl) <;> intros)
      exact ⟨if_neg (by simp),(by repeat' first | exact True.intro | refine And.intro rfl ?_),rfl,rfl⟩
  subst hh
  have hr:(scan 78 fun i=>if lettI ((45 + i:Nat):Int) = true∧ofI ((45 + i:Nat):Int) T.allowed = false then W 5 8 0 else none) = none:=by
    rw [scanL_const] at fin
    rw [scan_const]
    exact if_neg fun q=>by rw [if_pos ((ex_lett (P:=fun n=>ofI (n:Nat) T.allowed = false)).2 q)] at fin; cases fin
  rw [hr]
  (refine W_x trivial ?_; (repeat' first | apply Cj.mk | exact Nl.nl) <;> intros)
  exact ⟨rfl,Kp.refl _⟩
end Go.Proofs.YtakmapoompffgaaGreatDoor.AM
namespace Go.Proofs.YtakmapoompffgaaGreatDoor.AM
open Go
def slFull (e:Nat) (v w u:Value):Option Value:=(POp.sl e (.c v) none (some (.c w)) (some (.c u))).ev []
theorem ev_slFull {fr:Fr} {e:Nat} {x c d:Opd}:(POp.sl e x none (some c) (some d)).ev fr = slFull e (opd fr x) (opd fr c) (opd fr d):=rfl
theorem slFull_val {e:Nat} {s:Sl} {j i:Int} (h1:j = s.len) (h2:i = s.len):slFull e (s.val e) (.int .i64 j) (.int .i64 i) = some (s.val e):=by
  subst h1 h2
  cases s with
  | nil=>rfl
  | «at» b o n=>simp [slFull,POp.ev,opd,Sl.val,Sl.len,optInt,asNat,ptrOff]
attribute [push_cast] ev_slFull slFull_val
def LFclone (e y:Nat):LFunc:=.mk 1 [.tmp 2] (.seq (R 999 [0] [.set 2 (.cv (.slice none 0 0))]) (.seq (.seq (R 3 [0,4] [.tmp 4 (.op (.p (.eqk false .sl (.s 0) (.s 1))) (.cons (.va 0) (.cv (.slice none 0 0))))]) (.cond (.s 4) (.seq (R 999 [2] [.set 2 (.cv (.slice none 0 0))]) .ret) .skip)) (.seq (R 5 [2] [.set 2 (xap e y (.op (.e (.litH 0 e [] [])) .nil) (.va 0))]) .ret)))
def LFclip (e:Nat):LFunc:=.mk 1 [.tmp 2] (.seq (R 999 [0] [.set 2 (.cv (.slice none 0 0))]) (.seq (R 3 [2] [.set 2 (.op (.p (.sl e (.s 0) none (some (.s 1)) (some (.s 2)))) (.cons (.va 0) (.cons (xlen (.va 0)) (xlen (.va 0)))))]) .ret))
theorem clip_eq {f:FuncId} {e:Nat} (hx:PX.ext f = none) (hf:PX.fn f = some (LFclip e)) (s:Sl) (h:AH):callO PX f [s.val e] h = some (s.val e,h):=by
  apply WpC.eqn
  refine wpc_fn hx hf rfl ?_
  unfold LFclip
  simp only [argFr]
  (refine W_x trivial ?_; (repeat' first | apply Cj.mk | exact Nl.nl) <;> intros)
  exact ⟨rfl,rfl⟩
theorem clone_spec {f:FuncId} {e y:Nat} (hx:PX.ext f = none) (hf:PX.fn f = some (LFclone e y)) (he:0 < e) (hy:0 < y) {h:AH} {s:Sl} {xss:List (List Value)} (rd:Reads h e s xss) (hn:xss.length * y≤140737488355328) :
    WpC PX f [s.val e] h fun v h' => ∃ s',v = s'.val e∧FOwn h h' e s' xss:=by
  refine wpc_fn hx hf rfl ?_
  unfold LFclone
  simp only [argFr]
  cases s with
  | nil =>
    have hz:xss = []:=List.eq_nil_of_length_eq_zero rd.1.symm
    subst hz
    (repeat' first
    | (show WpE _ _ _ _ _ _
       first
       | refine we_and ?_
       | refine we_or ?_
       | refine we_op (o:=.e _) ?_
       | refine we_ef ?_
       | ((apply we_pure); focus ((try simp (disch:=first | omega | (simp only [AH.nn_push,AH.nn_set,AH.nn_kill]; omega) | (simp only [AH.nn_push,AH.nn_set,AH.nn_kill]; done) | fail) only [push_cast,Nat.reduceEqDiff, ↓reduceIte,reduceCtorEq,Nat.reduceAdd,Nat.reduceMul,Nat.reduceLeDiff,Int.reduceAdd,Int.reduceSub,Int.reduceMul,Int.reduceToNat,AH.get_push_eq,AH.get_push_ne,AH.get_set_eq,AH.get_set_ne,AH.push_n,AH.set_n,  Sl.val]); rfl))
       | refine we_op ?_
       | refine we_cons ?_
       | fail)
    | (show WpO _ _ _ _ _ _
       first
       | ((first | apply wo_p | apply wo_r | apply wo_callA | apply wo_callvA | apply wo_e); focus ((try simp (disch:=first | omega | (simp only [AH.nn_push,AH.nn_set,AH.nn_kill]; omega) | (simp only [AH.nn_push,AH.nn_set,AH.nn_kill]; done) | fail) only [push_cast,Nat.reduceEqDiff, ↓reduceIte,reduceCtorEq,Nat.reduceAdd,Nat.reduceMul,Nat.reduceLeDiff,Int.reduceAdd,Int.reduceSub,Int.reduceMul,Int.reduceToNat,AH.get_push_eq,AH.get_push_ne,AH.get_set_eq,AH.get_set_ne,AH.push_n,AH.set_n,  Sl.val]); rfl))
       | fail)
    | (show WpS _ _ _ _ _ _ _
       first
       | refine ws_set ?_
       | refine ws_tmp ?_
       | refine ws_run ?_
       | refine ws_at ?_
       | (apply ws_end; focus ((try simp (disch:=first | omega | (simp only [AH.nn_push,AH.nn_set,AH.nn_kill]; omega) | (simp only [AH.nn_push,AH.nn_set,AH.nn_kill]; done) | fail) only [push_cast,Nat.reduceEqDiff, ↓reduceIte,reduceCtorEq,Nat.reduceAdd,Nat.reduceMul,Nat.reduceLeDiff,Int.reduceAdd,Int.reduceSub,Int.reduceMul,Int.reduceToNat,AH.get_push_eq,AH.get_push_ne,AH.get_set_eq,AH.get_set_ne,AH.push_n,AH.set_n,  Sl.val]); rfl))
       | fail)
    | (show Wp _ _ _ _ _ _
       first
       | refine wp_seq ?_
       | refine wp_R rfl ?_
       | refine wp_cond_t rfl ?_
       | refine wp_cond_f rfl ?_
       | refine wp_ret ?_
       | refine wp_skip ?_
       | refine wp_exit ?_
       | refine wp_block ?_
       | fail)
    | refine thenQ_norm ?_
    | (refine setK_fork (fun _=>?_) (fun _=>?_) <;> try (exfalso; omega))
    | (refine setK_forkN (fun _=>?_) (fun _=>?_) <;> try (exfalso; omega))
    | refine setK_one ?_
    | refine opK_one ?_
    | refine efK_one ?_
    | refine consK_one ?_
    | refine andK_t ?_
    | refine andK_f ?_
    | refine orK_t ?_
    | refine orK_f ?_
    | (refine andK_fork (fun _=>?_) (fun _=>?_) <;> try (exfalso; omega))
    | (refine andK_forkN (fun _=>?_) (fun _=>?_) <;> try (exfalso; omega))
    | (refine orK_fork (fun _=>?_) (fun _=>?_) <;> try (exfalso; omega))
    | (refine orK_forkN (fun _=>?_) (fun _=>?_) <;> try (exfalso; omega))
    | (refine oneK_fork (fun _=>?_) (fun _=>?_) <;> try (exfalso; omega))
    | (refine oneK_forkN (fun _=>?_) (fun _=>?_) <;> try (exfalso; omega))
    | refine oneK_one ?_
    | refine thenQ_ret ?_
    | refine thenQ_exit ?_
    | refine blockQ_norm ?_
    | refine blockQ_ret ?_
    | refine blockQ_same ?_
    | refine blockQ_ne rfl ?_
    | refine loopQ_norm ?_
    | refine loopQ_ret ?_
    | refine loopQ_exit ?_
    | ((first | apply retQ_ret | apply retQ_norm | apply wpc_of); focus ((try simp (disch:=first | omega | (simp only [AH.nn_push,AH.nn_set,AH.nn_kill]; omega) | (simp only [AH.nn_push,AH.nn_set,AH.nn_kill]; done) | fail) only [push_cast,Nat.reduceEqDiff, ↓reduceIte,reduceCtorEq,Nat.reduceAdd,Nat.reduceMul,Nat.reduceLeDiff,Int.reduceAdd,Int.reduceSub,Int.reduceMul,Int.reduceToNat,AH.get_push_eq,AH.get_push_ne,AH.get_set_eq,AH.get_set_ne,AH.push_n,AH.set_n,  Sl.val]); rfl))
    | fail)
    exact ⟨.nil,rfl,FOwn.nil (Kp.refl h)⟩
  | «at» b o n =>
    have e0:eqNil .sl ((Sl.at b o n).val e) (.slice none 0 0) = some false:=rfl
    (refine W_x e0 ?_; (repeat' first | apply Cj.mk | exact Nl.nl) <;> intros)
    refine wo_appL (s:=.at h.n 0 0) (t:=.at b o n) (xss:=[]) (yss:=xss) (FOwn.make (n:=0) (z:=List.replicate e undef) (Kp.refl h) (by simp)) (rd.kp ((Kp.refl h).push _)) he hy (by simpa using hn) fun s' h' f=>?_
    (refine W_x trivial ?_; (repeat' first | apply Cj.mk | exact Nl.nl) <;> intros)
    exact ⟨s',rfl,f⟩
end Go.Proofs.YtakmapoompffgaaGreatDoor.AM
namespace Go.Proofs.YtakmapoompffgaaGreatDoor.AM
open Go
theorem Reads.same {h h':AH} {e:Nat} {s:Sl} {xss:List (List Value)} (r:Reads h e s xss) (hs:∀ b,s.blk = some b→h'.get b = h.get b):Reads h' e s xss:=by
  refine ⟨r.1,r.2.1, ?_⟩
  have:=r.2.2
  cases s with
  | nil=>trivial
  | «at» b o n=>exact this.imp id fun ⟨ro,pre,post,h1,h2⟩=>⟨ro,pre,post,(hs b rfl).trans h1,h2⟩
theorem Own.same {h h':AH} {e:Nat} {s:Sl} {xss:List (List Value)} (r:Own h e s xss) (hs:∀ b,s.blk = some b→h'.get b = h.get b):Own h' e s xss:=by
  refine ⟨r.1,r.2.1, ?_⟩
  have:=r.2.2
  cases s with
  | nil=>trivial
  | «at» b o n=>exact let ⟨pre,h1,h2⟩:=this; ⟨pre,(hs b rfl).trans h1,h2⟩
set_option maxHeartbeats 4000000 in
theorem copied_spec {h:AH} {S:TS} {T:Tab} (t:TabAt h S T):WpC PX 65 [.agg S.vs.toArray] h fun v h' => ∃ S',v = .agg S'.vs.toArray∧(∀ h2:AH,(∀ b,h.n≤b→b < h'.n→h2.get b = h'.get b)→TabAt h2 S' T)∧Kp h h':=by
  have f:=t.fits
  have n0:=f.n0
  have hz:=f.n0s
  rw [← t.zs] at hz n0
  rw [List.length_map] at n0
  obtain ⟨_,g,e0,s0,rfl,f0⟩:=clone_spec (px_ext rfl) (px_fn fn_slices_Clone_api_Script_api_Script) (by decide) (by decide) t.r0 (by rw [List.length_map]; omega)
  have e0':=clip_eq (px_ext rfl) (px_fn fn_slices_Clip_api_Script_api_Script) s0 g
  have s0l:=f0.own.1
  rw [List.length_map] at s0l
  refine wpc_fn (px_ext rfl) (px_fn fn_tables_copied) rfl ?_
  unfold LF_tables_copied
  simp only [argFr]
  unfold TS.vs
  (refine W_x (Aj e0 (Aj e0' s0l)) ?_; (repeat' first | apply Cj.mk | exact Nl.nl) <;> intros)
  have n1:=f.n1; have n2:=f.n2; have n3:=f.n3; have n4:=f.n4; have n5:=f.n5; have n6:=f.n6; have n7:=f.n7
  refine wp_scanJ (fun i g => ∃ Z':List (Scr × Sl),Z'.length = i∧Z'.map (·.1) = (S.z.take i).map (·.1)∧(∀ z,z∈Z'→Reads g 2 z.2 (z.1.2.map pairV)∧∀ b,z.2.blk = some b→s0.blk≠some b∧h.n≤b)∧FOwn h g 2 s0 ((Z' ++ S.z.drop i).map scrV)) 11 S.z (fun _ _=>(none:Option Unit)) (by intro n; simp only [setF,push_cast,Nat.reduceEqDiff, ↓reduceIte,reduceCtorEq,Nat.reduceAdd,Nat.reduceMul,Nat.reduceLeDiff]; rfl) rfl
    ⟨[],rfl,rfl,fun z hz=>(List.not_mem_nil hz).elim,by simpa using f0⟩ (fun i hi g hj hit=>?_) fun g hj fin=>?_
  · obtain ⟨Z',hl,he,hr,fo⟩:=hj
    have hL:(Z' ++ S.z.drop i).length = S.z.length:=by rw [List.length_append,List.length_drop]; omega
    have hLi:(Z' ++ S.z.drop i)[i]'(by omega) = S.z[i]:=by
      rw [List.getElem_append_right (by omega),List.getElem_drop]
      congr 1
      omega
    have hcons:S.z.drop i = S.z[i] :: S.z.drop (i + 1):=List.drop_eq_getElem_cons hi
    have g1:=fun lc=>rd_mapc (lc:=lc) fo.reads (i:=i) (by omega) (k:=1) (by decide)
    have hz:=(hz _ (List.mem_map_of_mem (List.getElem_mem hi))).1
    have rz:=(t.rz _ (List.getElem_mem hi)).kp fo.kp
    have hsn:=take_snoc hi
    simp only [hLi] at g1
    generalize S.z[i] = z at g1 hz rz hcons hsn
    unfold scrV at g1
    obtain ⟨_,g2,e2,s',rfl,f2⟩:=clone_spec (px_ext rfl) (px_fn fn_slices_Clone_api_Span_api_Span) (by decide) (by decide) rz (by rw [List.length_map]; omega)
    have e2':=clip_eq (px_ext rfl) (px_fn fn_slices_Clip_api_Span_api_Span) s' g2
    have hs0:=fun b (hb:s0.blk = some b)=>fo.own.lt hb
    have ow:Own g2 2 s0 ((Z' ++ S.z.drop i).map scrV):=fo.own.same fun b hb=>f2.kp.2 b (hs0 b hb)
    obtain ⟨g3,hw,ow3,n3,hk3⟩:=own_set1 ow (i:=i) (k:=1) (by rw [List.length_map]; omega) (by decide) (s'.val 2)
    (refine W_x (Aj s0l (Aj g1 (Aj e2 (Aj e2' hw)))) ?_; (repeat' first | apply Cj.mk | exact Nl.nl) <;> intros)
    refine ⟨rfl,rfl,rfl,Z' ++ [(z.1,s')],by rw [List.length_append,hl]; rfl,by rw [List.map_append,he,hsn,List.map_append]; rfl,fun x hx=>?_, ?_⟩
    · rcases List.mem_append.1 hx with hx | hx
      · exact ⟨((hr x hx).1.kp f2.kp).same fun b hb=>hk3 b ((hr x hx).2 b hb).1,(hr x hx).2⟩
      · rw [List.mem_singleton.1 hx]
        have hne:∀ b,s'.blk = some b→s0.blk≠some b∧h.n≤b:=fun b hb=>by
          have h1:=f2.new b hb
          have h3:=fo.kp.1
          exact ⟨fun q=>by have h2:=hs0 b q; omega,by omega⟩
        exact ⟨f2.reads.same fun b hb=>hk3 b (hne b hb).1,hne⟩
    · have hlist:((Z' ++ S.z.drop i).map scrV).set i ((((Z' ++ S.z.drop i).map scrV)[i]'(by rw [List.length_map]; omega)).set 1 (s'.val 2)) = ((Z' ++ [(z.1,s')]) ++ S.z.drop (i + 1)).map scrV:=by
        rw [List.getElem_map]
        simp only [hcons,List.map_append,List.map_cons,List.map_nil,List.append_assoc,List.singleton_append]
        rw [List.set_append_right _ _ (by rw [List.length_map]; omega)]
        congr 1
        rw [List.length_map,hl,Nat.sub_self,List.set_cons_zero]
        congr 1
        rw [List.getElem_append_right (by omega)]
        simp only [hl,Nat.sub_self,List.getElem_cons_zero]
        rfl
      rw [hlist] at ow3
      exact ⟨ow3,⟨by rw [n3]; exact Nat.le_trans fo.kp.1 f2.kp.1,fun b hb=>by
        rw [hk3 b (fun q=>by have:=fo.new b q; omega),f2.kp.2 b (Nat.lt_of_lt_of_le hb fo.kp.1),fo.kp.2 b hb]⟩,fo.new⟩
  clear fin
  obtain ⟨Z',hl,he,hr,fo⟩:=hj
  rw [List.take_length,t.zs] at he
  rw [List.drop_length,List.append_nil] at fo
  have k:=fo.kp
  obtain ⟨_,g1,a1,c1,rfl,f1⟩:=clone_spec (px_ext rfl) (px_fn fn_slices_Clone_api_Span_api_Span) (by decide) (by decide) (t.kp k).r1 (by rw [List.length_map]; omega)
  have b1:=clip_eq (px_ext rfl) (px_fn fn_slices_Clip_api_Span_api_Span) c1 g1
  have k1:=k.trans f1.kp
  obtain ⟨_,g2,a2,c2,rfl,f2⟩:=clone_spec (px_ext rfl) (px_fn fn_slices_Clone_api_Mark_api_Mark) (by decide) (by decide) (t.kp k1).r2 (by rw [List.length_map]; omega)
  have b2:=clip_eq (px_ext rfl) (px_fn fn_slices_Clip_api_Mark_api_Mark) c2 g2
  have k2:=k1.trans f2.kp
  obtain ⟨_,g3,a3,c3,rfl,f3⟩:=clone_spec (px_ext rfl) (px_fn fn_slices_Clone_api_Pair_api_Pair) (by decide) (by decide) (t.kp k2).r3 (by rw [List.length_map]; omega)
  have b3:=clip_eq (px_ext rfl) (px_fn fn_slices_Clip_api_Pair_api_Pair) c3 g3
  have k3:=k2.trans f3.kp
  obtain ⟨_,g4,a4,c4,rfl,f4⟩:=clone_spec (px_ext rfl) (px_fn fn_slices_Clone_api_Map_api_Map) (by decide) (by decide) (t.kp k3).r4 (by rw [List.length_map]; omega)
  have b4:=clip_eq (px_ext rfl) (px_fn fn_slices_Clip_api_Map_api_Map) c4 g4
  have k4:=k3.trans f4.kp
  obtain ⟨_,g5,a5,c5,rfl,f5⟩:=clone_spec (px_ext rfl) (px_fn fn_slices_Clone_api_Map_api_Map) (by decide) (by decide) (t.kp k4).r5 (by rw [List.length_map]; omega)
  have b5:=clip_eq (px_ext rfl) (px_fn fn_slices_Clip_api_Map_api_Map) c5 g5
  have k5:=k4.trans f5.kp
  obtain ⟨_,g6,a6,c6,rfl,f6⟩:=clone_spec (px_ext rfl) (px_fn fn_slices_Clone_api_Span_api_Span) (by decide) (by decide) (t.kp k5).r6 (by rw [List.length_map]; omega)
  have b6:=clip_eq (px_ext rfl) (px_fn fn_slices_Clip_api_Span_api_Span) c6 g6
  have k6:=k5.trans f6.kp
  obtain ⟨_,g7,a7,c7,rfl,f7⟩:=clone_spec (px_ext rfl) (px_fn fn_slices_Clone_api_Span_api_Span) (by decide) (by decide) (t.kp k6).r7 (by rw [List.length_map]; omega)
  have b7:=clip_eq (px_ext rfl) (px_fn fn_slices_Clip_api_Span_api_Span) c7 g7
  have k7:=k6.trans f7.kp
  have q6:=f7.kp
  have q5:=f6.kp.trans q6
  have q4:=f5.kp.trans q5
  have q3:=f4.kp.trans q4
  have q2:=f3.kp.trans q3
  have q1:=f2.kp.trans q2
  have q0:=f1.kp.trans q1
  (refine W_x s0l ?_; (repeat' first | apply Cj.mk | exact Nl.nl) <;> intros)
  (refine W_y (Aj a1 (Aj b1 (Aj a2 (Aj b2 (Aj a3 (Aj b3 (Aj a4 (Aj b4 (Aj a5 (Aj b5 (Aj a6 (Aj b6 (Aj a7 b7))))))))))))) ?_; (repeat' first | apply Cj.mk | exact Nl.nl) <;> intros)
  refine ⟨⟨s0,c1,c2,c3,c4,c5,c6,c7,Z'⟩,rfl,fun h2 hs=>?_,k7⟩
  have key:∀ {e:Nat} {s:Sl} {xss:List (List Value)} {gn:AH},Reads gn e s xss→Kp gn g7→(∀ b,s.blk = some b→h.n≤b∧b < gn.n)→Reads h2 e s xss:=fun r q hb =>
    (r.kp q).same fun b e=>hs b (hb b e).1 (Nat.lt_of_lt_of_le (hb b e).2 q.1)
  have kn:∀ {e:Nat} {s:Sl} {xss:List (List Value)} {ga gb:AH},FOwn ga gb e s xss→Kp h ga→∀ b,s.blk = some b→h.n≤b∧b < gb.n:=fun f k b e=>⟨Nat.le_trans k.1 (f.new b e),f.own.lt e⟩
  have kz:∀ {s:Sl} {xss:List (List Value)},Reads g 2 s xss→(∀ b,s.blk = some b→h.n≤b)→Reads h2 2 s xss:=fun {s xss} r hb=>by
    refine ⟨r.1,r.2.1, ?_⟩
    have:=(r.kp q0).2.2
    cases s with
    | nil=>trivial
    | «at» b o n=>exact this.imp id fun ⟨ro,pre,post,h1,h3⟩=>⟨ro,pre,post,(hs b (hb b rfl) (AH.get_lt h1)).trans h1,h3⟩
  exact ⟨f,key fo.reads q0 (kn fo (Kp.refl h)),he,fun z hz=>kz (hr z hz).1 fun b e=>((hr z hz).2 b e).2,
    key f1.reads q1 (kn f1 k),key f2.reads q2 (kn f2 k1),key f3.reads q3 (kn f3 k2),key f4.reads q4 (kn f4 k3),key f5.reads q5 (kn f5 k4),key f6.reads q6 (kn f6 k5),key f7.reads (Kp.refl g7) (kn f7 k6)⟩
end Go.Proofs.YtakmapoompffgaaGreatDoor.AM
