/- Parts of proofs: lemmas, joined. -/
import Derived.Test.YtakmapoompffgaaGreatDoorPf6f84a5e
set_option linter.unusedVariables false
set_option linter.unusedSimpArgs false
set_option linter.unusedSectionVars false
namespace Go.Proofs.YtakmapoompffgaaGreatDoor.AM
open Go
theorem bad_at {l:Bytes} {i:Nat} (hil:i < (spots l).length):badP (spots l)[i]↔((spots l)[i]).1 = 65533 ∧ ¬ (3≤l.length - posn l i∧(l.drop (posn l i)).take 3 = [239,191,189]):=by
  obtain ⟨p1,p2,p3⟩:=posn_lt hil
  have hdc:=dec_cases p3
  have e3:encN 65533 = [239,191,189]:=by decide
  generalize hx:(spots l)[i] = x at *
  rw [← List.length_drop]
  generalize l.drop (posn l i) = m at *
  unfold badP
  rcases hdc with ⟨c,rest,hc,e1,e2⟩ | ⟨e1,e2⟩
  · rw [p2] at e2
    subst e2
    refine ⟨fun ⟨a,b⟩=>?_,fun ⟨a,b⟩=>?_⟩
    · simp only at a b
      subst a
      rw [encN_bad] at b
      cases b
    · simp only at a
      subst a
      exfalso
      apply b
      rw [e1,e3]
      simp
  · rw [p2] at e1
    subst e1
    refine ⟨fun _=>⟨rfl,fun ⟨a,b⟩=>?_⟩,fun _=>⟨rfl,rfl⟩⟩
    refine e2 65533 (m.drop 3) rune_bad ?_
    rw [e3,← b,List.take_append_drop]
theorem bad_eq (s:ByteArray) (hs:s.size≤1048576) {i:Nat} (hil:i < (spots s.data.toList).length) (h:AH):callO PX 54 [.string s,.int .i64 (posn s.data.toList i)] h = some (.bool (decide (badP (spots s.data.toList)[i])),h):=by
  have hz:s.data.toList.length = s.size:=rfl
  obtain ⟨p1,p2,p3⟩:=posn_lt hil
  have hb:=bad_at hil
  have hpl:((posn s.data.toList i:Nat):Int)≤(s.size:Int):=by omega
  have hd:=(spots_drop s.data.toList i (by omega)).1
  obtain ⟨z,hze⟩:∃ z,z = s.extract (posn s.data.toList i) s.size:=⟨_,rfl⟩
  have hzl:z.data.toList = s.data.toList.drop (posn s.data.toList i):=by
    rw [hze,ba_extract _ _ _ (Nat.le_refl _),← hz,← List.length_drop,List.take_length]
  have h0:0 < (spots z.data.toList).length:=by rw [hzl,hd,List.length_drop]; omega
  have hx0:(spots z.data.toList)[0] = (spots s.data.toList)[i]:=by simp only [hzl,hd,List.getElem_drop,Nat.add_zero]
  apply WpC.eqn
  refine wpc_fn (px_ext rfl) (px_fn fn_guiseref8_Bad) rfl ?_
  unfold LF_guiseref8_Bad
  simp only [argFr]
  (refine W_x (Aj @ev_rngS (Aj hpl hze.symm)) ?_; (repeat' first | apply Cj.mk | exact Nl.nl) <;> intros)
  refine wp_spotsG (fun _=>[(0,.string s),(1,.int .i64 (posn s.data.toList i)),(10,.pointer (some ⟨20,0,some 1⟩))]) 20 z z.data.toList (fun j h'=>j = 0∧h' = h)
    (fun _ _=>(none:Option Unit)) rfl (by repeat' first | exact True.intro | refine And.intro rfl ?_) (fun _=>rfl) (by intro n; simp only [setL,push_cast,Nat.reduceEqDiff, ↓reduceIte,reduceCtorEq,Nat.reduceAdd,Nat.reduceMul,Nat.reduceLeDiff]; rfl) rfl ⟨rfl,rfl⟩ (fun j hj h1 hh hit=>?_) fun h1 hh fin=>?_
  · obtain ⟨rfl,rfl⟩:=hh
    (refine W_x trivial ?_; (repeat' first | apply Cj.mk | exact Nl.nl) <;> intros)
    refine wo_next rfl rfl hj ?_
    rw [hx0]
    have hq:posn s.data.toList i + 3≤s.size→(s.extract (posn s.data.toList i) (posn s.data.toList i + 3) = ⟨#[239,191,189]⟩↔(s.data.toList.drop (posn s.data.toList i)).take 3 = [239,191,189]):=fun h3=>by
      have e:(s.extract (posn s.data.toList i) (posn s.data.toList i + 3)).data.toList = (s.data.toList.drop (posn s.data.toList i)).take 3:=by
        rw [ba_extract _ _ _ (by omega)]
        congr 1
        omega
      rw [← e]
      exact ⟨fun q=>by rw [q],fun q=>ba_ext q⟩
    rw [hz] at hb
    generalize hx:(spots s.data.toList)[i] = x at *
    generalize posn s.data.toList i = p at *
    have ht:((p:Int) + 3).toNat = p + 3:=by omega
    by_cases c1:x.1 = 65533
    · have c1':(x.1:Int) = 65533:=by omega
      by_cases c2:3≤s.size - p
      · have c3:(p:Int) + 3≤s.size:=by omega
        have hq:=hq (by omega)
        by_cases c4:(s.data.toList.drop p).take 3 = [239,191,189]
        · have hd:=decide_eq_false (show ¬ badP x from fun q=>(hb.1 q).2 ⟨c2,c4⟩)
          have c5:=hq.2 c4
          rw [hd]
          (refine W_x (Aj c1' (Aj c3 (Aj ht c5))) ?_; (repeat' first | apply Cj.mk | exact Nl.nl) <;> intros)
          exact ⟨rfl,rfl⟩
        · have hd:=decide_eq_true (show badP x from hb.2 ⟨c1,fun q=>c4 q.2⟩)
          have c5 : ¬ s.extract p (p + 3) = ⟨#[239,191,189]⟩:=fun q=>c4 (hq.1 q)
          rw [hd]
          (refine W_x (Aj c1' (Aj c3 (Aj ht c5))) ?_; (repeat' first | apply Cj.mk | exact Nl.nl) <;> intros)
          exact ⟨rfl,rfl⟩
      · have hd:=decide_eq_true (show badP x from hb.2 ⟨c1,fun q=>c2 q.1⟩)
        rw [hd]
        (refine W_x c1' ?_; (repeat' first | apply Cj.mk | exact Nl.nl) <;> intros)
        exact ⟨rfl,rfl⟩
    · have hd:=decide_eq_false (show ¬ badP x from fun q=>c1 (hb.1 q).1)
      have c1' : ¬ (x.1:Int) = 65533:=by omega
      rw [hd]
      (refine W_x c1' ?_; (repeat' first | apply Cj.mk | exact Nl.nl) <;> intros)
      exact ⟨rfl,rfl⟩
  · exact absurd hh.1 (by omega)
end Go.Proofs.YtakmapoompffgaaGreatDoor.AM
namespace Go.Proofs.YtakmapoompffgaaGreatDoor.AM
open Go
def LFfew:LFunc :=
  .mk 2 [.tmp 4] (.seq (R 999 [0,1] [.set 4 (.cv (.string ⟨#[]⟩))]) (.seq (.seq (R 5 [0,1,8] [.tmp 8 (xb .gtr (xsl (.va 0)) (.va 1))]) (.cond (.s 8) (.seq (R 9 [4] [.set 4 (.op
  (.p (.slS (.s 0) none (some (.s 1)))) (.cons (.va 0) (.va 1)))]) .ret) .skip)) (.seq (R 12 [4] [.set 4 (.va 0)]) .ret)))
theorem fewG_eq {f:FuncId} (hf:PX.fn f = some LFfew) (hx:PX.ext f = none) (s:ByteArray) (hs:s.size≤1048576) {m:Int} (n:Nat) (hm:m = n) (hn:n≤1048576) (h:AH):callO PX f [.string s,.int .i64 m] h = some (.string (fewB s n),h):=by
  subst hm
  apply WpC.eqn
  refine wpc_fn hx hf rfl ?_
  unfold LFfew
  simp only [argFr]
  unfold fewB
  (refine W_x trivial ?_; (repeat' first | apply Cj.mk | exact Nl.nl) <;> intros)
  · rw [if_pos (by omega)]
    exact ⟨rfl,rfl⟩
  · rw [if_neg (by omega)]
    exact ⟨rfl,rfl⟩
end Go.Proofs.YtakmapoompffgaaGreatDoor.AM
namespace Go.Proofs.YtakmapoompffgaaGreatDoor.AM
open Go
end Go.Proofs.YtakmapoompffgaaGreatDoor.AM
namespace Go.Proofs.YtakmapoompffgaaGreatDoor.AM
open Go
theorem FOwn.older {h0 h1 h:AH} {e:Nat} {s:Sl} {xss:List (List Value)} (f:FOwn h1 h e s xss) (k:Kp h0 h1):FOwn h0 h e s xss:=⟨f.own,k.trans f.kp,fun b hb=>Nat.le_trans k.1 (f.new b hb)⟩
theorem ref9Open_spec {h:AH} {S:TS} {T:Tab} (gd:goodB T = true) (t:TabAt h S T) (s:ByteArray) (hs:s.size≤1048576):WpC PX 51 [.agg S.vs.toArray,.string s] h fun v h' => ∃ sl,v = sl.val 1∧FOwn h h' 1 sl ((openL T (runesB s.data.toList)).map rnV):=by
  have hz:s.data.toList.length = s.size:=rfl
  have hn:=spots_len s.data.toList
  have hrl:=runesB_len s.data.toList
  have hrr:=runesB_rune s.data.toList
  refine wpc_fn (px_ext rfl) (px_fn fn_guiseref9_Open) rfl ?_
  unfold LF_guiseref9_Open
  simp only [argFr]
  unfold TS.vs
  (refine W_x @ev_rngS ?_; (repeat' first | apply Cj.mk | exact Nl.nl) <;> intros)
  refine wp_spotsS (fun i sl=>[(2,.pointer (some ⟨4,0,some 1⟩)),(5,sl.val 1),(9,.pointer (some ⟨18,0,some 1⟩))]) (fun n _=>[(4,.cells false [S.s0.val 2,S.s1.val 2,S.s2.val 2,S.s3.val 3,S.s4.val 2,S.s5.val 2,S.s6.val 2,S.s7.val 2]),(18,.siter s n)]) s s.data.toList (fun i sl h'=>FOwn h h' 1 sl ((openF T ((runesB s.data.toList).take i)).map rnV)) (fun _ _=>(none:Option Unit)) Sl.nil rfl (by repeat' first | exact True.intro | refine And.intro rfl ?_) (fun _ _=>rfl) rfl (by simpa [openF] using FOwn.nil (Kp.refl h))
    (fun i hi sl h1 fo hit=>?_) fun sl h1 fo fin=>?_
  · (refine W_x trivial ?_; (repeat' first | apply Cj.mk | exact Nl.nl) <;> intros)
    refine wo_next rfl rfl hi ?_
    have hi2:i < (runesB s.data.toList).length:=by omega
    have hx:=runesB_get hi
    have hr:=hrr _ (List.getElem_mem hi2)
    have hsn:=openF_snoc (T:=T) hi2
    have hle:=openF_take_len gd hrr i
    rw [hx] at hr hsn
    generalize (spots s.data.toList)[i] = x at hr hsn
    obtain ⟨_,g,e,s2,rfl,f2⟩:=refRune_spec gd (t.kp fo.kp) (x.1:Nat)
    rw [rI_rnV gd hr] at f2
    obtain ⟨b0,ms,q1,_,_,_,q5,_⟩:=opN_facts gd hr
    unfold TS.vs at e
    (refine W_x e ?_; (repeat' first | apply Cj.mk | exact Nl.nl) <;> intros)
    refine wo_appL (fo.later f2.kp) f2.reads (by decide) (by decide) (by rw [List.length_map,List.length_map,q1,List.length_cons]; omega) fun s3 h3 f3=>?_
    (refine W_x trivial ?_; (repeat' first | apply Cj.mk | exact Nl.nl) <;> intros)
    refine ⟨rfl,s3,(by repeat' first | exact True.intro | refine And.intro rfl ?_),rfl, ?_⟩
    rw [hsn,List.map_append]
    exact f3
  · (refine W_x trivial ?_; (repeat' first | apply Cj.mk | exact Nl.nl) <;> intros)
    refine wo_nextE rfl rfl ?_
    rw [← hrl,List.take_length] at fo
    have hl:=openF_len gd hrr
    obtain ⟨_,g2,e2,s2,rfl,f2⟩:=ref8Sorted_spec (t.kp fo.kp) fo.reads (by omega)
    unfold TS.vs at e2
    (refine W_x e2 ?_; (repeat' first | apply Cj.mk | exact Nl.nl) <;> intros)
    refine ⟨s2,rfl, ?_⟩
    exact f2.older fo.kp
end Go.Proofs.YtakmapoompffgaaGreatDoor.AM
namespace Go.Proofs.YtakmapoompffgaaGreatDoor.AM
open Go
theorem rnB_encs:∀ {cs:List Nat},(∀ c∈cs,RuneN c)→rnB (encs cs) = some cs
  | [],_=>rnB_nil
  | c :: cs,h=>by rw [encs_cons,rnB_enc (h c (by simp)),rnB_encs fun x hx=>h x (by simp [hx])]; rfl
theorem rnB_valid {l:Bytes} (h:validB l = true):rnB l = some (runesB l):=by
  have:=rnB_encs (runesB_rune l)
  rwa [(valid_clean l).1 h] at this
theorem width_ok {l:Bytes} {i:Nat} (hi:i < (spots l).length) (hb:isBad2 (spots l)[i] = false):(spots l)[i].2 = (encN (spots l)[i].1).length:=by
  obtain ⟨p1,p2,p3⟩:=posn_lt hi
  rcases dec_cases p3 with ⟨c,rest,hc,e1,e2⟩ | ⟨e1,e2⟩
  · rw [p2] at e2
    rw [e2]
  · rw [p2] at e1
    rw [e1] at hb
    cases hb
theorem width_bad {x:Nat × Nat} (hb:isBad2 x = true):x.2 = 1:=by
  simp only [isBad2,Bool.and_eq_true,beq_iff_eq] at hb
  exact hb.2
theorem badP_bad (x:Nat × Nat):decide (badP x) = isBad2 x:=by
  have h:badP x↔isBad2 x = true:=by unfold badP isBad2; simp
  cases hb:isBad2 x with
  | false=>exact decide_eq_false fun q=>by have:=h.1 q; rw [hb] at this; cases this
  | true=>exact decide_eq_true (h.2 hb)
theorem ref6To_spec {h:AH} {s:Sl} {T:Tab} {l:List (Int × ByteArray)} (ok:MapOk T l) (rd:Reads h 2 s (l.map mapV)) (hn:l.length < 100000000) (c:Nat) :
    WpC PX 47 [s.val 2,.int .i32 c] h fun v h' => ∃ sl,v = .tuple (List.toArray [sl.val 1,.bool (fromO l (c:Int)).isSome])∧FOwn h h' 1 sl ((if (fromO l (c:Int)).isSome then mapC l c else []).map rnV):=by
  have e1:=from6_eq rd hn (c:Int)
  cases hf:fromO l (c:Int) with
  | none =>
    rw [hf] at e1
    simp only [ixI] at e1
    refine wpc_fn (px_ext rfl) (px_fn fn_guiseref6_To) rfl ?_
    unfold LF_guiseref6_To
    simp only [argFr]
    (refine W_x e1 ?_; (repeat' first | apply Cj.mk | exact Nl.nl) <;> intros)
    exact ⟨.nil,rfl,FOwn.nil (Kp.refl h)⟩
  | some j =>
    obtain ⟨hj,q1,q2⟩:=from_some hf
    have gj:=fun lc=>rd_mapc (lc:=lc) rd hj (k:=1) (by decide)
    have hv:=ok.to _ (List.getElem_mem hj)
    have hsz:=valid_size4 hv.1 hv.2.2
    have hm:mapC l c = runesB (l[j]).2.data.toList:=by unfold mapC; rw [hf]; simp only [q2]
    rw [hm]
    rw [hf] at e1
    have hjn:j < 100000000:=by omega
    generalize l[j] = x at *
    obtain ⟨x1,x2⟩:=x
    unfold mapV at gj
    simp only [List.drop_succ_cons,List.drop_zero,List.take_succ_cons,List.take_zero] at gj hv hsz hm ⊢
    have hz:x2.data.toList.length = x2.size:=rfl
    obtain ⟨_,h2,e2,s',rfl,fo⟩:=runes6_spec x2 h (by omega)
    have hr:rnO x2 = some (runesB x2.data.toList):=rnB_valid hv.1
    rw [hr] at e2 fo
    simp only [Option.isSome_some,Option.getD_some] at e2 fo
    simp only [ixI] at e1
    have sll:=rd.len
    refine wpc_fn (px_ext rfl) (px_fn fn_guiseref6_To) rfl ?_
    unfold LF_guiseref6_To
    simp only [argFr]
    (refine W_x (Aj e1 (Aj sll (Aj gj e2))) ?_; (repeat' first | apply Cj.mk | exact Nl.nl) <;> intros)
    exact ⟨s',rfl,fo⟩
theorem ref12Rune_spec {h:AH} {S:TS} {T:Tab} (hb:goodB T = true) (t:TabAt h S T) (c:Nat) :
    WpC PX 18 [.agg S.vs.toArray,.int .i32 c] h fun v h' => ∃ sl,v = sl.val 1∧FOwn h h' 1 sl ((mapC T.folds c).map rnV):=by
  obtain ⟨_,h2,e2,s',rfl,fo⟩:=ref6To_spec (fold_ok hb) t.r4 t.fits.n4 c
  refine wpc_fn (px_ext rfl) (px_fn fn_guiseref12_Rune) rfl ?_
  unfold LF_guiseref12_Rune
  simp only [argFr]
  unfold TS.vs
  cases hf:fromO T.folds (c:Int) with
  | none =>
    rw [hf] at e2 fo
    simp only [Option.isSome_none] at e2 fo
    rw [mapC_none hf]
    (refine W_x e2 ?_; (repeat' first | apply Cj.mk | exact Nl.nl) <;> intros)
    exact ⟨.at h2.n 0 1,rfl,FOwn.make (n:=1) (z:=rnV c) fo.kp rfl⟩
  | some j =>
    rw [hf] at e2 fo
    simp only [Option.isSome_some] at e2 fo
    (refine W_x e2 ?_; (repeat' first | apply Cj.mk | exact Nl.nl) <;> intros)
    exact ⟨s',rfl,fo⟩
def sl2 (e:Nat) (v w z:Value):Option Value:=(POp.sl e (.c v) (some (.c w)) (some (.c z)) none).ev []
theorem ev_sl2 {fr:Fr} {e:Nat} {x c d:Opd}:(POp.sl e x (some c) (some d) none).ev fr = sl2 e (opd fr x) (opd fr c) (opd fr d):=rfl
theorem sl2_val {e:Nat} {s:Sl} {k:IntKind} {i:Nat} (h:i < s.len):sl2 e (s.val e) (.int k i) (.int k ((i:Int) + 1)) = some (((s.drop e i).take 1).val e):=by
  cases s with
  | nil=>simp only [Sl.len] at h; omega
  | «at» b o n =>
    simp only [Sl.len] at h
    simp only [sl2,POp.ev,opd,Sl.val,optInt,asNat,Sl.drop,Sl.take,ptrOff]
    rw [if_pos ⟨by omega,by omega,by omega,by omega,trivial,rfl⟩]
    simp
def pcR (q:Pc × Sl):List Value:=[.int .i64 q.1.at',.int .i64 q.1.n,q.2.val 1,.bool q.1.same]
structure PcsAt (h0 h:AH) (s:Sl) (qs:List (Pc × Sl)):Prop where
  fo:FOwn h0 h 4 s (qs.map pcR)
  rd:∀ q∈qs,Reads h 1 q.2 (q.1.to.map rnV)∧∀ b,q.2.blk = some b→h0.n≤b∧b < h.n∧s.blk≠some b
theorem PcsAt.kp {h0 h h':AH} {s:Sl} {qs:List (Pc × Sl)} (p:PcsAt h0 h s qs) (k:Kp h h'):PcsAt h0 h' s qs :=
  ⟨p.fo.later k,fun q hq=>⟨(p.rd q hq).1.kp k,fun b hb=>⟨((p.rd q hq).2 b hb).1,Nat.lt_of_lt_of_le ((p.rd q hq).2 b hb).2.1 k.1,((p.rd q hq).2 b hb).2.2⟩⟩⟩
theorem PcsAt.older {h0 h1 h:AH} {s:Sl} {qs:List (Pc × Sl)} (p:PcsAt h1 h s qs) (k:Kp h0 h1):PcsAt h0 h s qs :=
  ⟨p.fo.older k,fun q hq=>⟨(p.rd q hq).1,fun b hb=>⟨Nat.le_trans k.1 ((p.rd q hq).2 b hb).1,((p.rd q hq).2 b hb).2⟩⟩⟩
theorem ref12Pieces_spec {h:AH} {S:TS} {T:Tab} (hb:goodB T = true) (t:TabAt h S T) (s:ByteArray) (hs:s.size≤1048576) :
    WpC PX 33 [.agg S.vs.toArray,.string s] h fun v h' => ∃ sl qs,v = sl.val 4∧qs.map (·.1) = pcs T s.data.toList∧PcsAt h h' sl qs:=by
  have hz:s.data.toList.length = s.size:=rfl
  have hn:=spots_len s.data.toList
  obtain ⟨_,h1,e1,sl,rfl,f1⟩:=ref8Runes_spec s hs h
  have sll:=f1.own.1
  rw [List.length_map,runesB_len] at sll
  have hrr:=runesB_rune s.data.toList
  have hrl:=runesB_len s.data.toList
  have v2:=fun fr e x c d=>@ev_sl2 fr e x c d
  refine wpc_fn (px_ext rfl) (px_fn fn_guiseref12_Pieces) rfl ?_
  unfold LF_guiseref12_Pieces
  simp only [argFr]
  unfold TS.vs
  (refine W_x e1 ?_; (repeat' first | apply Cj.mk | exact Nl.nl) <;> intros)
  refine wp_forS (fun i (q:Sl)=>[(1,.string s),(2,.pointer (some ⟨4,0,some 1⟩)),(5,q.val 4),(6,sl.val 1),(7,.int .i64 (posn s.data.toList i)),(8,.int .i64 i)]) (fun _ _=>[(4,.cells false [S.s0.val 2,S.s1.val 2,S.s2.val 2,S.s3.val 3,S.s4.val 2,S.s5.val 2,S.s6.val 2,S.s7.val 2])]) (spots s.data.toList)
    (fun i q h'=>Kp h1 h'∧∃ qs,qs.map (·.1) = (pcs T s.data.toList).take i∧PcsAt h1 h' q qs) (fun _ _=>(none:Option Unit)) Sl.nil (by rw [posn_zero]; rfl) rfl
    ⟨Kp.refl h1,[],by simp,FOwn.nil (Kp.refl h1),fun q hq=>by cases hq⟩ (fun i hi q h2 hh hit=>?_) fun q h2 hh fin=>?_
  · obtain ⟨k2,qs,hq,pa⟩:=hh
    have hip:i < (pcs T s.data.toList).length:=by rw [pcs_len]; exact hi
    have hir:i < (runesB s.data.toList).length:=by rw [hrl]; exact hi
    have hpg:=pcs_get hip
    have htk:=take_snoc hip
    rw [hpg] at htk
    have tt:=(t.kp f1.kp).kp k2
    have hrn:=hrr _ (List.getElem_mem hir)
    rw [runesB_get hi] at hrn
    have gk:∀ h5,Kp h1 h5→∀ lc,Mem.rd ⟨lc,h5⟩ (sl.adr 1 i) 1 = some [.int .i32 (spots s.data.toList)[i].1]:=fun h5 k5 lc=>by
      have:=rd_map (lc:=lc) (f1.reads.kp k5) hir
      rw [runesB_get hi] at this
      exact this
    obtain ⟨_,h3,e3,s3,rfl,f3⟩:=ref6To_spec (fold_ok hb) tt.r4 tt.fits.n4 (spots s.data.toList)[i].1
    have eb:=fun h=>bad_eq s hs hi h
    obtain ⟨_,h4,e4,s4,rfl,f4⟩:=ref12Rune_spec hb (tt.kp f3.kp) (spots s.data.toList)[i].1
    unfold TS.vs at e4
    simp only [badP_bad] at eb
    have k4:=f3.kp.trans f4.kp
    have hlen:qs.length = i:=by
      have:=congrArg List.length hq
      rw [List.length_map,List.length_take] at this
      omega
    have rsub:∀ h5,Kp h1 h5→Reads h5 1 ((sl.drop 1 i).take 1) ([(spots s.data.toList)[i].1].map rnV):=fun h5 k5=>by
      have r1:=(f1.reads.kp k5).drop (k:=i) (by rw [List.length_map]; omega)
      have r2:=r1.take (k:=1) (by rw [List.length_drop,List.length_map]; omega)
      rw [← List.map_drop,← List.map_take,List.drop_eq_getElem_cons hir,List.take_succ_cons,List.take_zero,runesB_get hi] at r2
      exact r2
    have hsl:=sl2_val (e:=1) (s:=sl) (k:=.i64) (i:=i) (by omega)
    have hp:=posn_succ hi
    have hpl:=(posn_lt hi).1
    have hwb:=width_bad (x:=(spots s.data.toList)[i])
    have hwo:=width_ok hi
    generalize (spots s.data.toList)[i] = x at *
    have g2:=gk h2 k2
    have g3:=gk h3 (k2.trans f3.kp)
    clear gk
    have hap:∀ (s5:Sl) (h5:AH),Own h5 4 s5 (qs.map pcR ++ [pcR (⟨posn s.data.toList i,i,mapC T.folds x.1, !isBad2 x && (fromO T.folds (x.1:Int)).isNone⟩,s4)])→s5.blk = some h4.n→h5.n = h4.n + 1→(∀ b,b < h4.n→q.blk≠some b→h5.get b = h4.get b) →
        Kp h1 h5∧∃ qs',qs'.map (·.1) = (pcs T s.data.toList).take (i + 1)∧PcsAt h1 h5 s5 qs':=by
      intro s5 h5 o5 b5 n5 k5
      have pa4:=pa.kp k4
      have hk1:=f1.kp.1
      have hk2:=k2.1
      have hk4:=k4.1
      have hk3:=f3.kp.1
      have hqn:=pa.fo.new
      refine ⟨⟨by omega,fun b hb=>?_⟩,qs ++ [(⟨posn s.data.toList i,i,mapC T.folds x.1, !isBad2 x && (fromO T.folds (x.1:Int)).isNone⟩,s4)], ?_,⟨⟨?_,⟨by omega,fun b hb=>?_⟩,fun b e=>by rw [b5] at e; injection e with e; omega⟩,fun z hzz=>?_⟩⟩
      · rw [k5 b (by omega) (fun e=>by have:=hqn b e; omega)]
        exact pa4.fo.kp.2 b hb
      · rw [List.map_append,hq,htk]; rfl
      · rw [List.map_append]; exact o5
      · rw [k5 b (by omega) (fun e=>by have:=hqn b e; omega)]
        exact pa4.fo.kp.2 b hb
      · rcases List.mem_append.1 hzz with hz1 | hz1
        · obtain ⟨r1,r2⟩:=pa4.rd z hz1
          refine ⟨r1.keep fun b e=>k5 b (r2 b e).2.1 (r2 b e).2.2,fun b e=>⟨(r2 b e).1,by have:=(r2 b e).2.1; omega,fun e2=>?_⟩⟩
          rw [b5] at e2
          injection e2 with e2
          have:=(r2 b e).2.1
          omega
        · obtain rfl:=List.mem_singleton.1 hz1
          refine ⟨f4.reads.keep fun b e=>k5 b (f4.own.lt e) (fun e2=>?_),fun b e=>⟨by have:=f4.new b e; omega,by have:=f4.own.lt e; omega,fun e2=>?_⟩⟩
          · have h1:=f4.new b e
            have h2:=pa.fo.own.lt e2
            omega
          · rw [b5] at e2
            injection e2 with e2
            have:=f4.own.lt e
            omega
    generalize hfs:fromO T.folds (x.1:Int) = fs at *
    unfold pcR at hap
    simp only at hap
    have ow:=(pa.kp k4).fo.own
    have hwi:posn s.data.toList i≤1048576:=by omega
    cases hib:isBad2 x with
    | true =>
      have hw:=hwb hib
      rw [hib] at eb hap
      simp only [Bool.not_true,Bool.false_and] at hap
      rw [hw] at hp
      cases fs with
      | none =>
        simp only [Option.isSome_none] at e3
        (refine W_x (Aj sll (Aj g2 (Aj g3 (Aj e3 (Aj eb e4))))) ?_; (repeat' first | apply Cj.mk | exact Nl.nl) <;> intros)
        refine wo_app1O (by':=48) ow rfl rfl (by decide) (by decide) (by rw [List.length_map]; omega) fun s5 h5 o5 b5 n5 k5=>?_
        (refine W_x trivial ?_; (repeat' first | apply Cj.mk | exact Nl.nl) <;> intros)
        exact ⟨rfl,s5,by rw [hp]; rfl,rfl,hap s5 h5 o5 b5 n5 k5⟩
      | some j =>
        simp only [Option.isSome_some] at e3
        (refine W_x (Aj sll (Aj g2 (Aj g3 (Aj e3 (Aj eb e4))))) ?_; (repeat' first | apply Cj.mk | exact Nl.nl) <;> intros)
        refine wo_app1O (by':=48) ow rfl rfl (by decide) (by decide) (by rw [List.length_map]; omega) fun s5 h5 o5 b5 n5 k5=>?_
        (refine W_x trivial ?_; (repeat' first | apply Cj.mk | exact Nl.nl) <;> intros)
        exact ⟨rfl,s5,by rw [hp]; rfl,rfl,hap s5 h5 o5 b5 n5 k5⟩
    | false =>
      have hw:=hwo hib
      rw [hib] at eb hap
      simp only [Bool.not_false,Bool.true_and] at hap
      rw [hw] at hp
      have htx:∀ h5,Kp h1 h5→∃ h6,callO PX 50 [((sl.drop 1 i).take 1).val 1] h5 = some (.string (bs (encN x.1)),h6)∧Kp h5 h6:=fun h5 k5=>by
        obtain ⟨_,h6,e6,rfl,k6⟩:=ref8Text_spec (rsub h5 k5) (fun c hc=>by rw [List.mem_singleton.1 hc]; exact hrn) (by simp)
        rw [show encs [x.1] = encN x.1 by simp [encs]] at e6
        exact ⟨h6,e6,k6⟩
      have hnl:=encN_len x.1
      have hbz:(bs (encN x.1)).size = (encN x.1).length:=bs_size _
      have hz5:((posn s.data.toList i:Nat):Int) + ((bs (encN x.1)).size:Int) = ((posn s.data.toList (i + 1):Nat):Int):=by rw [hp,hbz]; rfl
      have hbz4:(bs (encN x.1)).size≤4:=by omega
      generalize bs (encN x.1) = tx at *
      cases fs with
      | none =>
        simp only [Option.isSome_none] at e3
        (refine W_x (Aj sll (Aj g2 (Aj g3 (Aj e3 (Aj eb e4))))) ?_; (repeat' first | apply Cj.mk | exact Nl.nl) <;> intros)
        refine wo_app1O (by':=48) ow rfl rfl (by decide) (by decide) (by rw [List.length_map]; omega) fun s5 h5 o5 b5 n5 k5=>?_
        obtain ⟨q1,q2⟩:=hap s5 h5 o5 b5 n5 k5
        obtain ⟨h6,e6,k6⟩:=htx h5 q1
        (refine W_x (Aj sll (Aj v2 (Aj hsl (Aj e6 hz5)))) ?_; (repeat' first | apply Cj.mk | exact Nl.nl) <;> intros)
        obtain ⟨qs',q3,q4⟩:=q2
        exact ⟨rfl,s5,rfl,rfl,q1.trans k6,qs',q3,q4.kp k6⟩
      | some j =>
        simp only [Option.isSome_some] at e3
        (refine W_x (Aj sll (Aj g2 (Aj g3 (Aj e3 (Aj eb e4))))) ?_; (repeat' first | apply Cj.mk | exact Nl.nl) <;> intros)
        refine wo_app1O (by':=48) ow rfl rfl (by decide) (by decide) (by rw [List.length_map]; omega) fun s5 h5 o5 b5 n5 k5=>?_
        obtain ⟨q1,q2⟩:=hap s5 h5 o5 b5 n5 k5
        obtain ⟨h6,e6,k6⟩:=htx h5 q1
        (refine W_x (Aj sll (Aj v2 (Aj hsl (Aj e6 hz5)))) ?_; (repeat' first | apply Cj.mk | exact Nl.nl) <;> intros)
        obtain ⟨qs',q3,q4⟩:=q2
        exact ⟨rfl,s5,rfl,rfl,q1.trans k6,qs',q3,q4.kp k6⟩
  · obtain ⟨k2,qs,hq,pa⟩:=hh
    rw [← pcs_len T,List.take_length] at hq
    (refine W_x trivial ?_; (repeat' first | apply Cj.mk | exact Nl.nl) <;> intros)
    exact ⟨q,qs,rfl,hq,pa.older f1.kp⟩
end Go.Proofs.YtakmapoompffgaaGreatDoor.AM
namespace Go.Proofs.YtakmapoompffgaaGreatDoor.AM
open Go
theorem rd_sub {lc:Lc} {h:AH} {e:Nat} {s:Sl} {xss:List (List Value)} (r:Reads h e s xss) {i f n:Nat} (hi:i < xss.length) (hf:f + n≤e):Mem.rd ⟨lc,h⟩ (ptrOff (s.adr e i) f) n = some (((xss[i]).drop f).take n):=by
  have hr:=rd_reads (lc:=lc) r hi
  have hsp:=Sl.spot_adr (e:=e) (s:=s) (i:=i)
  simp only [Mem.rd,Mem.obj,ptrOff,hsp] at hr ⊢
  have key:∀ xs:List Value,(if (s.adr e i).off + e≤xs.length then some ((xs.drop (s.adr e i).off).take e) else none) = some xss[i] →
      (if (s.adr e i).off + f + n≤xs.length then some ((xs.drop ((s.adr e i).off + f)).take n) else none) = some (((xss[i]).drop f).take n):=fun xs hr=>by
    split at hr
    · injection hr with hr
      rw [if_pos (by omega),← hr,List.drop_take,List.take_take,List.drop_drop,Nat.min_eq_left (by omega)]
    · cases hr
  split at hr
  · exact key _ hr
  · exact key _ hr
  · cases hr
theorem qs_get {qs:List (Pc × Sl)} {ps:List Pc} (hq:qs.map (·.1) = ps) {i:Nat} (hi:i < qs.length) (hp:i < ps.length):(qs[i]).1 = ps[i]:=by
  subst hq
  simp
theorem ref12Fold_spec {h:AH} {S:TS} {T:Tab} (hb:goodB T = true) (t:TabAt h S T) (s:ByteArray) (hs:s.size≤1048576) :
    WpC PX 27 [.agg S.vs.toArray,.string s] h fun v h'=>v = .string (bs (foldB T s.data.toList))∧Kp h h':=by
  have hz:s.data.toList.length = s.size:=rfl
  have hn:=spots_len s.data.toList
  have hrl:=runesB_len s.data.toList
  have hml:=fun i=>(mapF_len hb (fold_ok hb) ((runesB s.data.toList).take i)).2
  have hbd:∀ i,(mapF T.folds ((runesB s.data.toList).take i)).length≤4194304:=fun i=>by
    have h2:=hml i
    rw [List.length_take] at h2
    omega
  obtain ⟨_,h1,e1,sl,qs,rfl,hq,pa⟩:=ref12Pieces_spec hb t s hs
  have hql:qs.length = (spots s.data.toList).length:=by
    have:=congrArg List.length hq
    rwa [List.length_map,pcs_len] at this
  have sll:=pa.fo.own.1
  rw [List.length_map] at sll
  unfold TS.vs at *
  refine wpc_fn (px_ext rfl) (px_fn fn_guiseref12_Fold) rfl ?_
  unfold LF_guiseref12_Fold
  simp only [argFr]
  (refine W_x e1 ?_; (repeat' first | apply Cj.mk | exact Nl.nl) <;> intros)
  refine wp_forS (fun i (q:Sl)=>[(5,sl.val 4),(6,q.val 1),(7,.int .i64 i)]) (fun _ _=>[]) qs
    (fun i q h'=>FOwn h1 h' 1 q ((mapF T.folds ((runesB s.data.toList).take i)).map rnV)) (fun _ _=>(none:Option Unit)) Sl.nil rfl rfl
    (FOwn.nil (Kp.refl h1)) (fun i hi q h2 fo hit=>?_) fun q h2 fo fin=>?_
  · have hi2:i < (spots s.data.toList).length:=by omega
    have hip:i < (pcs T s.data.toList).length:=by rw [pcs_len]; exact hi2
    have g2:=fun lc=>rd_mapc (lc:=lc) (pa.fo.reads.kp fo.kp) hi (k:=2) (by decide)
    have hr:=((pa.rd _ (List.getElem_mem hi)).1).kp fo.kp
    have hg:=qs_get hq hi hip
    rw [pcs_get hip] at hg
    have hpt:=pcs_take (T:=T) hi2
    have hl:=mapC_len hb (fold_ok hb) (spots s.data.toList)[i].1
    have b1:=hbd i
    rw [hg] at hr
    rw [hpt]
    generalize qs[i] = z at *
    generalize (spots s.data.toList)[i] = x at *
    unfold pcR at g2
    simp only [List.drop_succ_cons,List.drop_zero,List.take_succ_cons,List.take_zero] at g2 hr
    (refine W_x (Aj sll g2) ?_; (repeat' first | apply Cj.mk | exact Nl.nl) <;> intros)
    refine wo_appL (by':=4) fo hr (by decide) (by decide) (by rw [List.length_map,List.length_map]; omega) fun s3 h3 f3=>?_
    (refine W_x trivial ?_; (repeat' first | apply Cj.mk | exact Nl.nl) <;> intros)
    refine ⟨rfl,s3,rfl,rfl, ?_⟩
    rw [List.map_append]
    exact f3
  · have b1:=hbd qs.length
    have hall:mapF T.folds ((runesB s.data.toList).take qs.length) = mapF T.folds (runesB s.data.toList):=by rw [hql,← hrl,List.take_length]
    rw [hall] at fo b1
    obtain ⟨_,g2,e2,rfl,k2⟩:=ref8Text_spec fo.reads (mapF_rune hb (fold_ok hb) (runesB_rune _)) (by omega)
    (refine W_x (Aj sll e2) ?_; (repeat' first | apply Cj.mk | exact Nl.nl) <;> intros)
    exact ⟨rfl,(pa.fo.kp.trans fo.kp).trans k2⟩
theorem ref12First_spec {h:AH} {S:TS} {T:Tab} (hb:goodB T = true) (t:TabAt h S T) (s:ByteArray) (hs:s.size≤1048576) :
    WpC PX 25 [.agg S.vs.toArray,.string s] h fun v h'=>v = plV (firstF T s.data.toList)∧Kp h h':=by
  obtain ⟨_,h1,e1,sl,qs,rfl,hq,pa⟩:=ref12Pieces_spec hb t s hs
  have hz:s.data.toList.length = s.size:=rfl
  have hn:=spots_len s.data.toList
  have hql:qs.length = (spots s.data.toList).length:=by
    have:=congrArg List.length hq
    rwa [List.length_map,pcs_len] at this
  have sll:=pa.fo.own.1
  rw [List.length_map] at sll
  rw [hql] at sll
  unfold TS.vs at *
  refine wpc_fn (px_ext rfl) (px_fn fn_guiseref12_First) rfl ?_
  unfold LF_guiseref12_First
  simp only [argFr]
  unfold firstF
  (refine W_x e1 ?_; (repeat' first | apply Cj.mk | exact Nl.nl) <;> intros)
  refine wp_forS (fun i (_:Unit)=>[(4,.pointer (some ⟨8,0,some 1⟩)),(6,sl.val 4),(7,.int .i64 i)]) (fun _ _=>[(8,.cells false [.int .i64 0,.int .i64 0])]) (spots s.data.toList)
    (fun i _ h'=>h' = h1) (fun i x=>if isBad2 x = true∨(fromO T.folds (x.1:Int)).isSome = true then some (posn s.data.toList i,i) else none) () rfl rfl rfl (fun i hi _ h2 hh hit=>?_) fun _ h2 hh fin=>?_
  · subst hh
    have hiq:i < qs.length:=by omega
    have hip:i < (pcs T s.data.toList).length:=by rw [pcs_len]; exact hi
    have g3:=fun lc=>rd_mapc (lc:=lc) pa.fo.reads hiq (k:=3) (by decide)
    have g0:=fun lc=>rd_sub (lc:=lc) pa.fo.reads (i:=i) (f:=0) (n:=2) (by rw [List.length_map]; exact hiq) (by decide)
    have hg:=qs_get hq hiq hip
    rw [pcs_get hip] at hg
    simp only [List.getElem_map] at g0
    have hpl:=(posn_lt hi).1
    generalize qs[i] = z at *
    generalize (spots s.data.toList)[i] = x at *
    unfold pcR at g0 g3
    rw [hg] at g0 g3
    simp only [List.drop_succ_cons,List.drop_zero,List.take_succ_cons,List.take_zero] at g0 g3
    rw [← Option.not_isSome] at g3
    generalize isBad2 x = ib at *
    generalize (fromO T.folds (x.1:Int)).isSome = fs at *
    cases ib with
    | true =>
      rw [hit _ (if_pos (.inl rfl))]
      (refine W_x (Aj sll (Aj g3 g0)) ?_; (repeat' first | apply Cj.mk | exact Nl.nl) <;> intros)
      exact ⟨rfl,pa.fo.kp⟩
    | false =>
      cases fs with
      | true =>
        rw [hit _ (if_pos (.inr rfl))]
        (refine W_x (Aj sll (Aj g3 g0)) ?_; (repeat' first | apply Cj.mk | exact Nl.nl) <;> intros)
        exact ⟨rfl,pa.fo.kp⟩
      | false =>
        (refine W_x (Aj sll (Aj g3 g0)) ?_; (repeat' first | apply Cj.mk | exact Nl.nl) <;> intros)
        exact ⟨by simp,(),rfl,rfl,rfl⟩
  · subst hh
    rw [fin]
    (refine W_x sll ?_; (repeat' first | apply Cj.mk | exact Nl.nl) <;> intros)
    exact ⟨rfl,pa.fo.kp⟩
set_option maxHeartbeats 2000000 in
theorem ref12Twins_spec {h:AH} {S:TS} {T:Tab} (hb:goodB T = true) (t:TabAt h S T) (a c:ByteArray) (ha:a.size≤2000) (hc:c.size≤2000) :
    WpC PX 29 [.agg S.vs.toArray,.string a,.string c] h fun v h'=>v = .bool (twinF T a.data.toList c.data.toList)∧Kp h h':=by
  have z1:a.data.toList.length = a.size:=rfl
  have z2:c.data.toList.length = c.size:=rfl
  have la:=open_size hb a.data.toList
  have lc':=open_size hb c.data.toList
  have len:∀ l:Bytes,(openL T (runesB l)).length≤6 * l.length:=fun l=>by
    have h2:=(openF_len hb (runesB_rune l)).2
    have h3:(openL T (runesB l)).length = (openF T (runesB l)).length:=by unfold openL; rw [ord_length]
    have h4:=runesB_len l
    have h5:=spots_len l
    omega
  have na:(openL T (runesB a.data.toList)).length≤10000000:=Nat.le_trans (len _) (by clear la lc' len; omega)
  have nc:(openL T (runesB c.data.toList)).length≤10000000:=Nat.le_trans (len _) (by clear la lc' len na; omega)
  have la':(openB T a.data.toList).length≤1048576:=Nat.le_trans la (by clear la lc' len na nc; omega)
  have lc1:(openB T c.data.toList).length≤1048576:=Nat.le_trans lc' (by clear la lc' len na nc la'; omega)
  clear la lc' len
  obtain ⟨_,g1,e1,s1,rfl,f1⟩:=ref9Open_spec hb t a (Nat.le_trans ha (by decide))
  obtain ⟨_,g2,e2,rfl,k2⟩:=ref8Text_spec f1.reads (fun c hc=>(openL_all hb (runesB_rune _) c hc).1) na
  have t2:=(t.kp f1.kp).kp k2
  obtain ⟨_,g3,e3,rfl,k3⟩:=ref12Fold_spec hb t2 (bs (openB T a.data.toList)) (by rw [bs_size]; exact la')
  have t3:=t2.kp k3
  obtain ⟨_,g4,e4,s2,rfl,f4⟩:=ref9Open_spec hb t3 c (Nat.le_trans hc (by decide))
  obtain ⟨_,g5,e5,rfl,k5⟩:=ref8Text_spec f4.reads (fun c hc=>(openL_all hb (runesB_rune _) c hc).1) nc
  have t5:=(t3.kp f4.kp).kp k5
  obtain ⟨_,g6,e6,rfl,k6⟩:=ref12Fold_spec hb t5 (bs (openB T c.data.toList)) (by rw [bs_size]; exact lc1)
  rw [bs_l] at e3 e6
  rw [show encs (openL T (runesB a.data.toList)) = openB T a.data.toList from rfl] at e2
  rw [show encs (openL T (runesB c.data.toList)) = openB T c.data.toList from rfl] at e5
  have hq:decide (bs (foldB T (openB T a.data.toList)) = bs (foldB T (openB T c.data.toList))) = decide (foldB T (openB T a.data.toList) = foldB T (openB T c.data.toList)):=decide_eq_decide.2 bs_inj
  have hqs:=str_eql (x:=bs (foldB T (openB T a.data.toList))) (y:=bs (foldB T (openB T c.data.toList)))
  rw [hq] at hqs
  unfold twinF
  generalize bs (foldB T (openB T a.data.toList)) = X at *
  generalize bs (foldB T (openB T c.data.toList)) = Y at *
  unfold TS.vs at *
  have kk:=f1.kp.trans (k2.trans (k3.trans (f4.kp.trans (k5.trans k6))))
  refine wpc_fn (px_ext rfl) (px_fn fn_guiseref12_Twins) rfl ?_
  unfold LF_guiseref12_Twins
  simp only [argFr]
  (refine W_y (Aj e1 (Aj e2 (Aj e3 (Aj e4 (Aj e5 (Aj e6 hqs)))))) ?_; (repeat' first | apply Cj.mk | exact Nl.nl) <;> intros)
  all_goals exact ⟨by congr 1; symm; simpa using ‹_›,kk⟩
end Go.Proofs.YtakmapoompffgaaGreatDoor.AM
namespace Go.Proofs.YtakmapoompffgaaGreatDoor.AM
open Go
theorem foldPieces_eq (q:Value) (s:ByteArray) (h:AH) (hq:∃ o,q = .pointer o∧∀ a,o = some a→∃ k,a = ⟨k,0,none⟩):callO PX 32 [q,.string s] h = some (.func (.func 52) #[] #[.pointer (some ⟨h.n,0,none⟩),.pointer (some ⟨h.n + 1,0,none⟩)],(h.push (.cells false [q])).push (.cells false [.string s])):=by
  obtain ⟨o,rfl,ho⟩:=hq
  apply WpC.eqn
  cases o with
  | none =>
    refine wpc_fn (px_ext rfl) (px_fn fn_fold_Pieces) rfl ?_
    unfold LF_fold_Pieces
    simp only [argFr]
    (refine W_x trivial ?_; (repeat' first | apply Cj.mk | exact Nl.nl) <;> intros)
    exact ⟨rfl,rfl⟩
  | some a =>
    obtain ⟨k,rfl⟩:=ho a rfl
    refine wpc_fn (px_ext rfl) (px_fn fn_fold_Pieces) rfl ?_
    unfold LF_fold_Pieces
    simp only [argFr]
    (refine W_x trivial ?_; (repeat' first | apply Cj.mk | exact Nl.nl) <;> intros)
    exact ⟨rfl,rfl⟩
end Go.Proofs.YtakmapoompffgaaGreatDoor.AM
namespace Go.Proofs.YtakmapoompffgaaGreatDoor.AM
open Go
def PtV (x:Pc):List Value:=[.agg (List.toArray [.int .i64 x.at',.int .i64 x.n]),.string (bs (encs x.to))]
def PcV2 (x:Pc) (us:List Value) (P:Nat→Prop) (h:AH):Prop:=us = PtV x
theorem pieces_seq {p1 p2 k B:Nat} {s6:Sl} {T:Tab} (hb:goodB T = true) (s:ByteArray) (hs:s.size≤16777216) :
    SeqR PX (.func (.func 52) #[] #[.pointer (some ⟨p1,0,none⟩),.pointer (some ⟨p2,0,none⟩)]) (pcs T s.data.toList) PcV2 (StD p1 p2 k B s6 T s):=by
  intro yv I E h hyv hvs cons hD h0
  have hz:s.data.toList.length = s.size:=rfl
  have hsn:=spots_len s.data.toList
  have hset:=hyv.set
  have hlc1:=hyv.lc1
  have hloc:=hyv.loc
  have hvc:=hyv.vc
  have hck:=hyv.cell
  obtain ⟨d1,d2,dk⟩:=hD _ _ _ h0
  have l1:=AH.get_lt d1
  have l2:=AH.get_lt d2
  have e1:=fun h=>steps_eq (.pointer (some ⟨k,0,none⟩)) h ⟨_,rfl,fun a ha=>by injection ha with ha; exact ⟨k,ha.symm⟩⟩
  have e2:=steps1_eq s
  refine wpV_fn ?_
  refine wpc_fn (px_ext rfl) (px_fn fn_fold_Pieces_1) rfl ?_
  unfold LF_fold_Pieces_1
  simp only [argFr,List.nil_append,List.cons_append]
  (refine W_y (Aj hset (Aj hlc1 (Aj hloc (Aj hvc (Aj hck (Aj d1 (Aj d2 (Aj e1 e2)))))))) ?_; (repeat' first | apply Cj.mk | exact Nl.nl) <;> intros)
  generalize hH0:(((h.push (.cells false [yv])).push (.cells false [.pointer (some ⟨k,0,none⟩)])).push (.cells false [.string s])) = H0
  simp only [Nat.add_assoc,Nat.reduceAdd,AH.push_n] at hH0 ⊢
  have n0:H0.n = h.n + 3:=by rw [← hH0]; simp only [AH.push_n]
  have a0:H0.get h.n = some (.cells false [yv]):=by rw [← hH0]; simp (disch:=first | omega | (simp only [AH.nn_push,AH.nn_set,AH.nn_kill]; omega) | (simp only [AH.nn_push,AH.nn_set,AH.nn_kill]; done) | fail) only [AH.get_push_eq,AH.get_push_ne,AH.get_set_eq,AH.get_set_ne,AH.push_n]
  have a1:H0.get (h.n + 1) = some (.cells false [.pointer (some ⟨k,0,none⟩)]):=by rw [← hH0]; simp (disch:=first | omega | (simp only [AH.nn_push,AH.nn_set,AH.nn_kill]; omega) | (simp only [AH.nn_push,AH.nn_set,AH.nn_kill]; done) | fail) only [AH.get_push_eq,AH.get_push_ne,AH.get_set_eq,AH.get_set_ne,AH.push_n]
  have a2:H0.get (h.n + 2) = some (.cells false [.string s]):=by rw [← hH0]; simp (disch:=first | omega | (simp only [AH.nn_push,AH.nn_set,AH.nn_kill]; omega) | (simp only [AH.nn_push,AH.nn_set,AH.nn_kill]; done) | fail) only [AH.get_push_eq,AH.get_push_ne,AH.get_set_eq,AH.get_set_ne,AH.push_n]
  have ak:∀ b,b < h.n→H0.get b = h.get b:=fun b hb=>by rw [← hH0]; simp (disch:=first | omega | (simp only [AH.nn_push,AH.nn_set,AH.nn_kill]; omega) | (simp only [AH.nn_push,AH.nn_set,AH.nn_kill]; done) | fail) only [AH.get_push_eq,AH.get_push_ne,AH.get_set_eq,AH.get_set_ne,AH.push_n]
  clear hH0
  refine wp_rangeR (V:=PcV) (xs:=pcs T s.data.toList) (D:=StD (h.n + 1) (h.n + 2) k B s6 T s) rfl (steps_seq hb s hs) (fun x us P h1 ⟨sl,e,_⟩=>by rw [e]; rfl)
    (fun x us P h1 o ⟨sl,e,r,hp⟩ hP=>⟨sl,e,r.setNe o fun b hb=>by have:=hP b (hp b hb); omega,hp⟩)
    (fun i P h1=>H0.n≤h1.n∧(∀ b,h.n≤b→b < h.n + 3→h1.get b = H0.get b)∧I i (fun b=>(h.n≤b∧b≤h.n + 3∧b < h1.n)∨P b) h1)
    (fun ex P h1=>ex = .ret∧H0.n≤h1.n∧E (fun b=>(h.n≤b∧b≤h.n + 3∧b < h1.n)∨P b) h1)
    (fun us=>[(3,.pointer (some ⟨h.n,0,none⟩)),(4,.pointer (some ⟨8,0,some 1⟩))]) (fun us=>[(8,.cells false (cellsU us))]) ?_ ?_ ?_ ?_ ?_ ?_ ?_ ?_
  · rw [n0]
    rintro i P P' h1 h2 ⟨f0,f1,hI⟩ hP fm hP'
    have hn:=fm.n
    refine ⟨by omega,fun b hb hlt=>(fm.keep b (by omega) (fun hp=>by have:=hP b hp; omega) (by omega)).trans (f1 b hb hlt), ?_⟩
    refine cons.frI _ _ _ _ _ hI ⟨hn,fun b hb hp=>fm.keep b hb (fun q=>hp (.inr q)) (fun e=>hp (.inl (by omega)))⟩ fun b hp=>?_
    rcases hp with hp | hp
    · refine ⟨hp.2.2, ?_⟩
      rcases Nat.lt_or_ge b h1.n with q | q
      · exact .inl (.inl ⟨hp.1,hp.2.1,q⟩)
      · exact .inr q
    · obtain ⟨q1,q2,q3⟩:=hP' b hp
      exact ⟨q2,q3.elim (fun q=>.inl (.inr q)) .inr⟩
  · rw [n0]
    rintro ex P P' h1 h2 ⟨rfl,f0,hE⟩ hP fm hP'
    have hn:=fm.n
    refine ⟨rfl,by omega, ?_⟩
    refine cons.frE _ _ _ _ hE ⟨hn,fun b hb hp=>fm.keep b hb (fun q=>hp (.inr q)) (fun e=>hp (.inl (by omega)))⟩ fun b hp=>?_
    rcases hp with hp | hp
    · refine ⟨hp.2.2, ?_⟩
      rcases Nat.lt_or_ge b h1.n with q | q
      · exact .inl (.inl ⟨hp.1,hp.2.1,q⟩)
      · exact .inr q
    · obtain ⟨q1,q2,q3⟩:=hP' b hp
      exact ⟨q2,q3.elim (fun q=>.inl (.inr q)) .inr⟩
  · rintro i P h1 ⟨f0,f1,hI⟩
    exact ⟨(f1 _ (by omega) (by omega)).trans a1,(f1 _ (by omega) (by omega)).trans a2,(hD _ _ _ hI).bk⟩
  · rintro x us P h1 ⟨sl,rfl,r,hp⟩
    simp only [List.zip_cons_cons,List.zip_nil_right,List.reverse_cons,List.reverse_nil,List.nil_append,List.cons_append,okFr_cons,okFr_nil,okV_eq,isLoc_ptr,isLoc_func,Bool.not_false,if_true,cellsU]
    (refine W_x trivial ?_; (repeat' first | apply Cj.mk | exact Nl.nl) <;> intros)
    exact ⟨rfl,rfl,rfl,rfl⟩
  · refine ⟨Nat.le_refl _,fun _ _ _=>rfl,cons.frI _ _ _ _ _ h0 ⟨by omega,fun b hb _=>ak b hb⟩ fun b hp=>?_⟩
    rcases hp with hp | hp
    · exact ⟨hp.2.2,.inr hp.1⟩
    · exact hp.elim
  · rw [n0]
    rintro i hi us P h1 o ⟨f0,f1,hI⟩ ⟨sl,rfl,r,hp⟩ hP hlt ho
    have hil:i < (spots s.data.toList).length:=by rw [← pcs_len T]; exact hi
    have hr:=mapC_rune hb (fold_ok hb) (runesB_rune s.data.toList (spots s.data.toList)[i].1 (List.mem_map.2 ⟨_,List.getElem_mem hil,rfl⟩))
    have hl:=mapC_len hb (fold_ok hb) (spots s.data.toList)[i].1
    have hst:=cons.step i hi (PtV (pcs T s.data.toList)[i]) _ _ hI rfl
    rw [pcs_get hi] at r hst ⊢
    have g0:=(f1 h.n (by omega) (by omega)).trans a0
    generalize (spots s.data.toList)[i] = x at *
    simp only at r ⊢
    unfold PtV at hst
    simp only at hst
    generalize mapC T.folds x.1 = to at *
    generalize (!isBad2 x && (fromO T.folds (x.1:Int)).isNone) = sm at *
    have hto:to≠[]:=fun e=>by rw [e] at hl; simp at hl
    have e3:=fun lc=>r2s_reads (lc:=lc) r hto hr
    unfold cellsU
    generalize bs (encs to) = tx at *
    (refine W_x (Aj g0 (Aj e3 (Aj hset (Aj hlc1 hloc)))) ?_; (repeat' first | apply Cj.mk | exact Nl.nl) <;> intros)
    refine wo_callV (fv:=yv) rfl rfl rfl ?_
    refine hst.mono ?_
    rintro v h4 ⟨(⟨rfl,hI4⟩ | ⟨rfl,hE⟩),hn4,hk4⟩
    · (refine W_x trivial ?_; (repeat' first | apply Cj.mk | exact Nl.nl) <;> intros)
      refine ⟨(hk4 _ (.inl ⟨by omega,by omega,by omega⟩)).trans ho,hn4,fun b hb=>hk4 b (.inr hb),by omega,fun b hb hlt'=>(hk4 b (.inl ⟨hb,by omega,by omega⟩)).trans (f1 b hb hlt'), ?_⟩
      refine cons.frI _ _ _ _ _ hI4 ⟨Nat.le_refl _,fun _ _ _=>rfl⟩ fun b hq=>?_
      rcases hq with hq | hq
      · exact ⟨hq.2.2,.inl (.inl ⟨hq.1,hq.2.1,by omega⟩)⟩
      · exact ⟨by have:=(hP b hq).2; omega,.inl (.inr hq)⟩
    · (refine W_x trivial ?_; (repeat' first | apply Cj.mk | exact Nl.nl) <;> intros)
      refine ⟨(hk4 _ (.inl ⟨by omega,by omega,by omega⟩)).trans ho,hn4,fun b hb=>hk4 b (.inr hb),rfl,by omega, ?_⟩
      refine cons.frE _ _ _ _ hE ⟨Nat.le_refl _,fun _ _ _=>rfl⟩ fun b hq=>?_
      rcases hq with hq | hq
      · exact ⟨hq.2.2,.inl (.inl ⟨hq.1,hq.2.1,by omega⟩)⟩
      · exact ⟨by have:=(hP b hq).2; omega,.inl (.inr hq)⟩
  · rintro P h1 ⟨f0,f1,hI⟩ hP hlt
    (refine W_x trivial ?_; (repeat' first | apply Cj.mk | exact Nl.nl) <;> intros)
    exact ⟨_,.inl hI⟩
  · rintro ex P h1 hne ⟨rfl,f0,hE⟩ hP hlt
    (refine W_x trivial ?_; (repeat' first | apply Cj.mk | exact Nl.nl) <;> intros)
    exact ⟨_,.inr hE⟩
end Go.Proofs.YtakmapoompffgaaGreatDoor.AM
namespace Go.Proofs.YtakmapoompffgaaGreatDoor.AM
open Go
def LF_guiselaw12_FoldFolds:LFunc :=
  .mk 4 [.tmp 8] (.seq (R 4 [1,2,3,4] [.tmp 4 (xbl 4 8 (.sl 0)),.set 8 (.cv (.bool false))]) (.seq (R 23 [1,2,3,4,9,10,11] [.set 22 (xc1 9 (xln 8 (.sl 4))),
  .tmp 25 (xex 0 (.sl 22)),.tmp 26 (xex 1 (.sl 22)),.tmp 27 (xex 2 (.sl 22)),.set 9 (.sl 25),.set 10 (.sl 26),.set 11 (.sl 27)]) (.seq (.seq (R 28 [1,2,3,4,9,11,29] [.tmp
  29 (xu .not (.va 10))]) (.cond (.s 29) (.seq (R 30 [8] [.set 8 (.and (.va 11) (xc0 10))]) .ret) .skip)) (.seq (R 34 [1,2,3,4,9] [.set 1 (xc2
  11 (.va 1) (xi 2000))]) (.seq (R 36 [1,2,3,4,9] [.set 2 (xc2 11 (.va 2) (xi 2000))]) (.seq (R 39 [1,2,3,4,9,12,13] [.set 38 (xc2
  24 (.va 9) (.va 1)),.tmp 42 (xex 0 (.sl 38)),.tmp 43 (xex 1 (.sl 38)),.at 12,.tmp 12 (xnl 12 [.int .i64 0,.int .i64 0]),.run (xst 2 (.sl 12) (.sl 42)),.tmp 13
  (.va 43)]) (.seq (R 45 [1,2,3,4,9,12,13,14,15] [.set 44 (xc2 25 (xln 8 (.sl 4)) (.va 1)),.tmp 48 (xex 0 (.sl 44)),.tmp 49 (xex 1 (.sl 44)),.at 14,
  .tmp 14 (xnl 14 [.int .i64 0,.int .i64 0]),.run (xst 2 (.sl 14) (.sl 48)),.tmp 15 (.va 49)]) (.seq (R 50 [1,2,3,4,9,12,13,14,15,16] [.set 16 (xc2 26
  (xln 8 (.sl 4)) (.va 1))]) (.seq (.seq (.region [.mk (some 53) (.p (.mv (.s 9))) none,.mk (some 54) (.p (.mv (.s 1))) none,.mk (some 55) (.e (.call 14 [.s 53,.s
  54])) none,.mk (some 56) (.r (.load (some 8) (.s 4))) none,.mk (some 57) (.p (.mv (.s 1))) none,.mk (some 58) (.e (.call 27 [.s 56,.s 57])) none,.mk (some
  59) (.p (.bin .neq (.s 55) (.s 58))) none,.mk (some 60) (.p (.mv (.s 59))) none,.mk (some 61) (.r (.load (some 2) (.s 12))) (some (60,false)),.mk (some 62) (.r (.load (some 2)
  (.s 14))) (some (60,false)),.mk (some 63) (.p (.eqA true [.int,.int] (.s 61) (.s 62))) (some (60,false)),.mk (some 64) (.p (.pick (.s 60) (.c (.bool true)) (.s 63))) none,
  .mk (some 65) (.p (.mv (.s 64))) none,.mk (some 66) (.p (.mv (.s 13))) (some (65,false)),.mk (some 67) (.p (.mv (.s 15))) (some (65,false)),.mk (some 68) (.p (.eqk true .bool
  (.s 66) (.s 67))) (some (65,false)),.mk (some 69) (.p (.pick (.s 65) (.c (.bool true)) (.s 68))) none,.mk (some 70) (.p (.mv (.s 69))) none,.mk (some 71) (.p (.mv (.s 9)))
  (some (70,false)),.mk (some 72) (.p (.mv (.s 1))) (some (70,false)),.mk (some 73) (.e (.call 28 [.s 71,.s 72])) (some (70,false)),.mk (some 74) (.p (.mv (.s
  16))) (some (70,false)),.mk (some 75) (.p (.len (.s 74))) (some (70,false)),.mk (some 76) (.p (.bin .neq (.s 73) (.s 75))) (some (70,false)),.mk (some 77) (.p (.pick (.s 70)
  (.c (.bool true)) (.s 76))) none,.mk (some 78) (.p (.mv (.s 77))) none,.mk (some 79) (.p (.mv (.s 9))) (some (78,false)),.mk (some 80) (.p (.mv (.s 1))) (some (78,false)),
  .mk (some 81) (.p (.mv (.s 2))) (some (78,false)),.mk (some 82) (.e (.call 12 [.s 79,.s 80,.s 81])) (some (78,false)),.mk (some 83) (.r (.load (some 8) (.s 4)))
  (some (78,false)),.mk (some 84) (.p (.mv (.s 1))) (some (78,false)),.mk (some 85) (.p (.mv (.s 2))) (some (78,false)),.mk (some 86) (.e (.call 29 [.s 83,
  .s 84,.s 85])) (some (78,false)),.mk (some 87) (.p (.eqk true .bool (.s 82) (.s 86))) (some (78,false)),.mk (some 88) (.p (.pick (.s 78) (.c (.bool true)) (.s 87))) none] [1,
  3,4,9,12,16,88] [(3,0),(30,21)]) (.cond (.s 88) (.seq (R 999 [8] [.set 8 (.cv (.bool false))]) .ret) .skip)) (.seq (R 89 [1,3,4,9,12,16,17] [.set 17 (.op (.e (.litH
  4 1 [.int .i64 0] [(0,1,.s 0),(1,1,.s 1),(2,1,.s 2),(3,1,.s 3)])) (.cons (.va 3) (.cons (xc3 30 (.va 3) (xi (-1)) (xlen (.va 16))) (.cons (xlen (.va
  16)) (xi (-1))))))]) (.seq (.seq (R 999 [1,3,4,9,12,16,17,18] [.set 18 (xi 0)]) (.block 0 (.loop (.seq (.seq (R 97 [1,3,4,9,12,16,17,18,100] [.tmp 100 (xb .lss (.va
  18) (xlen (.va 17)))]) (.cond (.s 100) .skip (.exit 0))) (.seq (.block 1 (.seq (R 104 [1,3,4,9,11,12,16,17,18] [.set 103 (xc3 31 (.va 9) (.va 1) (xld (xia 1 (.va
  17) (.va 18)))),.tmp 111 (xex 0 (.sl 103)),.tmp 112 (xex 1 (.sl 103)),.run (xst 2 (.sl 12) (.sl 111)),.set 11 (.sl 112)]) (.seq (R 113 [1,3,4,9,11,12,16,17,18,19]
  [.set 19 (.and (xb .geq (xld (xia 1 (.va 17) (.va 18))) (xi 0)) (xb .lss (xld (xia 1 (.va 17) (.va 18))) (xlen (.va 16))))]) (.seq (R 127 [1,3,4,9,12,16,17,18,152] [.tmp
  152 (.or (.or (.op (.p (.eqk true .bool (.s 0) (.s 1))) (.cons (.va 11) (.va 19))) (.and (.va 19) (.op (.p (.eqA true [.int,.int] (.s 0) (.s 1))) (.cons (xln 2 (.sl 12)) (xln 2
  (xia 2 (.va 16) (xld (xia 1 (.va 17) (.va 18))))))))) (.and (xu .not (.va 19)) (.op (.p (.eqA true [.int,.int] (.s 0) (.s 1))) (.cons (xln 2 (.sl 12)) (.op (.p (.build [.int .i64
  0,.int .i64 0] [])) .nil)))))]) (.cond (.s 152) (.seq (R 999 [8] [.set 8 (.cv (.bool false))]) .ret) .skip))))) (R 101 [1,3,4,9,12,16,17,18] [.set 18 (xb .add (.va 18) (xi
  1))])))))) (.seq (R 153 [1,3,4,20] [.set 20 (xc2 32 (.va 9) (.va 1))]) (.seq (R 156 [3,20,21] [.set 21 (xc2 33 (xln 8 (.sl 4)) (.va 1))])
  (.seq (R 159 [8] [.set 8 (.and (.and (.and (.and (.op (.p (.eqk true .func (.s 0) (.s 1))) (.cons (.va 20) (.cv .nilFunc))) (xc3 34 (.va 20) (.va 21) (xi
  (-1)))) (xc3 34 (.va 20) (.va 21) (xc3 30 (.va 3) (xi 1) (xi 9)))) (xc3 34 (.va 20) (.va 21) (xi (-1)))) (xc0
  10))]) .ret))))))))))))))
theorem fn_guiselaw12_FoldFolds:(autoPrg Tryz.prog).fn 6 = some LF_guiselaw12_FoldFolds:=by kernel_rfl
def LF_guiselaw12_pieces:LFunc :=
  .mk 3 [.cell 6 none] (.seq (R 4 [0,4,5,6] [.tmp 4 (xbh 1 (.sl 1)),.tmp 5 (xbh 1 (.sl 2)),.tmp 6 (xnh [.bool false])]) (.seq (R 7 [0,4,5,6,7] [.tmp 7 (xnh [.int .i64 0]),
  .run (xst 1 (.sl 7) (xi 0))]) (.seq (.seq (R 10 [4,5,6,7,10] [.tmp 10 (.va 0)]) (.block 0 (.rangeF (.s 10) [11,12] (.seq (R 8 [4,5,6,7,8,12] [.tmp 8 (xnl 8 [.int .i64 0,
  .int .i64 0]),.run (xst 2 (.sl 8) (.sl 11))]) (R 9 [4,5,6,7,8,9] [.tmp 9 (.va 12)])) (.block 1 (.seq (.seq (R 13 [5,6,7,35] [.tmp 35 (.or (.or (xb .geq (xld (.sl 7))
  (xlen (xld (.sl 4)))) (.op (.p (.eqA true [.int,.int] (.s 0) (.s 1))) (.cons (xln 2 (.sl 8)) (xln 2 (xfa 0 (xia 4 (xld (.sl 4)) (xld (.sl 7)))))))) (xb .neq (.va 9) (xc1
  50 (xld (xfa 2 (xia 4 (xld (.sl 4)) (xld (.sl 7))))))))]) (.cond (.s 35) (.seq (R 999 [] [.run (xst 1 (.sl 6) (.cv (.bool false)))]) .ret) .skip)) (.seq (R 36 [5,
  6,7] [.run (xst 1 (.sl 7) (xb .add (xld (.sl 7)) (xi 1)))]) (.seq (R 38 [6,40] [.tmp 40 (xb .eql (xld (.sl 7)) (xld (.sl 5)))]) (.cond (.s 40) (.seq (R 999 [] [.run (xst 1 (.sl
  6) (.cv (.bool true)))]) .ret) .skip)))))))) (.seq (R 41 [6] [.run (xst 1 (.sl 6) (xb .eql (xld (.sl 7)) (xlen (xld (.sl 4)))))]) .ret))))
theorem fn_guiselaw12_pieces:(autoPrg Tryz.prog).fn 34 = some LF_guiselaw12_pieces:=by kernel_rfl
end Go.Proofs.YtakmapoompffgaaGreatDoor.AM
namespace Go.Proofs.YtakmapoompffgaaGreatDoor.AM
open Go
def plR (x:Nat × Nat):List Value:=[.int .i64 x.1,.int .i64 x.2]
theorem ref12Of_spec {h:AH} {S:TS} {T:Tab} (hb:goodB T = true) (t:TabAt h S T) (s:ByteArray) (hs:s.size≤1048576) :
    WpC PX 26 [.agg S.vs.toArray,.string s] h fun v h' => ∃ sl,v = sl.val 2∧FOwn h h' 2 sl ((ofL T s.data.toList).map plR):=by
  have hz:s.data.toList.length = s.size:=rfl
  have hn:=spots_len s.data.toList
  have hrl:=runesB_len s.data.toList
  have hml:=fun i=>(mapF_len hb (fold_ok hb) ((runesB s.data.toList).take i)).2
  have hbd:∀ i,(mapF T.folds ((runesB s.data.toList).take i)).length≤4194304:=fun i=>by
    have h2:=hml i
    rw [List.length_take] at h2
    omega
  obtain ⟨_,h1,e1,sl,qs,rfl,hq,pa⟩:=ref12Pieces_spec hb t s hs
  have hql:qs.length = (spots s.data.toList).length:=by
    have:=congrArg List.length hq
    rwa [List.length_map,pcs_len] at this
  have sll:=pa.fo.own.1
  rw [List.length_map] at sll
  have hpl:=pcs_len T s.data.toList
  unfold TS.vs at *
  refine wpc_fn (px_ext rfl) (px_fn fn_guiseref12_Of) rfl ?_
  unfold LF_guiseref12_Of
  simp only [argFr]
  (refine W_x e1 ?_; (repeat' first | apply Cj.mk | exact Nl.nl) <;> intros)
  refine wp_forS (fun i (q:Sl)=>[(5,sl.val 4),(6,q.val 2),(7,.int .i64 i)]) (fun _ _=>[]) qs
    (fun i q h'=>FOwn h1 h' 2 q ((((pcs T s.data.toList).take i).flatMap fun x=>List.replicate x.to.length (x.at',x.n)).map plR)) (fun _ _=>(none:Option Unit)) Sl.nil rfl rfl
    (FOwn.nil (Kp.refl h1)) (fun i hi q h2 fo hit=>?_) fun q h2 fo fin=>?_
  · have hi2:i < (spots s.data.toList).length:=by omega
    have hip:i < (pcs T s.data.toList).length:=by rw [pcs_len]; exact hi2
    have gk2:∀ h5,Kp h1 h5→∀ lc,_:=fun h5 k5 lc=>rd_mapc (lc:=lc) (pa.fo.reads.kp k5) hi (k:=2) (by decide)
    have gk0:∀ h5,Kp h1 h5→∀ lc,_:=fun h5 k5 lc=>rd_sub (lc:=lc) (pa.fo.reads.kp k5) (i:=i) (f:=0) (n:=2) (by rw [List.length_map]; exact hi) (by decide)
    have hr:=(pa.rd _ (List.getElem_mem hi)).1
    have hg:=qs_get hq hi hip
    have hpre:=pcs_pre T s.data.toList i (by omega)
    have htk:=take_snoc hip
    have hl:=mapC_len hb (fold_ok hb) (spots s.data.toList)[i].1
    have hto:(pcs T s.data.toList)[i].to.length≤4:=by rw [pcs_get hip]; exact hl.2
    have b1:=hbd i
    simp only [List.getElem_map] at gk0
    rw [htk,List.flatMap_append,List.flatMap_singleton]
    rw [hg] at hr
    generalize hzq:qs[i] = z at *
    generalize (pcs T s.data.toList)[i] = y at *
    unfold pcR at gk0 gk2
    rw [hg] at gk0 gk2
    simp only [List.drop_succ_cons,List.drop_zero,List.take_succ_cons,List.take_zero] at gk0 gk2
    have zl:=hr.1
    rw [List.length_map] at zl
    generalize ((pcs T s.data.toList).take i).flatMap (fun x=>List.replicate x.to.length (x.at',x.n)) = pre at *
    have g2:=gk2 h2 fo.kp
    (refine W_x (Aj sll (Aj g2 zl)) ?_; (repeat' first | apply Cj.mk | exact Nl.nl) <;> intros)
    refine wp_forS (fun k (q:Sl)=>[(5,sl.val 4),(6,q.val 2),(7,.int .i64 i),(8,.int .i64 k)]) (fun _ _=>[]) y.to
      (fun k q h'=>FOwn h1 h' 2 q ((pre ++ List.replicate k (y.at',y.n)).map plR)) (fun _ _=>(none:Option Unit)) q rfl rfl
      (by simpa using fo) (fun k hk q h3 fo3 hit3=>?_) fun q h3 fo3 fin3=>?_
    · have g2:=gk2 h3 fo3.kp
      have g0:=gk0 h3 fo3.kp
      (refine W_x (Aj sll (Aj g2 (Aj g0 zl))) ?_; (repeat' first | apply Cj.mk | exact Nl.nl) <;> intros)
      refine wo_app1 (by':=16) fo3 rfl rfl (by decide) (by decide) (by rw [List.length_map,List.length_append,List.length_replicate]; omega) fun s4 h4 f4=>?_
      (refine W_x trivial ?_; (repeat' first | apply Cj.mk | exact Nl.nl) <;> intros)
      refine ⟨rfl,s4,rfl,rfl, ?_⟩
      rw [List.replicate_succ',← List.append_assoc,List.map_append]
      exact f4
    · have g2:=gk2 h3 fo3.kp
      (refine W_x (Aj sll (Aj g2 zl)) ?_; (repeat' first | apply Cj.mk | exact Nl.nl) <;> intros)
      exact ⟨rfl,q,rfl,rfl,fo3⟩
  · (refine W_x sll ?_; (repeat' first | apply Cj.mk | exact Nl.nl) <;> intros)
    refine ⟨q,rfl, ?_⟩
    rw [hql,← hpl,List.take_length] at fo
    exact fo.older pa.fo.kp
end Go.Proofs.YtakmapoompffgaaGreatDoor.AM
namespace Go.Proofs.YtakmapoompffgaaGreatDoor.AM
open Go
theorem lawPieces_spec {h0 h:AH} {p1 p2 k B:Nat} {s6 sl:Sl} {T:Tab} {qs:List (Pc × Sl)} (hb:goodB T = true) (s:ByteArray) (hs:s.size≤16777216) (std:StD p1 p2 k B s6 T s h) (hq:qs.map (·.1) = pcs T s.data.toList) (pa:PcsAt h0 h sl qs) (m:Int) (hm:m = -1∨1≤m∧m≤1000) :
    WpC PX 34 [.func (.func 52) #[] #[.pointer (some ⟨p1,0,none⟩),.pointer (some ⟨p2,0,none⟩)],sl.val 4,.int .i64 m] h fun v h'=>v = .bool true∧Kp h h':=by
  have hz:s.data.toList.length = s.size:=rfl
  have hsn:=spots_len s.data.toList
  have hql:qs.length = (spots s.data.toList).length:=by
    have:=congrArg List.length hq
    rwa [List.length_map,pcs_len] at this
  have sll:=pa.fo.own.1
  rw [List.length_map,hql] at sll
  have l1:=AH.get_lt std.a
  have l2:=AH.get_lt std.b
  refine wpc_fn (px_ext rfl) (px_fn fn_guiselaw12_pieces) rfl ?_
  unfold LF_guiselaw12_pieces
  simp only [argFr]
  (refine W_x trivial ?_; (repeat' first | apply Cj.mk | exact Nl.nl) <;> intros)
  generalize hH0:((((h.push (.cells false [sl.val 4])).push (.cells false [.int .i64 m])).push (.cells false [.bool false])).push (.cells false [.int .i64 0])).set (h.n + 1 + 1 + 1) (.cells false [.int .i64 0]) = H0
  simp only [Nat.add_assoc,Nat.reduceAdd,AH.push_n,AH.set_n] at hH0 ⊢
  have n0:H0.n = h.n + 4:=by rw [← hH0]; simp only [AH.push_n,AH.set_n]
  have a0:H0.get h.n = some (.cells false [sl.val 4]):=by rw [← hH0]; simp (disch:=first | omega | (simp only [AH.nn_push,AH.nn_set,AH.nn_kill]; omega) | (simp only [AH.nn_push,AH.nn_set,AH.nn_kill]; done) | fail) only [AH.get_push_eq,AH.get_push_ne,AH.get_set_eq,AH.get_set_ne,AH.push_n,AH.set_n]
  have a1:H0.get (h.n + 1) = some (.cells false [.int .i64 m]):=by rw [← hH0]; simp (disch:=first | omega | (simp only [AH.nn_push,AH.nn_set,AH.nn_kill]; omega) | (simp only [AH.nn_push,AH.nn_set,AH.nn_kill]; done) | fail) only [AH.get_push_eq,AH.get_push_ne,AH.get_set_eq,AH.get_set_ne,AH.push_n,AH.set_n]
  have a2:H0.get (h.n + 2) = some (.cells false [.bool false]):=by rw [← hH0]; simp (disch:=first | omega | (simp only [AH.nn_push,AH.nn_set,AH.nn_kill]; omega) | (simp only [AH.nn_push,AH.nn_set,AH.nn_kill]; done) | fail) only [AH.get_push_eq,AH.get_push_ne,AH.get_set_eq,AH.get_set_ne,AH.push_n,AH.set_n]
  have a3:H0.get (h.n + 3) = some (.cells false [.int .i64 0]):=by rw [← hH0]; simp (disch:=first | omega | (simp only [AH.nn_push,AH.nn_set,AH.nn_kill]; omega) | (simp only [AH.nn_push,AH.nn_set,AH.nn_kill]; done) | fail) only [AH.get_push_eq,AH.get_push_ne,AH.get_set_eq,AH.get_set_ne,AH.push_n,AH.set_n]
  have ak:∀ b,b < h.n→H0.get b = h.get b:=fun b hb=>by rw [← hH0]; simp (disch:=first | omega | (simp only [AH.nn_push,AH.nn_set,AH.nn_kill]; omega) | (simp only [AH.nn_push,AH.nn_set,AH.nn_kill]; done) | fail) only [AH.get_push_eq,AH.get_push_ne,AH.get_set_eq,AH.get_set_ne,AH.push_n,AH.set_n]
  clear hH0
  refine wp_rangeR (V:=PcV2) (xs:=pcs T s.data.toList) (D:=StD p1 p2 k B s6 T s) rfl (pieces_seq hb s (by omega)) (fun x us P h1 e=>by rw [e]; rfl) (fun x us P h1 o e _=>e)
    (fun i P h1=>H0.n≤h1.n∧(∀ b,b < h.n + 3→h1.get b = H0.get b)∧h1.get (h.n + 3) = some (.cells false [.int .i64 i]))
    (fun ex P h1=>ex = .ret∧H0.n≤h1.n∧(∀ b,b < h.n→h1.get b = h.get b)∧h1.get (h.n + 2) = some (.cells false [.bool true]))
    (fun us=>[(4,.pointer (some ⟨h.n,0,none⟩)),(5,.pointer (some ⟨h.n + 1,0,none⟩)),(6,.pointer (some ⟨h.n + 2,0,none⟩)),(7,.pointer (some ⟨h.n + 3,0,none⟩)),(8,.pointer (some ⟨16,0,some 1⟩)),(9,us.getD 1 undef)]) (fun us=>[(16,.cells false (cellsU (us.take 1)))]) ?_ ?_ ?_ ?_ ?_ ?_ ?_ ?_
  · rw [n0]
    rintro i P P' h1 h2 ⟨f0,f1,f2⟩ hP fm hP'
    have hn:=fm.n
    have kk:∀ b,b < h.n + 4→h2.get b = h1.get b:=fun b hb=>fm.keep b (by omega) (fun hp=>by have:=hP b hp; omega) (by omega)
    exact ⟨by omega,fun b hb=>(kk b (by omega)).trans (f1 b hb),(kk _ (by omega)).trans f2⟩
  · rw [n0]
    rintro ex P P' h1 h2 ⟨rfl,f0,f1,f2⟩ hP fm hP'
    have hn:=fm.n
    have kk:∀ b,b < h.n + 4→h2.get b = h1.get b:=fun b hb=>fm.keep b (by omega) (fun hp=>by have:=hP b hp; omega) (by omega)
    exact ⟨rfl,by omega,fun b hb=>(kk b (by omega)).trans (f1 b hb),(kk _ (by omega)).trans f2⟩
  · rintro i P h1 ⟨f0,f1,_⟩
    exact ⟨((f1 _ (by omega)).trans (ak _ l1)).trans std.a,((f1 _ (by omega)).trans (ak _ l2)).trans std.b,std.bk.kp ⟨by omega,fun b hb=>(f1 b (by omega)).trans (ak b hb)⟩⟩
  · rintro x us P h1 rfl
    unfold PtV
    simp only [List.zip_cons_cons,List.zip_nil_right,List.reverse_cons,List.reverse_nil,List.nil_append,List.cons_append,okFr_cons,okFr_nil,okV_eq,isLoc_ptr,isLoc_func,Bool.not_false,if_true,cellsU,List.take_succ_cons,List.take_zero,List.getD_cons_succ,List.getD_cons_zero]
    (refine W_x trivial ?_; (repeat' first | apply Cj.mk | exact Nl.nl) <;> intros)
    exact ⟨rfl,rfl,rfl,rfl⟩
  · exact ⟨Nat.le_refl _,fun _ _=>rfl,a3⟩
  · rw [n0]
    rintro i hi us P h1 o ⟨f0,f1,f2⟩ rfl hP hlt ho
    have hil:i < (spots s.data.toList).length:=by rw [← pcs_len T]; exact hi
    have hiq:i < qs.length:=by omega
    have k1:Kp h h1:=⟨by omega,fun b hb=>(f1 b (by omega)).trans (ak b hb)⟩
    have gk2:∀ lc,_:=fun lc=>rd_mapc (lc:=lc) (pa.fo.reads.kp k1) hiq (k:=2) (by decide)
    have gk0:∀ lc,_:=fun lc=>rd_sub (lc:=lc) (pa.fo.reads.kp k1) (i:=i) (f:=0) (n:=2) (by rw [List.length_map]; exact hiq) (by decide)
    have hr:=((pa.rd _ (List.getElem_mem hiq)).1).kp k1
    have hg:=qs_get hq hiq hi
    have hrn:=mapC_rune hb (fold_ok hb) (runesB_rune s.data.toList (spots s.data.toList)[i].1 (List.mem_map.2 ⟨_,List.getElem_mem hil,rfl⟩))
    have hl:=mapC_len hb (fold_ok hb) (spots s.data.toList)[i].1
    have hpl:=(posn_lt hil).1
    simp only [List.getElem_map] at gk0
    rw [hg,pcs_get hi] at hr
    have hgg:=hg.trans (pcs_get hi)
    rw [pcs_get hi]
    generalize qs[i] = z at *
    generalize (spots s.data.toList)[i] = x at *
    unfold pcR at gk0 gk2
    rw [hgg] at gk0 gk2
    simp only [List.drop_succ_cons,List.drop_zero,List.take_succ_cons,List.take_zero] at gk0 gk2 hr
    obtain ⟨_,h5,e5,rfl,k5⟩:=ref8Text_spec hr hrn (by omega)
    unfold PtV
    simp only [cellsU,List.take_succ_cons,List.take_zero,List.getD_cons_succ,List.getD_cons_zero]
    generalize bs (encs (mapC T.folds x.1)) = Y at *
    have g0:=(f1 h.n (by omega)).trans a0
    have g1:=(f1 (h.n + 1) (by omega)).trans a1
    have g2:=(f1 (h.n + 2) (by omega)).trans a2
    have q1:=k5.get g1
    have q2:=k5.get g2
    have q3:=k5.get f2
    have q0:=k5.get ho
    have lo:=AH.get_lt q0
    have l2:=AH.get_lt q2
    have l3:=AH.get_lt q3
    have hk5:=k5.1
    have hil2:(i:Int) < ((spots s.data.toList).length:Int):=by omega
    by_cases hmi:((i:Int) + 1) = m
    · (refine W_x (Aj g0 (Aj g1 (Aj f2 (Aj sll (Aj gk0 (Aj gk2 (Aj e5 (Aj q1 (Aj q2 (Aj q3 (Aj hmi hil2))))))))))) ?_; (repeat' first | apply Cj.mk | exact Nl.nl) <;> intros)
      refine ⟨by rw [AH.get_set_ne _ (by omega),AH.get_set_ne _ (by omega)]; exact q0,by rw [AH.set_n,AH.set_n]; exact hk5,fun b hb=>?_,rfl,by rw [AH.set_n,AH.set_n]; omega,fun b hb=>?_,AH.get_set_same _ (by rw [AH.set_n]; omega)⟩
      · have:=hP b hb
        rw [AH.get_set_ne _ (by omega),AH.get_set_ne _ (by omega)]
        exact k5.2 b (by omega)
      · rw [AH.get_set_ne _ (by omega),AH.get_set_ne _ (by omega)]
        exact (k1.trans k5).2 b hb
    · (refine W_x (Aj g0 (Aj g1 (Aj f2 (Aj sll (Aj gk0 (Aj gk2 (Aj e5 (Aj q1 (Aj q2 (Aj q3 (Aj hmi hil2))))))))))) ?_; (repeat' first | apply Cj.mk | exact Nl.nl) <;> intros)
      refine ⟨by rw [AH.get_set_ne _ (by omega)]; exact q0,by rw [AH.set_n]; exact hk5,fun b hb=>?_,by rw [AH.set_n]; omega,fun b hb=>?_,AH.get_set_same _ (by omega)⟩
      · have:=hP b hb
        rw [AH.get_set_ne _ (by omega)]
        exact k5.2 b (by omega)
      · rw [AH.get_set_ne _ (by omega),k5.2 b (by omega)]
        exact f1 b hb
  · rintro P h1 ⟨f0,f1,f2⟩ hP hlt
    rw [pcs_len] at f2
    have g0:=(f1 h.n (by omega)).trans a0
    have g2:=(f1 (h.n + 2) (by omega)).trans a2
    have l2:=AH.get_lt g2
    (refine W_x (Aj g0 (Aj f2 (Aj g2 sll))) ?_; (repeat' first | apply Cj.mk | exact Nl.nl) <;> intros)
    refine ⟨rfl,by rw [AH.set_n]; omega,fun b hb=>?_⟩
    rw [AH.get_set_ne _ (by omega),f1 b (by omega)]
    exact ak b hb
  · rintro ex P h1 hne ⟨rfl,f0,f1,f2⟩ hP hlt
    (refine W_x f2 ?_; (repeat' first | apply Cj.mk | exact Nl.nl) <;> intros)
    exact ⟨rfl,by omega,f1⟩
end Go.Proofs.YtakmapoompffgaaGreatDoor.AM
namespace Go.Proofs.YtakmapoompffgaaGreatDoor.AM
open Go
theorem fn12fewF:PX.fn 11 = some LFfew:=px_fn (by kernel_rfl)
theorem few12F_eq (s:ByteArray) (hs:s.size≤1048576) {m:Int} (n:Nat) (hm:m = n) (hn:n≤1048576) (h:AH):callO PX 11 [.string s,.int .i64 m] h = some (.string (fewB s n),h):=fewG_eq fn12fewF (px_ext rfl) s hs n hm hn h
theorem plV_formF (o:Option (Nat × Nat)):∃ (a b:Int) (c:Bool),plV o = .tuple (List.toArray [.agg (List.toArray [.int .i64 a,.int .i64 b]),.bool c]):=by
  cases o with
  | none=>exact ⟨0,0,false,rfl⟩
  | some p=>exact ⟨_,_,_,rfl⟩
set_option maxHeartbeats 4000000 in
theorem foldFolds_run {h:AH} (u:U8T h) (hg:2≤h.n) {S:TS} {T:Tab} (t:TabAt h S T) (x:ByteArray) (hx:x.size≤1048576) (y:ByteArray) (hy:y.size≤1048576) (n:Int) (hn1 : -9223372036854775808≤n) (hn2:n < 9223372036854775808) :
    WpC PX 6 [.agg S.vs.toArray,.string x,.string y,.int .i64 n] h fun v _=>v = .bool true:=by
  obtain ⟨_,g1,e1,k1,q⟩:=of_spec t u hg
  by_cases hb:goodB T = true
  · rw [if_pos hb] at q
    obtain ⟨k,B,S1,rfl,bk,_,_⟩:=q
    have f1:=few12F_eq x hx (m:=2000) 2000 rfl (by decide) g1
    have f2:=few12F_eq y hy (m:=2000) 2000 rfl (by decide) g1
    have z1:=few_le x 2000
    have z2:=few_le y 2000
    generalize fewB x 2000 = a at f1 z1
    generalize fewB y 2000 = c at f2 z2
    have hz:a.data.toList.length = a.size:=rfl
    have hsn:=spots_len a.data.toList
    have tt:=t.kp k1
    obtain ⟨_,g2,e2,rfl,k2⟩:=foldFirst_spec hb bk.bk a (by omega)
    obtain ⟨_,g3,e3,rfl,k3⟩:=ref12First_spec hb (tt.kp k2) a (by omega)
    have tt3:=(tt.kp k2).kp k3
    have bk3:=(bk.kp k2).kp k3
    obtain ⟨_,g4,e4,so,rfl,fo⟩:=ref12Of_spec hb tt3 a (by omega)
    have k4:=fo.kp
    obtain ⟨_,g5,e5,rfl,k5⟩:=foldFold_spec hb (bk3.kp k4).bk a (by omega)
    obtain ⟨_,g6,e6,rfl,k6⟩:=ref12Fold_spec hb ((tt3.kp k4).kp k5) a (by omega)
    have bk6:=((bk3.kp k4).kp k5).kp k6
    have tt6:=((tt3.kp k4).kp k5).kp k6
    obtain ⟨_,g7,e7,rfl,k7⟩:=foldCount_spec hb bk6.bk a (by omega)
    obtain ⟨_,g8,e8,rfl,k8⟩:=foldTwins_spec hb (bk6.kp k7).bk a c (by omega) (by omega)
    obtain ⟨_,g9,e9,rfl,k9⟩:=ref12Twins_spec hb ((tt6.kp k7).kp k8) a c z1 z2
    have bk9:=((bk6.kp k7).kp k8).kp k9
    have tt9:=((tt6.kp k7).kp k8).kp k9
    have k49:=k5.trans (k6.trans (k7.trans (k8.trans k9)))
    have sol:=fo.own.1
    rw [List.length_map,ofL_len] at sol
    have hml:=(mapF_len hb (fold_ok hb) (runesB a.data.toList)).2
    have hrl:=runesB_len a.data.toList
    have hmm:(mapF T.folds (runesB a.data.toList)).length≤8000:=by omega
    have ew:=fun h=>within_eq n (-1) ((mapF T.folds (runesB a.data.toList)).length:Nat) (by omega) (by decide) (by omega) h
    obtain ⟨p1,p2,p3,hp⟩:=plV_formF (firstF T a.data.toList)
    rw [hp] at e2 e3
    generalize bs (foldB T a.data.toList) = X at *
    generalize twinF T a.data.toList c.data.toList = tw at *
    generalize hmg:(mapF T.folds (runesB a.data.toList)).length = m at *
    generalize hwi:withinI n (-1) (m:Nat) = w at *
    unfold TS.vs at *
    refine wpc_fn (px_ext rfl) (px_fn fn_guiselaw12_FoldFolds) rfl ?_
    unfold LF_guiselaw12_FoldFolds
    simp only [argFr]
    (refine W_y (Aj e1 (Aj f1 (Aj f2 (Aj e2 (Aj e3 (Aj e4 (Aj e5 (Aj e6 (Aj e7 (Aj e8 (Aj e9 (Aj sol ew)))))))))))) ?_; (repeat' first | apply Cj.mk | exact Nl.nl) <;> intros)
    any_goals contradiction
    obtain ⟨L,hL⟩:∃ L:List Int,L = [n,w,(m:Int), -1]:=⟨_,rfl⟩
    obtain ⟨gN,hgN⟩:∃ g,g = g9.push (.cells false [.int .i64 n,.int .i64 w,.int .i64 m,.int .i64 (-1)]):=⟨_,rfl⟩
    obtain ⟨sn,hsn'⟩:∃ s:Sl,s = .at g9.n 0 4:=⟨_,rfl⟩
    have kN:Kp g9 gN:=by rw [hgN]; exact (Kp.refl g9).push _
    have rN:Reads gN 1 sn (L.map fun v=>[.int .i64 v]):=by
      rw [hgN,hsn',hL]
      exact ⟨rfl,by simp,.inr ⟨false,[],[],by rw [AH.get_push_same]; rfl,rfl⟩⟩
    have hLb:∀ v∈L, -9223372036854775808≤v∧v < 9223372036854775808:=by
      have hw:=within_range (n:=n) (show (-1:Int)≤(m:Nat) by omega)
      rw [hwi] at hw
      rw [hL]
      intro v hv
      simp only [List.mem_cons,List.not_mem_nil,or_false] at hv
      rcases hv with rfl | rfl | rfl | rfl
      · exact ⟨hn1,hn2⟩
      · omega
      · omega
      · omega
    have hLl:L.length = 4:=by rw [hL]; rfl
    have snl:sn.len = L.length:=rN.len
    have fon:=(fo.later k49).later kN
    rw [← hgN]
    rw [show Value.slice (some ⟨g9.n,0,none⟩) 4 1 = sn.val 1 by rw [hsn']; rfl]
    clear hL hsn' hgN
    have bkN:=bk9.kp kN
    refine wp_forS (fun i (_:Int × Int)=>[(1,.string a),(3,.int .i64 n),(4,.pointer (some ⟨8,0,some 1⟩)),(9,.pointer (some ⟨k,0,none⟩)),(12,.pointer (some ⟨24,0,some 1⟩)),(16,so.val 2),(17,sn.val 1),(18,.int .i64 i)])
      (fun _ q=>[(8,.cells false [S.s0.val 2,S.s1.val 2,S.s2.val 2,S.s3.val 3,S.s4.val 2,S.s5.val 2,S.s6.val 2,S.s7.val 2]),(24,.cells false [.int .i64 q.1,.int .i64 q.2])]) L
      (fun i _ h'=>Kp gN h') (fun _ _=>(none:Option Unit)) (p1,p2) rfl rfl (Kp.refl gN) (fun i hi q h1 kq hit=>?_) fun q h1 kq fin=>?_
    · have gi:=fun h' k' lc=>rd_map (h:=h') (lc:=lc) (rN.kp (kq.trans k')) hi
      have hvb:=hLb _ (List.getElem_mem hi)
      generalize L[i] = v at *
      obtain ⟨_,h2,e10,rfl,k10⟩:=foldOf_spec hb (bkN.kp kq).bk a (by omega) v hvb.1 hvb.2
      have q0:=gi h1 (Kp.refl h1)
      have q2:=gi h2 k10
      by_cases hv0:v < 0
      · rw [if_pos hv0] at e10
        simp only [plV] at e10
        have hv1 : ¬ (0≤v):=by omega
        (refine W_x (Aj snl (Aj q0 (Aj e10 (Aj q2 (Aj hv1 (Aj sol hLl)))))) ?_; (repeat' first | apply Cj.mk | exact Nl.nl) <;> intros)
        exact ⟨rfl,(0,0),rfl,rfl,kq.trans k10⟩
      · rw [if_neg hv0] at e10
        obtain ⟨j,rfl⟩:∃ j:Nat,v = j:=⟨v.toNat,by omega⟩
        rw [show ((j:Nat):Int).toNat = j from rfl] at e10
        by_cases hjm:j < m
        · have hjl:j < (ofL T a.data.toList).length:=by rw [ofL_len]; omega
          have gl:=fun lc=>rd_map (lc:=lc) ((fon.reads.kp kq).kp k10) hjl
          rw [List.getElem?_eq_getElem hjl] at e10
          generalize (ofL T a.data.toList)[j] = pl at *
          unfold plR at gl
          simp only [plV] at e10
          (refine W_x (Aj snl (Aj q0 (Aj e10 (Aj q2 (Aj gl (Aj sol hLl)))))) ?_; (repeat' first | apply Cj.mk | exact Nl.nl) <;> intros)
          exact ⟨rfl,((pl.1:Int),(pl.2:Int)),rfl,rfl,kq.trans k10⟩
        · have hjl : ¬ j < (ofL T a.data.toList).length:=by rw [ofL_len]; omega
          rw [List.getElem?_eq_none (by omega)] at e10
          simp only [plV] at e10
          (refine W_x (Aj snl (Aj q0 (Aj e10 (Aj q2 (Aj sol hLl))))) ?_; (repeat' first | apply Cj.mk | exact Nl.nl) <;> intros)
          exact ⟨rfl,(0,0),rfl,rfl,kq.trans k10⟩
    · have e11:=foldPieces_eq (.pointer (some ⟨k,0,none⟩)) a h1 ⟨_,rfl,fun a ha=>by injection ha with ha; exact ⟨k,ha.symm⟩⟩
      have kp2:Kp h1 ((h1.push (.cells false [.pointer (some ⟨k,0,none⟩)])).push (.cells false [.string a])):=((Kp.refl h1).push _).push _
      have b3:((h1.push (.cells false [.pointer (some ⟨k,0,none⟩)])).push (.cells false [.string a])).get h1.n = some (.cells false [.pointer (some ⟨k,0,none⟩)]):=by
        rw [AH.get_push_ne _ (by rw [AH.push_n]; omega),AH.get_push_same]
      have b4:((h1.push (.cells false [.pointer (some ⟨k,0,none⟩)])).push (.cells false [.string a])).get (h1.n + 1) = some (.cells false [.string a]):=AH.get_push_same _ _
      generalize (h1.push (.cells false [.pointer (some ⟨k,0,none⟩)])).push (.cells false [.string a]) = hp at *
      have kNp:=kq.trans kp2
      have std:StD h1.n (h1.n + 1) k B _ T a hp:=⟨b3,b4,(bkN.kp kNp).bk⟩
      obtain ⟨_,g12,e12,sl,qs,rfl,hqs,pa⟩:=ref12Pieces_spec hb ((tt9.kp kN).kp kNp) a (by omega)
      have k12:=pa.fo.kp
      have std12:StD h1.n (h1.n + 1) k B _ T a g12:=⟨k12.get b3,k12.get b4,std.bk.kp k12⟩
      obtain ⟨_,g13,e13,rfl,k13⟩:=lawPieces_spec hb a (by omega) std12 hqs pa (-1) (.inl rfl)
      have std13:StD h1.n (h1.n + 1) k B _ T a g13:=⟨k13.get std12.a,k13.get std12.b,std12.bk.kp k13⟩
      have hw2:=within_range (n:=n) (show (1:Int)≤9 by decide)
      have ew2:=fun h=>within_eq n 1 9 (by decide) (by decide) (by decide) h
      generalize withinI n 1 9 = w2 at *
      obtain ⟨_,g14,e14,rfl,k14⟩:=lawPieces_spec hb a (by omega) std13 hqs (pa.kp k13) w2 (.inr ⟨hw2.1,by omega⟩)
      have std14:StD h1.n (h1.n + 1) k B _ T a g14:=⟨k14.get std13.a,k14.get std13.b,std13.bk.kp k14⟩
      obtain ⟨_,g15,e15,rfl,k15⟩:=lawPieces_spec hb a (by omega) std14 hqs ((pa.kp k13).kp k14) (-1) (.inl rfl)
      have kall:=k1.trans (k2.trans (k3.trans (k4.trans (k49.trans (kN.trans (kNp.trans (k12.trans (k13.trans (k14.trans k15)))))))))
      obtain ⟨_,g16,e16,rfl,k16⟩:=known12_spec (u.kp kall) (Nat.le_trans hg kall.1)
      unfold TS.vs at e12
      (refine W_x (Aj snl (Aj hLl (Aj e11 (Aj e12 (Aj e13 (Aj ew2 (Aj e14 (Aj e15 e16)))))))) ?_; (repeat' first | apply Cj.mk | exact Nl.nl) <;> intros)
      rfl
  · rw [if_neg hb] at q
    subst q
    obtain ⟨_,g4,e7,rfl,k4⟩:=known12_spec (u.kp k1) (Nat.le_trans hg k1.1)
    unfold TS.vs at *
    refine wpc_fn (px_ext rfl) (px_fn fn_guiselaw12_FoldFolds) rfl ?_
    unfold LF_guiselaw12_FoldFolds
    simp only [argFr]
    (refine W_x (Aj e1 e7) ?_; (repeat' first | apply Cj.mk | exact Nl.nl) <;> intros)
    rfl
end Go.Proofs.YtakmapoompffgaaGreatDoor.AM
