/- Parts of proofs: lemmas, joined. -/
import Derived.Test.YtakmapoompffgaaGreatDoorPdcfe0aed
set_option linter.unusedVariables false
set_option linter.unusedSimpArgs false
set_option linter.unusedSectionVars false
namespace Go.Proofs.YtakmapoompffgaaGreatDoor.AM
open Go
variable {p:Prg} {fr:Fr} {lc:Lc} {h:AH} {Q:Post}
structure ConsR {α:Type} (p:Prg) (yv:Value) (xs:List α) (V:α→List Value→(Nat→Prop)→AH→Prop) (I:Nat→(Nat→Prop)→AH→Prop) (E:(Nat→Prop)→AH→Prop):Prop where
  step:∀ (i:Nat) (hi:i < xs.length) us T h,I i T h→V xs[i] us T h→WpV p yv us h fun v h'=>((v = .bool true∧I (i + 1) T h')∨(v = .bool false∧E T h'))∧h.n≤h'.n∧∀ b,T b→h'.get b = h.get b
  frI:∀ i T T' h h',I i T h→PF T h h'→(∀ b,T' b→b < h'.n∧(T b∨h.n≤b))→I i T' h'
  frE:∀ T T' h h',E T h→PF T h h'→(∀ b,T' b→b < h'.n∧(T b∨h.n≤b))→E T' h'
def SeqR {α:Type} (p:Prg) (fv:Value) (xs:List α) (V:α→List Value→(Nat→Prop)→AH→Prop) (D:AH→Prop):Prop :=
  ∀ (yv:Value) (I:Nat→(Nat→Prop)→AH→Prop) (E:(Nat→Prop)→AH→Prop) (h:AH),IsF yv→vsame yv yv = true→ConsR p yv xs V I E→(∀ i T h,I i T h→D h) →
    I 0 (fun _=>False) h→WpV p fv [yv] h fun _ h' => ∃ T,I xs.length T h'∨E T h'
theorem wp_rangeR {α:Type} {xs:List α} {V:α→List Value→(Nat→Prop)→AH→Prop} {D:AH→Prop} {fo:Opd} {params:List Nat} {assign body:LCode} {g:FuncId} {ca cb:Array Value} (hf:opd fr fo = .func (.func g) ca cb)
    (hs:SeqR p (.func (.func g) ca cb) xs V D) (hn:∀ x us T h1,V x us T h1→us.length = params.length) (frV:∀ x us T h1 o,V x us T h1→(∀ b,T b→h.n < b)→V x us T (h1.set h.n o))
    (F:Nat→(Nat→Prop)→AH→Prop) (G:Ex→(Nat→Prop)→AH→Prop) (A:List Value→Fr) (L:List Value→Lc)
    (frF:∀ i T T' h1 h2,F i T h1→(∀ b,T b→h.n < b∧b < h1.n)→Fm h.n T h1 h2→(∀ b,T' b→h.n < b∧b < h2.n∧(T b∨h1.n≤b))→F i T' h2)
    (frG:∀ ex T T' h1 h2,G ex T h1→(∀ b,T b→h.n < b∧b < h1.n)→Fm h.n T h1 h2→(∀ b,T' b→h.n < b∧b < h2.n∧(T b∨h1.n≤b))→G ex T' h2)
    (hD:∀ i T h1,F i T h1→D h1)
    (asg:∀ x us T h1,V x us T h1→Wp p assign ((params.zip us).reverse ++ okFr fr) [] h1 fun ex fr1 lc1 h2=>ex = .norm∧h2 = h1∧fr1 = A us∧lc1 = L us)
    (init:F 0 (fun _=>False) h)
    (step:∀ (i:Nat) (hi:i < xs.length) us T h1 o,F i T h1→V xs[i] us T h1→(∀ b,T b→h.n < b∧b < h1.n)→h.n < h1.n→h1.get h.n = some o →
      Wp p body (A us) (L us) h1 fun ex _ _ h3=>h3.get h.n = some o∧h1.n≤h3.n∧(∀ b,T b→h3.get b = h1.get b)∧match ex with
        | .norm=>F (i + 1) T h3
        | ex=>G ex T h3)
    (fin:∀ T h1,F xs.length T h1→(∀ b,T b→h.n < b∧b < h1.n)→h.n < h1.n→Q .norm fr lc h1)
    (early:∀ ex T h1,ex ≠ .norm→G ex T h1→(∀ b,T b→h.n < b∧b < h1.n)→h.n < h1.n→Q ex fr lc h1):Wp p (.rangeF fo params assign body) fr lc h Q:=by
  obtain ⟨R,hR⟩:∃ R:LRec,R = { state:=.ready,pend:=none,fr:=okFr fr,params,assign,body }:=⟨_,rfl⟩
  have hc:=hs (.func (.yield h.n) #[] #[])
    (fun i T h1=>F i T h1∧(∀ b,T b→h.n < b∧b < h1.n)∧h.n < h1.n∧h1.get h.n = some (.loop R))
    (fun T h1 => ∃ ex,ex ≠ .norm∧G ex T h1∧(∀ b,T b→h.n < b∧b < h1.n)∧h.n < h1.n∧h1.get h.n = some (.loop (endRec R ex).2))
    (h.push (.loop R)) ⟨_,_,_,rfl⟩ (by simp [vsame,vsame1,vsameL]) ⟨?_, ?_, ?_⟩ (fun i T h1 hi=>hD i T h1 hi.1) ⟨frF _ _ _ _ _ init (fun b hb=>hb.elim) (Fm.push _) (fun b hb=>hb.elim),fun b hb=>hb.elim,by rw [AH.push_n]; omega,AH.get_push_same _ _⟩
  · obtain ⟨v,h',e1,T,hor⟩:=hc
    have ht:execO p (.rangeF fo params assign body) fr ⟨lc,h⟩ = runRange (callO p) (.func (.func g) ca cb) params assign body fr ⟨lc,h⟩:=by rw [execO_rangeF,hf]
    have e2:callO p g (ca.toList ++ [.func (.yield h.n) #[] #[]] ++ cb.toList) (h.push (.loop { state:=.ready,pend:=none,fr:=okFr fr,params,assign,body })) = some (v,h'):=by
      rw [← hR]; exact e1
    rcases hor with ⟨a1,a2,a3,a4⟩ | ⟨ex,a0,a1,a2,a3,a4⟩
    · refine ⟨.norm,fr,lc,h'.kill h.n, ?_,fin T _ (frF _ _ _ _ _ a1 a2 Fm.kill fun b hb=>⟨(a2 b hb).1,(a2 b hb).2,.inl hb⟩) (fun b hb=>a2 b hb) a3⟩
      rw [ht]
      unfold runRange
      simp only [e2,a4]
      rw [hR]
    · refine ⟨ex,fr,lc,h'.kill h.n, ?_,early ex T _ a0 (frG _ _ _ _ _ a1 a2 Fm.kill fun b hb=>⟨(a2 b hb).1,(a2 b hb).2,.inl hb⟩) (fun b hb=>a2 b hb) a3⟩
      rw [ht]
      unfold runRange
      simp only [e2,a4]
      cases ex with
      | norm=>exact absurd rfl a0
      | ret=>rfl
      | exit id=>rfl
  · rintro i hi us T h1 ⟨b1,b2,b3,b4⟩ hV
    obtain ⟨ex0,fr1,lc1,h2,c1,rfl,rfl,rfl,rfl⟩:=(asg xs[i] us T h1 hV).out
    have b1':=frF _ _ T _ _ b1 b2 (Fm.set (.loop { R with state:=.busy })) (fun b hb=>⟨(b2 b hb).1,(b2 b hb).2,.inl hb⟩)
    obtain ⟨ex,fr2,lc2,h3,d1,d2,d3,d4,d5⟩:=(step i hi us T _ _ b1' (frV _ _ _ _ _ hV fun b hb=>(b2 b hb).1) (fun b hb=>b2 b hb) b3 (AH.get_set_same _ b3)).out
    have hy:=yieldO_run (p:=p) (args:=us) (r:=R) (r1:=R) (ex:=ex) (fr1:=A us) (lc1:=L us) (h1:=h2) (fr2:=fr2) (m2:=⟨lc2,h3⟩) (r2:={ R with state:=.busy }) b4
      (by rw [hR]; exact hn _ _ _ _ hV) (by rw [hR]; exact c1) b4 (by rw [hR]) (by rw [hR]; rw [hR] at d1; exact d1) d2 rfl
    have hln:h.n < h3.n:=Nat.lt_of_lt_of_le b3 d3
    have hkeep:∀ o b,T b→(h3.set h.n o).get b = h2.get b:=fun o b hb=>by
      rw [AH.get_set_ne _ (by have:=(b2 b hb).1; omega),d4 b hb,AH.get_set_ne _ (by have:=(b2 b hb).1; omega)]
    have hT3:∀ b,T b→h.n < b∧b < h3.n:=fun b hb=>⟨(b2 b hb).1,Nat.lt_of_lt_of_le (b2 b hb).2 d3⟩
    refine ⟨_,_,hy, ?_,d3,hkeep _⟩
    cases ex with
    | norm=>exact .inl ⟨rfl,frF _ _ T _ _ d5 hT3 (Fm.set _) (fun b hb=>⟨(hT3 b hb).1,(hT3 b hb).2,.inl hb⟩),hT3,hln,by rw [AH.get_set_same _ hln,hR]; rfl⟩
    | ret=>exact .inr ⟨rfl,.ret,by simp,frG _ _ T _ _ d5 hT3 (Fm.set _) (fun b hb=>⟨(hT3 b hb).1,(hT3 b hb).2,.inl hb⟩),hT3,hln,by rw [AH.get_set_same _ hln]; rfl⟩
    | exit id=>exact .inr ⟨rfl,.exit id,by simp,frG _ _ T _ _ d5 hT3 (Fm.set _) (fun b hb=>⟨(hT3 b hb).1,(hT3 b hb).2,.inl hb⟩),hT3,hln,by rw [AH.get_set_same _ hln]; rfl⟩
  · rintro i T T' h1 h2 ⟨b1,b2,b3,b4⟩ hp hT
    have hT2:∀ b,T' b→h.n < b∧b < h2.n:=fun b hb=>⟨(hT b hb).2.elim (fun h=>(b2 b h).1) (fun h=>by omega),(hT b hb).1⟩
    exact ⟨frF _ _ _ _ _ b1 b2 hp.fm (fun b hb=>⟨(hT2 b hb).1,(hT2 b hb).2,(hT b hb).2⟩),hT2,Nat.lt_of_lt_of_le b3 hp.n,by rw [hp.keep _ b3 (fun h=>by have:=(b2 _ h).1; omega)]; exact b4⟩
  · rintro T T' h1 h2 ⟨ex,b0,b1,b2,b3,b4⟩ hp hT
    have hT2:∀ b,T' b→h.n < b∧b < h2.n:=fun b hb=>⟨(hT b hb).2.elim (fun h=>(b2 b h).1) (fun h=>by omega),(hT b hb).1⟩
    exact ⟨ex,b0,frG _ _ _ _ _ b1 b2 hp.fm (fun b hb=>⟨(hT2 b hb).1,(hT2 b hb).2,(hT b hb).2⟩),hT2,Nat.lt_of_lt_of_le b3 hp.n,by rw [hp.keep _ b3 (fun h=>by have:=(b2 _ h).1; omega)]; exact b4⟩
end Go.Proofs.YtakmapoompffgaaGreatDoor.AM
namespace Go.Proofs.YtakmapoompffgaaGreatDoor.AM
open Go
structure Pc where
  at':Nat
  n:Nat
  to:List Nat
  same:Bool
def pcs (T:Tab) (l:Bytes):List Pc:=(List.range (spots l).length).map fun i =>
  ⟨posn l i,i,mapC T.folds ((spots l).getD i (0,0)).1, !isBad2 ((spots l).getD i (0,0)) && (fromO T.folds (((spots l).getD i (0,0)).1:Int)).isNone⟩
def PcV (x:Pc) (us:List Value) (P:Nat→Prop) (h:AH):Prop :=
  ∃ sl:Sl,us = [.agg (List.toArray [.int .i64 x.at',.int .i64 x.n,sl.val 1,.bool x.same])]∧Reads h 1 sl (x.to.map rnV)∧∀ b,sl.blk = some b→P b
theorem pcs_len (T:Tab) (l:Bytes):(pcs T l).length = (spots l).length:=by simp [pcs]
theorem pcs_get {T:Tab} {l:Bytes} {i:Nat} (hi:i < (pcs T l).length):(pcs T l)[i] = ⟨posn l i,i,mapC T.folds ((spots l)[i]'(by rw [← pcs_len T]; exact hi)).1, !isBad2 ((spots l)[i]'(by rw [← pcs_len T]; exact hi)) && (fromO T.folds (((spots l)[i]'(by rw [← pcs_len T]; exact hi)).1:Int)).isNone⟩:=by
  have h:i < (spots l).length:=by rw [← pcs_len T]; exact hi
  simp [pcs,List.getD_eq_getElem?_getD,h]
structure StD (p1 p2 k B:Nat) (s6:Sl) (T:Tab) (s:ByteArray) (h:AH):Prop where
  a:h.get p1 = some (.cells false [.pointer (some ⟨k,0,none⟩)])
  b:h.get p2 = some (.cells false [.string s])
  bk:BkAt h k B s6 T
structure StF (h:AH) (yv:Value) (s:ByteArray) (i:Nat) (P:Nat→Prop) (h1:AH):Prop where
  own:∀ b,P b→h.n≤b∧b < h1.n
  py:P h.n
  pn:P (h.n + 1)
  ps:P (h.n + 2)
  pl:P (h.n + 3)
  y:h1.get h.n = some (.cells false [yv])
  n:h1.get (h.n + 1) = some (.cells false [.int .i64 i])
  s:h1.get (h.n + 2) = some (.cells false [.string s])
theorem steps_seq {p1 p2 k B:Nat} {s6:Sl} {T:Tab} (hb:goodB T = true) (s:ByteArray) (hs:s.size≤16777216) :
    SeqR PX (.func (.func 80) #[] #[.pointer (some ⟨p1,0,none⟩),.pointer (some ⟨p2,0,none⟩)]) (pcs T s.data.toList) PcV (StD p1 p2 k B s6 T s):=by
  intro yv I E h hyv hvs cons hD h0
  have hz:s.data.toList.length = s.size:=rfl
  have hsn:=spots_len s.data.toList
  have hset:=hyv.set
  have hlc1:=hyv.lc1
  have hloc:=hyv.loc
  have hvc:=hyv.vc
  have hck:=hyv.cell
  obtain ⟨d1,d2,dk⟩:=hD _ _ _ h0
  have l1:=AH.get_lt d1
  have l2:=AH.get_lt d2
  have e1:=fun h=>spotsMk_eq s h
  refine wpV_fn ?_
  refine wpc_fn (px_ext rfl) (px_fn fn_fold_steps_1_1) rfl ?_
  unfold LF_fold_steps_1_1
  simp only [argFr,List.nil_append,List.cons_append]
  (refine W_x (Aj hset (Aj hlc1 (Aj hloc (Aj hvc (Aj hck (Aj d1 (Aj d2 e1))))))) ?_; (repeat' first | apply Cj.mk | exact Nl.nl) <;> intros)
  generalize hH0:((((h.push (.cells false [yv])).push (.cells false [.int .i64 0])).set (h.n + 1) (.cells false [.int .i64 0])).push (.cells false [.string s])) = H0
  simp only [Nat.add_assoc,Nat.reduceAdd] at hH0 ⊢
  have n0:H0.n = h.n + 3:=by rw [← hH0]; simp only [AH.push_n,AH.set_n]
  have a0:H0.get h.n = some (.cells false [yv]):=by rw [← hH0]; simp (disch:=first | omega | (simp only [AH.nn_push,AH.nn_set,AH.nn_kill]; omega) | (simp only [AH.nn_push,AH.nn_set,AH.nn_kill]; done) | fail) only [AH.get_push_eq,AH.get_push_ne,AH.get_set_eq,AH.get_set_ne]
  have a1:H0.get (h.n + 1) = some (.cells false [.int .i64 0]):=by rw [← hH0]; simp (disch:=first | omega | (simp only [AH.nn_push,AH.nn_set,AH.nn_kill]; omega) | (simp only [AH.nn_push,AH.nn_set,AH.nn_kill]; done) | fail) only [AH.get_push_eq,AH.get_push_ne,AH.get_set_eq,AH.get_set_ne]
  have a2:H0.get (h.n + 2) = some (.cells false [.string s]):=by rw [← hH0]; simp (disch:=first | omega | (simp only [AH.nn_push,AH.nn_set,AH.nn_kill]; omega) | (simp only [AH.nn_push,AH.nn_set,AH.nn_kill]; done) | fail) only [AH.get_push_eq,AH.get_push_ne,AH.get_set_eq,AH.get_set_ne]
  have ak:∀ b,b < h.n→H0.get b = h.get b:=fun b hb=>by rw [← hH0]; simp (disch:=first | omega | (simp only [AH.nn_push,AH.nn_set,AH.nn_kill]; omega) | (simp only [AH.nn_push,AH.nn_set,AH.nn_kill]; done) | fail) only [AH.get_push_eq,AH.get_push_ne,AH.get_set_eq,AH.get_set_ne]
  clear hH0
  refine wp_rangeP (xs:=spotsL s.data.toList) (enc:=spotE) (D:=fun h1=>h1.get (h.n + 2) = some (.cells false [.string s])) rfl (spots_seq s (h.n + 2) (by omega)) (fun _=>rfl)
    (fun i h1 => ∃ P,I i P h1∧StF h yv s i P h1)
    (fun ex h1=>ex = .ret∧∃ P,E P h1∧P (h.n + 3)∧∀ b,P b→h.n≤b∧b < h1.n)
    (fun y=>[(1,.pointer (some ⟨p1,0,none⟩)),(3,.pointer (some ⟨h.n,0,none⟩)),(4,.pointer (some ⟨h.n + 1,0,none⟩)),(5,.int .i64 y.1),(6,.pointer (some ⟨12,0,some 1⟩))])
    (fun y=>[(12,.cells false [.int .i32 y.2.1,.int .i64 y.2.2,.bool (isBad2 y.2)])]) ?_ ?_ ?_ ?_ ?_ ?_ ?_ ?_
  · rw [n0]
    rintro i h1 h2 ⟨P,hI,st⟩ kk
    have pf:PF P h1 h2:=⟨by rw [kk.n]; exact Nat.le_refl _,fun b hb hp=>kk.get b (fun e=>hp (by rw [e]; exact st.pl))⟩
    exact ⟨P,cons.frI _ _ _ _ _ hI pf (fun b hp=>⟨by rw [kk.n]; exact (st.own b hp).2,.inl hp⟩),fun b hp=>by rw [kk.n]; exact st.own b hp,st.py,st.pn,st.ps,st.pl,by rw [kk.get _ (by omega)]; exact st.y,by rw [kk.get _ (by omega)]; exact st.n,by rw [kk.get _ (by omega)]; exact st.s⟩
  · rw [n0]
    rintro ex h1 h2 ⟨rfl,P,hE,hp,own⟩ kk
    have pf:PF P h1 h2:=⟨by rw [kk.n]; exact Nat.le_refl _,fun b hb hp'=>kk.get b (fun e=>hp' (by rw [e]; exact hp))⟩
    exact ⟨rfl,P,cons.frE _ _ _ _ hE pf (fun b hp=>⟨by rw [kk.n]; exact (own b hp).2,.inl hp⟩),hp,fun b hp=>by rw [kk.n]; exact own b hp⟩
  · exact fun i h1 ⟨P,hI,st⟩=>st.s
  · intro y h1
    unfold spotE spotV
    simp only [List.zip_cons_cons,List.zip_nil_right,List.reverse_cons,List.reverse_nil,List.nil_append,List.cons_append,okFr_cons,okFr_nil,okV_eq,isLoc_ptr,isLoc_func,Bool.not_false,if_true]
    (refine W_x trivial ?_; (repeat' first | apply Cj.mk | exact Nl.nl) <;> intros)
    exact ⟨rfl,rfl,rfl,rfl⟩
  · intro o
    have kk:∀ b,b < h.n + 3→(H0.push o).get b = H0.get b:=fun b hb=>AH.get_push_ne _ (by omega)
    have pf:PF (fun _=>False) h (H0.push o):=⟨by rw [AH.push_n,n0]; omega,fun b hb _=>(kk b (by omega)).trans (ak b hb)⟩
    refine ⟨fun b=>h.n≤b∧b < h.n + 4,cons.frI _ _ _ _ _ h0 pf (fun b hp=>⟨by rw [AH.push_n,n0]; omega,.inr hp.1⟩),fun b hp=>⟨hp.1,by rw [AH.push_n,n0]; omega⟩,by omega,by omega,by omega,by omega,(kk _ (by omega)).trans a0,(kk _ (by omega)).trans a1,(kk _ (by omega)).trans a2⟩
  · rw [n0]
    rintro i hi h1 o ⟨P,hI,st⟩ ho
    have hil:i < (spots s.data.toList).length:=by rw [← spotsL_len]; exact hi
    have hip:i < (pcs T s.data.toList).length:=by rw [pcs_len]; exact hil
    rw [spotsL_get hi]
    have hpc:=pcs_get hip
    obtain ⟨d1,d2,dk⟩:=hD _ _ _ hI
    have hstep:=fun us P h hI hV=>cons.step i hip us P h hI hV
    rw [hpc] at hstep
    have hps:=posn_lt hil
    obtain ⟨_,h2,e2,sl,rfl,fo⟩:=bookFold_spec hb dk (spots s.data.toList)[i].1
    have lo:=AH.get_lt ho
    have ln:=AH.get_lt st.n
    have ly:=AH.get_lt st.y
    have hile:i≤16777216:=by omega
    generalize (spots s.data.toList)[i] = x at *
    generalize isBad2 x = ib at *
    dsimp only
    have st':∀ (P':Nat→Prop) (h3:AH),(∀ b,P b→P' b)→Kp h1 h3→(∀ b,P' b→h.n≤b∧b < h3.n∧(P b∨h1.n≤b))→I i P' h3∧h3.get h.n = some (.cells false [yv])∧h3.get (h.n + 1) = some (.cells false [.int .i64 i])∧h3.get (h.n + 2) = some (.cells false [.string s])∧h3.get (h.n + 3) = some o:=fun P' h3 hPP kk hP =>
      ⟨cons.frI _ _ _ _ _ hI kk.pf (fun b hp=>⟨(hP b hp).2.1,(hP b hp).2.2⟩),kk.get st.y,kk.get st.n,kk.get st.s,kk.get ho⟩
    have fin1:∀ (P':Nat→Prop) (h3 h4:AH),(∀ b,P b→P' b)→(∀ b,P' b→h.n≤b∧b < h3.n)→h3.get h.n = some (.cells false [yv])→h3.get (h.n + 2) = some (.cells false [.string s])→h3.get (h.n + 3) = some o→h3.n≤h4.n→(∀ b,P' b→h4.get b = h3.get b)→I (i + 1) P' h4 →
        (h4.set (h.n + 1) (.cells false [.int .i64 ((i:Int) + 1)])).get (h.n + 3) = some o∧∃ P,I (i + 1) P (h4.set (h.n + 1) (.cells false [.int .i64 ((i:Int) + 1)]))∧StF h yv s (i + 1) P (h4.set (h.n + 1) (.cells false [.int .i64 ((i:Int) + 1)])):=by
      intro P' h3 h4 hPP hP q0 q2 q3 hn hk hI4
      have pn:=hPP _ st.pn
      have lt:=(hP _ (hPP _ st.pl)).2
      refine ⟨by rw [AH.get_set_ne _ (by omega),hk _ (hPP _ st.pl)]; exact q3,P',cons.frI _ _ _ _ _ hI4 ⟨Nat.le_refl _,fun b hb hp=>AH.get_set_ne _ (fun e=>hp (by rw [e]; exact pn))⟩ (fun b hp=>⟨by rw [AH.set_n]; have:=(hP b hp).2; omega,.inl hp⟩),fun b hp=>⟨(hP b hp).1,by rw [AH.set_n]; have:=(hP b hp).2; omega⟩,hPP _ st.py,pn,hPP _ st.ps,hPP _ st.pl, ?_, ?_, ?_⟩
      · rw [AH.get_set_ne _ (by omega),hk _ (hPP _ st.py)]; exact q0
      · exact AH.get_set_same _ (by omega)
      · rw [AH.get_set_ne _ (by omega),hk _ (hPP _ st.ps)]; exact q2
    cases hf:fromO T.folds (x.1:Int) with
    | none =>
      rw [hf] at e2 fo hstep
      simp only [Option.isSome_none,Option.isNone_none,Bool.and_true] at e2 fo hstep
      rw [mapC_none hf] at hstep
      have kk:Kp h1 (h2.push (.cells false [.int .i32 x.1])):=fo.kp.push _
      have hn2:=fo.kp.1
      obtain ⟨hI3,q0,q1,q2,q3⟩:=st' (fun b=>P b∨b = h2.n) _ (fun b hp=>.inl hp) kk (fun b hp=>by
        rw [AH.push_n]
        rcases hp with hp | rfl
        · have:=st.own b hp; exact ⟨this.1,by omega,.inl hp⟩
        · exact ⟨by omega,by omega,.inr hn2⟩)
      have hrd:Reads (h2.push (.cells false [.int .i32 x.1])) 1 (.at h2.n 0 1) (([x.1]:List Nat).map rnV):=⟨rfl,by simp [rnV],.inr ⟨false,[],[],by rw [AH.get_push_same]; rfl,rfl⟩⟩
      have hst:=hstep _ _ _ hI3 ⟨.at h2.n 0 1,rfl,hrd,fun b hb=>.inr (by injection hb with hb; exact hb.symm)⟩
      have hP3:∀ b,(P b∨b = h2.n)→h.n≤b∧b < (h2.push (.cells false [.int .i32 x.1])).n:=fun b hp=>by
        rw [AH.push_n]
        rcases hp with hp | rfl
        · have:=st.own b hp; omega
        · omega
      have fin2:=fun h4=>fin1 (fun b=>P b∨b = h2.n) _ h4 (fun b hp=>.inl hp) hP3 q0 q2 q3
      cases ib
      all_goals
        simp only [Sl.val,Bool.not_false,Bool.not_true] at hst
        (refine W_x (Aj d1 e2) ?_; (repeat' first | apply Cj.mk | exact Nl.nl) <;> intros)
        generalize (h2.push (.cells false [.int .i32 x.1])) = h3 at *
        (refine W_x (Aj q0 (Aj q1 (Aj hset (Aj hlc1 hloc)))) ?_; (repeat' first | apply Cj.mk | exact Nl.nl) <;> intros)
        refine wo_callV (fv:=yv) rfl rfl rfl ?_
        refine hst.mono ?_
        rintro v h4 ⟨(⟨rfl,hI4⟩ | ⟨rfl,hE⟩),hn4,hk4⟩
        · have q1':=(hk4 _ (.inl st.pn)).trans q1
          have ln4:=AH.get_lt q1'
          (refine W_x q1' ?_; (repeat' first | apply Cj.mk | exact Nl.nl) <;> intros)
          exact fin2 h4 hn4 hk4 hI4
        · (refine W_x trivial ?_; (repeat' first | apply Cj.mk | exact Nl.nl) <;> intros)
          exact ⟨(hk4 _ (.inl st.pl)).trans q3,rfl,_,hE,.inl st.pl,fun b hp=>⟨(hP3 b hp).1,Nat.lt_of_lt_of_le (hP3 b hp).2 hn4⟩⟩
    | some j =>
      rw [hf] at e2 fo hstep
      simp only [Option.isSome_some,Option.isNone_some,Bool.and_false,if_true] at e2 fo hstep
      have hn2:=fo.kp.1
      have hnew:=fo.new
      have hlt:=fun b=>fo.own.lt (b:=b)
      obtain ⟨hI3,q0,q1,q2,q3⟩:=st' (fun b=>P b∨sl.blk = some b) _ (fun b hp=>.inl hp) fo.kp (fun b hp=>by
        rcases hp with hp | hp
        · have:=st.own b hp; exact ⟨this.1,by omega,.inl hp⟩
        · exact ⟨by have:=hnew b hp; omega,hlt b hp,.inr (hnew b hp)⟩)
      have hst:=hstep _ _ _ hI3 ⟨sl,rfl,fo.reads,fun b hb=>.inr hb⟩
      have hP3:∀ b,(P b∨sl.blk = some b)→h.n≤b∧b < h2.n:=fun b hp=>by
        rcases hp with hp | hp
        · have:=st.own b hp; omega
        · have h1:=hnew b hp; have h2:=hlt b hp; omega
      have fin2:=fun h4=>fin1 (fun b=>P b∨sl.blk = some b) _ h4 (fun b hp=>.inl hp) hP3 q0 q2 q3
      cases ib
      all_goals
        (refine W_x (Aj d1 (Aj e2 (Aj q0 (Aj q1 (Aj hset (Aj hlc1 hloc)))))) ?_; (repeat' first | apply Cj.mk | exact Nl.nl) <;> intros)
        refine wo_callV (fv:=yv) rfl rfl rfl ?_
        refine hst.mono ?_
        rintro v h4 ⟨(⟨rfl,hI4⟩ | ⟨rfl,hE⟩),hn4,hk4⟩
        · have q1':=(hk4 _ (.inl st.pn)).trans q1
          have ln4:=AH.get_lt q1'
          (refine W_x q1' ?_; (repeat' first | apply Cj.mk | exact Nl.nl) <;> intros)
          exact fin2 h4 hn4 hk4 hI4
        · (refine W_x trivial ?_; (repeat' first | apply Cj.mk | exact Nl.nl) <;> intros)
          exact ⟨(hk4 _ (.inl st.pl)).trans q3,rfl,_,hE,.inl st.pl,fun b hp=>⟨(hP3 b hp).1,Nat.lt_of_lt_of_le (hP3 b hp).2 hn4⟩⟩
  · rintro h1 ⟨P,hI,st⟩
    rw [spotsL_len,← pcs_len T] at hI
    (refine W_x trivial ?_; (repeat' first | apply Cj.mk | exact Nl.nl) <;> intros)
    exact ⟨P,.inl hI⟩
  · rintro ex h1 hne ⟨rfl,P,hE,_⟩
    (refine W_x trivial ?_; (repeat' first | apply Cj.mk | exact Nl.nl) <;> intros)
    exact ⟨P,.inr hE⟩
end Go.Proofs.YtakmapoompffgaaGreatDoor.AM
namespace Go.Proofs.YtakmapoompffgaaGreatDoor.AM
open Go
theorem r2s_reads {h:AH} {lc:Lc} {s:Sl} {B:List Nat} (r:Reads h 1 s (B.map rnV)) (h0:B≠[]) (hB:∀ c∈B,RuneN c):r2sP ⟨lc,h⟩ (s.val 1) = some (.string (bs (encs B))):=by
  have hl:=r.1
  rw [List.length_map] at hl
  have hpos:0 < B.length:=List.length_pos_iff.2 h0
  cases s with
  | nil=>simp only [Sl.len] at hl; omega
  | «at» b o n =>
    simp only [Sl.len] at hl
    subst hl
    have hr:=rdSlice_reads (lc:=lc) r
    simp only [Sl.val,rdSlice] at hr
    rw [if_neg (by omega),Nat.mul_one] at hr
    simp only [r2sP,ROp.ev,opd,Sl.val,hr,runesOf_map,Option.map_some]
    congr 2
    apply ba_ext
    rw [encAll_nat _ _ hB,bs_l]
    simp
theorem steps_eq (q:Value) (h:AH) (hq:∃ o,q = .pointer o∧∀ a,o = some a→∃ k,a = ⟨k,0,none⟩):callO PX 43 [q] h = some (.func (.func 79) #[] #[.pointer (some ⟨h.n,0,none⟩)],h.push (.cells false [q])):=by
  obtain ⟨o,rfl,ho⟩:=hq
  apply WpC.eqn
  cases o with
  | none =>
    refine wpc_fn (px_ext rfl) (px_fn fn_fold_steps) rfl ?_
    unfold LF_fold_steps
    simp only [argFr]
    (refine W_x trivial ?_; (repeat' first | apply Cj.mk | exact Nl.nl) <;> intros)
    exact ⟨rfl,rfl⟩
  | some a =>
    obtain ⟨k,rfl⟩:=ho a rfl
    refine wpc_fn (px_ext rfl) (px_fn fn_fold_steps) rfl ?_
    unfold LF_fold_steps
    simp only [argFr]
    (refine W_x trivial ?_; (repeat' first | apply Cj.mk | exact Nl.nl) <;> intros)
    exact ⟨rfl,rfl⟩
theorem steps1_eq (s:ByteArray) (b:Nat) (h:AH):callO PX 79 [.string s,.pointer (some ⟨b,0,none⟩)] h = some (.func (.func 80) #[] #[.pointer (some ⟨b,0,none⟩),.pointer (some ⟨h.n,0,none⟩)],h.push (.cells false [.string s])):=by
  apply WpC.eqn
  refine wpc_fn (px_ext rfl) (px_fn fn_fold_steps_1) rfl ?_
  unfold LF_fold_steps_1
  simp only [argFr]
  (refine W_x trivial ?_; (repeat' first | apply Cj.mk | exact Nl.nl) <;> intros)
  exact ⟨rfl,rfl⟩
def foldB (T:Tab) (l:Bytes):Bytes:=encs (mapF T.folds (runesB l))
theorem pcs_take {T:Tab} {l:Bytes} {i:Nat} (hi:i < (spots l).length):mapF T.folds ((runesB l).take (i + 1)) = mapF T.folds ((runesB l).take i) ++ mapC T.folds (spots l)[i].1:=by
  rw [runesB_take hi,mapF_append]
  simp [mapF]
def cellsU:List Value→List Value
  | [.agg cs]=>cs.toList
  | _=>[]
theorem BldAt.keep {h h':AH} {b:Nat} {g:Option Nat} {X:Bytes} (bd:BldAt h b g X) (hk:∀ c,c = b∨g = some c→h'.get c = h.get c):BldAt h' b g X:=by
  obtain ⟨⟨p,hp,hor⟩,hu,hne⟩:=bd
  refine ⟨⟨p,(hk b (.inl rfl)).trans hp,hor⟩, ?_,hne⟩
  cases g with
  | none=>exact hu
  | some g=>exact ⟨hu.1,(hk g (.inr rfl)).trans hu.2⟩
theorem BldAt.glt {h:AH} {b:Nat} {g:Option Nat} {X:Bytes} (bd:BldAt h b g X) {x:Nat} (hx:g = some x):x < h.n:=by
  subst hx
  exact AH.get_lt bd.u.2
theorem foldFold_spec {h:AH} {k B:Nat} {s6:Sl} {T:Tab} (hb:goodB T = true) (bk:BkAt h k B s6 T) (s:ByteArray) (hs:s.size≤16777216) :
    WpC PX 14 [.pointer (some ⟨k,0,none⟩),.string s] h fun v h'=>v = .string (bs (foldB T s.data.toList))∧Kp h h':=by
  have hz:s.data.toList.length = s.size:=rfl
  have hsn:=spots_len s.data.toList
  have hen:=fun i=>encs_lenle (mapF T.folds ((runesB s.data.toList).take i))
  have hml:=fun i=>(mapF_len hb (fold_ok hb) ((runesB s.data.toList).take i)).2
  have hbd:∀ i,(encs (mapF T.folds ((runesB s.data.toList).take i))).length≤268435456:=fun i=>by
    have h1:=hen i
    have h2:=hml i
    have h3:=runesB_len s.data.toList
    rw [List.length_take] at h2
    omega
  have e1:=fun h=>steps_eq (.pointer (some ⟨k,0,none⟩)) h ⟨_,rfl,fun a ha=>by injection ha with ha; exact ⟨k,ha.symm⟩⟩
  have e2:=steps1_eq s
  refine wpc_fn (px_ext rfl) (px_fn fn_fold_Fold) rfl ?_
  unfold LF_fold_Fold
  simp only [argFr]
  (refine W_x (Aj e1 e2) ?_; (repeat' first | apply Cj.mk | exact Nl.nl) <;> intros)
  generalize hH0:(((h.push (.tc 173 [.pointer none,.slice none 0 0])).push (.cells false [.pointer (some ⟨k,0,none⟩)])).push (.cells false [.string s])) = H0
  simp only [Nat.add_assoc,Nat.reduceAdd,AH.push_n] at hH0 ⊢
  have n0:H0.n = h.n + 3:=by rw [← hH0]; simp only [AH.push_n,AH.set_n]
  have a0:H0.get h.n = some (.tc 173 [.pointer none,.slice none 0 0]):=by rw [← hH0]; simp (disch:=first | omega | (simp only [AH.nn_push,AH.nn_set,AH.nn_kill]; omega) | (simp only [AH.nn_push,AH.nn_set,AH.nn_kill]; done) | fail) only [AH.get_push_eq,AH.get_push_ne,AH.get_set_eq,AH.get_set_ne,AH.push_n]
  have a1:H0.get (h.n + 1) = some (.cells false [.pointer (some ⟨k,0,none⟩)]):=by rw [← hH0]; simp (disch:=first | omega | (simp only [AH.nn_push,AH.nn_set,AH.nn_kill]; omega) | (simp only [AH.nn_push,AH.nn_set,AH.nn_kill]; done) | fail) only [AH.get_push_eq,AH.get_push_ne,AH.get_set_eq,AH.get_set_ne,AH.push_n]
  have a2:H0.get (h.n + 2) = some (.cells false [.string s]):=by rw [← hH0]; simp (disch:=first | omega | (simp only [AH.nn_push,AH.nn_set,AH.nn_kill]; omega) | (simp only [AH.nn_push,AH.nn_set,AH.nn_kill]; done) | fail) only [AH.get_push_eq,AH.get_push_ne,AH.get_set_eq,AH.get_set_ne,AH.push_n]
  have ak:∀ b,b < h.n→H0.get b = h.get b:=fun b hb=>by rw [← hH0]; simp (disch:=first | omega | (simp only [AH.nn_push,AH.nn_set,AH.nn_kill]; omega) | (simp only [AH.nn_push,AH.nn_set,AH.nn_kill]; done) | fail) only [AH.get_push_eq,AH.get_push_ne,AH.get_set_eq,AH.get_set_ne,AH.push_n]
  clear hH0
  refine wp_rangeR (V:=PcV) (xs:=pcs T s.data.toList) (D:=StD (h.n + 1) (h.n + 2) k B s6 T s) rfl (steps_seq hb s hs) (fun x us P h1 ⟨sl,e,_⟩=>by rw [e]; rfl)
    (fun x us P h1 o ⟨sl,e,r,hp⟩ hP=>⟨sl,e,r.setNe o fun b hb=>by have:=hP b (hp b hb); omega,hp⟩)
    (fun i P h1=>h.n + 3 < h1.n + 1∧(∀ b,b < h.n + 3→b≠h.n→h1.get b = H0.get b)∧∃ g,BldAt h1 h.n g (encs (mapF T.folds ((runesB s.data.toList).take i)))∧∀ x,g = some x→h.n + 3 < x ∧ ¬ P x)
    (fun _ _ _=>False)
    (fun us=>[(5,.pointer (some ⟨h.n,0,none⟩)),(6,.pointer (some ⟨12,0,some 1⟩))]) (fun us=>[(12,.cells false (cellsU us))]) ?_ ?_ ?_ ?_ ?_ ?_ ?_ ?_
  · rw [n0]
    rintro i P P' h1 h2 ⟨f0,f1,g,bd,fg⟩ hP fm hP'
    have hn:=fm.n
    have hbn:=AH.get_lt bd.p.choose_spec.1
    have kk:∀ b,b < h1.n→(b < h.n + 3∨g = some b)→h2.get b = h1.get b:=fun b hb hor=>by
      refine fm.keep b hb (fun hp=>?_) ?_
      · rcases hor with q | q
        · have:=hP b hp; omega
        · exact (fg b q).2 hp
      · rcases hor with q | q
        · omega
        · have:=(fg b q).1; omega
    refine ⟨by omega,fun b hb hne=>(kk b (by omega) (.inl hb)).trans (f1 b hb hne),g,bd.keep fun c hc=>?_,fun x hx=>⟨(fg x hx).1,fun hp=>?_⟩⟩
    · rcases hc with rfl | hc
      · exact kk _ hbn (.inl (by omega))
      · exact kk _ (bd.glt hc) (.inr hc)
    · rcases (hP' x hp).2.2 with q | q
      · exact (fg x hx).2 q
      · have:=bd.glt hx; omega
  · exact fun _ _ _ _ _ q _ _ _=>q
  · rintro i P h1 ⟨f0,f1,_⟩
    exact ⟨(f1 _ (by omega) (by omega)).trans a1,(f1 _ (by omega) (by omega)).trans a2,bk.kp ⟨by omega,fun b hb=>(f1 b (by omega) (by omega)).trans (ak b hb)⟩⟩
  · rintro x us P h1 ⟨sl,rfl,r,hp⟩
    simp only [List.zip_cons_cons,List.zip_nil_right,List.reverse_cons,List.reverse_nil,List.nil_append,List.cons_append,okFr_cons,okFr_nil,okV_eq,isLoc_ptr,isLoc_func,Bool.not_false,if_true,cellsU]
    (refine W_x trivial ?_; (repeat' first | apply Cj.mk | exact Nl.nl) <;> intros)
    exact ⟨rfl,rfl,rfl,rfl⟩
  · exact ⟨by omega,fun _ _ _=>rfl,none,⟨⟨_,a0,.inl rfl⟩,rfl,fun e=>by cases e⟩,fun x hx=>by cases hx⟩
  · rw [n0]
    rintro i hi us P h1 o ⟨f0,f1,g,bd,fg⟩ ⟨sl,rfl,r,hp⟩ hP hlt ho
    have hil:i < (spots s.data.toList).length:=by rw [← pcs_len T]; exact hi
    have hpt:=pcs_take (T:=T) hil
    have hr:=mapC_rune hb (fold_ok hb) (runesB_rune s.data.toList (spots s.data.toList)[i].1 (List.mem_map.2 ⟨_,List.getElem_mem hil,rfl⟩))
    have hl:=mapC_len hb (fold_ok hb) (spots s.data.toList)[i].1
    rw [pcs_get hi] at r ⊢
    have b1:=hbd i
    generalize (spots s.data.toList)[i] = x at *
    simp only at r ⊢
    generalize mapC T.folds x.1 = to at *
    generalize (!isBad2 x && (fromO T.folds (x.1:Int)).isNone) = sm at *
    have hto:to≠[]:=fun e=>by rw [e] at hl; simp at hl
    have e3:=fun lc=>r2s_reads (lc:=lc) r hto hr
    have hel:=encs_lenle to
    obtain ⟨_,h2,e4,g',bd',fr⟩:=writeString_spec (s:=bs (encs to)) bd (by rw [bs_size]; omega)
    rw [bs_l,← encs_append,← hpt] at bd'
    have hn:=fr.n
    have gk:∀ c,c < h1.n→c≠h.n→g≠some c→h2.get c = h1.get c:=fr.keep
    have lo:=AH.get_lt ho
    unfold cellsU
    generalize bs (encs to) = tx at *
    (refine W_x (Aj e3 e4) ?_; (repeat' first | apply Cj.mk | exact Nl.nl) <;> intros)
    refine ⟨(gk _ lo (by omega) (fun e=>by have:=(fg _ e).1; omega)).trans ho,hn,fun b hp=>gk b (hP b hp).2 (by have:=hP b hp; omega) (fun e=>(fg b e).2 hp),by omega,fun b hb hne=>(gk b (by omega) hne (fun e=>by have:=(fg _ e).1; omega)).trans (f1 b hb hne),g',bd',fun y hy=>?_⟩
    rcases fr.new with q | ⟨z,q,hz⟩
    · rw [q] at hy; exact fg y hy
    · rw [q] at hy
      injection hy with hy
      subst hy
      exact ⟨by omega,fun hp=>by have:=(hP _ hp).2; omega⟩
  · rintro P h1 ⟨f0,f1,g,bd,fg⟩ hP hlt
    have hall:(encs (mapF T.folds ((runesB s.data.toList).take (pcs T s.data.toList).length))) = foldB T s.data.toList:=by
      rw [pcs_len,← runesB_len,List.take_length]; rfl
    have b1:=hbd (pcs T s.data.toList).length
    rw [hall] at bd b1
    have e5:=bldString_spec bd (by omega)
    (refine W_x e5 ?_; (repeat' first | apply Cj.mk | exact Nl.nl) <;> intros)
    refine ⟨rfl,by rw [killO_n]; omega,fun b hb=>?_⟩
    rw [killO_get (fun e=>by have:=(fg b e).1; omega),f1 b (by omega) (by omega)]
    exact ak b hb
  · exact fun _ _ _ _ q=>q.elim
end Go.Proofs.YtakmapoompffgaaGreatDoor.AM
namespace Go.Proofs.YtakmapoompffgaaGreatDoor.AM
open Go
def LF_fold_First:LFunc :=
  .mk 2 [.cell 4 (some 2),.cell 5 none] (.seq (R 4 [0,1,4,5] [.tmp 4 (xnh [.int .i64 0,.int .i64 0]),.tmp 5 (xnh [.bool false])]) (.seq (.seq (R 7 [4,5,10] [.tmp 10 (xv1
  (xc1 43 (.va 0)) (.va 1))]) (.block 0 (.rangeF (.s 10) [11] (R 6 [4,5,6] [.tmp 6 (xnl 6 [.int .i64 0,.int .i64 0,.slice none 0 0,.bool false]),.run (xst 4 (.sl
  6) (.sl 11))]) (.block 1 (.seq (R 12 [4,5,6,14] [.tmp 14 (xu .not (xld (xfa 3 (.sl 6))))]) (.cond (.s 14) (.seq (R 15 [] [.run (xst 2 (.sl 4) (xln 2 (xfa 0 (.sl 6)))),.run
  (xst 1 (.sl 5) (.cv (.bool true)))]) .ret) .skip)))))) (.seq (R 17 [4,5] [.run (xst 2 (.sl 4) (.op (.p (.build [.int .i64 0,.int .i64 0] [])) .nil)),.run (xst 1 (.sl 5) (.cv
  (.bool false)))]) .ret)))
theorem fn_fold_First:(autoPrg Tryz.prog).fn 24 = some LF_fold_First:=by kernel_rfl
def LF_fold_Count:LFunc :=
  .mk 2 [.tmp 4] (.seq (R 999 [0,1,4] [.set 4 (xi 0)]) (.seq (R 5 [0,1,4,5] [.tmp 5 (xnh [.int .i64 0]),.run (xst 1 (.sl 5) (xi 0))]) (.seq (.seq (R 7 [4,5,10] [.tmp 10 (xv1
  (xc1 43 (.va 0)) (.va 1))]) (.block 0 (.rangeF (.s 10) [11] (R 6 [5,6] [.tmp 6 (xnl 6 [.int .i64 0,.int .i64 0,.slice none 0 0,.bool false]),.run (xst 4 (.sl 6)
  (.sl 11))]) (.block 1 (R 12 [] [.run (xst 1 (.sl 5) (xb .add (xld (.sl 5)) (xlen (xld (xfa 2 (.sl 6))))))]))))) (.seq (R 17 [4] [.set 4 (xld (.sl 5))]) .ret))))
theorem fn_fold_Count:(autoPrg Tryz.prog).fn 28 = some LF_fold_Count:=by kernel_rfl
def LF_fold_Of:LFunc :=
  .mk 3 [.cell 6 (some 2),.cell 7 none] (.seq (R 5 [0,1,5,6,7] [.tmp 5 (xbh 1 (.sl 2)),.tmp 6 (xnh [.int .i64 0,.int .i64 0]),.tmp 7 (xnh [.bool false])]) (.seq (.seq (R 9
  [0,1,5,6,7,10] [.tmp 10 (xb .lss (xld (.sl 5)) (xi 0))]) (.cond (.s 10) (.seq (R 11 [6,7] [.run (xst 2 (.sl 6) (.op (.p (.build [.int .i64 0,.int .i64 0] [])) .nil)),.run
  (xst 1 (.sl 7) (.cv (.bool false)))]) .ret) .skip)) (.seq (.seq (R 12 [5,6,7,15] [.tmp 15 (xv1 (xc1 43 (.va 0)) (.va 1))]) (.block 0 (.rangeF (.s 15) [16] (R 8 [5,
  6,7,8] [.tmp 8 (xnl 8 [.int .i64 0,.int .i64 0,.slice none 0 0,.bool false]),.run (xst 4 (.sl 8) (.sl 16))]) (.block 1 (.seq (.seq (R 17 [5,6,7,8,21] [.tmp 21 (xb .lss
  (xld (.sl 5)) (xlen (xld (xfa 2 (.sl 8)))))]) (.cond (.s 21) (.seq (R 22 [] [.run (xst 2 (.sl 6) (xln 2 (xfa 0 (.sl 8)))),.run (xst 1 (.sl 7) (.cv (.bool true)))]) .ret) .skip))
  (R 24 [] [.run (xst 1 (.sl 5) (xb .sub (xld (.sl 5)) (xlen (xld (xfa 2 (.sl 8))))))])))))) (.seq (R 29 [6,7] [.run (xst 2 (.sl 6) (.op (.p (.build [.int .i64 0,.int .i64 0] []))
  .nil)),.run (xst 1 (.sl 7) (.cv (.bool false)))]) .ret))))
theorem fn_fold_Of:(autoPrg Tryz.prog).fn 31 = some LF_fold_Of:=by kernel_rfl
def LF_fold_Pieces:LFunc :=
  .mk 2 [.tmp 4] (.seq (R 2 [2,3] [.tmp 2 (xbh 1 (.sl 0)),.tmp 3 (xbh 1 (.sl 1)),.set 4 (.cv .nilFunc)]) (.seq (R 5 [4] [.set 4 (.op (.p (.mkfn (.func 52) [] [.s
  0,.s 1])) (.cons (.sl 2) (.sl 3)))]) .ret))
theorem fn_fold_Pieces:(autoPrg Tryz.prog).fn 32 = some LF_fold_Pieces:=by kernel_rfl
def LF_fold_Pieces_1:LFunc :=
  .mk 3 [] (.seq (R 3 [1,2,3] [.tmp 3 (xbh 1 (.sl 0))]) (.seq (.region [.mk (some 5) (.r (.load none (.s 1))) none,.mk (some 6) (.e (.call 43 [.s 5])) none,.mk (some
  7) (.r (.load none (.s 2))) none,.mk (some 8) (.e (.callv (.s 6) [.s 7])) none] [3,8] [(2,0)]) (.block 0 (.rangeF (.s 8) [9] (R 4 [3,4] [.tmp 4 (xnl 4 [.int .i64 0,.int .i64
  0,.slice none 0 0,.bool false]),.run (xst 4 (.sl 4) (.sl 9))]) (.block 1 (.seq (R 10 [17] [.tmp 17 (xu .not (xv2 (xld (.sl 3)) (xln 2 (xfa 0 (.sl 4))) (.op (.r (.r2s (.s 0)))
  (xld (xfa 2 (.sl 4))))))]) (.cond (.s 17) .ret .skip)))))))
theorem fn_fold_Pieces_1:(autoPrg Tryz.prog).fn 52 = some LF_fold_Pieces_1:=by kernel_rfl
def LF_fold_Twins:LFunc :=
  .mk 3 [.tmp 6] (.seq (R 999 [0,1,2] [.set 6 (.cv (.bool false))]) (.seq (R 7 [6] [.set 6 (.and (.op (.p (.eqk true .ptr (.s 0) (.s 1))) (.cons (.va 0) (.cv (.pointer none))))
  (xb .eql (xc2 14 (.va 0) (xc2 13 (.va 0) (.va 1))) (xc2 14 (.va 0) (xc2 13 (.va 0) (.va 2)))))]) .ret))
theorem fn_fold_Twins:(autoPrg Tryz.prog).fn 12 = some LF_fold_Twins:=by kernel_rfl
end Go.Proofs.YtakmapoompffgaaGreatDoor.AM
namespace Go.Proofs.YtakmapoompffgaaGreatDoor.AM
open Go
section
variable {p:Prg} {lc:Lc} {h:AH} {H:Value→Lc→AH→Prop}
theorem wo_appO {e by':Nat} {s:Sl} {y:Value} {xss yss:List (List Value)} {k:Nat} (o:Own h e s xss) (hk:lenV y = some k) (hy:rdSlice ⟨lc,h⟩ e y = some yss.flatten)
    (hyl:yss.length = k) (hye:∀ x∈yss,x.length = e) (k0:0 < k) (he:0 < e) (hb:0 < by') (hn:(xss.length + k) * by'≤140737488355328)
    (hq:∀ s' h',Own h' e s' (xss ++ yss)→s'.blk = some h.n→h'.n = h.n + 1→(∀ b,b < h.n→s.blk≠some b→h'.get b = h.get b)→H (s'.val e) lc h'):WpO p (.e (.append e by' (.s 0) (.s 1))) [s.val e,y] lc h H:=by
  obtain ⟨s',h',h1,h2,h3,h4,h5⟩:=own_append o hk hy hyl hye k0 he hb hn
  exact wo_e (by simp only [EOp.ev,opd_s,fg0,fg1,h1]) (hq s' h' h2 h3 h4 h5)
theorem wo_app1O {e by' b:Nat} {s:Sl} {xss:List (List Value)} {cs:List Value} (o:Own h e s xss) (hl:lget lc b = some (.cells false cs)) (hc:cs.length = e) (he:0 < e) (hb:0 < by') (hn:(xss.length + 1) * by'≤140737488355328)
    (hq:∀ s' h',Own h' e s' (xss ++ [cs])→s'.blk = some h.n→h'.n = h.n + 1→(∀ b,b < h.n→s.blk≠some b→h'.get b = h.get b)→H (s'.val e) lc h'):WpO p (.e (.append e by' (.s 0) (.s 1))) [s.val e,.slice (some ⟨b,0,some 1⟩) 1 e] lc h H:=by
  refine wo_appO (yss:=[cs]) (k:=1) o rfl ?_ rfl (fun x hx=>by rw [List.mem_singleton.1 hx]; exact hc) (by decide) he hb hn hq
  simp only [rdSlice,Nat.one_ne_zero,if_false,Nat.one_mul,rd_loc,hl,List.flatten_cons,List.flatten_nil,List.append_nil]
  rw [if_pos (by omega),List.drop_zero,← hc,List.take_length]
end
end Go.Proofs.YtakmapoompffgaaGreatDoor.AM
namespace Go.Proofs.YtakmapoompffgaaGreatDoor.AM
open Go
def LF_open_Rune:LFunc :=
  .mk 2 [.tmp 4] (.seq (R 2 [1,2] [.tmp 2 (xbh 1 (.sl 0)),.set 4 (.cv (.slice none 0 0))]) (.seq (.seq (R 7 [1,2,8] [.tmp 8 (.op (.p (.eqk false .ptr (.s 0) (.s 1))) (.cons (xld
  (.sl 2)) (.cv (.pointer none))))]) (.cond (.s 8) (.seq (R 999 [4] [.set 4 (.cv (.slice none 0 0))]) .ret) .skip)) (.seq (R 5 [1,2,5] [.tmp 5 (xnh [.slice none 0 0])]) (.seq (R 6
  [1,2,5,6] [.tmp 6 (xnh [.nilFunc])]) (.seq (R 9 [1,5,6] [.run (xst 1 (.sl 6) (.op (.p (.mkfn (.func 73) [] [.s 0,.s 1,.s 2])) (.cons (.sl 2) (.cons (.sl 5)
  (.sl 6)))))]) (.seq (R 10 [5] [.tmp 12 (xv1 (xld (.sl 6)) (.va 1))]) (.seq (R 13 [4] [.set 4 (xld (.sl 5))]) .ret)))))))
theorem fn_open_Rune:(autoPrg Tryz.prog).fn 41 = some LF_open_Rune:=by kernel_rfl
def LF_open_Rune_1:LFunc :=
  .mk 4 [] (.seq (R 9 [0,2,3,5,6,7] [.set 8 (xc2 74 (xld (.sl 1)) (.va 0)),.tmp 12 (xex 0 (.sl 8)),.tmp 13 (xex 1 (.sl 8)),.tmp 14 (xex 2 (.sl 8)),.set
  5 (.sl 12),.set 6 (.sl 13),.set 7 (.sl 14)]) (.seq (.seq (R 15 [0,2,3,5,6,16] [.tmp 16 (xu .not (.va 7))]) (.cond (.s 16) (.seq (R 17 [] [.run (xst 1 (.sl 2) (xap 1 4 (xld
  (.sl 2)) (.op (.e (.litL 19 1 1 [.int .i32 0] [(0,1,.s 0)])) (.va 0))))]) .ret) .skip)) (.seq (R 21 [2,6] [.tmp 23 (xv1 (xld (.sl 3)) (.va 5))]) (R 24 [] [.run (xst 1 (.sl 2)
  (xap 1 4 (xld (.sl 2)) (.op (.e (.litL 26 1 1 [.int .i32 0] [(0,1,.s 0)])) (.va 6))))]))))
theorem fn_open_Rune_1:(autoPrg Tryz.prog).fn 73 = some LF_open_Rune_1:=by kernel_rfl
def LF_guiseref9_Pair:LFunc :=
  .mk 2 [.tmp 4,.tmp 5,.tmp 6] (.seq (R 2 [1,2] [.tmp 2 (xbl 2 8 (.sl 0)),.set 4 (xr 0),.set 5 (xr 0),.set 6 (.cv (.bool false))]) (.seq (R 8 [2,7] [.set 7 (xc2
  122 (xln 8 (.sl 2)) (.va 1))]) (.seq (.seq (R 11 [2,7,12] [.tmp 12 (xb .lss (.va 7) (xi 0))]) (.cond (.s 12) (.seq (R 999 [4,5,6] [.set 4 (xr 0),.set 5 (xr
  0),.set 6 (.cv (.bool false))]) .ret) .skip)) (.seq (R 13 [4,5,6] [.tmp 18 (xld (xfa 1 (xia 3 (xld (xfa 3 (.sl 2))) (.va 7)))),.tmp 24 (xld (xfa 2 (xia 3 (xld (xfa 3 (.sl 2)))
  (.va 7)))),.set 4 (.sl 18),.set 5 (.sl 24),.set 6 (.cv (.bool true))]) .ret))))
theorem fn_guiseref9_Pair:(autoPrg Tryz.prog).fn 130 = some LF_guiseref9_Pair:=by kernel_rfl
def LF_guiseref9_Rune:LFunc :=
  .mk 2 [.tmp 4] (.seq (R 2 [1,2] [.tmp 2 (xbl 2 8 (.sl 0)),.set 4 (.cv (.slice none 0 0))]) (.seq (R 9 [2,5] [.set 5 (.op (.e (.litH 1 1 [.int .i32 0] [(0,1,.s 0)])) (.va
  1))]) (.block 0 (.loop (.block 1 (.seq (R 12 [2,5,6,7,8] [.set 11 (xc2 130 (xln 8 (.sl 2)) (xld (xia 1 (.va 5) (xi 0)))),.tmp 17 (xex 0 (.sl 11)),.tmp 18 (xex
  1 (.sl 11)),.tmp 19 (xex 2 (.sl 11)),.set 6 (.sl 17),.set 7 (.sl 18),.set 8 (.sl 19)]) (.seq (.seq (R 20 [2,5,6,7,21] [.tmp 21 (xu .not (.va 8))]) (.cond (.s 21) (.seq (R
  22 [4] [.set 4 (.va 5)]) .ret) .skip)) (R 23 [2,5] [.set 5 (xap 1 4 (.op (.e (.litH 2 1 [.int .i32 0] [(0,1,.s 0),(1,1,.s 1)])) (.cons (.va 6) (.va 7))) (.op (.p (.sl 1 (.s
  0) (some (.s 1)) none none)) (.cons (.va 5) (xi 1))))]))))))))
theorem fn_guiseref9_Rune:(autoPrg Tryz.prog).fn 86 = some LF_guiseref9_Rune:=by kernel_rfl
def LF_open_Open:LFunc :=
  .mk 2 [.tmp 4] (.seq (R 999 [0,1] [.set 4 (.cv (.string ⟨#[]⟩))]) (.seq (.seq (R 8 [0,1,9] [.tmp 9 (.op (.p (.eqk false .ptr (.s 0) (.s 1))) (.cons (.va 0) (.cv (.pointer
  none))))]) (.cond (.s 9) (.seq (R 999 [4] [.set 4 (.cv (.string ⟨#[]⟩))]) .ret) .skip)) (.seq (R 999 [0,1,5] [.set 5 (.cv (.slice none 0 0))]) (.seq (.seq (R 10 [0,5,11] [.tmp
  11 (.op (.e (.rngS 11 (.s 0))) (.va 1))]) (.block 0 (.loop (.seq (R 12 [0,5,11,12,13] [.tmp 12 (.op (.e (.nxtS (.s 0))) (.sl 11)),.tmp 13 (xex 0 (.sl 12))]) (.seq (.cond (.s
  13) .skip (.exit 0)) (.block 1 (.seq (R 14 [0,5,7,11] [.set 7 (xex 2 (.sl 12))]) (R 15 [0,5,11] [.set 5 (xap 1 4 (.va 5) (xc2 41 (.va 0) (.va 7)))])))))))) (.seq
  (R 20 [4] [.set 4 (xc2 42 (.va 0) (.op (.r (.r2s (.s 0))) (.va 5)))]) .ret)))))
theorem fn_open_Open:(autoPrg Tryz.prog).fn 13 = some LF_open_Open:=by kernel_rfl
def LF_tables_Book_Pair:LFunc :=
  .mk 2 [.tmp 4,.tmp 5,.tmp 6] (.seq (R 999 [0,1] [.set 4 (xr 0),.set 5 (xr 0),.set 6 (.cv (.bool false))]) (.seq (R 9 [6,7] [.set 8 (.op (.r (.lookup (.one .int) (.agg
  (Array.mk [.int .i32 0,.int .i32 0])) true (.s 0) (.s 1))) (.cons (xld (xfa 9 (xnk (.va 0)))) (.va 1))),.tmp 15 (xex 0 (.sl 8)),.tmp 16 (xex 1 (.sl 8)),.at 7,.tmp 7 (xnl 7
  [.int .i32 0,.int .i32 0]),.run (xst 2 (.sl 7) (.sl 15)),.set 6 (.sl 16)]) (.seq (R 17 [4,5,6] [.tmp 18 (xld (.op (.p (.iaddrA 2 1 (.s 0) (.s 1))) (.cons (.sl 7) (xi 0)))),
  .tmp 20 (xld (.op (.p (.iaddrA 2 1 (.s 0) (.s 1))) (.cons (.sl 7) (xi 1)))),.tmp 21 (.va 6),.set 4 (.sl 18),.set 5 (.sl 20),.set 6 (.sl 21)]) .ret)))
theorem fn_tables_Book_Pair:(autoPrg Tryz.prog).fn 74 = some LF_tables_Book_Pair:=by kernel_rfl
end Go.Proofs.YtakmapoompffgaaGreatDoor.AM
namespace Go.Proofs.YtakmapoompffgaaGreatDoor.AM
open Go
def prV:Option (Int × Int)→Value
  | some (b,m)=>.tuple (List.toArray [.int .i32 b,.int .i32 m,.bool true])
  | none=>.tuple (List.toArray [.int .i32 0,.int .i32 0,.bool false])
theorem bookPair_eq {h:AH} {k B:Nat} {s6:Sl} {T:Tab} (bk:BkAt h k B s6 T) (r:Int):callO PX 74 [.pointer (some ⟨k,0,none⟩),.int .i32 r] h = some (prV (pairI T r),h):=by
  obtain ⟨x0,x1,x2,x3,x4,x5,x7,hb⟩:=bk.b
  have m2:=m_whole bk.mp r
  unfold pairI
  cases hw:wholeO T r with
  | none =>
    rw [hw] at m2
    simp only [Option.map_none,Option.getD_none,Option.isSome_none] at m2
    simp only [Option.map_none,prV]
    apply WpC.eqn
    refine wpc_fn (px_ext rfl) (px_fn fn_tables_Book_Pair) rfl ?_
    unfold LF_tables_Book_Pair
    simp only [argFr]
    (refine W_x (Aj hb m2) ?_; (repeat' first | apply Cj.mk | exact Nl.nl) <;> intros)
    exact ⟨rfl,rfl⟩
  | some j =>
    rw [hw] at m2
    simp only [Option.map_some,Option.getD_some,Option.isSome_some] at m2
    unfold rowP kP at m2
    rw [Option.map_some]
    generalize (T.pairs.getD j (0,0,0)).2 = x at m2 ⊢
    obtain ⟨a,c⟩:=x
    simp only [prV] at m2 ⊢
    apply WpC.eqn
    refine wpc_fn (px_ext rfl) (px_fn fn_tables_Book_Pair) rfl ?_
    unfold LF_tables_Book_Pair
    simp only [argFr]
    (refine W_x (Aj hb m2) ?_; (repeat' first | apply Cj.mk | exact Nl.nl) <;> intros)
    exact ⟨rfl,rfl⟩
theorem refPair_eq {S:TS} {T:Tab} {h:AH} (t:TabAt h S T) (r:Int):callO PX 130 [.agg S.vs.toArray,.int .i32 r] h = some (prV (pairI T r),h):=by
  have e1:=whole6_eq t r
  have hn:=t.fits.n3
  unfold pairI
  unfold TS.vs at e1 ⊢
  cases hw:wholeO T r with
  | none =>
    rw [hw] at e1
    simp only [ixI] at e1
    simp only [Option.map_none,prV]
    apply WpC.eqn
    refine wpc_fn (px_ext rfl) (px_fn fn_guiseref9_Pair) rfl ?_
    unfold LF_guiseref9_Pair
    simp only [argFr]
    (refine W_x e1 ?_; (repeat' first | apply Cj.mk | exact Nl.nl) <;> intros)
    exact ⟨rfl,rfl⟩
  | some j =>
    rw [hw] at e1
    simp only [ixI] at e1
    simp only [Option.map_some,prV]
    obtain ⟨hj,_⟩:=whole_mem hw
    have hg:T.pairs.getD j (0,0,0) = T.pairs[j]:=by simp [List.getD_eq_getElem?_getD,List.getElem?_eq_getElem hj]
    rw [hg]
    have hs:=t.r3.len
    have g1:=fun lc=>rd_mapc (lc:=lc) t.r3 hj (k:=1) (by decide)
    have g2:=fun lc=>rd_mapc (lc:=lc) t.r3 hj (k:=2) (by decide)
    generalize T.pairs[j] = x at g1 g2 ⊢
    obtain ⟨w,a,c⟩:=x
    unfold tripV at g1 g2
    apply WpC.eqn
    refine wpc_fn (px_ext rfl) (px_fn fn_guiseref9_Pair) rfl ?_
    unfold LF_guiseref9_Pair
    simp only [argFr]
    (refine W_x (Aj e1 (Aj hs (Aj g1 g2))) ?_; (repeat' first | apply Cj.mk | exact Nl.nl) <;> intros)
    exact ⟨rfl,rfl⟩
abbrev rI (c:Int):List Value:=[.int .i32 c]
def apF (h:AH):Value:=.func (.func 73) #[] #[.pointer (some ⟨h.n,0,none⟩),.pointer (some ⟨h.n + 1,0,none⟩),.pointer (some ⟨h.n + 2,0,none⟩)]
structure ApI (h:AH) (k:Nat) (g:AH) (s:Sl) (D:List (List Value)):Prop where
  kp:Kp h g
  n:h.n + 3≤g.n
  b0:g.get h.n = some (.cells false [.pointer (some ⟨k,0,none⟩)])
  b1:g.get (h.n + 1) = some (.cells false [s.val 1])
  b2:g.get (h.n + 2) = some (.cells false [apF h])
  own:Own g 1 s D
  new:∀ b,s.blk = some b→h.n + 3≤b
theorem ApI.put {h g g':AH} {k:Nat} {s s':Sl} {D D':List (List Value)} (i:ApI h k g s D) (o:Own g' 1 s' D') (hb:s'.blk = some g.n) (hn:g'.n = g.n + 1) (hk:∀ b,b < g.n→s.blk≠some b→g'.get b = g.get b) :
    ApI h k (g'.set (h.n + 1) (.cells false [s'.val 1])) s' D':=by
  have hn3:=i.n
  have hs:∀ b,b < h.n + 3→g'.get b = g.get b:=fun b hb=>hk b (by omega) fun e=>by have:=i.new b e; omega
  refine ⟨⟨by have:=i.kp.1; rw [AH.set_n]; omega,fun b hb=>?_⟩,by rw [AH.set_n]; omega, ?_,AH.get_set_same _ (by omega), ?_,o.same fun b hb2=>?_,fun b hb2=>?_⟩
  · rw [AH.get_set_ne _ (by omega),hs b (by omega),i.kp.2 b hb]
  · rw [AH.get_set_ne _ (by omega),hs _ (by omega)]; exact i.b0
  · rw [AH.get_set_ne _ (by omega),hs _ (by omega)]; exact i.b2
  · rw [hb] at hb2; injection hb2 with hb2; exact AH.get_set_ne _ (by omega)
  · rw [hb] at hb2; injection hb2 with hb2; omega
theorem apart_spec {h:AH} {k B:Nat} {s6:Sl} {T:Tab} (bk:BkAt h k B s6 T) {r:Int} {L:List Int} (op:Op T r L):∀ (g:AH) (s:Sl) (D:List (List Value)),ApI h k g s D→D.length + L.length≤1000000 →
    WpC PX 73 [.int .i32 r,.pointer (some ⟨h.n,0,none⟩),.pointer (some ⟨h.n + 1,0,none⟩),.pointer (some ⟨h.n + 2,0,none⟩)] g fun _ g' => ∃ s',ApI h k g' s' (D ++ L.map rI):=by
  induction op with
  | @one r hp =>
    intro g s D i hD
    have e1:=bookPair_eq (bk.kp i.kp) r
    rw [hp] at e1
    simp only [prV] at e1
    have q0:=i.b0
    have q1:=i.b1
    refine wpc_fn (px_ext rfl) (px_fn fn_open_Rune_1) rfl ?_
    unfold LF_open_Rune_1
    simp only [argFr]
    (refine W_x (Aj e1 (Aj q0 q1)) ?_; (repeat' first | apply Cj.mk | exact Nl.nl) <;> intros)
    refine wo_app1O (cs:=rI r) i.own rfl rfl (by decide) (by decide) (by simp at hD; omega) fun s' g' o hb hn hk=>?_
    have i2:=i.put o hb hn hk
    have hg1:g'.get (h.n + 1) = some (.cells false [s.val 1]):=(hk _ (by have:=i.n; omega) fun e=>by have:=i.new _ e; omega).trans i.b1
    (refine W_x hg1 ?_; (repeat' first | apply Cj.mk | exact Nl.nl) <;> intros)
    exact ⟨s',i2⟩
  | @more r b m L hp _ ih =>
    intro g s D i hD
    rw [List.length_append,List.length_singleton] at hD
    have e1:=bookPair_eq (bk.kp i.kp) r
    rw [hp] at e1
    simp only [prV] at e1
    have q0:=i.b0
    have q2:=i.b2
    unfold apF at q2
    obtain ⟨v,g1,e2,s1,i1⟩:=ih g s D i (by omega)
    have p1:=i1.b1
    refine wpc_fn (px_ext rfl) (px_fn fn_open_Rune_1) rfl ?_
    unfold LF_open_Rune_1
    simp only [argFr]
    (refine W_x (Aj e1 (Aj e2 (Aj q0 (Aj q2 p1)))) ?_; (repeat' first | apply Cj.mk | exact Nl.nl) <;> intros)
    refine wo_app1O (cs:=rI m) i1.own rfl rfl (by decide) (by decide) (by rw [List.length_append,List.length_map]; omega) fun s' g' o hb hn hk=>?_
    have i2:=i1.put o hb hn hk
    have hg1:g'.get (h.n + 1) = some (.cells false [s1.val 1]):=(hk _ (by have:=i1.n; omega) fun e=>by have:=i1.new _ e; omega).trans i1.b1
    (refine W_x hg1 ?_; (repeat' first | apply Cj.mk | exact Nl.nl) <;> intros)
    refine ⟨s', ?_⟩
    rw [List.map_append,← List.append_assoc]
    exact i2
theorem openRune_spec {h:AH} {k B:Nat} {s6:Sl} {T:Tab} (gd:goodB T = true) (bk:BkAt h k B s6 T) (r:Int):WpC PX 41 [.pointer (some ⟨k,0,none⟩),.int .i32 r] h fun v h' => ∃ sl,v = sl.val 1∧FOwn h h' 1 sl ((opI T 5 r).map rI):=by
  have hop:=op_all gd r
  have hl:=op_len (T:=T) 5 r
  have i0:ApI h k ((((h.push (.cells false [.pointer (some ⟨k,0,none⟩)])).push (.cells false [.slice none 0 0])).push (.cells false [.nilFunc])).set (h.n + 2) (.cells false [apF h])) .nil []:=by
    refine ⟨(((Kp.refl h).push _).push _ |>.push _).setNew _ (by omega),Nat.le_refl _, ?_, ?_, ?_,⟨rfl,by simp,trivial⟩,fun b hb=>by cases hb⟩
    · simp (disch:=first | omega | (simp only [AH.nn_push,AH.nn_set,AH.nn_kill]; omega) | (simp only [AH.nn_push,AH.nn_set,AH.nn_kill]; done) | fail) only [AH.get_push_eq,AH.get_push_ne,AH.get_set_eq,AH.get_set_ne,AH.push_n]
    · rw [AH.get_set_ne _ (by omega),AH.get_push_ne _ (by simp only [AH.push_n]; omega)]
      exact AH.get_push_same (h.push _) _
    · exact AH.get_set_same _ (by simp only [AH.push_n]; omega)
  obtain ⟨v,g,e,s',i1⟩:=apart_spec bk (op_all gd r) _ _ _ i0 (by simp only [List.length_nil]; omega)
  have q1:=i1.b1
  have na:=Nat.add_assoc
  have vf:∀ f a b,vcells (.func f a b) = [.func f a b]:=fun _ _ _=>rfl
  unfold apF at e
  refine wpc_fn (px_ext rfl) (px_fn fn_open_Rune) rfl ?_
  unfold LF_open_Rune
  simp only [argFr]
  (refine W_x (Aj na (Aj vf (Aj e q1))) ?_; (repeat' first | apply Cj.mk | exact Nl.nl) <;> intros)
  exact ⟨s',rfl,i1.own,i1.kp,fun b hb=>by have:=i1.new b hb; omega⟩
theorem FOwn.later {h0 h h':AH} {e:Nat} {s:Sl} {xss:List (List Value)} (f:FOwn h0 h e s xss) (k:Kp h h'):FOwn h0 h' e s xss:=⟨f.own.keep fun b hb=>k.2 b (f.own.lt hb),f.kp.trans k,f.new⟩
theorem refRune_spec {S:TS} {T:Tab} {h:AH} (gd:goodB T = true) (t:TabAt h S T) (r:Int):WpC PX 86 [.agg S.vs.toArray,.int .i32 r] h fun v h' => ∃ sl,v = sl.val 1∧FOwn h h' 1 sl ((opI T 5 r).map rI):=by
  have hop:=op_all gd r
  have hl:=op_len (T:=T) 5 r
  generalize hM:opI T 5 r = M at *
  refine wpc_fn (px_ext rfl) (px_fn fn_guiseref9_Rune) rfl ?_
  unfold LF_guiseref9_Rune
  simp only [argFr]
  unfold TS.vs
  (refine W_x trivial ?_; (repeat' first | apply Cj.mk | exact Nl.nl) <;> intros)
  have f0:FOwn h (h.push (.cells false [.int .i32 r])) 1 (.at h.n 0 1) [rI r]:=⟨⟨rfl,by simp,[],AH.get_push_same _ _,rfl⟩,(Kp.refl h).push _,fun b hb=>by injection hb with hb; omega⟩
  generalize h.push (.cells false [.int .i32 r]) = g0 at f0 ⊢
  refine wp_loop (fun w fr lc g => ∃ (c:Int) (ms L:List Int) (sl:Sl),w = L.length∧Op T c L∧L ++ ms = M∧FOwn h g 1 sl ((c :: ms).map rI)∧fr = [(2,.pointer (some ⟨4,0,some 1⟩)),(5,sl.val 1)] ∧
    lc = [(4,.cells false [S.s0.val 2,S.s1.val 2,S.s2.val 2,S.s3.val 3,S.s4.val 2,S.s5.val 2,S.s6.val 2,S.s7.val 2])]) M.length ⟨r,[],M,.at h.n 0 1,rfl,hop,by simp,f0,rfl,rfl⟩ ?_
  rintro w fr lc g ⟨c,ms,L,sl,rfl,op,hLm,fo,rfl,rfl⟩
  have sll:=fo.own.1
  rw [List.length_map,List.length_cons] at sll
  have g1:=fun lc=>rd_map (lc:=lc) fo.reads (i:=0) (by simp)
  simp only [List.getElem_cons_zero] at g1
  have e1:=refPair_eq (t.kp fo.kp) c
  unfold TS.vs at e1
  cases op with
  | one hp =>
    rw [hp] at e1
    simp only [prV] at e1
    (refine W_x (Aj sll (Aj g1 e1)) ?_; (repeat' first | apply Cj.mk | exact Nl.nl) <;> intros)
    refine ⟨sl,rfl, ?_⟩
    rw [← hLm]
    exact fo
  | @more _ b m L hp op =>
    rw [hp] at e1
    simp only [prV] at e1
    have hlen:=congrArg List.length hLm
    rw [List.length_append,List.length_append,List.length_singleton] at hlen
    (refine W_x (Aj sll (Aj g1 e1)) ?_; (repeat' first | apply Cj.mk | exact Nl.nl) <;> intros)
    have rdd:=(fo.reads (h:=g)).drop (k:=1) (by simp)
    have f1:FOwn h (g.push (.cells false [.int .i32 b,.int .i32 m])) 1 (.at g.n 0 2) [rI b,rI m]:=⟨⟨rfl,by simp,[],AH.get_push_same _ _,rfl⟩,fo.kp.push _,fun x hx=>by injection hx with hx; have:=fo.kp.1; omega⟩
    have rd2:=rdd.kp ((Kp.refl g).push (.cells false [.int .i32 b,.int .i32 m]))
    refine wo_appL (s:=.at g.n 0 2) f1 rd2 (by decide) (by decide) (by simp; omega) fun s3 h3 f3=>?_
    (refine W_x trivial ?_; (repeat' first | apply Cj.mk | exact Nl.nl) <;> intros)
    exact ⟨_,by rw [List.length_append,List.length_singleton]; omega,b,m :: ms,L,s3,rfl,op,by rw [← hLm]; simp,by simpa using f3,rfl,rfl⟩
end Go.Proofs.YtakmapoompffgaaGreatDoor.AM
namespace Go.Proofs.YtakmapoompffgaaGreatDoor.AM
open Go
theorem rI_rnV {T:Tab} (gd:goodB T = true) {c:Nat} (hc:RuneN c):(opI T 5 (c:Int)).map rI = (opN T c).map rnV:=by
  rw [← (opN_cast gd hc).1,List.map_map]
  rfl
theorem openF_snoc {T:Tab} {B:List Nat} {i:Nat} (hi:i < B.length):openF T (B.take (i + 1)) = openF T (B.take i) ++ opN T B[i]:=by
  rw [take_snoc hi,openF_append]
  simp [openF]
theorem openF_take_len {T:Tab} (gd:goodB T = true) {B:List Nat} (hB:∀ c∈B,RuneN c) (i:Nat):(openF T (B.take i)).length≤6 * B.length:=by
  have:=(openF_len gd (B:=B.take i) fun c hc=>hB c (List.mem_of_mem_take hc)).2
  rw [List.length_take] at this
  omega
theorem openOpen_spec {h:AH} {k B:Nat} {s6:Sl} {T:Tab} (gd:goodB T = true) (bk:BkAt h k B s6 T) (s:ByteArray) (hs:s.size≤1048576):WpC PX 13 [.pointer (some ⟨k,0,none⟩),.string s] h fun v h'=>v = .string (bs (openB T s.data.toList))∧Kp h h':=by
  have hz:s.data.toList.length = s.size:=rfl
  have hn:=spots_len s.data.toList
  have hrl:=runesB_len s.data.toList
  have hrr:=runesB_rune s.data.toList
  refine wpc_fn (px_ext rfl) (px_fn fn_open_Open) rfl ?_
  unfold LF_open_Open
  simp only [argFr]
  (refine W_x @ev_rngS ?_; (repeat' first | apply Cj.mk | exact Nl.nl) <;> intros)
  refine wp_spotsS (fun i sl=>[(0,.pointer (some ⟨k,0,none⟩)),(5,sl.val 1),(11,.pointer (some ⟨22,0,some 1⟩))]) (fun n _=>[(22,.siter s n)]) s s.data.toList (fun i sl h'=>FOwn h h' 1 sl ((openF T ((runesB s.data.toList).take i)).map rnV)) (fun _ _=>(none:Option Unit)) Sl.nil rfl (by repeat' first | exact True.intro | refine And.intro rfl ?_) (fun _ _=>rfl) rfl (by simpa [openF] using FOwn.nil (Kp.refl h))
    (fun i hi sl h1 fo hit=>?_) fun sl h1 fo fin=>?_
  · (refine W_x trivial ?_; (repeat' first | apply Cj.mk | exact Nl.nl) <;> intros)
    refine wo_next rfl rfl hi ?_
    have hi2:i < (runesB s.data.toList).length:=by omega
    have hx:=runesB_get hi
    have hr:=hrr _ (List.getElem_mem hi2)
    have hsn:=openF_snoc (T:=T) hi2
    have hle:=openF_take_len gd hrr i
    rw [hx] at hr hsn
    generalize (spots s.data.toList)[i] = x at hr hsn
    obtain ⟨_,g,e,s2,rfl,f2⟩:=openRune_spec gd (bk.kp fo.kp) (x.1:Nat)
    rw [rI_rnV gd hr] at f2
    obtain ⟨b0,ms,q1,_,_,_,q5,_⟩:=opN_facts gd hr
    (refine W_x e ?_; (repeat' first | apply Cj.mk | exact Nl.nl) <;> intros)
    refine wo_appL (fo.later f2.kp) f2.reads (by decide) (by decide) (by rw [List.length_map,List.length_map,q1,List.length_cons]; omega) fun s3 h3 f3=>?_
    (refine W_x trivial ?_; (repeat' first | apply Cj.mk | exact Nl.nl) <;> intros)
    refine ⟨rfl,s3,(by repeat' first | exact True.intro | refine And.intro rfl ?_),rfl, ?_⟩
    rw [hsn,List.map_append]
    exact f3
  · (refine W_x trivial ?_; (repeat' first | apply Cj.mk | exact Nl.nl) <;> intros)
    refine wo_nextE rfl rfl ?_
    rw [← hrl,List.take_length] at fo
    have hF:=openF_all gd hrr
    have hl:=openF_len gd hrr
    have hg:=fun lc=>r2s_own (lc:=lc) fo.own fun x hx=>(hF x hx).1
    have hsz:=encs_lenle (openF T (runesB s.data.toList))
    obtain ⟨_,g2,e2,rfl,k2⟩:=marksOrder_spec (bk.kp fo.kp) (bs (encs (openF T (runesB s.data.toList)))) (by rw [bs_size]; omega)
    rw [bs_l,orderB_encs T fun x hx=>(hF x hx).1] at e2
    (refine W_x (Aj hg e2) ?_; (repeat' first | apply Cj.mk | exact Nl.nl) <;> intros)
    exact ⟨rfl,fo.kp.trans k2⟩
end Go.Proofs.YtakmapoompffgaaGreatDoor.AM
namespace Go.Proofs.YtakmapoompffgaaGreatDoor.AM
open Go
def pcU (x:Pc) (sl:Sl):List Value:=[.agg (List.toArray [.int .i64 x.at',.int .i64 x.n,sl.val 1,.bool x.same])]
theorem wp_pieces {fr:Fr} {lc:Lc} {Q:Post} {fo:Opd} {q:Nat} {assign body:LCode} {k B:Nat} {s6:Sl} {T:Tab} (hb:goodB T = true) (s:ByteArray) (hs:s.size≤16777216) {p1 p2:Nat} {H0:AH}
    (hf:opd fr fo = .func (.func 80) #[] #[.pointer (some ⟨p1,0,none⟩),.pointer (some ⟨p2,0,none⟩)])
    (J:Nat→AH→Prop) (K:Ex→AH→Prop) (A:Fr) (L:List Value→Lc)
    (stJ:∀ i h1 h2,J i h1→(∀ b,b < H0.n→h2.get b = h1.get b)→J i h2) (stK:∀ ex h1 h2,K ex h1→(∀ b,b < H0.n→h2.get b = h1.get b)→K ex h2)
    (hD:∀ i h1,J i h1→H0.n≤h1.n→StD p1 p2 k B s6 T s h1)
    (asg:∀ x sl h1,Wp PX assign (([q].zip (pcU x sl)).reverse ++ okFr fr) [] h1 fun ex fr1 lc1 h2=>ex = .norm∧h2 = h1∧fr1 = A∧lc1 = L (pcU x sl))
    (init:J 0 H0)
    (step:∀ (i:Nat) (hi:i < (pcs T s.data.toList).length) sl h1,J i h1→H0.n < h1.n→Reads h1 1 sl ((pcs T s.data.toList)[i].to.map rnV) →
      Wp PX body A (L (pcU (pcs T s.data.toList)[i] sl)) h1 fun ex _ _ h3=>h1.n≤h3.n∧(∀ b,H0.n≤b→b < h1.n→h3.get b = h1.get b)∧match ex with
        | .norm=>J (i + 1) h3
        | ex=>K ex h3)
    (fin:∀ h1,J (spots s.data.toList).length h1→H0.n≤h1.n→Q .norm fr lc h1)
    (early:∀ ex h1,ex ≠ .norm→K ex h1→H0.n≤h1.n→Q ex fr lc h1):Wp PX (.rangeF fo [q] assign body) fr lc H0 Q:=by
  refine wp_rangeR (V:=PcV) (xs:=pcs T s.data.toList) (D:=StD p1 p2 k B s6 T s) hf (steps_seq hb s hs) (fun x us P h1 ⟨sl,e,_⟩=>by rw [e]; rfl)
    (fun x us P h1 o ⟨sl,e,r,hp⟩ hP=>⟨sl,e,r.setNe o fun b hb=>by have:=hP b (hp b hb); omega,hp⟩)
    (fun i P h1=>J i h1∧H0.n≤h1.n) (fun ex P h1=>K ex h1∧H0.n≤h1.n) (fun _=>A) L ?_ ?_ ?_ ?_ ?_ ?_ ?_ ?_
  · rintro i P P' h1 h2 ⟨f0,f1⟩ hP fm _
    exact ⟨stJ i h1 h2 f0 fun b hb=>fm.keep b (by omega) (fun hp=>by have:=hP b hp; omega) (by omega),Nat.le_trans f1 fm.n⟩
  · rintro ex P P' h1 h2 ⟨f0,f1⟩ hP fm _
    exact ⟨stK ex h1 h2 f0 fun b hb=>fm.keep b (by omega) (fun hp=>by have:=hP b hp; omega) (by omega),Nat.le_trans f1 fm.n⟩
  · exact fun i P h1 f=>hD i h1 f.1 f.2
  · rintro x us P h1 ⟨sl,rfl,_⟩
    exact asg x sl h1
  · exact ⟨init,Nat.le_refl _⟩
  · rintro i hi us P h1 o ⟨f0,f1⟩ ⟨sl,rfl,r,hp⟩ hP hlt ho
    refine wp_mono (step i hi sl h1 f0 hlt r) fun ex fr' lc' h3 hq=>?_
    obtain ⟨q1,q2,q3⟩:=hq
    refine ⟨(q2 _ (Nat.le_refl _) hlt).trans ho,q1,fun b hb=>q2 b (by have:=hP b hb; omega) (hP b hb).2, ?_⟩
    cases ex with
    | norm=>exact ⟨q3,by omega⟩
    | ret=>exact ⟨q3,by omega⟩
    | exit j=>exact ⟨q3,by omega⟩
  · rintro P h1 ⟨f0,f1⟩ _ hlt
    rw [pcs_len] at f0
    exact fin h1 f0 f1
  · rintro ex P h1 hne ⟨f0,f1⟩ _ hlt
    exact early ex h1 hne f0 f1
theorem foldCount_spec {h:AH} {k B:Nat} {s6:Sl} {T:Tab} (hb:goodB T = true) (bk:BkAt h k B s6 T) (s:ByteArray) (hs:s.size≤16777216) :
    WpC PX 28 [.pointer (some ⟨k,0,none⟩),.string s] h fun v h'=>v = .int .i64 (mapF T.folds (runesB s.data.toList)).length∧Kp h h':=by
  have hz:s.data.toList.length = s.size:=rfl
  have hsn:=spots_len s.data.toList
  have e1:=fun h=>steps_eq (.pointer (some ⟨k,0,none⟩)) h ⟨_,rfl,fun a ha=>by injection ha with ha; exact ⟨k,ha.symm⟩⟩
  have e2:=steps1_eq s
  have hbd:∀ i,(mapF T.folds ((runesB s.data.toList).take i)).length≤67108864:=fun i=>by
    have h2:=(mapF_len hb (fold_ok hb) ((runesB s.data.toList).take i)).2
    have h3:=runesB_len s.data.toList
    rw [List.length_take] at h2
    omega
  refine wpc_fn (px_ext rfl) (px_fn fn_fold_Count) rfl ?_
  unfold LF_fold_Count
  simp only [argFr]
  (refine W_x (Aj e1 e2) ?_; (repeat' first | apply Cj.mk | exact Nl.nl) <;> intros)
  generalize hH0:((((h.push (.cells false [.int .i64 0])).set h.n (.cells false [.int .i64 0])).push (.cells false [.pointer (some ⟨k,0,none⟩)])).push (.cells false [.string s])) = H0
  simp only [Nat.add_assoc,Nat.reduceAdd,AH.push_n,AH.set_n] at hH0 ⊢
  have n0:H0.n = h.n + 3:=by rw [← hH0]; simp only [AH.push_n,AH.set_n]
  have a0:H0.get h.n = some (.cells false [.int .i64 0]):=by rw [← hH0]; simp (disch:=first | omega | (simp only [AH.nn_push,AH.nn_set,AH.nn_kill]; omega) | (simp only [AH.nn_push,AH.nn_set,AH.nn_kill]; done) | fail) only [AH.get_push_eq,AH.get_push_ne,AH.get_set_eq,AH.get_set_ne,AH.push_n,AH.set_n]
  have a1:H0.get (h.n + 1) = some (.cells false [.pointer (some ⟨k,0,none⟩)]):=by rw [← hH0]; simp (disch:=first | omega | (simp only [AH.nn_push,AH.nn_set,AH.nn_kill]; omega) | (simp only [AH.nn_push,AH.nn_set,AH.nn_kill]; done) | fail) only [AH.get_push_eq,AH.get_push_ne,AH.get_set_eq,AH.get_set_ne,AH.push_n,AH.set_n]
  have a2:H0.get (h.n + 2) = some (.cells false [.string s]):=by rw [← hH0]; simp (disch:=first | omega | (simp only [AH.nn_push,AH.nn_set,AH.nn_kill]; omega) | (simp only [AH.nn_push,AH.nn_set,AH.nn_kill]; done) | fail) only [AH.get_push_eq,AH.get_push_ne,AH.get_set_eq,AH.get_set_ne,AH.push_n,AH.set_n]
  have ak:∀ b,b < h.n→H0.get b = h.get b:=fun b hb=>by rw [← hH0]; simp (disch:=first | omega | (simp only [AH.nn_push,AH.nn_set,AH.nn_kill]; omega) | (simp only [AH.nn_push,AH.nn_set,AH.nn_kill]; done) | fail) only [AH.get_push_eq,AH.get_push_ne,AH.get_set_eq,AH.get_set_ne,AH.push_n,AH.set_n]
  clear hH0
  refine wp_pieces hb s hs (p1:=h.n + 1) (p2:=h.n + 2) (k:=k) (B:=B) (s6:=s6) rfl
    (fun i h1=>(∀ b,b < h.n + 3→b≠h.n→h1.get b = H0.get b)∧h1.get h.n = some (.cells false [.int .i64 (mapF T.folds ((runesB s.data.toList).take i)).length])) (fun _ _=>False)
    [(5,.pointer (some ⟨h.n,0,none⟩)),(6,.pointer (some ⟨12,0,some 1⟩))] (fun us=>[(12,.cells false (cellsU us))]) ?_ ?_ ?_ ?_ ?_ ?_ ?_ ?_
  · rintro i h1 h2 ⟨f0,f1⟩ kk
    exact ⟨fun b hb hne=>(kk b (by omega)).trans (f0 b hb hne),(kk _ (by omega)).trans f1⟩
  · exact fun _ _ _ q _=>q
  · rintro i h1 ⟨f0,f1⟩ hn
    exact ⟨(f0 _ (by omega) (by omega)).trans a1,(f0 _ (by omega) (by omega)).trans a2,bk.kp ⟨by omega,fun b hb=>(f0 b (by omega) (by omega)).trans (ak b hb)⟩⟩
  · intro x sl h1
    unfold pcU cellsU
    simp only [List.zip_cons_cons,List.zip_nil_right,List.reverse_cons,List.reverse_nil,List.nil_append,List.cons_append,okFr_cons,okFr_nil,okV_eq,isLoc_ptr,isLoc_func,Bool.not_false,if_true]
    (refine W_x trivial ?_; (repeat' first | apply Cj.mk | exact Nl.nl) <;> intros)
    exact ⟨rfl,rfl,rfl,rfl⟩
  · exact ⟨fun _ _ _=>rfl,by rw [a0]; rfl⟩
  · rintro i hi sl h1 ⟨f0,f1⟩ hlt r
    have hil:i < (spots s.data.toList).length:=by rw [← pcs_len T]; exact hi
    have hpt:=pcs_take (T:=T) hil
    have b1:=hbd i
    have b2:=hbd (i + 1)
    have sll:=r.1
    rw [List.length_map] at sll
    rw [pcs_get hi] at r sll ⊢
    rw [hpt] at b2
    rw [hpt,List.length_append]
    rw [List.length_append] at b2
    generalize (spots s.data.toList)[i] = x at *
    simp only at r sll ⊢
    generalize mapC T.folds x.1 = to at *
    generalize (!isBad2 x && (fromO T.folds (x.1:Int)).isNone) = sm at *
    unfold pcU cellsU
    (refine W_x (Aj f1 sll) ?_; (repeat' first | apply Cj.mk | exact Nl.nl) <;> intros)
    exact ⟨Nat.le_refl _,fun b hb _=>AH.get_set_ne _ (by omega),fun b hb hne=>by rw [AH.get_set_ne _ hne]; exact f0 b hb hne,AH.get_set_same _ (by omega)⟩
  · rintro h1 ⟨f0,f1⟩ hn
    rw [← runesB_len,List.take_length] at f1
    (refine W_x f1 ?_; (repeat' first | apply Cj.mk | exact Nl.nl) <;> intros)
    exact ⟨rfl,by omega,fun b hb=>(f0 b (by omega) (by omega)).trans (ak b hb)⟩
  · exact fun _ _ _ q _=>q.elim
end Go.Proofs.YtakmapoompffgaaGreatDoor.AM
namespace Go.Proofs.YtakmapoompffgaaGreatDoor.AM
open Go
def firstF (T:Tab) (l:Bytes):Option (Nat × Nat):=scanL (spots l) fun i x=>if isBad2 x = true∨(fromO T.folds (x.1:Int)).isSome = true then some (posn l i,i) else none
def ofL (T:Tab) (l:Bytes):List (Nat × Nat):=(pcs T l).flatMap fun x=>List.replicate x.to.length (x.at',x.n)
theorem flat_at {α β:Type} (f:α→List β) {L:List α} {i:Nat} (hi:i < L.length) (r:Nat) (hr:r < (f L[i]).length):(L.flatMap f)[((L.take i).flatMap f).length + r]? = (f L[i])[r]?:=by
  have e:L = L.take i ++ L[i] :: L.drop (i + 1):=by rw [List.getElem_cons_drop,List.take_append_drop]
  have h2:L.flatMap f = (L.take i).flatMap f ++ (f L[i] ++ (L.drop (i + 1)).flatMap f):=by
    conv=>lhs; rw [e]
    rw [List.flatMap_append,List.flatMap_cons]
  rw [h2,List.getElem?_append_right (by omega),Nat.add_sub_cancel_left,List.getElem?_append_left hr]
theorem pcs_pre (T:Tab) (l:Bytes):∀ i,i≤(spots l).length→(((pcs T l).take i).flatMap fun x=>List.replicate x.to.length (x.at',x.n)).length = (mapF T.folds ((runesB l).take i)).length
  | 0,_=>by simp [mapF]
  | i + 1,hi=>by
    have h1:i < (pcs T l).length:=by rw [pcs_len]; omega
    rw [take_snoc h1,List.flatMap_append,List.length_append,pcs_pre T l i (by omega),pcs_take (show i < (spots l).length by omega),List.length_append,pcs_get h1]
    simp
theorem ofL_len (T:Tab) (l:Bytes):(ofL T l).length = (mapF T.folds (runesB l)).length:=by
  have:=pcs_pre T l (spots l).length (Nat.le_refl _)
  rw [← pcs_len T,List.take_length,pcs_len,← runesB_len,List.take_length] at this
  exact this
theorem ofL_get {T:Tab} {l:Bytes} {i:Nat} (hi:i < (spots l).length) {r:Nat} (hr:r < (mapC T.folds (spots l)[i].1).length):(ofL T l)[(mapF T.folds ((runesB l).take i)).length + r]? = some (posn l i,i):=by
  have h1:i < (pcs T l).length:=by rw [pcs_len]; exact hi
  have hg:=pcs_get h1
  have:=flat_at (fun x:Pc=>List.replicate x.to.length (x.at',x.n)) h1 r (by rw [hg]; simpa using hr)
  rw [pcs_pre T l i (by omega),hg] at this
  unfold ofL
  rw [this]
  simp [hr]
theorem foldFirst_spec {h:AH} {k B:Nat} {s6:Sl} {T:Tab} (hb:goodB T = true) (bk:BkAt h k B s6 T) (s:ByteArray) (hs:s.size≤16777216) :
    WpC PX 24 [.pointer (some ⟨k,0,none⟩),.string s] h fun v h'=>v = plV (firstF T s.data.toList)∧Kp h h':=by
  have hz:s.data.toList.length = s.size:=rfl
  have hsn:=spots_len s.data.toList
  have e1:=fun h=>steps_eq (.pointer (some ⟨k,0,none⟩)) h ⟨_,rfl,fun a ha=>by injection ha with ha; exact ⟨k,ha.symm⟩⟩
  have e2:=steps1_eq s
  refine wpc_fn (px_ext rfl) (px_fn fn_fold_First) rfl ?_
  unfold LF_fold_First
  simp only [argFr]
  (refine W_x (Aj e1 e2) ?_; (repeat' first | apply Cj.mk | exact Nl.nl) <;> intros)
  generalize hH0:((((h.push (.cells false [.int .i64 0,.int .i64 0])).push (.cells false [.bool false])).push (.cells false [.pointer (some ⟨k,0,none⟩)])).push (.cells false [.string s])) = H0
  simp only [Nat.add_assoc,Nat.reduceAdd,AH.push_n,AH.set_n] at hH0 ⊢
  have n0:H0.n = h.n + 4:=by rw [← hH0]; simp only [AH.push_n,AH.set_n]
  have a0:H0.get h.n = some (.cells false [.int .i64 0,.int .i64 0]):=by rw [← hH0]; simp (disch:=first | omega | (simp only [AH.nn_push,AH.nn_set,AH.nn_kill]; omega) | (simp only [AH.nn_push,AH.nn_set,AH.nn_kill]; done) | fail) only [AH.get_push_eq,AH.get_push_ne,AH.get_set_eq,AH.get_set_ne,AH.push_n,AH.set_n]
  have a1:H0.get (h.n + 1) = some (.cells false [.bool false]):=by rw [← hH0]; simp (disch:=first | omega | (simp only [AH.nn_push,AH.nn_set,AH.nn_kill]; omega) | (simp only [AH.nn_push,AH.nn_set,AH.nn_kill]; done) | fail) only [AH.get_push_eq,AH.get_push_ne,AH.get_set_eq,AH.get_set_ne,AH.push_n,AH.set_n]
  have a2:H0.get (h.n + 2) = some (.cells false [.pointer (some ⟨k,0,none⟩)]):=by rw [← hH0]; simp (disch:=first | omega | (simp only [AH.nn_push,AH.nn_set,AH.nn_kill]; omega) | (simp only [AH.nn_push,AH.nn_set,AH.nn_kill]; done) | fail) only [AH.get_push_eq,AH.get_push_ne,AH.get_set_eq,AH.get_set_ne,AH.push_n,AH.set_n]
  have a3:H0.get (h.n + 3) = some (.cells false [.string s]):=by rw [← hH0]; simp (disch:=first | omega | (simp only [AH.nn_push,AH.nn_set,AH.nn_kill]; omega) | (simp only [AH.nn_push,AH.nn_set,AH.nn_kill]; done) | fail) only [AH.get_push_eq,AH.get_push_ne,AH.get_set_eq,AH.get_set_ne,AH.push_n,AH.set_n]
  have ak:∀ b,b < h.n→H0.get b = h.get b:=fun b hb=>by rw [← hH0]; simp (disch:=first | omega | (simp only [AH.nn_push,AH.nn_set,AH.nn_kill]; omega) | (simp only [AH.nn_push,AH.nn_set,AH.nn_kill]; done) | fail) only [AH.get_push_eq,AH.get_push_ne,AH.get_set_eq,AH.get_set_ne,AH.push_n,AH.set_n]
  clear hH0
  refine wp_pieces hb s hs (p1:=h.n + 2) (p2:=h.n + 3) (k:=k) (B:=B) (s6:=s6) rfl
    (fun i h1=>(∀ b,b < h.n + 4→h1.get b = H0.get b)∧∀ j (hj:j < (spots s.data.toList).length),j < i → ¬ (isBad2 (spots s.data.toList)[j] = true∨(fromO T.folds ((spots s.data.toList)[j].1:Int)).isSome = true))
    (fun ex h1=>ex = .ret∧(∀ b,b < h.n→h1.get b = h.get b)∧∃ a b:Nat,firstF T s.data.toList = some (a,b)∧h1.get h.n = some (.cells false [.int .i64 a,.int .i64 b])∧h1.get (h.n + 1) = some (.cells false [.bool true]))
    [(4,.pointer (some ⟨h.n,0,none⟩)),(5,.pointer (some ⟨h.n + 1,0,none⟩)),(6,.pointer (some ⟨12,0,some 1⟩))] (fun us=>[(12,.cells false (cellsU us))]) ?_ ?_ ?_ ?_ ?_ ?_ ?_ ?_
  · rintro i h1 h2 ⟨f0,f1⟩ kk
    exact ⟨fun b hb=>(kk b (by omega)).trans (f0 b hb),f1⟩
  · rintro ex h1 h2 ⟨rfl,f0,a,b,q,f1,f2⟩ kk
    exact ⟨rfl,fun b hb=>(kk b (by omega)).trans (f0 b hb),a,b,q,(kk _ (by omega)).trans f1,(kk _ (by omega)).trans f2⟩
  · rintro i h1 ⟨f0,f1⟩ hn
    exact ⟨(f0 _ (by omega)).trans a2,(f0 _ (by omega)).trans a3,bk.kp ⟨by omega,fun b hb=>(f0 b (by omega)).trans (ak b hb)⟩⟩
  · intro x sl h1
    unfold pcU cellsU
    simp only [List.zip_cons_cons,List.zip_nil_right,List.reverse_cons,List.reverse_nil,List.nil_append,List.cons_append,okFr_cons,okFr_nil,okV_eq,isLoc_ptr,isLoc_func,Bool.not_false,if_true]
    (refine W_x trivial ?_; (repeat' first | apply Cj.mk | exact Nl.nl) <;> intros)
    exact ⟨rfl,rfl,rfl,rfl⟩
  · exact ⟨fun _ _=>rfl,fun j hj hlt=>absurd hlt (by omega)⟩
  · rintro i hi sl h1 ⟨f0,f1⟩ hlt r
    have hil:i < (spots s.data.toList).length:=by rw [← pcs_len T]; exact hi
    have hhit:∀ (_:isBad2 (spots s.data.toList)[i] = true∨(fromO T.folds ((spots s.data.toList)[i].1:Int)).isSome = true),firstF T s.data.toList = some (posn s.data.toList i,i):=fun hb=>scanL_hit hil (fun j hj hlt=>if_neg (f1 j hj hlt)) (if_pos hb)
    have hnx : ¬ (isBad2 (spots s.data.toList)[i] = true∨(fromO T.folds ((spots s.data.toList)[i].1:Int)).isSome = true)→∀ j (hj:j < (spots s.data.toList).length),j < i + 1 → ¬ (isBad2 (spots s.data.toList)[j] = true∨(fromO T.folds ((spots s.data.toList)[j].1:Int)).isSome = true):=fun hb j hj hlt=>by
      rcases Nat.lt_or_ge j i with q | q
      · exact f1 j hj q
      · obtain rfl:j = i:=by omega
        exact hb
    have g0:=(f0 h.n (by omega)).trans a0
    have g1:=(f0 (h.n + 1) (by omega)).trans a1
    have l0:=AH.get_lt g0
    rw [pcs_get hi] at r ⊢
    generalize (spots s.data.toList)[i] = x at *
    simp only at r ⊢
    generalize isBad2 x = ib at *
    rw [← Option.not_isSome]
    generalize (fromO T.folds (x.1:Int)).isSome = fs at *
    have hret:(ib = true∨fs = true)→∀ h2,h2 = (h1.set h.n (.cells false [.int .i64 (posn s.data.toList i),.int .i64 i])).set (h.n + 1) (.cells false [.bool true])→h1.n≤h2.n∧(∀ b,H0.n≤b→b < h1.n→h2.get b = h1.get b)∧Ex.ret = Ex.ret∧(∀ b,b < h.n→h2.get b = h.get b)∧∃ a b:Nat,firstF T s.data.toList = some (a,b)∧h2.get h.n = some (.cells false [.int .i64 a,.int .i64 b])∧h2.get (h.n + 1) = some (.cells false [.bool true]):=by
      rintro hc h2 rfl
      refine ⟨by rw [AH.set_n,AH.set_n]; exact Nat.le_refl _,fun b hb _=>by rw [AH.get_set_ne _ (by omega),AH.get_set_ne _ (by omega)],rfl,fun b hb=>?_,_,_,hhit hc, ?_,AH.get_set_same _ (by rw [AH.set_n]; omega)⟩
      · rw [AH.get_set_ne _ (by omega),AH.get_set_ne _ (by omega)]
        exact (f0 b (by omega)).trans (ak b hb)
      · rw [AH.get_set_ne _ (by omega)]
        exact AH.get_set_same _ l0
    unfold pcU cellsU
    cases ib with
    | true =>
      have hr:=hret (.inl rfl) _ rfl
      (refine W_x (Aj g0 g1) ?_; (repeat' first | apply Cj.mk | exact Nl.nl) <;> intros)
      exact hr
    | false =>
      cases fs with
      | true =>
        have hr:=hret (.inr rfl) _ rfl
        (refine W_x (Aj g0 g1) ?_; (repeat' first | apply Cj.mk | exact Nl.nl) <;> intros)
        exact hr
      | false =>
        (refine W_x (Aj g0 g1) ?_; (repeat' first | apply Cj.mk | exact Nl.nl) <;> intros)
        exact ⟨Nat.le_refl _,fun _ _ _=>rfl,f0,hnx (by rintro (q | q) <;> cases q)⟩
  · rintro h1 ⟨f0,f1⟩ hn
    have hno:firstF T s.data.toList = none:=scanL_end fun j hj=>if_neg (f1 j hj hj)
    have g0:=(f0 h.n (by omega)).trans a0
    have g1:=(f0 (h.n + 1) (by omega)).trans a1
    rw [hno]
    (refine W_x (Aj g0 g1) ?_; (repeat' first | apply Cj.mk | exact Nl.nl) <;> intros)
    refine ⟨rfl,by rw [AH.set_n,AH.set_n]; omega,fun b hb=>?_⟩
    rw [AH.get_set_ne _ (by omega),AH.get_set_ne _ (by omega)]
    exact (f0 b (by omega)).trans (ak b hb)
  · rintro ex h1 hne ⟨rfl,f0,a,b,q,f1,f2⟩ hn
    rw [q]
    (refine W_x (Aj f1 f2) ?_; (repeat' first | apply Cj.mk | exact Nl.nl) <;> intros)
    exact ⟨rfl,by omega,f0⟩
theorem foldOf_spec {h:AH} {k B:Nat} {s6:Sl} {T:Tab} (hb:goodB T = true) (bk:BkAt h k B s6 T) (s:ByteArray) (hs:s.size≤16777216) (n:Int) (hn1 : -9223372036854775808≤n) (hn2:n < 9223372036854775808) :
    WpC PX 31 [.pointer (some ⟨k,0,none⟩),.string s,.int .i64 n] h fun v h'=>v = plV (if n < 0 then none else (ofL T s.data.toList)[n.toNat]?)∧Kp h h':=by
  have hz:s.data.toList.length = s.size:=rfl
  have hsn:=spots_len s.data.toList
  have e1:=fun h=>steps_eq (.pointer (some ⟨k,0,none⟩)) h ⟨_,rfl,fun a ha=>by injection ha with ha; exact ⟨k,ha.symm⟩⟩
  have e2:=steps1_eq s
  by_cases hneg:n < 0
  · rw [if_pos hneg]
    refine wpc_fn (px_ext rfl) (px_fn fn_fold_Of) rfl ?_
    unfold LF_fold_Of
    simp only [argFr]
    (refine W_x trivial ?_; (repeat' first | apply Cj.mk | exact Nl.nl) <;> intros)
    exact ⟨rfl,((((Kp.refl h).push _).push _).push _ |>.setNew _ (by omega)).setNew _ (by omega)⟩
  rw [if_neg hneg]
  obtain ⟨m,hm⟩:∃ m:Nat,n = m:=⟨n.toNat,by omega⟩
  subst hm
  rw [show ((m:Nat):Int).toNat = m from rfl]
  refine wpc_fn (px_ext rfl) (px_fn fn_fold_Of) rfl ?_
  unfold LF_fold_Of
  simp only [argFr]
  (refine W_x (Aj e1 e2) ?_; (repeat' first | apply Cj.mk | exact Nl.nl) <;> intros)
  generalize hH0:(((((h.push (.cells false [.int .i64 m])).push (.cells false [.int .i64 0,.int .i64 0])).push (.cells false [.bool false])).push (.cells false [.pointer (some ⟨k,0,none⟩)])).push (.cells false [.string s])) = H0
  simp only [Nat.add_assoc,Nat.reduceAdd,AH.push_n,AH.set_n] at hH0 ⊢
  have n0:H0.n = h.n + 5:=by rw [← hH0]; simp only [AH.push_n,AH.set_n]
  have an:H0.get h.n = some (.cells false [.int .i64 m]):=by rw [← hH0]; simp (disch:=first | omega | (simp only [AH.nn_push,AH.nn_set,AH.nn_kill]; omega) | (simp only [AH.nn_push,AH.nn_set,AH.nn_kill]; done) | fail) only [AH.get_push_eq,AH.get_push_ne,AH.get_set_eq,AH.get_set_ne,AH.push_n,AH.set_n]
  have a0:H0.get (h.n + 1) = some (.cells false [.int .i64 0,.int .i64 0]):=by rw [← hH0]; simp (disch:=first | omega | (simp only [AH.nn_push,AH.nn_set,AH.nn_kill]; omega) | (simp only [AH.nn_push,AH.nn_set,AH.nn_kill]; done) | fail) only [AH.get_push_eq,AH.get_push_ne,AH.get_set_eq,AH.get_set_ne,AH.push_n,AH.set_n]
  have a1:H0.get (h.n + 2) = some (.cells false [.bool false]):=by rw [← hH0]; simp (disch:=first | omega | (simp only [AH.nn_push,AH.nn_set,AH.nn_kill]; omega) | (simp only [AH.nn_push,AH.nn_set,AH.nn_kill]; done) | fail) only [AH.get_push_eq,AH.get_push_ne,AH.get_set_eq,AH.get_set_ne,AH.push_n,AH.set_n]
  have a2:H0.get (h.n + 3) = some (.cells false [.pointer (some ⟨k,0,none⟩)]):=by rw [← hH0]; simp (disch:=first | omega | (simp only [AH.nn_push,AH.nn_set,AH.nn_kill]; omega) | (simp only [AH.nn_push,AH.nn_set,AH.nn_kill]; done) | fail) only [AH.get_push_eq,AH.get_push_ne,AH.get_set_eq,AH.get_set_ne,AH.push_n,AH.set_n]
  have a3:H0.get (h.n + 4) = some (.cells false [.string s]):=by rw [← hH0]; simp (disch:=first | omega | (simp only [AH.nn_push,AH.nn_set,AH.nn_kill]; omega) | (simp only [AH.nn_push,AH.nn_set,AH.nn_kill]; done) | fail) only [AH.get_push_eq,AH.get_push_ne,AH.get_set_eq,AH.get_set_ne,AH.push_n,AH.set_n]
  have ak:∀ b,b < h.n→H0.get b = h.get b:=fun b hb=>by rw [← hH0]; simp (disch:=first | omega | (simp only [AH.nn_push,AH.nn_set,AH.nn_kill]; omega) | (simp only [AH.nn_push,AH.nn_set,AH.nn_kill]; done) | fail) only [AH.get_push_eq,AH.get_push_ne,AH.get_set_eq,AH.get_set_ne,AH.push_n,AH.set_n]
  clear hH0
  refine wp_pieces hb s hs (p1:=h.n + 3) (p2:=h.n + 4) (k:=k) (B:=B) (s6:=s6) rfl
    (fun i h1=>(∀ b,b < h.n + 5→b≠h.n→h1.get b = H0.get b)∧(mapF T.folds ((runesB s.data.toList).take i)).length≤m∧h1.get h.n = some (.cells false [.int .i64 ((m:Int) - (mapF T.folds ((runesB s.data.toList).take i)).length)]))
    (fun ex h1=>ex = .ret∧(∀ b,b < h.n→h1.get b = h.get b)∧∃ a b:Nat,(ofL T s.data.toList)[m]? = some (a,b)∧h1.get (h.n + 1) = some (.cells false [.int .i64 a,.int .i64 b])∧h1.get (h.n + 2) = some (.cells false [.bool true]))
    [(5,.pointer (some ⟨h.n,0,none⟩)),(6,.pointer (some ⟨h.n + 1,0,none⟩)),(7,.pointer (some ⟨h.n + 2,0,none⟩)),(8,.pointer (some ⟨16,0,some 1⟩))] (fun us=>[(16,.cells false (cellsU us))]) ?_ ?_ ?_ ?_ ?_ ?_ ?_ ?_
  · rintro i h1 h2 ⟨f0,f1,f2⟩ kk
    exact ⟨fun b hb hne=>(kk b (by omega)).trans (f0 b hb hne),f1,(kk _ (by omega)).trans f2⟩
  · rintro ex h1 h2 ⟨rfl,f0,a,b,q,f1,f2⟩ kk
    exact ⟨rfl,fun b hb=>(kk b (by omega)).trans (f0 b hb),a,b,q,(kk _ (by omega)).trans f1,(kk _ (by omega)).trans f2⟩
  · rintro i h1 ⟨f0,f1,f2⟩ hn
    exact ⟨(f0 _ (by omega) (by omega)).trans a2,(f0 _ (by omega) (by omega)).trans a3,bk.kp ⟨by omega,fun b hb=>(f0 b (by omega) (by omega)).trans (ak b hb)⟩⟩
  · intro x sl h1
    unfold pcU cellsU
    simp only [List.zip_cons_cons,List.zip_nil_right,List.reverse_cons,List.reverse_nil,List.nil_append,List.cons_append,okFr_cons,okFr_nil,okV_eq,isLoc_ptr,isLoc_func,Bool.not_false,if_true]
    (refine W_x trivial ?_; (repeat' first | apply Cj.mk | exact Nl.nl) <;> intros)
    exact ⟨rfl,rfl,rfl,rfl⟩
  · exact ⟨fun _ _ _=>rfl,by simp [mapF],by rw [an]; simp [mapF]⟩
  · rintro i hi sl h1 ⟨f0,f1,f2⟩ hlt r
    have hil:i < (spots s.data.toList).length:=by rw [← pcs_len T]; exact hi
    have hpt:=pcs_take (T:=T) hil
    have hog:=fun r=>ofL_get (T:=T) hil (r:=r)
    have g0:=(f0 (h.n + 1) (by omega) (by omega)).trans a0
    have g1:=(f0 (h.n + 2) (by omega) (by omega)).trans a1
    have l0:=AH.get_lt g0
    have l2:=AH.get_lt f2
    have sll:=r.1
    rw [List.length_map] at sll
    have ml:=mapC_len hb (fold_ok hb) (spots s.data.toList)[i].1
    rw [hpt,List.length_append]
    rw [pcs_get hi] at r sll ⊢
    generalize (spots s.data.toList)[i] = x at *
    simp only at r sll ⊢
    generalize mapC T.folds x.1 = to at *
    generalize (!isBad2 x && (fromO T.folds (x.1:Int)).isNone) = sm at *
    generalize (mapF T.folds ((runesB s.data.toList).take i)).length = pre at *
    unfold pcU cellsU
    by_cases hc:(m:Int) - pre < to.length
    · have hq:=hog (m - pre) (by omega)
      rw [show pre + (m - pre) = m by omega] at hq
      (refine W_x (Aj f2 (Aj g0 (Aj g1 sll))) ?_; (repeat' first | apply Cj.mk | exact Nl.nl) <;> intros)
      refine ⟨Nat.le_refl _,fun b hb _=>by rw [AH.get_set_ne _ (by omega),AH.get_set_ne _ (by omega)],rfl,fun b hb=>?_,_,_,hq, ?_,AH.get_set_same _ (by rw [AH.set_n]; omega)⟩
      · rw [AH.get_set_ne _ (by omega),AH.get_set_ne _ (by omega)]
        exact (f0 b (by omega) (by omega)).trans (ak b hb)
      · rw [AH.get_set_ne _ (by omega)]
        exact AH.get_set_same _ l0
    · have h63:(m:Int) - pre < 9223372036854775808:=by omega
      (refine W_x (Aj f2 (Aj g0 (Aj g1 sll))) ?_; (repeat' first | apply Cj.mk | exact Nl.nl) <;> intros)
      refine ⟨Nat.le_refl _,fun b hb _=>AH.get_set_ne _ (by omega),fun b hb hne=>by rw [AH.get_set_ne _ hne]; exact f0 b hb hne,by omega, ?_⟩
      rw [AH.get_set_same _ l2,show (m:Int) - pre - to.length = (m:Int) - ((pre + to.length:Nat):Int) by omega]
  · rintro h1 ⟨f0,f1,f2⟩ hn
    rw [← runesB_len,List.take_length,← ofL_len] at f1
    have hno:(ofL T s.data.toList)[m]? = none:=List.getElem?_eq_none f1
    have g0:=(f0 (h.n + 1) (by omega) (by omega)).trans a0
    have g1:=(f0 (h.n + 2) (by omega) (by omega)).trans a1
    rw [hno]
    (refine W_x (Aj g0 g1) ?_; (repeat' first | apply Cj.mk | exact Nl.nl) <;> intros)
    refine ⟨rfl,by rw [AH.set_n,AH.set_n]; omega,fun b hb=>?_⟩
    rw [AH.get_set_ne _ (by omega),AH.get_set_ne _ (by omega)]
    exact (f0 b (by omega) (by omega)).trans (ak b hb)
  · rintro ex h1 hne ⟨rfl,f0,a,b,q,f1,f2⟩ hn
    rw [q]
    (refine W_x (Aj f1 f2) ?_; (repeat' first | apply Cj.mk | exact Nl.nl) <;> intros)
    exact ⟨rfl,by omega,f0⟩
end Go.Proofs.YtakmapoompffgaaGreatDoor.AM
namespace Go.Proofs.YtakmapoompffgaaGreatDoor.AM
open Go
def LF_guiselaw12_known:LFunc :=
  .mk 0 [.tmp 0] (.seq (R 999 [] [.set 0 (.cv (.bool false))]) (.seq (R 7 [1,2] [.set 6 (xc1 9 (xc0 37)),.tmp 9 (xex 0 (.sl 6)),.tmp 10 (xex 1
  (.sl 6)),.tmp 11 (xex 2 (.sl 6)),.set 1 (.sl 9),.set 2 (.sl 10),.set 3 (.sl 11)]) (.seq (.seq (R 12 [1,13] [.tmp 13 (xu .not (.va 2))]) (.cond (.s 13) (.seq (R 999 [0] [.set
  0 (.cv (.bool false))]) .ret) .skip)) (.seq (R 15 [1,4,5] [.set 14 (xc3 31 (.va 1) (.cv (.string ⟨#[65,195,159,195,137]⟩)) (xi 2)),.tmp 17 (xex 0 (.sl 14)),.tmp
  18 (xex 1 (.sl 14)),.at 4,.tmp 4 (xnl 4 [.int .i64 0,.int .i64 0]),.run (xst 2 (.sl 4) (.sl 17)),.tmp 5 (.va 18)]) (.seq (R 19 [0] [.set 0 (.and (.and (.and (.and (.and (xb
  .eql (xc2 14 (.va 1) (.cv (.string ⟨#[65,195,159,195,137]⟩))) (.cv (.string ⟨#[97,115,115,195,137]⟩))) (xb .eql (xc2 28 (.va 1) (.cv (.string ⟨#[65,
  195,159]⟩))) (xi 3))) (.op (.p (.eqA false [.int,.int] (.s 0) (.s 1))) (.cons (xln 2 (.sl 4)) (.op (.p (.build [.int .i64 0,.int .i64 0] [(0,1,.s 0),(1,1,.s 1)])) (.cons
  (xi 1) (xi 1)))))) (.va 5)) (xc3 12 (.va 1) (.cv (.string ⟨#[195,137]⟩)) (.cv (.string ⟨#[195,169]⟩)))) (xu .not (xc3 12 (.va 1) (.cv (.string ⟨#[97]⟩))
  (.cv (.string ⟨#[98]⟩)))))]) .ret)))))
theorem fn_guiselaw12_known:(autoPrg Tryz.prog).fn 10 = some LF_guiselaw12_known:=by kernel_rfl
def LF_guiselaw12_small:LFunc :=
  .mk 0 [.cell 0 (some 8)] (.seq (R 0 [0] [.tmp 0 (xnl 0 [.slice none 0 0,.slice none 0 0,.slice none 0 0,.slice none 0 0,.slice none 0 0,.slice none 0 0,.slice none 0 0,
  .slice none 0 0])]) (.seq (R 1 [0] [.run (xst 8 (.sl 0) (.op (.p (.build [.slice none 0 0,.slice none 0 0,.slice none 0 0,.slice none 0 0,.slice none 0 0,.slice none 0 0,
  .slice none 0 0,.slice none 0 0] [(1,1,.s 0),(7,1,.s 1),(2,1,.s 2),(3,1,.s 3),(4,1,.s 4)])) (.cons (.op (.e (.litH 1 2 [.int .i32 0,.int .i32 0] [(0,2,.s 0)]))
  (.op (.p (.build [.int .i32 0,.int .i32 0] [(0,1,.s 0),(1,1,.s 1)])) (.cons (xr 45) (xr 57)))) (.cons (.op (.e (.litH 3 2 [.int .i32 0,.int .i32 0] [(0,2,.s 0),(2,2,.s
  1),(4,2,.s 2)])) (.cons (.op (.p (.build [.int .i32 0,.int .i32 0] [(0,1,.s 0),(1,1,.s 1)])) (.cons (xr 45) (xr 45))) (.cons (.op (.p (.build [.int .i32 0,.int .i32 0]
  [(0,1,.s 0),(1,1,.s 1)])) (.cons (xr 48) (xr 57))) (.op (.p (.build [.int .i32 0,.int .i32 0] [(0,1,.s 0),(1,1,.s 1)])) (.cons (xr 97) (xr 122)))))) (.cons (.op (.e
  (.litH 1 2 [.int .i32 0,.int .i64 0] [(0,2,.s 0)])) (.op (.p (.build [.int .i32 0,.int .i64 0] [(0,1,.s 0),(1,1,.s 1)])) (.cons (xr 769) (xi 230)))) (.cons (.op (.e
  (.litH 2 3 [.int .i32 0,.int .i32 0,.int .i32 0] [(0,3,.s 0),(3,3,.s 1)])) (.cons (.op (.p (.build [.int .i32 0,.int .i32 0,.int .i32 0] [(0,1,.s 0),(1,1,.s 1),(2,
  1,.s 2)])) (.cons (xr 201) (.cons (xr 69) (xr 769)))) (.op (.p (.build [.int .i32 0,.int .i32 0,.int .i32 0] [(0,1,.s 0),(1,1,.s 1),(2,1,.s 2)])) (.cons (xr 233) (.cons
  (xr 101) (xr 769)))))) (.op (.e (.litH 3 2 [.int .i32 0,.string ⟨#[]⟩] [(0,2,.s 0),(2,2,.s 1),(4,2,.s 2)])) (.cons (.op (.p (.build [.int .i32 0,.string ⟨#[]⟩] [(0,1,
  .s 0),(1,1,.s 1)])) (.cons (xr 65) (.cv (.string ⟨#[97]⟩)))) (.cons (.op (.p (.build [.int .i32 0,.string ⟨#[]⟩] [(0,1,.s 0),(1,1,.s 1)])) (.cons (xr 223) (.cv (.string
  ⟨#[115,115]⟩)))) (.op (.p (.build [.int .i32 0,.string ⟨#[]⟩] [(0,1,.s 0),(1,1,.s 1)])) (.cons (xr 69) (.cv (.string ⟨#[101]⟩)))))))))))))]) .ret))
theorem fn_guiselaw12_small:(autoPrg Tryz.prog).fn 37 = some LF_guiselaw12_small:=by kernel_rfl
end Go.Proofs.YtakmapoompffgaaGreatDoor.AM
namespace Go.Proofs.YtakmapoompffgaaGreatDoor.AM
open Go
def smallT:Tab where
  scripts:=[]
  common:=[(45,57)]
  marks:=[(769,230)]
  pairs:=[(201,69,769),(233,101,769)]
  folds:=[(65,⟨#[97]⟩),(223,⟨#[115,115]⟩),(69,⟨#[101]⟩)]
  looks:=[]
  drops:=[]
  allowed:=[(45,45),(48,57),(97,122)]
theorem small_fits:Tab.Fits smallT :=
  ⟨by decide,by decide,by decide,by decide,by decide,by decide,by decide,by decide,by decide,by decide,by decide,by decide,by decide,by decide,by decide,by decide,by decide⟩
set_option maxRecDepth 100000 in
theorem small_good:goodB smallT = true:=by decide +kernel
theorem reads_nil {h:AH} {e:Nat}:Reads h e .nil []:=⟨rfl,by simp,trivial⟩
set_option maxHeartbeats 4000000 in
theorem small12_spec (h:AH):WpC PX 37 [] h fun v h' => ∃ S,v = .agg S.vs.toArray∧TabAt h' S smallT∧Kp h h':=by
  refine wpc_fn (px_ext rfl) (px_fn fn_guiselaw12_small) rfl ?_
  unfold LF_guiselaw12_small
  simp only [argFr]
  (refine W_x trivial ?_; (repeat' first | apply Cj.mk | exact Nl.nl) <;> intros)
  simp only [Nat.add_assoc,Nat.reduceAdd]
  refine ⟨⟨.nil,.at h.n 0 1,.at (h.n + 2) 0 1,.at (h.n + 3) 0 2,.at (h.n + 4) 0 3,.nil,.nil,.at (h.n + 1) 0 3,[]⟩,rfl,
    ⟨small_fits,reads_nil,rfl,(fun z hz=>by cases hz),reads_cells (by simp (disch:=first | omega | (simp only [AH.nn_push,AH.nn_set,AH.nn_kill]; omega) | (simp only [AH.nn_push,AH.nn_set,AH.nn_kill]; done) | fail) only [AH.get_push_eq,AH.get_push_ne,AH.get_set_eq,AH.get_set_ne,AH.push_n]; rfl) rfl (by simp [smallT,pairV]),reads_cells (by simp (disch:=first | omega | (simp only [AH.nn_push,AH.nn_set,AH.nn_kill]; omega) | (simp only [AH.nn_push,AH.nn_set,AH.nn_kill]; done) | fail) only [AH.get_push_eq,AH.get_push_ne,AH.get_set_eq,AH.get_set_ne,AH.push_n]; rfl) rfl (by simp [smallT,markV]),
    reads_cells (by simp (disch:=first | omega | (simp only [AH.nn_push,AH.nn_set,AH.nn_kill]; omega) | (simp only [AH.nn_push,AH.nn_set,AH.nn_kill]; done) | fail) only [AH.get_push_eq,AH.get_push_ne,AH.get_set_eq,AH.get_set_ne,AH.push_n]; rfl) rfl (by simp [smallT,tripV]),reads_cells (by simp (disch:=first | omega | (simp only [AH.nn_push,AH.nn_set,AH.nn_kill]; omega) | (simp only [AH.nn_push,AH.nn_set,AH.nn_kill]; done) | fail) only [AH.get_push_eq,AH.get_push_ne,AH.get_set_eq,AH.get_set_ne,AH.push_n]; rfl) rfl (by simp [smallT,mapV]),reads_nil,reads_nil,reads_cells (by simp (disch:=first | omega | (simp only [AH.nn_push,AH.nn_set,AH.nn_kill]; omega) | (simp only [AH.nn_push,AH.nn_set,AH.nn_kill]; done) | fail) only [AH.get_push_eq,AH.get_push_ne,AH.get_set_eq,AH.get_set_ne,AH.push_n]; rfl) rfl (by simp [smallT,pairV])⟩, ?_⟩
  exact (((((Kp.refl h).push _).push _).push _).push _).push _
theorem of_smallT {h:AH} {S:TS} (t:TabAt h S smallT) (u:U8T h) (hg:2≤h.n):WpC PX 9 [.agg S.vs.toArray] h fun v h'=>Kp h h'∧∃ k B S,v = .tuple (List.toArray [.pointer (some ⟨k,0,none⟩),.bool true,.bool true])∧BookAt h' k B S smallT∧h.n≤B∧h.n≤k :=
  (of_spec t u hg).mono fun v h' ⟨k,q⟩=>⟨k,by rwa [if_pos small_good] at q⟩
def twinF (T:Tab) (a b:Bytes):Bool:=decide (foldB T (openB T a) = foldB T (openB T b))
theorem open_size {T:Tab} (hb:goodB T = true) (l:Bytes):(openB T l).length≤24 * l.length:=by
  have h1:=encs_lenle (openL T (runesB l))
  have h2:=(openF_len hb (runesB_rune l)).2
  have h3:(openL T (runesB l)).length = (openF T (runesB l)).length:=by unfold openL; rw [ord_length]
  have h4:=runesB_len l
  have h5:=spots_len l
  unfold openB
  omega
theorem fold_size {T:Tab} (hb:goodB T = true) (l:Bytes):(foldB T l).length≤16 * l.length:=by
  have h1:=encs_lenle (mapF T.folds (runesB l))
  have h2:=(mapF_len hb (fold_ok hb) (runesB l)).2
  have h4:=runesB_len l
  have h5:=spots_len l
  unfold foldB
  omega
theorem foldTwins_spec {h:AH} {k B:Nat} {s6:Sl} {T:Tab} (hb:goodB T = true) (bk:BkAt h k B s6 T) (s t:ByteArray) (hs:s.size≤200000) (ht:t.size≤200000) :
    WpC PX 12 [.pointer (some ⟨k,0,none⟩),.string s,.string t] h fun v h'=>v = .bool (twinF T s.data.toList t.data.toList)∧Kp h h':=by
  have z1:s.data.toList.length = s.size:=rfl
  have z2:t.data.toList.length = t.size:=rfl
  have l1:=open_size hb s.data.toList
  have l2:=open_size hb t.data.toList
  obtain ⟨_,g1,e1,rfl,k1⟩:=openOpen_spec hb bk s (by omega)
  obtain ⟨_,g2,e2,rfl,k2⟩:=foldFold_spec hb (bk.kp k1) (bs (openB T s.data.toList)) (by rw [bs_size]; omega)
  obtain ⟨_,g3,e3,rfl,k3⟩:=openOpen_spec hb ((bk.kp k1).kp k2) t (by omega)
  obtain ⟨_,g4,e4,rfl,k4⟩:=foldFold_spec hb (((bk.kp k1).kp k2).kp k3) (bs (openB T t.data.toList)) (by rw [bs_size]; omega)
  rw [bs_l] at e2 e4
  unfold twinF
  have hq:decide (bs (foldB T (openB T s.data.toList)) = bs (foldB T (openB T t.data.toList))) = decide (foldB T (openB T s.data.toList) = foldB T (openB T t.data.toList)):=decide_eq_decide.2 bs_inj
  have hqs:=str_eql (x:=bs (foldB T (openB T s.data.toList))) (y:=bs (foldB T (openB T t.data.toList)))
  rw [hq] at hqs
  generalize bs (foldB T (openB T s.data.toList)) = X at *
  generalize bs (foldB T (openB T t.data.toList)) = Y at *
  refine wpc_fn (px_ext rfl) (px_fn fn_fold_Twins) rfl ?_
  unfold LF_fold_Twins
  simp only [argFr]
  (refine W_x (Aj e1 (Aj e2 (Aj e3 (Aj e4 hqs)))) ?_; (repeat' first | apply Cj.mk | exact Nl.nl) <;> intros)
  all_goals exact ⟨by congr 1; symm; simpa using ‹_›,((k1.trans k2).trans k3).trans k4⟩
theorem known12_a:bs (foldB smallT [65,195,159,195,137]) = ⟨#[97,115,115,195,137]⟩:=by
  have:foldB smallT [65,195,159,195,137] = [97,115,115,195,137]:=by decide +kernel
  rw [this]; rfl
theorem known12_b:(mapF smallT.folds (runesB [65,195,159])).length = 3:=by decide +kernel
theorem known12_c:(if (2:Int) < 0 then none else (ofL smallT [65,195,159,195,137])[(2:Int).toNat]?) = some (1,1):=by decide +kernel
theorem known12_d:twinF smallT [195,137] [195,169] = true:=by decide +kernel
theorem known12_e:twinF smallT [97] [98] = false:=by decide +kernel
theorem known12_spec {h:AH} (u:U8T h) (hg:2≤h.n):WpC PX 10 [] h fun v h'=>v = .bool true∧Kp h h':=by
  obtain ⟨_,g,e,S,rfl,t,k⟩:=small12_spec h
  obtain ⟨_,g1,e1,k1,kk,B,S1,rfl,bk,_,_⟩:=of_smallT t (u.kp k) (Nat.le_trans hg k.1)
  obtain ⟨_,g2,e2,rfl,k2⟩:=foldOf_spec small_good bk.bk ⟨#[65,195,159,195,137]⟩ (by decide) 2 (by decide) (by decide)
  obtain ⟨_,g3,e3,rfl,k3⟩:=foldFold_spec small_good (bk.kp k2).bk ⟨#[65,195,159,195,137]⟩ (by decide)
  obtain ⟨_,g4,e4,rfl,k4⟩:=foldCount_spec small_good ((bk.kp k2).kp k3).bk ⟨#[65,195,159]⟩ (by decide)
  obtain ⟨_,g5,e5,rfl,k5⟩:=foldTwins_spec small_good (((bk.kp k2).kp k3).kp k4).bk ⟨#[195,137]⟩ ⟨#[195,169]⟩ (by decide) (by decide)
  obtain ⟨_,g6,e6,rfl,k6⟩:=foldTwins_spec small_good ((((bk.kp k2).kp k3).kp k4).kp k5).bk ⟨#[97]⟩ ⟨#[98]⟩ (by decide) (by decide)
  have q2:=known12_c
  have q3:=known12_a
  have q4:=known12_b
  have q5:=known12_d
  have q6:=known12_e
  unfold TS.vs at *
  refine wpc_fn (px_ext rfl) (px_fn fn_guiselaw12_known) rfl ?_
  unfold LF_guiselaw12_known
  simp only [argFr]
  simp only [q2,plV] at e2
  simp only [q3] at e3
  simp only [q4] at e4
  simp only [q5] at e5
  simp only [q6] at e6
  (refine W_x (Aj e (Aj e1 (Aj e2 (Aj e3 (Aj e4 (Aj e5 e6)))))) ?_; (repeat' first | apply Cj.mk | exact Nl.nl) <;> intros)
  exact ⟨rfl,k.trans (k1.trans (k2.trans (k3.trans (k4.trans (k5.trans k6)))))⟩
end Go.Proofs.YtakmapoompffgaaGreatDoor.AM
namespace Go.Proofs.YtakmapoompffgaaGreatDoor.AM
open Go
def LF_guiseref12_Rune:LFunc :=
  .mk 2 [.tmp 4] (.seq (R 2 [1,2] [.tmp 2 (xbl 2 8 (.sl 0)),.set 4 (.cv (.slice none 0 0))]) (.seq (R 8 [1,5,6] [.set 7 (xc2 47 (xld (xfa 4 (.sl 2))) (.va 1)),
  .tmp 12 (xex 0 (.sl 7)),.tmp 13 (xex 1 (.sl 7)),.set 5 (.sl 12),.set 6 (.sl 13)]) (.seq (.seq (R 14 [1,5,15] [.tmp 15 (xu .not (.va 6))]) (.cond (.s 15) (.seq (R 16 [4] [.set
  4 (.op (.e (.litH 1 1 [.int .i32 0] [(0,1,.s 0)])) (.va 1))]) .ret) .skip)) (.seq (R 18 [4] [.set 4 (.va 5)]) .ret))))
theorem fn_guiseref12_Rune:(autoPrg Tryz.prog).fn 18 = some LF_guiseref12_Rune:=by kernel_rfl
def LF_guiseref12_Pieces:LFunc :=
  .mk 2 [.tmp 4] (.seq (R 2 [1,2] [.tmp 2 (xbl 2 8 (.sl 0)),.set 4 (.cv (.slice none 0 0))]) (.seq (R 999 [1,2,5] [.set 5 (.cv (.slice none 0 0))]) (.seq (R 12 [1,2,5,6]
  [.set 6 (xc1 53 (.va 1))]) (.seq (R 999 [1,2,5,6,7] [.set 7 (xi 0)]) (.seq (.seq (R 999 [1,2,5,6,7,8] [.set 8 (xi 0)]) (.block 0 (.loop (.seq (.seq (R 14
  [1,2,5,6,7,8,17] [.tmp 17 (xb .lss (.va 8) (xlen (.va 6)))]) (.cond (.s 17) .skip (.exit 0))) (.seq (.block 1 (.seq (R 21 [1,2,5,6,7,8,10] [.set 20 (xc2
  47 (xld (xfa 4 (.sl 2))) (xld (xia 1 (.va 6) (.va 8)))),.tmp 28 (xex 0 (.sl 20)),.tmp 29 (xex 1 (.sl 20)),.set 9 (.sl 28),.set 10 (.sl 29)]) (.seq (R 30 [1,2,
  5,6,7,8,10,11] [.set 11 (xc2 54 (.va 1) (.va 7))]) (.seq (R 33 [1,2,5,6,7,8,11] [.set 5 (xap 4 48 (.va 5) (.op (.e (.litL 50 1 4 [.int .i64 0,.int .i64
  0,.slice none 0 0,.bool false] [(0,4,.s 0)])) (.op (.p (.build [.int .i64 0,.int .i64 0,.slice none 0 0,.bool false] [(0,2,.s 0),(2,1,.s 1),(3,1,.s 2)])) (.cons
  (.op (.p (.build [.int .i64 0,.int .i64 0] [(0,1,.s 0),(1,1,.s 1)])) (.cons (.va 7) (.va 8))) (.cons (xc2 18 (xln 8 (.sl 2)) (xld (xia 1 (.va 6) (.va 8))))
  (.and (xu .not (.va 11)) (xu .not (.va 10))))))))]) (.seq (R 52 [1,2,5,6,7,8,52] [.tmp 52 (.va 11)]) (.cond (.s 52) (R 53 [1,2,5,6,7,8] [.set 7 (xb .add (.va 7) (xi
  1))]) (R 55 [1,2,5,6,7,8] [.set 7 (xb .add (.va 7) (xsl (xc1 50 (.op (.p (.sl 1 (.s 0) (some (.s 1)) (some (.s 2)) none)) (.cons (.va 6) (.cons (.va 8) (xb
  .add (.va 8) (xi 1))))))))]))))))) (R 18 [1,2,5,6,7,8] [.set 8 (xb .add (.va 8) (xi 1))])))))) (.seq (R 64 [4] [.set 4 (.va 5)]) .ret))))))
theorem fn_guiseref12_Pieces:(autoPrg Tryz.prog).fn 33 = some LF_guiseref12_Pieces:=by kernel_rfl
def LF_guiseref12_Fold:LFunc :=
  .mk 2 [.tmp 4] (.seq (R 2 [1,2] [.tmp 2 (xbl 2 8 (.sl 0)),.set 4 (.cv (.string ⟨#[]⟩))]) (.seq (R 8 [5] [.set 5 (xc2 33 (xln 8 (.sl 2)) (.va 1))]) (.seq (R
  999 [5,6] [.set 6 (.cv (.slice none 0 0))]) (.seq (.seq (R 999 [5,6,7] [.set 7 (xi 0)]) (.block 0 (.loop (.seq (.seq (R 11 [5,6,7,14] [.tmp 14 (xb .lss (.va 7) (xlen (.va
  5)))]) (.cond (.s 14) .skip (.exit 0))) (.seq (.block 1 (R 17 [5,6,7] [.set 6 (xap 1 4 (.va 6) (xld (xfa 2 (xia 4 (.va 5) (.va 7)))))])) (R 15 [5,6,7] [.set 7 (xb .add (.va 7)
  (xi 1))])))))) (.seq (R 24 [4] [.set 4 (xc1 50 (.va 6))]) .ret)))))
theorem fn_guiseref12_Fold:(autoPrg Tryz.prog).fn 27 = some LF_guiseref12_Fold:=by kernel_rfl
def LF_guiseref12_First:LFunc :=
  .mk 2 [.cell 4 (some 2),.tmp 5] (.seq (R 2 [1,2,4] [.tmp 2 (xbl 2 8 (.sl 0)),.at 4,.tmp 4 (xnl 4 [.int .i64 0,.int .i64 0]),.set 5 (.cv (.bool false))]) (.seq (R 8 [4,6]
  [.set 6 (xc2 33 (xln 8 (.sl 2)) (.va 1))]) (.seq (.seq (R 999 [4,6,7] [.set 7 (xi 0)]) (.block 0 (.loop (.seq (.seq (R 11 [4,6,7,14] [.tmp 14 (xb .lss (.va
  7) (xlen (.va 6)))]) (.cond (.s 14) .skip (.exit 0))) (.seq (.block 1 (.seq (R 17 [4,6,7,22] [.tmp 22 (xu .not (xld (xfa 3 (xia 4 (.va 6) (.va 7)))))]) (.cond (.s 22) (.seq (R
  23 [4,5] [.run (xst 2 (.sl 4) (xln 2 (xfa 0 (xia 4 (.va 6) (.va 7))))),.set 5 (.cv (.bool true))]) .ret) .skip))) (R 15 [4,6,7] [.set 7 (xb .add (.va 7) (xi 1))])))))) (.seq
  (R 28 [4,5] [.run (xst 2 (.sl 4) (.op (.p (.build [.int .i64 0,.int .i64 0] [])) .nil)),.set 5 (.cv (.bool false))]) .ret))))
theorem fn_guiseref12_First:(autoPrg Tryz.prog).fn 25 = some LF_guiseref12_First:=by kernel_rfl
def LF_guiseref12_Of:LFunc :=
  .mk 2 [.tmp 4] (.seq (R 2 [1,2] [.tmp 2 (xbl 2 8 (.sl 0)),.set 4 (.cv (.slice none 0 0))]) (.seq (R 9 [5] [.set 5 (xc2 33 (xln 8 (.sl 2)) (.va 1))]) (.seq (R
  999 [5,6] [.set 6 (.cv (.slice none 0 0))]) (.seq (.seq (R 999 [5,6,7] [.set 7 (xi 0)]) (.block 0 (.loop (.seq (.seq (R 12 [5,6,7,15] [.tmp 15 (xb .lss (.va 7) (xlen (.va
  5)))]) (.cond (.s 15) .skip (.exit 0))) (.seq (.block 1 (.seq (R 999 [5,6,7,8] [.set 8 (xi 0)]) (.block 2 (.loop (.seq (.seq (R 18 [5,6,7,8,25] [.tmp 25 (xb .lss (.va 8)
  (xlen (xld (xfa 2 (xia 4 (.va 5) (.va 7))))))]) (.cond (.s 25) .skip (.exit 2))) (.seq (.block 3 (R 28 [5,6,7,8] [.set 6 (xap 2 16 (.va 6) (.op (.e (.litL 34 1 2 [.int .i64 0,
  .int .i64 0] [(0,2,.s 0)])) (xln 2 (xfa 0 (xia 4 (.va 5) (.va 7))))))])) (R 26 [5,6,7,8] [.set 8 (xb .add (.va 8) (xi 1))]))))))) (R 16 [5,6,7] [.set 7 (xb .add (.va 7) (xi
  1))])))))) (.seq (R 36 [4] [.set 4 (.va 6)]) .ret)))))
theorem fn_guiseref12_Of:(autoPrg Tryz.prog).fn 26 = some LF_guiseref12_Of:=by kernel_rfl
def LF_guiseref12_Twins:LFunc :=
  .mk 3 [.tmp 6] (.seq (R 3 [1,2,3] [.tmp 3 (xbl 3 8 (.sl 0)),.set 6 (.cv (.bool false))]) (.seq (.region [.mk (some 7) (.r (.load (some 8) (.s 3))) none,.mk (some 8) (.r (.load
  (some 8) (.s 3))) none,.mk (some 9) (.p (.mv (.s 1))) none,.mk (some 10) (.e (.call 51 [.s 8,.s 9])) none,.mk (some 11) (.e (.call 50 [.s 10]))
  none,.mk (some 12) (.e (.call 27 [.s 7,.s 11])) none,.mk (some 13) (.r (.load (some 8) (.s 3))) none,.mk (some 14) (.r (.load (some 8) (.s 3))) none,.mk
  (some 15) (.p (.mv (.s 2))) none,.mk (some 16) (.e (.call 51 [.s 14,.s 15])) none,.mk (some 17) (.e (.call 50 [.s 16])) none,.mk (some 18) (.e
  (.call 27 [.s 13,.s 17])) none,.mk (some 19) (.p (.bin .eql (.s 12) (.s 18))) none,.mk (some 6) (.p (.mv (.s 19))) none] [6] [(0,4),(0,5),(6,0),(6,4),
  (6,5),(6,10),(6,11),(7,0),(7,4),(7,5)]) .ret))
theorem fn_guiseref12_Twins:(autoPrg Tryz.prog).fn 29 = some LF_guiseref12_Twins:=by kernel_rfl
def LF_guiseref6_To:LFunc :=
  .mk 2 [.tmp 4,.tmp 5] (.seq (R 999 [0,1] [.set 4 (.cv (.slice none 0 0)),.set 5 (.cv (.bool false))]) (.seq (R 9 [0,6] [.set 6 (xc2 83 (.va 0) (.va 1))]) (.seq
  (.seq (R 12 [0,6,13] [.tmp 13 (xb .lss (.va 6) (xi 0))]) (.cond (.s 13) (.seq (R 999 [4,5] [.set 4 (.cv (.slice none 0 0)),.set 5 (.cv (.bool false))]) .ret) .skip)) (.seq (R
  15 [7] [.set 14 (xc1 84 (xld (xfa 1 (xia 2 (.va 0) (.va 6))))),.tmp 21 (xex 0 (.sl 14)),.tmp 22 (xex 1 (.sl 14)),.set 7 (.sl 21),.set 8 (.sl 22)]) (.seq (R 23
  [4,5] [.set 4 (.va 7),.set 5 (.cv (.bool true))]) .ret)))))
theorem fn_guiseref6_To:(autoPrg Tryz.prog).fn 47 = some LF_guiseref6_To:=by kernel_rfl
end Go.Proofs.YtakmapoompffgaaGreatDoor.AM
namespace Go.Proofs.YtakmapoompffgaaGreatDoor.AM
open Go
def LF_guiseref8_Bad:LFunc :=
  .mk 2 [.tmp 4] (.seq (R 999 [0,1] [.set 4 (.cv (.bool false))]) (.seq (.seq (R 7 [0,1,10] [.tmp 10 (.op (.e (.rngS 10 (.s 0))) (.op (.p (.slS (.s 0) (some (.s 1)) none)) (.cons
  (.va 0) (.va 1))))]) (.block 0 (.loop (.seq (R 11 [0,1,11,12] [.tmp 11 (.op (.e (.nxtS (.s 0))) (.sl 10)),.tmp 12 (xex 0 (.sl 11))]) (.seq (.cond (.s 12) .skip (.exit 0))
  (.block 1 (.seq (R 13 [0,1,6] [.set 6 (xex 2 (.sl 11))]) (.seq (R 14 [4] [.set 4 (.and (xb .eql (.va 6) (xr 65533)) (.or (xb .lss (xb .sub (xsl (.va 0)) (.va 1)) (xi 3)) (xb
  .neq (.op (.p (.slS (.s 0) (some (.s 1)) (some (.s 2)))) (.cons (.va 0) (.cons (.va 1) (xb .add (.va 1) (xi 3))))) (.cv (.string ⟨#[239,191,189]⟩)))))]) .ret)))))))) (.seq (R
  999 [4] [.set 4 (.cv (.bool false))]) .ret)))
theorem fn_guiseref8_Bad:(autoPrg Tryz.prog).fn 54 = some LF_guiseref8_Bad:=by kernel_rfl
def LF_guiseref9_Open:LFunc :=
  .mk 2 [.tmp 4] (.seq (R 2 [1,2] [.tmp 2 (xbl 2 8 (.sl 0)),.set 4 (.cv (.slice none 0 0))]) (.seq (R 999 [1,2,5] [.set 5 (.cv (.slice none 0 0))]) (.seq (.seq (R 8 [2,5,9]
  [.tmp 9 (.op (.e (.rngS 9 (.s 0))) (.va 1))]) (.block 0 (.loop (.seq (R 10 [2,5,9,10,11] [.tmp 10 (.op (.e (.nxtS (.s 0))) (.sl 9)),.tmp 11 (xex 0 (.sl 10))]) (.seq (.cond
  (.s 11) .skip (.exit 0)) (.block 1 (.seq (R 12 [2,5,7,9] [.set 7 (xex 2 (.sl 10))]) (R 13 [2,5,9] [.set 5 (xap 1 4 (.va 5) (xc2 86 (xln 8 (.sl 2)) (.va
  7)))])))))))) (.seq (R 18 [4] [.set 4 (xc2 87 (xln 8 (.sl 2)) (.va 5))]) .ret))))
theorem fn_guiseref9_Open:(autoPrg Tryz.prog).fn 51 = some LF_guiseref9_Open:=by kernel_rfl
end Go.Proofs.YtakmapoompffgaaGreatDoor.AM
namespace Go.Proofs.YtakmapoompffgaaGreatDoor.AM
open Go
end Go.Proofs.YtakmapoompffgaaGreatDoor.AM
