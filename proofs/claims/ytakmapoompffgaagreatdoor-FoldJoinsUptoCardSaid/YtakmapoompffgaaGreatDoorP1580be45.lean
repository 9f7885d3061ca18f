/- Parts of proofs: lemmas, joined. -/
import Derived.Test.YtakmapoompffgaaGreatDoorP7e2abceb
set_option linter.unusedVariables false
set_option linter.unusedSimpArgs false
set_option linter.unusedSectionVars false
namespace Go.Proofs.YtakmapoompffgaaGreatDoor.AM
open Go
structure Pc where
  at':Nat
  n:Nat
  to:List Nat
  same:Bool
def pcs (T:Tab) (l:Bytes):List Pc:=(List.range (spots l).length).map fun i =>
  ⟨posn l i,i,mapC T.folds ((spots l).getD i (0,0)).1, !isBad2 ((spots l).getD i (0,0)) && (fromO T.folds (((spots l).getD i (0,0)).1:Int)).isNone⟩
def PcV (x:Pc) (us:List Value) (P:Nat→Prop) (h:AH):Prop :=
  ∃ sl:Sl,us = [.agg (List.toArray [.int .i64 x.at',.int .i64 x.n,sl.val 1,.bool x.same])]∧Reads h 1 sl (x.to.map rnV)∧∀ b,sl.blk = some b→P b
theorem pcs_len (T:Tab) (l:Bytes):(pcs T l).length = (spots l).length:=by simp [pcs]
theorem pcs_get {T:Tab} {l:Bytes} {i:Nat} (hi:i < (pcs T l).length):(pcs T l)[i] = ⟨posn l i,i,mapC T.folds ((spots l)[i]'(by rw [← pcs_len T]; exact hi)).1, !isBad2 ((spots l)[i]'(by rw [← pcs_len T]; exact hi)) && (fromO T.folds (((spots l)[i]'(by rw [← pcs_len T]; exact hi)).1:Int)).isNone⟩:=by
  have h:i < (spots l).length:=by rw [← pcs_len T]; exact hi
  simp [pcs,List.getD_eq_getElem?_getD,h]
structure StD (p1 p2 k B:Nat) (s6:Sl) (T:Tab) (s:ByteArray) (h:AH):Prop where
  a:h.get p1 = some (.cells false [.pointer (some ⟨k,0,none⟩)])
  b:h.get p2 = some (.cells false [.string s])
  bk:BkAt h k B s6 T
structure StF (h:AH) (yv:Value) (s:ByteArray) (i:Nat) (P:Nat→Prop) (h1:AH):Prop where
  own:∀ b,P b→h.n≤b∧b < h1.n
  py:P h.n
  pn:P (h.n + 1)
  ps:P (h.n + 2)
  pl:P (h.n + 3)
  y:h1.get h.n = some (.cells false [yv])
  n:h1.get (h.n + 1) = some (.cells false [.int .i64 i])
  s:h1.get (h.n + 2) = some (.cells false [.string s])
theorem steps_seq {p1 p2 k B:Nat} {s6:Sl} {T:Tab} (hb:goodB T = true) (s:ByteArray) (hs:s.size≤16777216) :
    SeqR PX (.func (.func 80) #[] #[.pointer (some ⟨p1,0,none⟩),.pointer (some ⟨p2,0,none⟩)]) (pcs T s.data.toList) PcV (StD p1 p2 k B s6 T s):=by
  intro yv I E h hyv hvs cons hD h0
  have hz:s.data.toList.length = s.size:=rfl
  have hsn:=spots_len s.data.toList
  have hset:=hyv.set
  have hlc1:=hyv.lc1
  have hloc:=hyv.loc
  have hvc:=hyv.vc
  have hck:=hyv.cell
  obtain ⟨d1,d2,dk⟩:=hD _ _ _ h0
  have l1:=AH.get_lt d1
  have l2:=AH.get_lt d2
  have e1:=fun h=>spotsMk_eq s h
  refine wpV_fn ?_
  refine wpc_fn (px_ext rfl) (px_fn fn_fold_steps_1_1) rfl ?_
  unfold LF_fold_steps_1_1
  simp only [argFr,List.nil_append,List.cons_append]
  (refine W_x (Aj hset (Aj hlc1 (Aj hloc (Aj hvc (Aj hck (Aj d1 (Aj d2 e1))))))) ?_; (repeat' first | apply Cj.mk | exact Nl.nl) <;> intros)
  generalize hH0:((((h.push (.cells false [yv])).push (.cells false [.int .i64 0])).set (h.n + 1) (.cells false [.int .i64 0])).push (.cells false [.string s])) = H0
  simp only [Nat.add_assoc,Nat.reduceAdd] at hH0 ⊢
  have n0:H0.n = h.n + 3:=by rw [← hH0]; simp only [AH.push_n,AH.set_n]
  have a0:H0.get h.n = some (.cells false [yv]):=by rw [← hH0]; simp (disch:=first | omega | (simp only [AH.nn_push,AH.nn_set,AH.nn_kill]; omega) | (simp only [AH.nn_push,AH.nn_set,AH.nn_kill]; done) | fail) only [AH.get_push_eq,AH.get_push_ne,AH.get_set_eq,AH.get_set_ne]
  have a1:H0.get (h.n + 1) = some (.cells false [.int .i64 0]):=by rw [← hH0]; simp (disch:=first | omega | (simp only [AH.nn_push,AH.nn_set,AH.nn_kill]; omega) | (simp only [AH.nn_push,AH.nn_set,AH.nn_kill]; done) | fail) only [AH.get_push_eq,AH.get_push_ne,AH.get_set_eq,AH.get_set_ne]
  have a2:H0.get (h.n + 2) = some (.cells false [.string s]):=by rw [← hH0]; simp (disch:=first | omega | (simp only [AH.nn_push,AH.nn_set,AH.nn_kill]; omega) | (simp only [AH.nn_push,AH.nn_set,AH.nn_kill]; done) | fail) only [AH.get_push_eq,AH.get_push_ne,AH.get_set_eq,AH.get_set_ne]
  have ak:∀ b,b < h.n→H0.get b = h.get b:=fun b hb=>by rw [← hH0]; simp (disch:=first | omega | (simp only [AH.nn_push,AH.nn_set,AH.nn_kill]; omega) | (simp only [AH.nn_push,AH.nn_set,AH.nn_kill]; done) | fail) only [AH.get_push_eq,AH.get_push_ne,AH.get_set_eq,AH.get_set_ne]
  clear hH0
  refine wp_rangeP (xs:=spotsL s.data.toList) (enc:=spotE) (D:=fun h1=>h1.get (h.n + 2) = some (.cells false [.string s])) rfl (spots_seq s (h.n + 2) (by omega)) (fun _=>rfl)
    (fun i h1 => ∃ P,I i P h1∧StF h yv s i P h1)
    (fun ex h1=>ex = .ret∧∃ P,E P h1∧P (h.n + 3)∧∀ b,P b→h.n≤b∧b < h1.n)
    (fun y=>[(1,.pointer (some ⟨p1,0,none⟩)),(3,.pointer (some ⟨h.n,0,none⟩)),(4,.pointer (some ⟨h.n + 1,0,none⟩)),(5,.int .i64 y.1),(6,.pointer (some ⟨12,0,some 1⟩))])
    (fun y=>[(12,.cells false [.int .i32 y.2.1,.int .i64 y.2.2,.bool (isBad2 y.2)])]) ?_ ?_ ?_ ?_ ?_ ?_ ?_ ?_
  · rw [n0]
    rintro i h1 h2 ⟨P,hI,st⟩ kk
    have pf:PF P h1 h2:=⟨by rw [kk.n]; exact Nat.le_refl _,fun b hb hp=>kk.get b (fun e=>hp (by rw [e]; exact st.pl))⟩
    exact ⟨P,cons.frI _ _ _ _ _ hI pf (fun b hp=>⟨by rw [kk.n]; exact (st.own b hp).2,.inl hp⟩),fun b hp=>by rw [kk.n]; exact st.own b hp,st.py,st.pn,st.ps,st.pl,by rw [kk.get _ (by omega)]; exact st.y,by rw [kk.get _ (by omega)]; exact st.n,by rw [kk.get _ (by omega)]; exact st.s⟩
  · rw [n0]
    rintro ex h1 h2 ⟨rfl,P,hE,hp,own⟩ kk
    have pf:PF P h1 h2:=⟨by rw [kk.n]; exact Nat.le_refl _,fun b hb hp'=>kk.get b (fun e=>hp' (by rw [e]; exact hp))⟩
    exact ⟨rfl,P,cons.frE _ _ _ _ hE pf (fun b hp=>⟨by rw [kk.n]; exact (own b hp).2,.inl hp⟩),hp,fun b hp=>by rw [kk.n]; exact own b hp⟩
  · exact fun i h1 ⟨P,hI,st⟩=>st.s
  · intro y h1
    unfold spotE spotV
    simp only [List.zip_cons_cons,List.zip_nil_right,List.reverse_cons,List.reverse_nil,List.nil_append,List.cons_append,okFr_cons,okFr_nil,okV_eq,isLoc_ptr,isLoc_func,Bool.not_false,if_true]
    (refine W_x trivial ?_; (repeat' first | apply Cj.mk | exact Nl.nl) <;> intros)
    exact ⟨rfl,rfl,rfl,rfl⟩
  · intro o
    have kk:∀ b,b < h.n + 3→(H0.push o).get b = H0.get b:=fun b hb=>AH.get_push_ne _ (by omega)
    have pf:PF (fun _=>False) h (H0.push o):=⟨by rw [AH.push_n,n0]; omega,fun b hb _=>(kk b (by omega)).trans (ak b hb)⟩
    refine ⟨fun b=>h.n≤b∧b < h.n + 4,cons.frI _ _ _ _ _ h0 pf (fun b hp=>⟨by rw [AH.push_n,n0]; omega,.inr hp.1⟩),fun b hp=>⟨hp.1,by rw [AH.push_n,n0]; omega⟩,by omega,by omega,by omega,by omega,(kk _ (by omega)).trans a0,(kk _ (by omega)).trans a1,(kk _ (by omega)).trans a2⟩
  · rw [n0]
    rintro i hi h1 o ⟨P,hI,st⟩ ho
    have hil:i < (spots s.data.toList).length:=by rw [← spotsL_len]; exact hi
    have hip:i < (pcs T s.data.toList).length:=by rw [pcs_len]; exact hil
    rw [spotsL_get hi]
    have hpc:=pcs_get hip
    obtain ⟨d1,d2,dk⟩:=hD _ _ _ hI
    have hstep:=fun us P h hI hV=>cons.step i hip us P h hI hV
    rw [hpc] at hstep
    have hps:=posn_lt hil
    obtain ⟨_,h2,e2,sl,rfl,fo⟩:=bookFold_spec hb dk (spots s.data.toList)[i].1
    have lo:=AH.get_lt ho
    have ln:=AH.get_lt st.n
    have ly:=AH.get_lt st.y
    have hile:i≤16777216:=by omega
    generalize (spots s.data.toList)[i] = x at *
    generalize isBad2 x = ib at *
    dsimp only
    have st':∀ (P':Nat→Prop) (h3:AH),(∀ b,P b→P' b)→Kp h1 h3→(∀ b,P' b→h.n≤b∧b < h3.n∧(P b∨h1.n≤b))→I i P' h3∧h3.get h.n = some (.cells false [yv])∧h3.get (h.n + 1) = some (.cells false [.int .i64 i])∧h3.get (h.n + 2) = some (.cells false [.string s])∧h3.get (h.n + 3) = some o:=fun P' h3 hPP kk hP =>
      ⟨cons.frI _ _ _ _ _ hI kk.pf (fun b hp=>⟨(hP b hp).2.1,(hP b hp).2.2⟩),kk.get st.y,kk.get st.n,kk.get st.s,kk.get ho⟩
    have fin1:∀ (P':Nat→Prop) (h3 h4:AH),(∀ b,P b→P' b)→(∀ b,P' b→h.n≤b∧b < h3.n)→h3.get h.n = some (.cells false [yv])→h3.get (h.n + 2) = some (.cells false [.string s])→h3.get (h.n + 3) = some o→h3.n≤h4.n→(∀ b,P' b→h4.get b = h3.get b)→I (i + 1) P' h4 →
        (h4.set (h.n + 1) (.cells false [.int .i64 ((i:Int) + 1)])).get (h.n + 3) = some o∧∃ P,I (i + 1) P (h4.set (h.n + 1) (.cells false [.int .i64 ((i:Int) + 1)]))∧StF h yv s (i + 1) P (h4.set (h.n + 1) (.cells false [.int .i64 ((i:Int) + 1)])):=by
      intro P' h3 h4 hPP hP q0 q2 q3 hn hk hI4
      have pn:=hPP _ st.pn
      have lt:=(hP _ (hPP _ st.pl)).2
      refine ⟨by rw [AH.get_set_ne _ (by omega),hk _ (hPP _ st.pl)]; exact q3,P',cons.frI _ _ _ _ _ hI4 ⟨Nat.le_refl _,fun b hb hp=>AH.get_set_ne _ (fun e=>hp (by rw [e]; exact pn))⟩ (fun b hp=>⟨by rw [AH.set_n]; have:=(hP b hp).2; omega,.inl hp⟩),fun b hp=>⟨(hP b hp).1,by rw [AH.set_n]; have:=(hP b hp).2; omega⟩,hPP _ st.py,pn,hPP _ st.ps,hPP _ st.pl, ?_, ?_, ?_⟩
      · rw [AH.get_set_ne _ (by omega),hk _ (hPP _ st.py)]; exact q0
      · exact AH.get_set_same _ (by omega)
      · rw [AH.get_set_ne _ (by omega),hk _ (hPP _ st.ps)]; exact q2
    cases hf:fromO T.folds (x.1:Int) with
    | none =>
      rw [hf] at e2 fo hstep
      simp only [Option.isSome_none,Option.isNone_none,Bool.and_true] at e2 fo hstep
      rw [mapC_none hf] at hstep
      have kk:Kp h1 (h2.push (.cells false [.int .i32 x.1])):=fo.kp.push _
      have hn2:=fo.kp.1
      obtain ⟨hI3,q0,q1,q2,q3⟩:=st' (fun b=>P b∨b = h2.n) _ (fun b hp=>.inl hp) kk (fun b hp=>by
        rw [AH.push_n]
        rcases hp with hp | rfl
        · have:=st.own b hp; exact ⟨this.1,by omega,.inl hp⟩
        · exact ⟨by omega,by omega,.inr hn2⟩)
      have hrd:Reads (h2.push (.cells false [.int .i32 x.1])) 1 (.at h2.n 0 1) (([x.1]:List Nat).map rnV):=⟨rfl,by simp [rnV],.inr ⟨false,[],[],by rw [AH.get_push_same]; rfl,rfl⟩⟩
      have hst:=hstep _ _ _ hI3 ⟨.at h2.n 0 1,rfl,hrd,fun b hb=>.inr (by injection hb with hb; exact hb.symm)⟩
      have hP3:∀ b,(P b∨b = h2.n)→h.n≤b∧b < (h2.push (.cells false [.int .i32 x.1])).n:=fun b hp=>by
        rw [AH.push_n]
        rcases hp with hp | rfl
        · have:=st.own b hp; omega
        · omega
      have fin2:=fun h4=>fin1 (fun b=>P b∨b = h2.n) _ h4 (fun b hp=>.inl hp) hP3 q0 q2 q3
      cases ib
      all_goals
        simp only [Sl.val,Bool.not_false,Bool.not_true] at hst
        (refine W_x (Aj d1 e2) ?_; (repeat' first | apply Cj.mk | exact Nl.nl) <;> intros)
        generalize (h2.push (.cells false [.int .i32 x.1])) = h3 at *
        (refine W_x (Aj q0 (Aj q1 (Aj hset (Aj hlc1 hloc)))) ?_; (repeat' first | apply Cj.mk | exact Nl.nl) <;> intros)
        refine wo_callV (fv:=yv) rfl rfl rfl ?_
        refine hst.mono ?_
        rintro v h4 ⟨(⟨rfl,hI4⟩ | ⟨rfl,hE⟩),hn4,hk4⟩
        · have q1':=(hk4 _ (.inl st.pn)).trans q1
          have ln4:=AH.get_lt q1'
          (refine W_x q1' ?_; (repeat' first | apply Cj.mk | exact Nl.nl) <;> intros)
          exact fin2 h4 hn4 hk4 hI4
        · (refine W_x trivial ?_; (repeat' first | apply Cj.mk | exact Nl.nl) <;> intros)
          exact ⟨(hk4 _ (.inl st.pl)).trans q3,rfl,_,hE,.inl st.pl,fun b hp=>⟨(hP3 b hp).1,Nat.lt_of_lt_of_le (hP3 b hp).2 hn4⟩⟩
    | some j =>
      rw [hf] at e2 fo hstep
      simp only [Option.isSome_some,Option.isNone_some,Bool.and_false,if_true] at e2 fo hstep
      have hn2:=fo.kp.1
      have hnew:=fo.new
      have hlt:=fun b=>fo.own.lt (b:=b)
      obtain ⟨hI3,q0,q1,q2,q3⟩:=st' (fun b=>P b∨sl.blk = some b) _ (fun b hp=>.inl hp) fo.kp (fun b hp=>by
        rcases hp with hp | hp
        · have:=st.own b hp; exact ⟨this.1,by omega,.inl hp⟩
        · exact ⟨by have:=hnew b hp; omega,hlt b hp,.inr (hnew b hp)⟩)
      have hst:=hstep _ _ _ hI3 ⟨sl,rfl,fo.reads,fun b hb=>.inr hb⟩
      have hP3:∀ b,(P b∨sl.blk = some b)→h.n≤b∧b < h2.n:=fun b hp=>by
        rcases hp with hp | hp
        · have:=st.own b hp; omega
        · have h1:=hnew b hp; have h2:=hlt b hp; omega
      have fin2:=fun h4=>fin1 (fun b=>P b∨sl.blk = some b) _ h4 (fun b hp=>.inl hp) hP3 q0 q2 q3
      cases ib
      all_goals
        (refine W_x (Aj d1 (Aj e2 (Aj q0 (Aj q1 (Aj hset (Aj hlc1 hloc)))))) ?_; (repeat' first | apply Cj.mk | exact Nl.nl) <;> intros)
        refine wo_callV (fv:=yv) rfl rfl rfl ?_
        refine hst.mono ?_
        rintro v h4 ⟨(⟨rfl,hI4⟩ | ⟨rfl,hE⟩),hn4,hk4⟩
        · have q1':=(hk4 _ (.inl st.pn)).trans q1
          have ln4:=AH.get_lt q1'
          (refine W_x q1' ?_; (repeat' first | apply Cj.mk | exact Nl.nl) <;> intros)
          exact fin2 h4 hn4 hk4 hI4
        · (refine W_x trivial ?_; (repeat' first | apply Cj.mk | exact Nl.nl) <;> intros)
          exact ⟨(hk4 _ (.inl st.pl)).trans q3,rfl,_,hE,.inl st.pl,fun b hp=>⟨(hP3 b hp).1,Nat.lt_of_lt_of_le (hP3 b hp).2 hn4⟩⟩
  · rintro h1 ⟨P,hI,st⟩
    rw [spotsL_len,← pcs_len T] at hI
    (refine W_x trivial ?_; (repeat' first | apply Cj.mk | exact Nl.nl) <;> intros)
    exact ⟨P,.inl hI⟩
  · rintro ex h1 hne ⟨rfl,P,hE,_⟩
    (refine W_x trivial ?_; (repeat' first | apply Cj.mk | exact Nl.nl) <;> intros)
    exact ⟨P,.inr hE⟩
end Go.Proofs.YtakmapoompffgaaGreatDoor.AM
namespace Go.Proofs.YtakmapoompffgaaGreatDoor.AM
open Go
theorem r2s_reads {h:AH} {lc:Lc} {s:Sl} {B:List Nat} (r:Reads h 1 s (B.map rnV)) (h0:B≠[]) (hB:∀ c∈B,RuneN c):r2sP ⟨lc,h⟩ (s.val 1) = some (.string (bs (encs B))):=by
  have hl:=r.1
  rw [List.length_map] at hl
  have hpos:0 < B.length:=List.length_pos_iff.2 h0
  cases s with
  | nil=>simp only [Sl.len] at hl; omega
  | «at» b o n =>
    simp only [Sl.len] at hl
    subst hl
    have hr:=rdSlice_reads (lc:=lc) r
    simp only [Sl.val,rdSlice] at hr
    rw [if_neg (by omega),Nat.mul_one] at hr
    simp only [r2sP,ROp.ev,opd,Sl.val,hr,runesOf_map,Option.map_some]
    congr 2
    apply ba_ext
    rw [encAll_nat _ _ hB,bs_l]
    simp
theorem steps_eq (q:Value) (h:AH) (hq:∃ o,q = .pointer o∧∀ a,o = some a→∃ k,a = ⟨k,0,none⟩):callO PX 43 [q] h = some (.func (.func 79) #[] #[.pointer (some ⟨h.n,0,none⟩)],h.push (.cells false [q])):=by
  obtain ⟨o,rfl,ho⟩:=hq
  apply WpC.eqn
  cases o with
  | none =>
    refine wpc_fn (px_ext rfl) (px_fn fn_fold_steps) rfl ?_
    unfold LF_fold_steps
    simp only [argFr]
    (refine W_x trivial ?_; (repeat' first | apply Cj.mk | exact Nl.nl) <;> intros)
    exact ⟨rfl,rfl⟩
  | some a =>
    obtain ⟨k,rfl⟩:=ho a rfl
    refine wpc_fn (px_ext rfl) (px_fn fn_fold_steps) rfl ?_
    unfold LF_fold_steps
    simp only [argFr]
    (refine W_x trivial ?_; (repeat' first | apply Cj.mk | exact Nl.nl) <;> intros)
    exact ⟨rfl,rfl⟩
theorem steps1_eq (s:ByteArray) (b:Nat) (h:AH):callO PX 79 [.string s,.pointer (some ⟨b,0,none⟩)] h = some (.func (.func 80) #[] #[.pointer (some ⟨b,0,none⟩),.pointer (some ⟨h.n,0,none⟩)],h.push (.cells false [.string s])):=by
  apply WpC.eqn
  refine wpc_fn (px_ext rfl) (px_fn fn_fold_steps_1) rfl ?_
  unfold LF_fold_steps_1
  simp only [argFr]
  (refine W_x trivial ?_; (repeat' first | apply Cj.mk | exact Nl.nl) <;> intros)
  exact ⟨rfl,rfl⟩
def foldB (T:Tab) (l:Bytes):Bytes:=encs (mapF T.folds (runesB l))
theorem pcs_take {T:Tab} {l:Bytes} {i:Nat} (hi:i < (spots l).length):mapF T.folds ((runesB l).take (i + 1)) = mapF T.folds ((runesB l).take i) ++ mapC T.folds (spots l)[i].1:=by
  rw [runesB_take hi,mapF_append]
  simp [mapF]
def cellsU:List Value→List Value
  | [.agg cs]=>cs.toList
  | _=>[]
theorem BldAt.keep {h h':AH} {b:Nat} {g:Option Nat} {X:Bytes} (bd:BldAt h b g X) (hk:∀ c,c = b∨g = some c→h'.get c = h.get c):BldAt h' b g X:=by
  obtain ⟨⟨p,hp,hor⟩,hu,hne⟩:=bd
  refine ⟨⟨p,(hk b (.inl rfl)).trans hp,hor⟩, ?_,hne⟩
  cases g with
  | none=>exact hu
  | some g=>exact ⟨hu.1,(hk g (.inr rfl)).trans hu.2⟩
theorem BldAt.glt {h:AH} {b:Nat} {g:Option Nat} {X:Bytes} (bd:BldAt h b g X) {x:Nat} (hx:g = some x):x < h.n:=by
  subst hx
  exact AH.get_lt bd.u.2
theorem foldFold_spec {h:AH} {k B:Nat} {s6:Sl} {T:Tab} (hb:goodB T = true) (bk:BkAt h k B s6 T) (s:ByteArray) (hs:s.size≤16777216) :
    WpC PX 14 [.pointer (some ⟨k,0,none⟩),.string s] h fun v h'=>v = .string (bs (foldB T s.data.toList))∧Kp h h':=by
  have hz:s.data.toList.length = s.size:=rfl
  have hsn:=spots_len s.data.toList
  have hen:=fun i=>encs_lenle (mapF T.folds ((runesB s.data.toList).take i))
  have hml:=fun i=>(mapF_len hb (fold_ok hb) ((runesB s.data.toList).take i)).2
  have hbd:∀ i,(encs (mapF T.folds ((runesB s.data.toList).take i))).length≤268435456:=fun i=>by
    have h1:=hen i
    have h2:=hml i
    have h3:=runesB_len s.data.toList
    rw [List.length_take] at h2
    omega
  have e1:=fun h=>steps_eq (.pointer (some ⟨k,0,none⟩)) h ⟨_,rfl,fun a ha=>by injection ha with ha; exact ⟨k,ha.symm⟩⟩
  have e2:=steps1_eq s
  refine wpc_fn (px_ext rfl) (px_fn fn_fold_Fold) rfl ?_
  unfold LF_fold_Fold
  simp only [argFr]
  (refine W_x (Aj e1 e2) ?_; (repeat' first | apply Cj.mk | exact Nl.nl) <;> intros)
  generalize hH0:(((h.push (.tc 173 [.pointer none,.slice none 0 0])).push (.cells false [.pointer (some ⟨k,0,none⟩)])).push (.cells false [.string s])) = H0
  simp only [Nat.add_assoc,Nat.reduceAdd,AH.push_n] at hH0 ⊢
  have n0:H0.n = h.n + 3:=by rw [← hH0]; simp only [AH.push_n,AH.set_n]
  have a0:H0.get h.n = some (.tc 173 [.pointer none,.slice none 0 0]):=by rw [← hH0]; simp (disch:=first | omega | (simp only [AH.nn_push,AH.nn_set,AH.nn_kill]; omega) | (simp only [AH.nn_push,AH.nn_set,AH.nn_kill]; done) | fail) only [AH.get_push_eq,AH.get_push_ne,AH.get_set_eq,AH.get_set_ne,AH.push_n]
  have a1:H0.get (h.n + 1) = some (.cells false [.pointer (some ⟨k,0,none⟩)]):=by rw [← hH0]; simp (disch:=first | omega | (simp only [AH.nn_push,AH.nn_set,AH.nn_kill]; omega) | (simp only [AH.nn_push,AH.nn_set,AH.nn_kill]; done) | fail) only [AH.get_push_eq,AH.get_push_ne,AH.get_set_eq,AH.get_set_ne,AH.push_n]
  have a2:H0.get (h.n + 2) = some (.cells false [.string s]):=by rw [← hH0]; simp (disch:=first | omega | (simp only [AH.nn_push,AH.nn_set,AH.nn_kill]; omega) | (simp only [AH.nn_push,AH.nn_set,AH.nn_kill]; done) | fail) only [AH.get_push_eq,AH.get_push_ne,AH.get_set_eq,AH.get_set_ne,AH.push_n]
  have ak:∀ b,b < h.n→H0.get b = h.get b:=fun b hb=>by rw [← hH0]; simp (disch:=first | omega | (simp only [AH.nn_push,AH.nn_set,AH.nn_kill]; omega) | (simp only [AH.nn_push,AH.nn_set,AH.nn_kill]; done) | fail) only [AH.get_push_eq,AH.get_push_ne,AH.get_set_eq,AH.get_set_ne,AH.push_n]
  clear hH0
  refine wp_rangeR (V:=PcV) (xs:=pcs T s.data.toList) (D:=StD (h.n + 1) (h.n + 2) k B s6 T s) rfl (steps_seq hb s hs) (fun x us P h1 ⟨sl,e,_⟩=>by rw [e]; rfl)
    (fun x us P h1 o ⟨sl,e,r,hp⟩ hP=>⟨sl,e,r.setNe o fun b hb=>by have:=hP b (hp b hb); omega,hp⟩)
    (fun i P h1=>h.n + 3 < h1.n + 1∧(∀ b,b < h.n + 3→b≠h.n→h1.get b = H0.get b)∧∃ g,BldAt h1 h.n g (encs (mapF T.folds ((runesB s.data.toList).take i)))∧∀ x,g = some x→h.n + 3 < x ∧ ¬ P x)
    (fun _ _ _=>False)
    (fun us=>[(5,.pointer (some ⟨h.n,0,none⟩)),(6,.pointer (some ⟨12,0,some 1⟩))]) (fun us=>[(12,.cells false (cellsU us))]) ?_ ?_ ?_ ?_ ?_ ?_ ?_ ?_
  · rw [n0]
    rintro i P P' h1 h2 ⟨f0,f1,g,bd,fg⟩ hP fm hP'
    have hn:=fm.n
    have hbn:=AH.get_lt bd.p.choose_spec.1
    have kk:∀ b,b < h1.n→(b < h.n + 3∨g = some b)→h2.get b = h1.get b:=fun b hb hor=>by
      refine fm.keep b hb (fun hp=>?_) ?_
      · rcases hor with q | q
        · have:=hP b hp; omega
        · exact (fg b q).2 hp
      · rcases hor with q | q
        · omega
        · have:=(fg b q).1; omega
    refine ⟨by omega,fun b hb hne=>(kk b (by omega) (.inl hb)).trans (f1 b hb hne),g,bd.keep fun c hc=>?_,fun x hx=>⟨(fg x hx).1,fun hp=>?_⟩⟩
    · rcases hc with rfl | hc
      · exact kk _ hbn (.inl (by omega))
      · exact kk _ (bd.glt hc) (.inr hc)
    · rcases (hP' x hp).2.2 with q | q
      · exact (fg x hx).2 q
      · have:=bd.glt hx; omega
  · exact fun _ _ _ _ _ q _ _ _=>q
  · rintro i P h1 ⟨f0,f1,_⟩
    exact ⟨(f1 _ (by omega) (by omega)).trans a1,(f1 _ (by omega) (by omega)).trans a2,bk.kp ⟨by omega,fun b hb=>(f1 b (by omega) (by omega)).trans (ak b hb)⟩⟩
  · rintro x us P h1 ⟨sl,rfl,r,hp⟩
    simp only [List.zip_cons_cons,List.zip_nil_right,List.reverse_cons,List.reverse_nil,List.nil_append,List.cons_append,okFr_cons,okFr_nil,okV_eq,isLoc_ptr,isLoc_func,Bool.not_false,if_true,cellsU]
    (refine W_x trivial ?_; (repeat' first | apply Cj.mk | exact Nl.nl) <;> intros)
    exact ⟨rfl,rfl,rfl,rfl⟩
  · exact ⟨by omega,fun _ _ _=>rfl,none,⟨⟨_,a0,.inl rfl⟩,rfl,fun e=>by cases e⟩,fun x hx=>by cases hx⟩
  · rw [n0]
    rintro i hi us P h1 o ⟨f0,f1,g,bd,fg⟩ ⟨sl,rfl,r,hp⟩ hP hlt ho
    have hil:i < (spots s.data.toList).length:=by rw [← pcs_len T]; exact hi
    have hpt:=pcs_take (T:=T) hil
    have hr:=mapC_rune hb (fold_ok hb) (runesB_rune s.data.toList (spots s.data.toList)[i].1 (List.mem_map.2 ⟨_,List.getElem_mem hil,rfl⟩))
    have hl:=mapC_len hb (fold_ok hb) (spots s.data.toList)[i].1
    rw [pcs_get hi] at r ⊢
    have b1:=hbd i
    generalize (spots s.data.toList)[i] = x at *
    simp only at r ⊢
    generalize mapC T.folds x.1 = to at *
    generalize (!isBad2 x && (fromO T.folds (x.1:Int)).isNone) = sm at *
    have hto:to≠[]:=fun e=>by rw [e] at hl; simp at hl
    have e3:=fun lc=>r2s_reads (lc:=lc) r hto hr
    have hel:=encs_lenle to
    obtain ⟨_,h2,e4,g',bd',fr⟩:=writeString_spec (s:=bs (encs to)) bd (by rw [bs_size]; omega)
    rw [bs_l,← encs_append,← hpt] at bd'
    have hn:=fr.n
    have gk:∀ c,c < h1.n→c≠h.n→g≠some c→h2.get c = h1.get c:=fr.keep
    have lo:=AH.get_lt ho
    unfold cellsU
    generalize bs (encs to) = tx at *
    (refine W_x (Aj e3 e4) ?_; (repeat' first | apply Cj.mk | exact Nl.nl) <;> intros)
    refine ⟨(gk _ lo (by omega) (fun e=>by have:=(fg _ e).1; omega)).trans ho,hn,fun b hp=>gk b (hP b hp).2 (by have:=hP b hp; omega) (fun e=>(fg b e).2 hp),by omega,fun b hb hne=>(gk b (by omega) hne (fun e=>by have:=(fg _ e).1; omega)).trans (f1 b hb hne),g',bd',fun y hy=>?_⟩
    rcases fr.new with q | ⟨z,q,hz⟩
    · rw [q] at hy; exact fg y hy
    · rw [q] at hy
      injection hy with hy
      subst hy
      exact ⟨by omega,fun hp=>by have:=(hP _ hp).2; omega⟩
  · rintro P h1 ⟨f0,f1,g,bd,fg⟩ hP hlt
    have hall:(encs (mapF T.folds ((runesB s.data.toList).take (pcs T s.data.toList).length))) = foldB T s.data.toList:=by
      rw [pcs_len,← runesB_len,List.take_length]; rfl
    have b1:=hbd (pcs T s.data.toList).length
    rw [hall] at bd b1
    have e5:=bldString_spec bd (by omega)
    (refine W_x e5 ?_; (repeat' first | apply Cj.mk | exact Nl.nl) <;> intros)
    refine ⟨rfl,by rw [killO_n]; omega,fun b hb=>?_⟩
    rw [killO_get (fun e=>by have:=(fg b e).1; omega),f1 b (by omega) (by omega)]
    exact ak b hb
  · exact fun _ _ _ _ q=>q.elim
end Go.Proofs.YtakmapoompffgaaGreatDoor.AM
namespace Go.Proofs.YtakmapoompffgaaGreatDoor.AM
open Go
def LF_fold_Count:LFunc :=
  .mk 2 [.tmp 4] (.seq (R 999 [0,1,4] [.set 4 (xi 0)]) (.seq (R 5 [0,1,4,5] [.tmp 5 (xnh [.int .i64 0]),.run (xst 1 (.sl 5) (xi 0))]) (.seq (.seq (R 7 [4,5,10] [.tmp 10 (xv1
  (xc1 43 (.va 0)) (.va 1))]) (.block 0 (.rangeF (.s 10) [11] (R 6 [5,6] [.tmp 6 (xnl 6 [.int .i64 0,.int .i64 0,.slice none 0 0,.bool false]),.run (xst 4 (.sl 6)
  (.sl 11))]) (.block 1 (R 12 [] [.run (xst 1 (.sl 5) (xb .add (xld (.sl 5)) (xlen (xld (xfa 2 (.sl 6))))))]))))) (.seq (R 17 [4] [.set 4 (xld (.sl 5))]) .ret))))
theorem fn_fold_Count:(autoPrg Tryz.prog).fn 28 = some LF_fold_Count:=by kernel_rfl
def LF_fold_Of:LFunc :=
  .mk 3 [.cell 6 (some 2),.cell 7 none] (.seq (R 5 [0,1,5,6,7] [.tmp 5 (xbh 1 (.sl 2)),.tmp 6 (xnh [.int .i64 0,.int .i64 0]),.tmp 7 (xnh [.bool false])]) (.seq (.seq (R 9
  [0,1,5,6,7,10] [.tmp 10 (xb .lss (xld (.sl 5)) (xi 0))]) (.cond (.s 10) (.seq (R 11 [6,7] [.run (xst 2 (.sl 6) (.op (.p (.build [.int .i64 0,.int .i64 0] [])) .nil)),.run
  (xst 1 (.sl 7) (.cv (.bool false)))]) .ret) .skip)) (.seq (.seq (R 12 [5,6,7,15] [.tmp 15 (xv1 (xc1 43 (.va 0)) (.va 1))]) (.block 0 (.rangeF (.s 15) [16] (R 8 [5,
  6,7,8] [.tmp 8 (xnl 8 [.int .i64 0,.int .i64 0,.slice none 0 0,.bool false]),.run (xst 4 (.sl 8) (.sl 16))]) (.block 1 (.seq (.seq (R 17 [5,6,7,8,21] [.tmp 21 (xb .lss
  (xld (.sl 5)) (xlen (xld (xfa 2 (.sl 8)))))]) (.cond (.s 21) (.seq (R 22 [] [.run (xst 2 (.sl 6) (xln 2 (xfa 0 (.sl 8)))),.run (xst 1 (.sl 7) (.cv (.bool true)))]) .ret) .skip))
  (R 24 [] [.run (xst 1 (.sl 5) (xb .sub (xld (.sl 5)) (xlen (xld (xfa 2 (.sl 8))))))])))))) (.seq (R 29 [6,7] [.run (xst 2 (.sl 6) (.op (.p (.build [.int .i64 0,.int .i64 0] []))
  .nil)),.run (xst 1 (.sl 7) (.cv (.bool false)))]) .ret))))
theorem fn_fold_Of:(autoPrg Tryz.prog).fn 31 = some LF_fold_Of:=by kernel_rfl
def LF_fold_Pieces:LFunc :=
  .mk 2 [.tmp 4] (.seq (R 2 [2,3] [.tmp 2 (xbh 1 (.sl 0)),.tmp 3 (xbh 1 (.sl 1)),.set 4 (.cv .nilFunc)]) (.seq (R 5 [4] [.set 4 (.op (.p (.mkfn (.func 52) [] [.s
  0,.s 1])) (.cons (.sl 2) (.sl 3)))]) .ret))
theorem fn_fold_Pieces:(autoPrg Tryz.prog).fn 32 = some LF_fold_Pieces:=by kernel_rfl
def LF_fold_Pieces_1:LFunc :=
  .mk 3 [] (.seq (R 3 [1,2,3] [.tmp 3 (xbh 1 (.sl 0))]) (.seq (.region [.mk (some 5) (.r (.load none (.s 1))) none,.mk (some 6) (.e (.call 43 [.s 5])) none,.mk (some
  7) (.r (.load none (.s 2))) none,.mk (some 8) (.e (.callv (.s 6) [.s 7])) none] [3,8] [(2,0)]) (.block 0 (.rangeF (.s 8) [9] (R 4 [3,4] [.tmp 4 (xnl 4 [.int .i64 0,.int .i64
  0,.slice none 0 0,.bool false]),.run (xst 4 (.sl 4) (.sl 9))]) (.block 1 (.seq (R 10 [17] [.tmp 17 (xu .not (xv2 (xld (.sl 3)) (xln 2 (xfa 0 (.sl 4))) (.op (.r (.r2s (.s 0)))
  (xld (xfa 2 (.sl 4))))))]) (.cond (.s 17) .ret .skip)))))))
theorem fn_fold_Pieces_1:(autoPrg Tryz.prog).fn 52 = some LF_fold_Pieces_1:=by kernel_rfl
def LF_fold_Twins:LFunc :=
  .mk 3 [.tmp 6] (.seq (R 999 [0,1,2] [.set 6 (.cv (.bool false))]) (.seq (R 7 [6] [.set 6 (.and (.op (.p (.eqk true .ptr (.s 0) (.s 1))) (.cons (.va 0) (.cv (.pointer none))))
  (xb .eql (xc2 14 (.va 0) (xc2 13 (.va 0) (.va 1))) (xc2 14 (.va 0) (xc2 13 (.va 0) (.va 2)))))]) .ret))
theorem fn_fold_Twins:(autoPrg Tryz.prog).fn 12 = some LF_fold_Twins:=by kernel_rfl
end Go.Proofs.YtakmapoompffgaaGreatDoor.AM
namespace Go.Proofs.YtakmapoompffgaaGreatDoor.AM
open Go
section
variable {p:Prg} {lc:Lc} {h:AH} {H:Value→Lc→AH→Prop}
theorem wo_appO {e by':Nat} {s:Sl} {y:Value} {xss yss:List (List Value)} {k:Nat} (o:Own h e s xss) (hk:lenV y = some k) (hy:rdSlice ⟨lc,h⟩ e y = some yss.flatten)
    (hyl:yss.length = k) (hye:∀ x∈yss,x.length = e) (k0:0 < k) (he:0 < e) (hb:0 < by') (hn:(xss.length + k) * by'≤140737488355328)
    (hq:∀ s' h',Own h' e s' (xss ++ yss)→s'.blk = some h.n→h'.n = h.n + 1→(∀ b,b < h.n→s.blk≠some b→h'.get b = h.get b)→H (s'.val e) lc h'):WpO p (.e (.append e by' (.s 0) (.s 1))) [s.val e,y] lc h H:=by
  obtain ⟨s',h',h1,h2,h3,h4,h5⟩:=own_append o hk hy hyl hye k0 he hb hn
  exact wo_e (by simp only [EOp.ev,opd_s,fg0,fg1,h1]) (hq s' h' h2 h3 h4 h5)
theorem wo_app1O {e by' b:Nat} {s:Sl} {xss:List (List Value)} {cs:List Value} (o:Own h e s xss) (hl:lget lc b = some (.cells false cs)) (hc:cs.length = e) (he:0 < e) (hb:0 < by') (hn:(xss.length + 1) * by'≤140737488355328)
    (hq:∀ s' h',Own h' e s' (xss ++ [cs])→s'.blk = some h.n→h'.n = h.n + 1→(∀ b,b < h.n→s.blk≠some b→h'.get b = h.get b)→H (s'.val e) lc h'):WpO p (.e (.append e by' (.s 0) (.s 1))) [s.val e,.slice (some ⟨b,0,some 1⟩) 1 e] lc h H:=by
  refine wo_appO (yss:=[cs]) (k:=1) o rfl ?_ rfl (fun x hx=>by rw [List.mem_singleton.1 hx]; exact hc) (by decide) he hb hn hq
  simp only [rdSlice,Nat.one_ne_zero,if_false,Nat.one_mul,rd_loc,hl,List.flatten_cons,List.flatten_nil,List.append_nil]
  rw [if_pos (by omega),List.drop_zero,← hc,List.take_length]
end
end Go.Proofs.YtakmapoompffgaaGreatDoor.AM
namespace Go.Proofs.YtakmapoompffgaaGreatDoor.AM
open Go
def LF_open_Rune:LFunc :=
  .mk 2 [.tmp 4] (.seq (R 2 [1,2] [.tmp 2 (xbh 1 (.sl 0)),.set 4 (.cv (.slice none 0 0))]) (.seq (.seq (R 7 [1,2,8] [.tmp 8 (.op (.p (.eqk false .ptr (.s 0) (.s 1))) (.cons (xld
  (.sl 2)) (.cv (.pointer none))))]) (.cond (.s 8) (.seq (R 999 [4] [.set 4 (.cv (.slice none 0 0))]) .ret) .skip)) (.seq (R 5 [1,2,5] [.tmp 5 (xnh [.slice none 0 0])]) (.seq (R 6
  [1,2,5,6] [.tmp 6 (xnh [.nilFunc])]) (.seq (R 9 [1,5,6] [.run (xst 1 (.sl 6) (.op (.p (.mkfn (.func 73) [] [.s 0,.s 1,.s 2])) (.cons (.sl 2) (.cons (.sl 5)
  (.sl 6)))))]) (.seq (R 10 [5] [.tmp 12 (xv1 (xld (.sl 6)) (.va 1))]) (.seq (R 13 [4] [.set 4 (xld (.sl 5))]) .ret)))))))
theorem fn_open_Rune:(autoPrg Tryz.prog).fn 41 = some LF_open_Rune:=by kernel_rfl
def LF_open_Rune_1:LFunc :=
  .mk 4 [] (.seq (R 9 [0,2,3,5,6,7] [.set 8 (xc2 74 (xld (.sl 1)) (.va 0)),.tmp 12 (xex 0 (.sl 8)),.tmp 13 (xex 1 (.sl 8)),.tmp 14 (xex 2 (.sl 8)),.set
  5 (.sl 12),.set 6 (.sl 13),.set 7 (.sl 14)]) (.seq (.seq (R 15 [0,2,3,5,6,16] [.tmp 16 (xu .not (.va 7))]) (.cond (.s 16) (.seq (R 17 [] [.run (xst 1 (.sl 2) (xap 1 4 (xld
  (.sl 2)) (.op (.e (.litL 19 1 1 [.int .i32 0] [(0,1,.s 0)])) (.va 0))))]) .ret) .skip)) (.seq (R 21 [2,6] [.tmp 23 (xv1 (xld (.sl 3)) (.va 5))]) (R 24 [] [.run (xst 1 (.sl 2)
  (xap 1 4 (xld (.sl 2)) (.op (.e (.litL 26 1 1 [.int .i32 0] [(0,1,.s 0)])) (.va 6))))]))))
theorem fn_open_Rune_1:(autoPrg Tryz.prog).fn 73 = some LF_open_Rune_1:=by kernel_rfl
def LF_open_Open:LFunc :=
  .mk 2 [.tmp 4] (.seq (R 999 [0,1] [.set 4 (.cv (.string ⟨#[]⟩))]) (.seq (.seq (R 8 [0,1,9] [.tmp 9 (.op (.p (.eqk false .ptr (.s 0) (.s 1))) (.cons (.va 0) (.cv (.pointer
  none))))]) (.cond (.s 9) (.seq (R 999 [4] [.set 4 (.cv (.string ⟨#[]⟩))]) .ret) .skip)) (.seq (R 999 [0,1,5] [.set 5 (.cv (.slice none 0 0))]) (.seq (.seq (R 10 [0,5,11] [.tmp
  11 (.op (.e (.rngS 11 (.s 0))) (.va 1))]) (.block 0 (.loop (.seq (R 12 [0,5,11,12,13] [.tmp 12 (.op (.e (.nxtS (.s 0))) (.sl 11)),.tmp 13 (xex 0 (.sl 12))]) (.seq (.cond (.s
  13) .skip (.exit 0)) (.block 1 (.seq (R 14 [0,5,7,11] [.set 7 (xex 2 (.sl 12))]) (R 15 [0,5,11] [.set 5 (xap 1 4 (.va 5) (xc2 41 (.va 0) (.va 7)))])))))))) (.seq
  (R 20 [4] [.set 4 (xc2 42 (.va 0) (.op (.r (.r2s (.s 0))) (.va 5)))]) .ret)))))
theorem fn_open_Open:(autoPrg Tryz.prog).fn 13 = some LF_open_Open:=by kernel_rfl
def LF_tables_Book_Pair:LFunc :=
  .mk 2 [.tmp 4,.tmp 5,.tmp 6] (.seq (R 999 [0,1] [.set 4 (xr 0),.set 5 (xr 0),.set 6 (.cv (.bool false))]) (.seq (R 9 [6,7] [.set 8 (.op (.r (.lookup (.one .int) (.agg
  (Array.mk [.int .i32 0,.int .i32 0])) true (.s 0) (.s 1))) (.cons (xld (xfa 9 (xnk (.va 0)))) (.va 1))),.tmp 15 (xex 0 (.sl 8)),.tmp 16 (xex 1 (.sl 8)),.at 7,.tmp 7 (xnl 7
  [.int .i32 0,.int .i32 0]),.run (xst 2 (.sl 7) (.sl 15)),.set 6 (.sl 16)]) (.seq (R 17 [4,5,6] [.tmp 18 (xld (.op (.p (.iaddrA 2 1 (.s 0) (.s 1))) (.cons (.sl 7) (xi 0)))),
  .tmp 20 (xld (.op (.p (.iaddrA 2 1 (.s 0) (.s 1))) (.cons (.sl 7) (xi 1)))),.tmp 21 (.va 6),.set 4 (.sl 18),.set 5 (.sl 20),.set 6 (.sl 21)]) .ret)))
theorem fn_tables_Book_Pair:(autoPrg Tryz.prog).fn 74 = some LF_tables_Book_Pair:=by kernel_rfl
end Go.Proofs.YtakmapoompffgaaGreatDoor.AM
namespace Go.Proofs.YtakmapoompffgaaGreatDoor.AM
open Go
def prV:Option (Int × Int)→Value
  | some (b,m)=>.tuple (List.toArray [.int .i32 b,.int .i32 m,.bool true])
  | none=>.tuple (List.toArray [.int .i32 0,.int .i32 0,.bool false])
theorem bookPair_eq {h:AH} {k B:Nat} {s6:Sl} {T:Tab} (bk:BkAt h k B s6 T) (r:Int):callO PX 74 [.pointer (some ⟨k,0,none⟩),.int .i32 r] h = some (prV (pairI T r),h):=by
  obtain ⟨x0,x1,x2,x3,x4,x5,x7,hb⟩:=bk.b
  have m2:=m_whole bk.mp r
  unfold pairI
  cases hw:wholeO T r with
  | none =>
    rw [hw] at m2
    simp only [Option.map_none,Option.getD_none,Option.isSome_none] at m2
    simp only [Option.map_none,prV]
    apply WpC.eqn
    refine wpc_fn (px_ext rfl) (px_fn fn_tables_Book_Pair) rfl ?_
    unfold LF_tables_Book_Pair
    simp only [argFr]
    (refine W_x (Aj hb m2) ?_; (repeat' first | apply Cj.mk | exact Nl.nl) <;> intros)
    exact ⟨rfl,rfl⟩
  | some j =>
    rw [hw] at m2
    simp only [Option.map_some,Option.getD_some,Option.isSome_some] at m2
    unfold rowP kP at m2
    rw [Option.map_some]
    generalize (T.pairs.getD j (0,0,0)).2 = x at m2 ⊢
    obtain ⟨a,c⟩:=x
    simp only [prV] at m2 ⊢
    apply WpC.eqn
    refine wpc_fn (px_ext rfl) (px_fn fn_tables_Book_Pair) rfl ?_
    unfold LF_tables_Book_Pair
    simp only [argFr]
    (refine W_x (Aj hb m2) ?_; (repeat' first | apply Cj.mk | exact Nl.nl) <;> intros)
    exact ⟨rfl,rfl⟩
abbrev rI (c:Int):List Value:=[.int .i32 c]
def apF (h:AH):Value:=.func (.func 73) #[] #[.pointer (some ⟨h.n,0,none⟩),.pointer (some ⟨h.n + 1,0,none⟩),.pointer (some ⟨h.n + 2,0,none⟩)]
structure ApI (h:AH) (k:Nat) (g:AH) (s:Sl) (D:List (List Value)):Prop where
  kp:Kp h g
  n:h.n + 3≤g.n
  b0:g.get h.n = some (.cells false [.pointer (some ⟨k,0,none⟩)])
  b1:g.get (h.n + 1) = some (.cells false [s.val 1])
  b2:g.get (h.n + 2) = some (.cells false [apF h])
  own:Own g 1 s D
  new:∀ b,s.blk = some b→h.n + 3≤b
theorem ApI.put {h g g':AH} {k:Nat} {s s':Sl} {D D':List (List Value)} (i:ApI h k g s D) (o:Own g' 1 s' D') (hb:s'.blk = some g.n) (hn:g'.n = g.n + 1) (hk:∀ b,b < g.n→s.blk≠some b→g'.get b = g.get b) :
    ApI h k (g'.set (h.n + 1) (.cells false [s'.val 1])) s' D':=by
  have hn3:=i.n
  have hs:∀ b,b < h.n + 3→g'.get b = g.get b:=fun b hb=>hk b (by omega) fun e=>by have:=i.new b e; omega
  refine ⟨⟨by have:=i.kp.1; rw [AH.set_n]; omega,fun b hb=>?_⟩,by rw [AH.set_n]; omega, ?_,AH.get_set_same _ (by omega), ?_,o.same fun b hb2=>?_,fun b hb2=>?_⟩
  · rw [AH.get_set_ne _ (by omega),hs b (by omega),i.kp.2 b hb]
  · rw [AH.get_set_ne _ (by omega),hs _ (by omega)]; exact i.b0
  · rw [AH.get_set_ne _ (by omega),hs _ (by omega)]; exact i.b2
  · rw [hb] at hb2; injection hb2 with hb2; exact AH.get_set_ne _ (by omega)
  · rw [hb] at hb2; injection hb2 with hb2; omega
theorem apart_spec {h:AH} {k B:Nat} {s6:Sl} {T:Tab} (bk:BkAt h k B s6 T) {r:Int} {L:List Int} (op:Op T r L):∀ (g:AH) (s:Sl) (D:List (List Value)),ApI h k g s D→D.length + L.length≤1000000 →
    WpC PX 73 [.int .i32 r,.pointer (some ⟨h.n,0,none⟩),.pointer (some ⟨h.n + 1,0,none⟩),.pointer (some ⟨h.n + 2,0,none⟩)] g fun _ g' => ∃ s',ApI h k g' s' (D ++ L.map rI):=by
  induction op with
  | @one r hp =>
    intro g s D i hD
    have e1:=bookPair_eq (bk.kp i.kp) r
    rw [hp] at e1
    simp only [prV] at e1
    have q0:=i.b0
    have q1:=i.b1
    refine wpc_fn (px_ext rfl) (px_fn fn_open_Rune_1) rfl ?_
    unfold LF_open_Rune_1
    simp only [argFr]
    (refine W_x (Aj e1 (Aj q0 q1)) ?_; (repeat' first | apply Cj.mk | exact Nl.nl) <;> intros)
    refine wo_app1O (cs:=rI r) i.own rfl rfl (by decide) (by decide) (by simp at hD; omega) fun s' g' o hb hn hk=>?_
    have i2:=i.put o hb hn hk
    have hg1:g'.get (h.n + 1) = some (.cells false [s.val 1]):=(hk _ (by have:=i.n; omega) fun e=>by have:=i.new _ e; omega).trans i.b1
    (refine W_x hg1 ?_; (repeat' first | apply Cj.mk | exact Nl.nl) <;> intros)
    exact ⟨s',i2⟩
  | @more r b m L hp _ ih =>
    intro g s D i hD
    rw [List.length_append,List.length_singleton] at hD
    have e1:=bookPair_eq (bk.kp i.kp) r
    rw [hp] at e1
    simp only [prV] at e1
    have q0:=i.b0
    have q2:=i.b2
    unfold apF at q2
    obtain ⟨v,g1,e2,s1,i1⟩:=ih g s D i (by omega)
    have p1:=i1.b1
    refine wpc_fn (px_ext rfl) (px_fn fn_open_Rune_1) rfl ?_
    unfold LF_open_Rune_1
    simp only [argFr]
    (refine W_x (Aj e1 (Aj e2 (Aj q0 (Aj q2 p1)))) ?_; (repeat' first | apply Cj.mk | exact Nl.nl) <;> intros)
    refine wo_app1O (cs:=rI m) i1.own rfl rfl (by decide) (by decide) (by rw [List.length_append,List.length_map]; omega) fun s' g' o hb hn hk=>?_
    have i2:=i1.put o hb hn hk
    have hg1:g'.get (h.n + 1) = some (.cells false [s1.val 1]):=(hk _ (by have:=i1.n; omega) fun e=>by have:=i1.new _ e; omega).trans i1.b1
    (refine W_x hg1 ?_; (repeat' first | apply Cj.mk | exact Nl.nl) <;> intros)
    refine ⟨s', ?_⟩
    rw [List.map_append,← List.append_assoc]
    exact i2
theorem openRune_spec {h:AH} {k B:Nat} {s6:Sl} {T:Tab} (gd:goodB T = true) (bk:BkAt h k B s6 T) (r:Int):WpC PX 41 [.pointer (some ⟨k,0,none⟩),.int .i32 r] h fun v h' => ∃ sl,v = sl.val 1∧FOwn h h' 1 sl ((opI T 5 r).map rI):=by
  have hop:=op_all gd r
  have hl:=op_len (T:=T) 5 r
  have i0:ApI h k ((((h.push (.cells false [.pointer (some ⟨k,0,none⟩)])).push (.cells false [.slice none 0 0])).push (.cells false [.nilFunc])).set (h.n + 2) (.cells false [apF h])) .nil []:=by
    refine ⟨(((Kp.refl h).push _).push _ |>.push _).setNew _ (by omega),Nat.le_refl _, ?_, ?_, ?_,⟨rfl,by simp,trivial⟩,fun b hb=>by cases hb⟩
    · simp (disch:=first | omega | (simp only [AH.nn_push,AH.nn_set,AH.nn_kill]; omega) | (simp only [AH.nn_push,AH.nn_set,AH.nn_kill]; done) | fail) only [AH.get_push_eq,AH.get_push_ne,AH.get_set_eq,AH.get_set_ne,AH.push_n]
    · rw [AH.get_set_ne _ (by omega),AH.get_push_ne _ (by simp only [AH.push_n]; omega)]
      exact AH.get_push_same (h.push _) _
    · exact AH.get_set_same _ (by simp only [AH.push_n]; omega)
  obtain ⟨v,g,e,s',i1⟩:=apart_spec bk (op_all gd r) _ _ _ i0 (by simp only [List.length_nil]; omega)
  have q1:=i1.b1
  have na:=Nat.add_assoc
  have vf:∀ f a b,vcells (.func f a b) = [.func f a b]:=fun _ _ _=>rfl
  unfold apF at e
  refine wpc_fn (px_ext rfl) (px_fn fn_open_Rune) rfl ?_
  unfold LF_open_Rune
  simp only [argFr]
  (refine W_x (Aj na (Aj vf (Aj e q1))) ?_; (repeat' first | apply Cj.mk | exact Nl.nl) <;> intros)
  exact ⟨s',rfl,i1.own,i1.kp,fun b hb=>by have:=i1.new b hb; omega⟩
theorem FOwn.later {h0 h h':AH} {e:Nat} {s:Sl} {xss:List (List Value)} (f:FOwn h0 h e s xss) (k:Kp h h'):FOwn h0 h' e s xss:=⟨f.own.keep fun b hb=>k.2 b (f.own.lt hb),f.kp.trans k,f.new⟩
end Go.Proofs.YtakmapoompffgaaGreatDoor.AM
namespace Go.Proofs.YtakmapoompffgaaGreatDoor.AM
open Go
theorem rI_rnV {T:Tab} (gd:goodB T = true) {c:Nat} (hc:RuneN c):(opI T 5 (c:Int)).map rI = (opN T c).map rnV:=by
  rw [← (opN_cast gd hc).1,List.map_map]
  rfl
theorem openF_snoc {T:Tab} {B:List Nat} {i:Nat} (hi:i < B.length):openF T (B.take (i + 1)) = openF T (B.take i) ++ opN T B[i]:=by
  rw [take_snoc hi,openF_append]
  simp [openF]
theorem openF_take_len {T:Tab} (gd:goodB T = true) {B:List Nat} (hB:∀ c∈B,RuneN c) (i:Nat):(openF T (B.take i)).length≤6 * B.length:=by
  have:=(openF_len gd (B:=B.take i) fun c hc=>hB c (List.mem_of_mem_take hc)).2
  rw [List.length_take] at this
  omega
theorem openOpen_spec {h:AH} {k B:Nat} {s6:Sl} {T:Tab} (gd:goodB T = true) (bk:BkAt h k B s6 T) (s:ByteArray) (hs:s.size≤1048576):WpC PX 13 [.pointer (some ⟨k,0,none⟩),.string s] h fun v h'=>v = .string (bs (openB T s.data.toList))∧Kp h h':=by
  have hz:s.data.toList.length = s.size:=rfl
  have hn:=spots_len s.data.toList
  have hrl:=runesB_len s.data.toList
  have hrr:=runesB_rune s.data.toList
  refine wpc_fn (px_ext rfl) (px_fn fn_open_Open) rfl ?_
  unfold LF_open_Open
  simp only [argFr]
  (refine W_x @ev_rngS ?_; (repeat' first | apply Cj.mk | exact Nl.nl) <;> intros)
  refine wp_spotsS (fun i sl=>[(0,.pointer (some ⟨k,0,none⟩)),(5,sl.val 1),(11,.pointer (some ⟨22,0,some 1⟩))]) (fun n _=>[(22,.siter s n)]) s s.data.toList (fun i sl h'=>FOwn h h' 1 sl ((openF T ((runesB s.data.toList).take i)).map rnV)) (fun _ _=>(none:Option Unit)) Sl.nil rfl (by repeat' first | exact True.intro | refine And.intro rfl ?_) (fun _ _=>rfl) rfl (by simpa [openF] using FOwn.nil (Kp.refl h))
    (fun i hi sl h1 fo hit=>?_) fun sl h1 fo fin=>?_
  · (refine W_x trivial ?_; (repeat' first | apply Cj.mk | exact Nl.nl) <;> intros)
    refine wo_next rfl rfl hi ?_
    have hi2:i < (runesB s.data.toList).length:=by omega
    have hx:=runesB_get hi
    have hr:=hrr _ (List.getElem_mem hi2)
    have hsn:=openF_snoc (T:=T) hi2
    have hle:=openF_take_len gd hrr i
    rw [hx] at hr hsn
    generalize (spots s.data.toList)[i] = x at hr hsn
    obtain ⟨_,g,e,s2,rfl,f2⟩:=openRune_spec gd (bk.kp fo.kp) (x.1:Nat)
    rw [rI_rnV gd hr] at f2
    obtain ⟨b0,ms,q1,_,_,_,q5,_⟩:=opN_facts gd hr
    (refine W_x e ?_; (repeat' first | apply Cj.mk | exact Nl.nl) <;> intros)
    refine wo_appL (fo.later f2.kp) f2.reads (by decide) (by decide) (by rw [List.length_map,List.length_map,q1,List.length_cons]; omega) fun s3 h3 f3=>?_
    (refine W_x trivial ?_; (repeat' first | apply Cj.mk | exact Nl.nl) <;> intros)
    refine ⟨rfl,s3,(by repeat' first | exact True.intro | refine And.intro rfl ?_),rfl, ?_⟩
    rw [hsn,List.map_append]
    exact f3
  · (refine W_x trivial ?_; (repeat' first | apply Cj.mk | exact Nl.nl) <;> intros)
    refine wo_nextE rfl rfl ?_
    rw [← hrl,List.take_length] at fo
    have hF:=openF_all gd hrr
    have hl:=openF_len gd hrr
    have hg:=fun lc=>r2s_own (lc:=lc) fo.own fun x hx=>(hF x hx).1
    have hsz:=encs_lenle (openF T (runesB s.data.toList))
    obtain ⟨_,g2,e2,rfl,k2⟩:=marksOrder_spec (bk.kp fo.kp) (bs (encs (openF T (runesB s.data.toList)))) (by rw [bs_size]; omega)
    rw [bs_l,orderB_encs T fun x hx=>(hF x hx).1] at e2
    (refine W_x (Aj hg e2) ?_; (repeat' first | apply Cj.mk | exact Nl.nl) <;> intros)
    exact ⟨rfl,fo.kp.trans k2⟩
end Go.Proofs.YtakmapoompffgaaGreatDoor.AM
namespace Go.Proofs.YtakmapoompffgaaGreatDoor.AM
open Go
def pcU (x:Pc) (sl:Sl):List Value:=[.agg (List.toArray [.int .i64 x.at',.int .i64 x.n,sl.val 1,.bool x.same])]
theorem wp_pieces {fr:Fr} {lc:Lc} {Q:Post} {fo:Opd} {q:Nat} {assign body:LCode} {k B:Nat} {s6:Sl} {T:Tab} (hb:goodB T = true) (s:ByteArray) (hs:s.size≤16777216) {p1 p2:Nat} {H0:AH}
    (hf:opd fr fo = .func (.func 80) #[] #[.pointer (some ⟨p1,0,none⟩),.pointer (some ⟨p2,0,none⟩)])
    (J:Nat→AH→Prop) (K:Ex→AH→Prop) (A:Fr) (L:List Value→Lc)
    (stJ:∀ i h1 h2,J i h1→(∀ b,b < H0.n→h2.get b = h1.get b)→J i h2) (stK:∀ ex h1 h2,K ex h1→(∀ b,b < H0.n→h2.get b = h1.get b)→K ex h2)
    (hD:∀ i h1,J i h1→H0.n≤h1.n→StD p1 p2 k B s6 T s h1)
    (asg:∀ x sl h1,Wp PX assign (([q].zip (pcU x sl)).reverse ++ okFr fr) [] h1 fun ex fr1 lc1 h2=>ex = .norm∧h2 = h1∧fr1 = A∧lc1 = L (pcU x sl))
    (init:J 0 H0)
    (step:∀ (i:Nat) (hi:i < (pcs T s.data.toList).length) sl h1,J i h1→H0.n < h1.n→Reads h1 1 sl ((pcs T s.data.toList)[i].to.map rnV) →
      Wp PX body A (L (pcU (pcs T s.data.toList)[i] sl)) h1 fun ex _ _ h3=>h1.n≤h3.n∧(∀ b,H0.n≤b→b < h1.n→h3.get b = h1.get b)∧match ex with
        | .norm=>J (i + 1) h3
        | ex=>K ex h3)
    (fin:∀ h1,J (spots s.data.toList).length h1→H0.n≤h1.n→Q .norm fr lc h1)
    (early:∀ ex h1,ex ≠ .norm→K ex h1→H0.n≤h1.n→Q ex fr lc h1):Wp PX (.rangeF fo [q] assign body) fr lc H0 Q:=by
  refine wp_rangeR (V:=PcV) (xs:=pcs T s.data.toList) (D:=StD p1 p2 k B s6 T s) hf (steps_seq hb s hs) (fun x us P h1 ⟨sl,e,_⟩=>by rw [e]; rfl)
    (fun x us P h1 o ⟨sl,e,r,hp⟩ hP=>⟨sl,e,r.setNe o fun b hb=>by have:=hP b (hp b hb); omega,hp⟩)
    (fun i P h1=>J i h1∧H0.n≤h1.n) (fun ex P h1=>K ex h1∧H0.n≤h1.n) (fun _=>A) L ?_ ?_ ?_ ?_ ?_ ?_ ?_ ?_
  · rintro i P P' h1 h2 ⟨f0,f1⟩ hP fm _
    exact ⟨stJ i h1 h2 f0 fun b hb=>fm.keep b (by omega) (fun hp=>by have:=hP b hp; omega) (by omega),Nat.le_trans f1 fm.n⟩
  · rintro ex P P' h1 h2 ⟨f0,f1⟩ hP fm _
    exact ⟨stK ex h1 h2 f0 fun b hb=>fm.keep b (by omega) (fun hp=>by have:=hP b hp; omega) (by omega),Nat.le_trans f1 fm.n⟩
  · exact fun i P h1 f=>hD i h1 f.1 f.2
  · rintro x us P h1 ⟨sl,rfl,_⟩
    exact asg x sl h1
  · exact ⟨init,Nat.le_refl _⟩
  · rintro i hi us P h1 o ⟨f0,f1⟩ ⟨sl,rfl,r,hp⟩ hP hlt ho
    refine wp_mono (step i hi sl h1 f0 hlt r) fun ex fr' lc' h3 hq=>?_
    obtain ⟨q1,q2,q3⟩:=hq
    refine ⟨(q2 _ (Nat.le_refl _) hlt).trans ho,q1,fun b hb=>q2 b (by have:=hP b hb; omega) (hP b hb).2, ?_⟩
    cases ex with
    | norm=>exact ⟨q3,by omega⟩
    | ret=>exact ⟨q3,by omega⟩
    | exit j=>exact ⟨q3,by omega⟩
  · rintro P h1 ⟨f0,f1⟩ _ hlt
    rw [pcs_len] at f0
    exact fin h1 f0 f1
  · rintro ex P h1 hne ⟨f0,f1⟩ _ hlt
    exact early ex h1 hne f0 f1
theorem foldCount_spec {h:AH} {k B:Nat} {s6:Sl} {T:Tab} (hb:goodB T = true) (bk:BkAt h k B s6 T) (s:ByteArray) (hs:s.size≤16777216) :
    WpC PX 28 [.pointer (some ⟨k,0,none⟩),.string s] h fun v h'=>v = .int .i64 (mapF T.folds (runesB s.data.toList)).length∧Kp h h':=by
  have hz:s.data.toList.length = s.size:=rfl
  have hsn:=spots_len s.data.toList
  have e1:=fun h=>steps_eq (.pointer (some ⟨k,0,none⟩)) h ⟨_,rfl,fun a ha=>by injection ha with ha; exact ⟨k,ha.symm⟩⟩
  have e2:=steps1_eq s
  have hbd:∀ i,(mapF T.folds ((runesB s.data.toList).take i)).length≤67108864:=fun i=>by
    have h2:=(mapF_len hb (fold_ok hb) ((runesB s.data.toList).take i)).2
    have h3:=runesB_len s.data.toList
    rw [List.length_take] at h2
    omega
  refine wpc_fn (px_ext rfl) (px_fn fn_fold_Count) rfl ?_
  unfold LF_fold_Count
  simp only [argFr]
  (refine W_x (Aj e1 e2) ?_; (repeat' first | apply Cj.mk | exact Nl.nl) <;> intros)
  generalize hH0:((((h.push (.cells false [.int .i64 0])).set h.n (.cells false [.int .i64 0])).push (.cells false [.pointer (some ⟨k,0,none⟩)])).push (.cells false [.string s])) = H0
  simp only [Nat.add_assoc,Nat.reduceAdd,AH.push_n,AH.set_n] at hH0 ⊢
  have n0:H0.n = h.n + 3:=by rw [← hH0]; simp only [AH.push_n,AH.set_n]
  have a0:H0.get h.n = some (.cells false [.int .i64 0]):=by rw [← hH0]; simp (disch:=first | omega | (simp only [AH.nn_push,AH.nn_set,AH.nn_kill]; omega) | (simp only [AH.nn_push,AH.nn_set,AH.nn_kill]; done) | fail) only [AH.get_push_eq,AH.get_push_ne,AH.get_set_eq,AH.get_set_ne,AH.push_n,AH.set_n]
  have a1:H0.get (h.n + 1) = some (.cells false [.pointer (some ⟨k,0,none⟩)]):=by rw [← hH0]; simp (disch:=first | omega | (simp only [AH.nn_push,AH.nn_set,AH.nn_kill]; omega) | (simp only [AH.nn_push,AH.nn_set,AH.nn_kill]; done) | fail) only [AH.get_push_eq,AH.get_push_ne,AH.get_set_eq,AH.get_set_ne,AH.push_n,AH.set_n]
  have a2:H0.get (h.n + 2) = some (.cells false [.string s]):=by rw [← hH0]; simp (disch:=first | omega | (simp only [AH.nn_push,AH.nn_set,AH.nn_kill]; omega) | (simp only [AH.nn_push,AH.nn_set,AH.nn_kill]; done) | fail) only [AH.get_push_eq,AH.get_push_ne,AH.get_set_eq,AH.get_set_ne,AH.push_n,AH.set_n]
  have ak:∀ b,b < h.n→H0.get b = h.get b:=fun b hb=>by rw [← hH0]; simp (disch:=first | omega | (simp only [AH.nn_push,AH.nn_set,AH.nn_kill]; omega) | (simp only [AH.nn_push,AH.nn_set,AH.nn_kill]; done) | fail) only [AH.get_push_eq,AH.get_push_ne,AH.get_set_eq,AH.get_set_ne,AH.push_n,AH.set_n]
  clear hH0
  refine wp_pieces hb s hs (p1:=h.n + 1) (p2:=h.n + 2) (k:=k) (B:=B) (s6:=s6) rfl
    (fun i h1=>(∀ b,b < h.n + 3→b≠h.n→h1.get b = H0.get b)∧h1.get h.n = some (.cells false [.int .i64 (mapF T.folds ((runesB s.data.toList).take i)).length])) (fun _ _=>False)
    [(5,.pointer (some ⟨h.n,0,none⟩)),(6,.pointer (some ⟨12,0,some 1⟩))] (fun us=>[(12,.cells false (cellsU us))]) ?_ ?_ ?_ ?_ ?_ ?_ ?_ ?_
  · rintro i h1 h2 ⟨f0,f1⟩ kk
    exact ⟨fun b hb hne=>(kk b (by omega)).trans (f0 b hb hne),(kk _ (by omega)).trans f1⟩
  · exact fun _ _ _ q _=>q
  · rintro i h1 ⟨f0,f1⟩ hn
    exact ⟨(f0 _ (by omega) (by omega)).trans a1,(f0 _ (by omega) (by omega)).trans a2,bk.kp ⟨by omega,fun b hb=>(f0 b (by omega) (by omega)).trans (ak b hb)⟩⟩
  · intro x sl h1
    unfold pcU cellsU
    simp only [List.zip_cons_cons,List.zip_nil_right,List.reverse_cons,List.reverse_nil,List.nil_append,List.cons_append,okFr_cons,okFr_nil,okV_eq,isLoc_ptr,isLoc_func,Bool.not_false,if_true]
    (refine W_x trivial ?_; (repeat' first | apply Cj.mk | exact Nl.nl) <;> intros)
    exact ⟨rfl,rfl,rfl,rfl⟩
  · exact ⟨fun _ _ _=>rfl,by rw [a0]; rfl⟩
  · rintro i hi sl h1 ⟨f0,f1⟩ hlt r
    have hil:i < (spots s.data.toList).length:=by rw [← pcs_len T]; exact hi
    have hpt:=pcs_take (T:=T) hil
    have b1:=hbd i
    have b2:=hbd (i + 1)
    have sll:=r.1
    rw [List.length_map] at sll
    rw [pcs_get hi] at r sll ⊢
    rw [hpt] at b2
    rw [hpt,List.length_append]
    rw [List.length_append] at b2
    generalize (spots s.data.toList)[i] = x at *
    simp only at r sll ⊢
    generalize mapC T.folds x.1 = to at *
    generalize (!isBad2 x && (fromO T.folds (x.1:Int)).isNone) = sm at *
    unfold pcU cellsU
    (refine W_x (Aj f1 sll) ?_; (repeat' first | apply Cj.mk | exact Nl.nl) <;> intros)
    exact ⟨Nat.le_refl _,fun b hb _=>AH.get_set_ne _ (by omega),fun b hb hne=>by rw [AH.get_set_ne _ hne]; exact f0 b hb hne,AH.get_set_same _ (by omega)⟩
  · rintro h1 ⟨f0,f1⟩ hn
    rw [← runesB_len,List.take_length] at f1
    (refine W_x f1 ?_; (repeat' first | apply Cj.mk | exact Nl.nl) <;> intros)
    exact ⟨rfl,by omega,fun b hb=>(f0 b (by omega) (by omega)).trans (ak b hb)⟩
  · exact fun _ _ _ q _=>q.elim
end Go.Proofs.YtakmapoompffgaaGreatDoor.AM
namespace Go.Proofs.YtakmapoompffgaaGreatDoor.AM
open Go
def ofL (T:Tab) (l:Bytes):List (Nat × Nat):=(pcs T l).flatMap fun x=>List.replicate x.to.length (x.at',x.n)
theorem flat_at {α β:Type} (f:α→List β) {L:List α} {i:Nat} (hi:i < L.length) (r:Nat) (hr:r < (f L[i]).length):(L.flatMap f)[((L.take i).flatMap f).length + r]? = (f L[i])[r]?:=by
  have e:L = L.take i ++ L[i] :: L.drop (i + 1):=by rw [List.getElem_cons_drop,List.take_append_drop]
  have h2:L.flatMap f = (L.take i).flatMap f ++ (f L[i] ++ (L.drop (i + 1)).flatMap f):=by
    conv=>lhs; rw [e]
    rw [List.flatMap_append,List.flatMap_cons]
  rw [h2,List.getElem?_append_right (by omega),Nat.add_sub_cancel_left,List.getElem?_append_left hr]
theorem pcs_pre (T:Tab) (l:Bytes):∀ i,i≤(spots l).length→(((pcs T l).take i).flatMap fun x=>List.replicate x.to.length (x.at',x.n)).length = (mapF T.folds ((runesB l).take i)).length
  | 0,_=>by simp [mapF]
  | i + 1,hi=>by
    have h1:i < (pcs T l).length:=by rw [pcs_len]; omega
    rw [take_snoc h1,List.flatMap_append,List.length_append,pcs_pre T l i (by omega),pcs_take (show i < (spots l).length by omega),List.length_append,pcs_get h1]
    simp
theorem ofL_len (T:Tab) (l:Bytes):(ofL T l).length = (mapF T.folds (runesB l)).length:=by
  have:=pcs_pre T l (spots l).length (Nat.le_refl _)
  rw [← pcs_len T,List.take_length,pcs_len,← runesB_len,List.take_length] at this
  exact this
theorem ofL_get {T:Tab} {l:Bytes} {i:Nat} (hi:i < (spots l).length) {r:Nat} (hr:r < (mapC T.folds (spots l)[i].1).length):(ofL T l)[(mapF T.folds ((runesB l).take i)).length + r]? = some (posn l i,i):=by
  have h1:i < (pcs T l).length:=by rw [pcs_len]; exact hi
  have hg:=pcs_get h1
  have:=flat_at (fun x:Pc=>List.replicate x.to.length (x.at',x.n)) h1 r (by rw [hg]; simpa using hr)
  rw [pcs_pre T l i (by omega),hg] at this
  unfold ofL
  rw [this]
  simp [hr]
theorem foldOf_spec {h:AH} {k B:Nat} {s6:Sl} {T:Tab} (hb:goodB T = true) (bk:BkAt h k B s6 T) (s:ByteArray) (hs:s.size≤16777216) (n:Int) (hn1 : -9223372036854775808≤n) (hn2:n < 9223372036854775808) :
    WpC PX 31 [.pointer (some ⟨k,0,none⟩),.string s,.int .i64 n] h fun v h'=>v = plV (if n < 0 then none else (ofL T s.data.toList)[n.toNat]?)∧Kp h h':=by
  have hz:s.data.toList.length = s.size:=rfl
  have hsn:=spots_len s.data.toList
  have e1:=fun h=>steps_eq (.pointer (some ⟨k,0,none⟩)) h ⟨_,rfl,fun a ha=>by injection ha with ha; exact ⟨k,ha.symm⟩⟩
  have e2:=steps1_eq s
  by_cases hneg:n < 0
  · rw [if_pos hneg]
    refine wpc_fn (px_ext rfl) (px_fn fn_fold_Of) rfl ?_
    unfold LF_fold_Of
    simp only [argFr]
    (refine W_x trivial ?_; (repeat' first | apply Cj.mk | exact Nl.nl) <;> intros)
    exact ⟨rfl,((((Kp.refl h).push _).push _).push _ |>.setNew _ (by omega)).setNew _ (by omega)⟩
  rw [if_neg hneg]
  obtain ⟨m,hm⟩:∃ m:Nat,n = m:=⟨n.toNat,by omega⟩
  subst hm
  rw [show ((m:Nat):Int).toNat = m from rfl]
  refine wpc_fn (px_ext rfl) (px_fn fn_fold_Of) rfl ?_
  unfold LF_fold_Of
  simp only [argFr]
  (refine W_x (Aj e1 e2) ?_; (repeat' first | apply Cj.mk | exact Nl.nl) <;> intros)
  generalize hH0:(((((h.push (.cells false [.int .i64 m])).push (.cells false [.int .i64 0,.int .i64 0])).push (.cells false [.bool false])).push (.cells false [.pointer (some ⟨k,0,none⟩)])).push (.cells false [.string s])) = H0
  simp only [Nat.add_assoc,Nat.reduceAdd,AH.push_n,AH.set_n] at hH0 ⊢
  have n0:H0.n = h.n + 5:=by rw [← hH0]; simp only [AH.push_n,AH.set_n]
  have an:H0.get h.n = some (.cells false [.int .i64 m]):=by rw [← hH0]; simp (disch:=first | omega | (simp only [AH.nn_push,AH.nn_set,AH.nn_kill]; omega) | (simp only [AH.nn_push,AH.nn_set,AH.nn_kill]; done) | fail) only [AH.get_push_eq,AH.get_push_ne,AH.get_set_eq,AH.get_set_ne,AH.push_n,AH.set_n]
  have a0:H0.get (h.n + 1) = some (.cells false [.int .i64 0,.int .i64 0]):=by rw [← hH0]; simp (disch:=first | omega | (simp only [AH.nn_push,AH.nn_set,AH.nn_kill]; omega) | (simp only [AH.nn_push,AH.nn_set,AH.nn_kill]; done) | fail) only [AH.get_push_eq,AH.get_push_ne,AH.get_set_eq,AH.get_set_ne,AH.push_n,AH.set_n]
  have a1:H0.get (h.n + 2) = some (.cells false [.bool false]):=by rw [← hH0]; simp (disch:=first | omega | (simp only [AH.nn_push,AH.nn_set,AH.nn_kill]; omega) | (simp only [AH.nn_push,AH.nn_set,AH.nn_kill]; done) | fail) only [AH.get_push_eq,AH.get_push_ne,AH.get_set_eq,AH.get_set_ne,AH.push_n,AH.set_n]
  have a2:H0.get (h.n + 3) = some (.cells false [.pointer (some ⟨k,0,none⟩)]):=by rw [← hH0]; simp (disch:=first | omega | (simp only [AH.nn_push,AH.nn_set,AH.nn_kill]; omega) | (simp only [AH.nn_push,AH.nn_set,AH.nn_kill]; done) | fail) only [AH.get_push_eq,AH.get_push_ne,AH.get_set_eq,AH.get_set_ne,AH.push_n,AH.set_n]
  have a3:H0.get (h.n + 4) = some (.cells false [.string s]):=by rw [← hH0]; simp (disch:=first | omega | (simp only [AH.nn_push,AH.nn_set,AH.nn_kill]; omega) | (simp only [AH.nn_push,AH.nn_set,AH.nn_kill]; done) | fail) only [AH.get_push_eq,AH.get_push_ne,AH.get_set_eq,AH.get_set_ne,AH.push_n,AH.set_n]
  have ak:∀ b,b < h.n→H0.get b = h.get b:=fun b hb=>by rw [← hH0]; simp (disch:=first | omega | (simp only [AH.nn_push,AH.nn_set,AH.nn_kill]; omega) | (simp only [AH.nn_push,AH.nn_set,AH.nn_kill]; done) | fail) only [AH.get_push_eq,AH.get_push_ne,AH.get_set_eq,AH.get_set_ne,AH.push_n,AH.set_n]
  clear hH0
  refine wp_pieces hb s hs (p1:=h.n + 3) (p2:=h.n + 4) (k:=k) (B:=B) (s6:=s6) rfl
    (fun i h1=>(∀ b,b < h.n + 5→b≠h.n→h1.get b = H0.get b)∧(mapF T.folds ((runesB s.data.toList).take i)).length≤m∧h1.get h.n = some (.cells false [.int .i64 ((m:Int) - (mapF T.folds ((runesB s.data.toList).take i)).length)]))
    (fun ex h1=>ex = .ret∧(∀ b,b < h.n→h1.get b = h.get b)∧∃ a b:Nat,(ofL T s.data.toList)[m]? = some (a,b)∧h1.get (h.n + 1) = some (.cells false [.int .i64 a,.int .i64 b])∧h1.get (h.n + 2) = some (.cells false [.bool true]))
    [(5,.pointer (some ⟨h.n,0,none⟩)),(6,.pointer (some ⟨h.n + 1,0,none⟩)),(7,.pointer (some ⟨h.n + 2,0,none⟩)),(8,.pointer (some ⟨16,0,some 1⟩))] (fun us=>[(16,.cells false (cellsU us))]) ?_ ?_ ?_ ?_ ?_ ?_ ?_ ?_
  · rintro i h1 h2 ⟨f0,f1,f2⟩ kk
    exact ⟨fun b hb hne=>(kk b (by omega)).trans (f0 b hb hne),f1,(kk _ (by omega)).trans f2⟩
  · rintro ex h1 h2 ⟨rfl,f0,a,b,q,f1,f2⟩ kk
    exact ⟨rfl,fun b hb=>(kk b (by omega)).trans (f0 b hb),a,b,q,(kk _ (by omega)).trans f1,(kk _ (by omega)).trans f2⟩
  · rintro i h1 ⟨f0,f1,f2⟩ hn
    exact ⟨(f0 _ (by omega) (by omega)).trans a2,(f0 _ (by omega) (by omega)).trans a3,bk.kp ⟨by omega,fun b hb=>(f0 b (by omega) (by omega)).trans (ak b hb)⟩⟩
  · intro x sl h1
    unfold pcU cellsU
    simp only [List.zip_cons_cons,List.zip_nil_right,List.reverse_cons,List.reverse_nil,List.nil_append,List.cons_append,okFr_cons,okFr_nil,okV_eq,isLoc_ptr,isLoc_func,Bool.not_false,if_true]
    (refine W_x trivial ?_; (repeat' first | apply Cj.mk | exact Nl.nl) <;> intros)
    exact ⟨rfl,rfl,rfl,rfl⟩
  · exact ⟨fun _ _ _=>rfl,by simp [mapF],by rw [an]; simp [mapF]⟩
  · rintro i hi sl h1 ⟨f0,f1,f2⟩ hlt r
    have hil:i < (spots s.data.toList).length:=by rw [← pcs_len T]; exact hi
    have hpt:=pcs_take (T:=T) hil
    have hog:=fun r=>ofL_get (T:=T) hil (r:=r)
    have g0:=(f0 (h.n + 1) (by omega) (by omega)).trans a0
    have g1:=(f0 (h.n + 2) (by omega) (by omega)).trans a1
    have l0:=AH.get_lt g0
    have l2:=AH.get_lt f2
    have sll:=r.1
    rw [List.length_map] at sll
    have ml:=mapC_len hb (fold_ok hb) (spots s.data.toList)[i].1
    rw [hpt,List.length_append]
    rw [pcs_get hi] at r sll ⊢
    generalize (spots s.data.toList)[i] = x at *
    simp only at r sll ⊢
    generalize mapC T.folds x.1 = to at *
    generalize (!isBad2 x && (fromO T.folds (x.1:Int)).isNone) = sm at *
    generalize (mapF T.folds ((runesB s.data.toList).take i)).length = pre at *
    unfold pcU cellsU
    by_cases hc:(m:Int) - pre < to.length
    · have hq:=hog (m - pre) (by omega)
      rw [show pre + (m - pre) = m by omega] at hq
      (refine W_x (Aj f2 (Aj g0 (Aj g1 sll))) ?_; (repeat' first | apply Cj.mk | exact Nl.nl) <;> intros)
      refine ⟨Nat.le_refl _,fun b hb _=>by rw [AH.get_set_ne _ (by omega),AH.get_set_ne _ (by omega)],rfl,fun b hb=>?_,_,_,hq, ?_,AH.get_set_same _ (by rw [AH.set_n]; omega)⟩
      · rw [AH.get_set_ne _ (by omega),AH.get_set_ne _ (by omega)]
        exact (f0 b (by omega) (by omega)).trans (ak b hb)
      · rw [AH.get_set_ne _ (by omega)]
        exact AH.get_set_same _ l0
    · have h63:(m:Int) - pre < 9223372036854775808:=by omega
      (refine W_x (Aj f2 (Aj g0 (Aj g1 sll))) ?_; (repeat' first | apply Cj.mk | exact Nl.nl) <;> intros)
      refine ⟨Nat.le_refl _,fun b hb _=>AH.get_set_ne _ (by omega),fun b hb hne=>by rw [AH.get_set_ne _ hne]; exact f0 b hb hne,by omega, ?_⟩
      rw [AH.get_set_same _ l2,show (m:Int) - pre - to.length = (m:Int) - ((pre + to.length:Nat):Int) by omega]
  · rintro h1 ⟨f0,f1,f2⟩ hn
    rw [← runesB_len,List.take_length,← ofL_len] at f1
    have hno:(ofL T s.data.toList)[m]? = none:=List.getElem?_eq_none f1
    have g0:=(f0 (h.n + 1) (by omega) (by omega)).trans a0
    have g1:=(f0 (h.n + 2) (by omega) (by omega)).trans a1
    rw [hno]
    (refine W_x (Aj g0 g1) ?_; (repeat' first | apply Cj.mk | exact Nl.nl) <;> intros)
    refine ⟨rfl,by rw [AH.set_n,AH.set_n]; omega,fun b hb=>?_⟩
    rw [AH.get_set_ne _ (by omega),AH.get_set_ne _ (by omega)]
    exact (f0 b (by omega) (by omega)).trans (ak b hb)
  · rintro ex h1 hne ⟨rfl,f0,a,b,q,f1,f2⟩ hn
    rw [q]
    (refine W_x (Aj f1 f2) ?_; (repeat' first | apply Cj.mk | exact Nl.nl) <;> intros)
    exact ⟨rfl,by omega,f0⟩
end Go.Proofs.YtakmapoompffgaaGreatDoor.AM
namespace Go.Proofs.YtakmapoompffgaaGreatDoor.AM
open Go
def LF_guiselaw12_known:LFunc :=
  .mk 0 [.tmp 0] (.seq (R 999 [] [.set 0 (.cv (.bool false))]) (.seq (R 7 [1,2] [.set 6 (xc1 9 (xc0 37)),.tmp 9 (xex 0 (.sl 6)),.tmp 10 (xex 1
  (.sl 6)),.tmp 11 (xex 2 (.sl 6)),.set 1 (.sl 9),.set 2 (.sl 10),.set 3 (.sl 11)]) (.seq (.seq (R 12 [1,13] [.tmp 13 (xu .not (.va 2))]) (.cond (.s 13) (.seq (R 999 [0] [.set
  0 (.cv (.bool false))]) .ret) .skip)) (.seq (R 15 [1,4,5] [.set 14 (xc3 31 (.va 1) (.cv (.string ⟨#[65,195,159,195,137]⟩)) (xi 2)),.tmp 17 (xex 0 (.sl 14)),.tmp
  18 (xex 1 (.sl 14)),.at 4,.tmp 4 (xnl 4 [.int .i64 0,.int .i64 0]),.run (xst 2 (.sl 4) (.sl 17)),.tmp 5 (.va 18)]) (.seq (R 19 [0] [.set 0 (.and (.and (.and (.and (.and (xb
  .eql (xc2 14 (.va 1) (.cv (.string ⟨#[65,195,159,195,137]⟩))) (.cv (.string ⟨#[97,115,115,195,137]⟩))) (xb .eql (xc2 28 (.va 1) (.cv (.string ⟨#[65,
  195,159]⟩))) (xi 3))) (.op (.p (.eqA false [.int,.int] (.s 0) (.s 1))) (.cons (xln 2 (.sl 4)) (.op (.p (.build [.int .i64 0,.int .i64 0] [(0,1,.s 0),(1,1,.s 1)])) (.cons
  (xi 1) (xi 1)))))) (.va 5)) (xc3 12 (.va 1) (.cv (.string ⟨#[195,137]⟩)) (.cv (.string ⟨#[195,169]⟩)))) (xu .not (xc3 12 (.va 1) (.cv (.string ⟨#[97]⟩))
  (.cv (.string ⟨#[98]⟩)))))]) .ret)))))
theorem fn_guiselaw12_known:(autoPrg Tryz.prog).fn 10 = some LF_guiselaw12_known:=by kernel_rfl
def LF_guiselaw12_small:LFunc :=
  .mk 0 [.cell 0 (some 8)] (.seq (R 0 [0] [.tmp 0 (xnl 0 [.slice none 0 0,.slice none 0 0,.slice none 0 0,.slice none 0 0,.slice none 0 0,.slice none 0 0,.slice none 0 0,
  .slice none 0 0])]) (.seq (R 1 [0] [.run (xst 8 (.sl 0) (.op (.p (.build [.slice none 0 0,.slice none 0 0,.slice none 0 0,.slice none 0 0,.slice none 0 0,.slice none 0 0,
  .slice none 0 0,.slice none 0 0] [(1,1,.s 0),(7,1,.s 1),(2,1,.s 2),(3,1,.s 3),(4,1,.s 4)])) (.cons (.op (.e (.litH 1 2 [.int .i32 0,.int .i32 0] [(0,2,.s 0)]))
  (.op (.p (.build [.int .i32 0,.int .i32 0] [(0,1,.s 0),(1,1,.s 1)])) (.cons (xr 45) (xr 57)))) (.cons (.op (.e (.litH 3 2 [.int .i32 0,.int .i32 0] [(0,2,.s 0),(2,2,.s
  1),(4,2,.s 2)])) (.cons (.op (.p (.build [.int .i32 0,.int .i32 0] [(0,1,.s 0),(1,1,.s 1)])) (.cons (xr 45) (xr 45))) (.cons (.op (.p (.build [.int .i32 0,.int .i32 0]
  [(0,1,.s 0),(1,1,.s 1)])) (.cons (xr 48) (xr 57))) (.op (.p (.build [.int .i32 0,.int .i32 0] [(0,1,.s 0),(1,1,.s 1)])) (.cons (xr 97) (xr 122)))))) (.cons (.op (.e
  (.litH 1 2 [.int .i32 0,.int .i64 0] [(0,2,.s 0)])) (.op (.p (.build [.int .i32 0,.int .i64 0] [(0,1,.s 0),(1,1,.s 1)])) (.cons (xr 769) (xi 230)))) (.cons (.op (.e
  (.litH 2 3 [.int .i32 0,.int .i32 0,.int .i32 0] [(0,3,.s 0),(3,3,.s 1)])) (.cons (.op (.p (.build [.int .i32 0,.int .i32 0,.int .i32 0] [(0,1,.s 0),(1,1,.s 1),(2,
  1,.s 2)])) (.cons (xr 201) (.cons (xr 69) (xr 769)))) (.op (.p (.build [.int .i32 0,.int .i32 0,.int .i32 0] [(0,1,.s 0),(1,1,.s 1),(2,1,.s 2)])) (.cons (xr 233) (.cons
  (xr 101) (xr 769)))))) (.op (.e (.litH 3 2 [.int .i32 0,.string ⟨#[]⟩] [(0,2,.s 0),(2,2,.s 1),(4,2,.s 2)])) (.cons (.op (.p (.build [.int .i32 0,.string ⟨#[]⟩] [(0,1,
  .s 0),(1,1,.s 1)])) (.cons (xr 65) (.cv (.string ⟨#[97]⟩)))) (.cons (.op (.p (.build [.int .i32 0,.string ⟨#[]⟩] [(0,1,.s 0),(1,1,.s 1)])) (.cons (xr 223) (.cv (.string
  ⟨#[115,115]⟩)))) (.op (.p (.build [.int .i32 0,.string ⟨#[]⟩] [(0,1,.s 0),(1,1,.s 1)])) (.cons (xr 69) (.cv (.string ⟨#[101]⟩)))))))))))))]) .ret))
theorem fn_guiselaw12_small:(autoPrg Tryz.prog).fn 37 = some LF_guiselaw12_small:=by kernel_rfl
end Go.Proofs.YtakmapoompffgaaGreatDoor.AM
namespace Go.Proofs.YtakmapoompffgaaGreatDoor.AM
open Go
def smallT:Tab where
  scripts:=[]
  common:=[(45,57)]
  marks:=[(769,230)]
  pairs:=[(201,69,769),(233,101,769)]
  folds:=[(65,⟨#[97]⟩),(223,⟨#[115,115]⟩),(69,⟨#[101]⟩)]
  looks:=[]
  drops:=[]
  allowed:=[(45,45),(48,57),(97,122)]
theorem small_fits:Tab.Fits smallT :=
  ⟨by decide,by decide,by decide,by decide,by decide,by decide,by decide,by decide,by decide,by decide,by decide,by decide,by decide,by decide,by decide,by decide,by decide⟩
set_option maxRecDepth 100000 in
theorem small_good:goodB smallT = true:=by decide +kernel
theorem reads_nil {h:AH} {e:Nat}:Reads h e .nil []:=⟨rfl,by simp,trivial⟩
set_option maxHeartbeats 4000000 in
theorem small12_spec (h:AH):WpC PX 37 [] h fun v h' => ∃ S,v = .agg S.vs.toArray∧TabAt h' S smallT∧Kp h h':=by
  refine wpc_fn (px_ext rfl) (px_fn fn_guiselaw12_small) rfl ?_
  unfold LF_guiselaw12_small
  simp only [argFr]
  (refine W_x trivial ?_; (repeat' first | apply Cj.mk | exact Nl.nl) <;> intros)
  simp only [Nat.add_assoc,Nat.reduceAdd]
  refine ⟨⟨.nil,.at h.n 0 1,.at (h.n + 2) 0 1,.at (h.n + 3) 0 2,.at (h.n + 4) 0 3,.nil,.nil,.at (h.n + 1) 0 3,[]⟩,rfl,
    ⟨small_fits,reads_nil,rfl,(fun z hz=>by cases hz),reads_cells (by simp (disch:=first | omega | (simp only [AH.nn_push,AH.nn_set,AH.nn_kill]; omega) | (simp only [AH.nn_push,AH.nn_set,AH.nn_kill]; done) | fail) only [AH.get_push_eq,AH.get_push_ne,AH.get_set_eq,AH.get_set_ne,AH.push_n]; rfl) rfl (by simp [smallT,pairV]),reads_cells (by simp (disch:=first | omega | (simp only [AH.nn_push,AH.nn_set,AH.nn_kill]; omega) | (simp only [AH.nn_push,AH.nn_set,AH.nn_kill]; done) | fail) only [AH.get_push_eq,AH.get_push_ne,AH.get_set_eq,AH.get_set_ne,AH.push_n]; rfl) rfl (by simp [smallT,markV]),
    reads_cells (by simp (disch:=first | omega | (simp only [AH.nn_push,AH.nn_set,AH.nn_kill]; omega) | (simp only [AH.nn_push,AH.nn_set,AH.nn_kill]; done) | fail) only [AH.get_push_eq,AH.get_push_ne,AH.get_set_eq,AH.get_set_ne,AH.push_n]; rfl) rfl (by simp [smallT,tripV]),reads_cells (by simp (disch:=first | omega | (simp only [AH.nn_push,AH.nn_set,AH.nn_kill]; omega) | (simp only [AH.nn_push,AH.nn_set,AH.nn_kill]; done) | fail) only [AH.get_push_eq,AH.get_push_ne,AH.get_set_eq,AH.get_set_ne,AH.push_n]; rfl) rfl (by simp [smallT,mapV]),reads_nil,reads_nil,reads_cells (by simp (disch:=first | omega | (simp only [AH.nn_push,AH.nn_set,AH.nn_kill]; omega) | (simp only [AH.nn_push,AH.nn_set,AH.nn_kill]; done) | fail) only [AH.get_push_eq,AH.get_push_ne,AH.get_set_eq,AH.get_set_ne,AH.push_n]; rfl) rfl (by simp [smallT,pairV])⟩, ?_⟩
  exact (((((Kp.refl h).push _).push _).push _).push _).push _
theorem of_smallT {h:AH} {S:TS} (t:TabAt h S smallT) (u:U8T h) (hg:2≤h.n):WpC PX 9 [.agg S.vs.toArray] h fun v h'=>Kp h h'∧∃ k B S,v = .tuple (List.toArray [.pointer (some ⟨k,0,none⟩),.bool true,.bool true])∧BookAt h' k B S smallT∧h.n≤B∧h.n≤k :=
  (of_spec t u hg).mono fun v h' ⟨k,q⟩=>⟨k,by rwa [if_pos small_good] at q⟩
def twinF (T:Tab) (a b:Bytes):Bool:=decide (foldB T (openB T a) = foldB T (openB T b))
theorem open_size {T:Tab} (hb:goodB T = true) (l:Bytes):(openB T l).length≤24 * l.length:=by
  have h1:=encs_lenle (openL T (runesB l))
  have h2:=(openF_len hb (runesB_rune l)).2
  have h3:(openL T (runesB l)).length = (openF T (runesB l)).length:=by unfold openL; rw [ord_length]
  have h4:=runesB_len l
  have h5:=spots_len l
  unfold openB
  omega
theorem fold_size {T:Tab} (hb:goodB T = true) (l:Bytes):(foldB T l).length≤16 * l.length:=by
  have h1:=encs_lenle (mapF T.folds (runesB l))
  have h2:=(mapF_len hb (fold_ok hb) (runesB l)).2
  have h4:=runesB_len l
  have h5:=spots_len l
  unfold foldB
  omega
theorem foldTwins_spec {h:AH} {k B:Nat} {s6:Sl} {T:Tab} (hb:goodB T = true) (bk:BkAt h k B s6 T) (s t:ByteArray) (hs:s.size≤200000) (ht:t.size≤200000) :
    WpC PX 12 [.pointer (some ⟨k,0,none⟩),.string s,.string t] h fun v h'=>v = .bool (twinF T s.data.toList t.data.toList)∧Kp h h':=by
  have z1:s.data.toList.length = s.size:=rfl
  have z2:t.data.toList.length = t.size:=rfl
  have l1:=open_size hb s.data.toList
  have l2:=open_size hb t.data.toList
  obtain ⟨_,g1,e1,rfl,k1⟩:=openOpen_spec hb bk s (by omega)
  obtain ⟨_,g2,e2,rfl,k2⟩:=foldFold_spec hb (bk.kp k1) (bs (openB T s.data.toList)) (by rw [bs_size]; omega)
  obtain ⟨_,g3,e3,rfl,k3⟩:=openOpen_spec hb ((bk.kp k1).kp k2) t (by omega)
  obtain ⟨_,g4,e4,rfl,k4⟩:=foldFold_spec hb (((bk.kp k1).kp k2).kp k3) (bs (openB T t.data.toList)) (by rw [bs_size]; omega)
  rw [bs_l] at e2 e4
  unfold twinF
  have hq:decide (bs (foldB T (openB T s.data.toList)) = bs (foldB T (openB T t.data.toList))) = decide (foldB T (openB T s.data.toList) = foldB T (openB T t.data.toList)):=decide_eq_decide.2 bs_inj
  have hqs:=str_eql (x:=bs (foldB T (openB T s.data.toList))) (y:=bs (foldB T (openB T t.data.toList)))
  rw [hq] at hqs
  generalize bs (foldB T (openB T s.data.toList)) = X at *
  generalize bs (foldB T (openB T t.data.toList)) = Y at *
  refine wpc_fn (px_ext rfl) (px_fn fn_fold_Twins) rfl ?_
  unfold LF_fold_Twins
  simp only [argFr]
  (refine W_x (Aj e1 (Aj e2 (Aj e3 (Aj e4 hqs)))) ?_; (repeat' first | apply Cj.mk | exact Nl.nl) <;> intros)
  all_goals exact ⟨by congr 1; symm; simpa using ‹_›,((k1.trans k2).trans k3).trans k4⟩
theorem known12_a:bs (foldB smallT [65,195,159,195,137]) = ⟨#[97,115,115,195,137]⟩:=by
  have:foldB smallT [65,195,159,195,137] = [97,115,115,195,137]:=by decide +kernel
  rw [this]; rfl
theorem known12_b:(mapF smallT.folds (runesB [65,195,159])).length = 3:=by decide +kernel
theorem known12_c:(if (2:Int) < 0 then none else (ofL smallT [65,195,159,195,137])[(2:Int).toNat]?) = some (1,1):=by decide +kernel
theorem known12_d:twinF smallT [195,137] [195,169] = true:=by decide +kernel
theorem known12_e:twinF smallT [97] [98] = false:=by decide +kernel
theorem known12_spec {h:AH} (u:U8T h) (hg:2≤h.n):WpC PX 10 [] h fun v h'=>v = .bool true∧Kp h h':=by
  obtain ⟨_,g,e,S,rfl,t,k⟩:=small12_spec h
  obtain ⟨_,g1,e1,k1,kk,B,S1,rfl,bk,_,_⟩:=of_smallT t (u.kp k) (Nat.le_trans hg k.1)
  obtain ⟨_,g2,e2,rfl,k2⟩:=foldOf_spec small_good bk.bk ⟨#[65,195,159,195,137]⟩ (by decide) 2 (by decide) (by decide)
  obtain ⟨_,g3,e3,rfl,k3⟩:=foldFold_spec small_good (bk.kp k2).bk ⟨#[65,195,159,195,137]⟩ (by decide)
  obtain ⟨_,g4,e4,rfl,k4⟩:=foldCount_spec small_good ((bk.kp k2).kp k3).bk ⟨#[65,195,159]⟩ (by decide)
  obtain ⟨_,g5,e5,rfl,k5⟩:=foldTwins_spec small_good (((bk.kp k2).kp k3).kp k4).bk ⟨#[195,137]⟩ ⟨#[195,169]⟩ (by decide) (by decide)
  obtain ⟨_,g6,e6,rfl,k6⟩:=foldTwins_spec small_good ((((bk.kp k2).kp k3).kp k4).kp k5).bk ⟨#[97]⟩ ⟨#[98]⟩ (by decide) (by decide)
  have q2:=known12_c
  have q3:=known12_a
  have q4:=known12_b
  have q5:=known12_d
  have q6:=known12_e
  unfold TS.vs at *
  refine wpc_fn (px_ext rfl) (px_fn fn_guiselaw12_known) rfl ?_
  unfold LF_guiselaw12_known
  simp only [argFr]
  simp only [q2,plV] at e2
  simp only [q3] at e3
  simp only [q4] at e4
  simp only [q5] at e5
  simp only [q6] at e6
  (refine W_x (Aj e (Aj e1 (Aj e2 (Aj e3 (Aj e4 (Aj e5 e6)))))) ?_; (repeat' first | apply Cj.mk | exact Nl.nl) <;> intros)
  exact ⟨rfl,k.trans (k1.trans (k2.trans (k3.trans (k4.trans (k5.trans k6)))))⟩
end Go.Proofs.YtakmapoompffgaaGreatDoor.AM
namespace Go.Proofs.YtakmapoompffgaaGreatDoor.AM
open Go
theorem foldPieces_eq (q:Value) (s:ByteArray) (h:AH) (hq:∃ o,q = .pointer o∧∀ a,o = some a→∃ k,a = ⟨k,0,none⟩):callO PX 32 [q,.string s] h = some (.func (.func 52) #[] #[.pointer (some ⟨h.n,0,none⟩),.pointer (some ⟨h.n + 1,0,none⟩)],(h.push (.cells false [q])).push (.cells false [.string s])):=by
  obtain ⟨o,rfl,ho⟩:=hq
  apply WpC.eqn
  cases o with
  | none =>
    refine wpc_fn (px_ext rfl) (px_fn fn_fold_Pieces) rfl ?_
    unfold LF_fold_Pieces
    simp only [argFr]
    (refine W_x trivial ?_; (repeat' first | apply Cj.mk | exact Nl.nl) <;> intros)
    exact ⟨rfl,rfl⟩
  | some a =>
    obtain ⟨k,rfl⟩:=ho a rfl
    refine wpc_fn (px_ext rfl) (px_fn fn_fold_Pieces) rfl ?_
    unfold LF_fold_Pieces
    simp only [argFr]
    (refine W_x trivial ?_; (repeat' first | apply Cj.mk | exact Nl.nl) <;> intros)
    exact ⟨rfl,rfl⟩
end Go.Proofs.YtakmapoompffgaaGreatDoor.AM
namespace Go.Proofs.YtakmapoompffgaaGreatDoor.AM
open Go
def PtV (x:Pc):List Value:=[.agg (List.toArray [.int .i64 x.at',.int .i64 x.n]),.string (bs (encs x.to))]
def PcV2 (x:Pc) (us:List Value) (P:Nat→Prop) (h:AH):Prop:=us = PtV x
theorem pieces_seq {p1 p2 k B:Nat} {s6:Sl} {T:Tab} (hb:goodB T = true) (s:ByteArray) (hs:s.size≤16777216) :
    SeqR PX (.func (.func 52) #[] #[.pointer (some ⟨p1,0,none⟩),.pointer (some ⟨p2,0,none⟩)]) (pcs T s.data.toList) PcV2 (StD p1 p2 k B s6 T s):=by
  intro yv I E h hyv hvs cons hD h0
  have hz:s.data.toList.length = s.size:=rfl
  have hsn:=spots_len s.data.toList
  have hset:=hyv.set
  have hlc1:=hyv.lc1
  have hloc:=hyv.loc
  have hvc:=hyv.vc
  have hck:=hyv.cell
  obtain ⟨d1,d2,dk⟩:=hD _ _ _ h0
  have l1:=AH.get_lt d1
  have l2:=AH.get_lt d2
  have e1:=fun h=>steps_eq (.pointer (some ⟨k,0,none⟩)) h ⟨_,rfl,fun a ha=>by injection ha with ha; exact ⟨k,ha.symm⟩⟩
  have e2:=steps1_eq s
  refine wpV_fn ?_
  refine wpc_fn (px_ext rfl) (px_fn fn_fold_Pieces_1) rfl ?_
  unfold LF_fold_Pieces_1
  simp only [argFr,List.nil_append,List.cons_append]
  (refine W_y (Aj hset (Aj hlc1 (Aj hloc (Aj hvc (Aj hck (Aj d1 (Aj d2 (Aj e1 e2)))))))) ?_; (repeat' first | apply Cj.mk | exact Nl.nl) <;> intros)
  generalize hH0:(((h.push (.cells false [yv])).push (.cells false [.pointer (some ⟨k,0,none⟩)])).push (.cells false [.string s])) = H0
  simp only [Nat.add_assoc,Nat.reduceAdd,AH.push_n] at hH0 ⊢
  have n0:H0.n = h.n + 3:=by rw [← hH0]; simp only [AH.push_n]
  have a0:H0.get h.n = some (.cells false [yv]):=by rw [← hH0]; simp (disch:=first | omega | (simp only [AH.nn_push,AH.nn_set,AH.nn_kill]; omega) | (simp only [AH.nn_push,AH.nn_set,AH.nn_kill]; done) | fail) only [AH.get_push_eq,AH.get_push_ne,AH.get_set_eq,AH.get_set_ne,AH.push_n]
  have a1:H0.get (h.n + 1) = some (.cells false [.pointer (some ⟨k,0,none⟩)]):=by rw [← hH0]; simp (disch:=first | omega | (simp only [AH.nn_push,AH.nn_set,AH.nn_kill]; omega) | (simp only [AH.nn_push,AH.nn_set,AH.nn_kill]; done) | fail) only [AH.get_push_eq,AH.get_push_ne,AH.get_set_eq,AH.get_set_ne,AH.push_n]
  have a2:H0.get (h.n + 2) = some (.cells false [.string s]):=by rw [← hH0]; simp (disch:=first | omega | (simp only [AH.nn_push,AH.nn_set,AH.nn_kill]; omega) | (simp only [AH.nn_push,AH.nn_set,AH.nn_kill]; done) | fail) only [AH.get_push_eq,AH.get_push_ne,AH.get_set_eq,AH.get_set_ne,AH.push_n]
  have ak:∀ b,b < h.n→H0.get b = h.get b:=fun b hb=>by rw [← hH0]; simp (disch:=first | omega | (simp only [AH.nn_push,AH.nn_set,AH.nn_kill]; omega) | (simp only [AH.nn_push,AH.nn_set,AH.nn_kill]; done) | fail) only [AH.get_push_eq,AH.get_push_ne,AH.get_set_eq,AH.get_set_ne,AH.push_n]
  clear hH0
  refine wp_rangeR (V:=PcV) (xs:=pcs T s.data.toList) (D:=StD (h.n + 1) (h.n + 2) k B s6 T s) rfl (steps_seq hb s hs) (fun x us P h1 ⟨sl,e,_⟩=>by rw [e]; rfl)
    (fun x us P h1 o ⟨sl,e,r,hp⟩ hP=>⟨sl,e,r.setNe o fun b hb=>by have:=hP b (hp b hb); omega,hp⟩)
    (fun i P h1=>H0.n≤h1.n∧(∀ b,h.n≤b→b < h.n + 3→h1.get b = H0.get b)∧I i (fun b=>(h.n≤b∧b≤h.n + 3∧b < h1.n)∨P b) h1)
    (fun ex P h1=>ex = .ret∧H0.n≤h1.n∧E (fun b=>(h.n≤b∧b≤h.n + 3∧b < h1.n)∨P b) h1)
    (fun us=>[(3,.pointer (some ⟨h.n,0,none⟩)),(4,.pointer (some ⟨8,0,some 1⟩))]) (fun us=>[(8,.cells false (cellsU us))]) ?_ ?_ ?_ ?_ ?_ ?_ ?_ ?_
  · rw [n0]
    rintro i P P' h1 h2 ⟨f0,f1,hI⟩ hP fm hP'
    have hn:=fm.n
    refine ⟨by omega,fun b hb hlt=>(fm.keep b (by omega) (fun hp=>by have:=hP b hp; omega) (by omega)).trans (f1 b hb hlt), ?_⟩
    refine cons.frI _ _ _ _ _ hI ⟨hn,fun b hb hp=>fm.keep b hb (fun q=>hp (.inr q)) (fun e=>hp (.inl (by omega)))⟩ fun b hp=>?_
    rcases hp with hp | hp
    · refine ⟨hp.2.2, ?_⟩
      rcases Nat.lt_or_ge b h1.n with q | q
      · exact .inl (.inl ⟨hp.1,hp.2.1,q⟩)
      · exact .inr q
    · obtain ⟨q1,q2,q3⟩:=hP' b hp
      exact ⟨q2,q3.elim (fun q=>.inl (.inr q)) .inr⟩
  · rw [n0]
    rintro ex P P' h1 h2 ⟨rfl,f0,hE⟩ hP fm hP'
    have hn:=fm.n
    refine ⟨rfl,by omega, ?_⟩
    refine cons.frE _ _ _ _ hE ⟨hn,fun b hb hp=>fm.keep b hb (fun q=>hp (.inr q)) (fun e=>hp (.inl (by omega)))⟩ fun b hp=>?_
    rcases hp with hp | hp
    · refine ⟨hp.2.2, ?_⟩
      rcases Nat.lt_or_ge b h1.n with q | q
      · exact .inl (.inl ⟨hp.1,hp.2.1,q⟩)
      · exact .inr q
    · obtain ⟨q1,q2,q3⟩:=hP' b hp
      exact ⟨q2,q3.elim (fun q=>.inl (.inr q)) .inr⟩
  · rintro i P h1 ⟨f0,f1,hI⟩
    exact ⟨(f1 _ (by omega) (by omega)).trans a1,(f1 _ (by omega) (by omega)).trans a2,(hD _ _ _ hI).bk⟩
  · rintro x us P h1 ⟨sl,rfl,r,hp⟩
    simp only [List.zip_cons_cons,List.zip_nil_right,List.reverse_cons,List.reverse_nil,List.nil_append,List.cons_append,okFr_cons,okFr_nil,okV_eq,isLoc_ptr,isLoc_func,Bool.not_false,if_true,cellsU]
    (refine W_x trivial ?_; (repeat' first | apply Cj.mk | exact Nl.nl) <;> intros)
    exact ⟨rfl,rfl,rfl,rfl⟩
  · refine ⟨Nat.le_refl _,fun _ _ _=>rfl,cons.frI _ _ _ _ _ h0 ⟨by omega,fun b hb _=>ak b hb⟩ fun b hp=>?_⟩
    rcases hp with hp | hp
    · exact ⟨hp.2.2,.inr hp.1⟩
    · exact hp.elim
  · rw [n0]
    rintro i hi us P h1 o ⟨f0,f1,hI⟩ ⟨sl,rfl,r,hp⟩ hP hlt ho
    have hil:i < (spots s.data.toList).length:=by rw [← pcs_len T]; exact hi
    have hr:=mapC_rune hb (fold_ok hb) (runesB_rune s.data.toList (spots s.data.toList)[i].1 (List.mem_map.2 ⟨_,List.getElem_mem hil,rfl⟩))
    have hl:=mapC_len hb (fold_ok hb) (spots s.data.toList)[i].1
    have hst:=cons.step i hi (PtV (pcs T s.data.toList)[i]) _ _ hI rfl
    rw [pcs_get hi] at r hst ⊢
    have g0:=(f1 h.n (by omega) (by omega)).trans a0
    generalize (spots s.data.toList)[i] = x at *
    simp only at r ⊢
    unfold PtV at hst
    simp only at hst
    generalize mapC T.folds x.1 = to at *
    generalize (!isBad2 x && (fromO T.folds (x.1:Int)).isNone) = sm at *
    have hto:to≠[]:=fun e=>by rw [e] at hl; simp at hl
    have e3:=fun lc=>r2s_reads (lc:=lc) r hto hr
    unfold cellsU
    generalize bs (encs to) = tx at *
    (refine W_x (Aj g0 (Aj e3 (Aj hset (Aj hlc1 hloc)))) ?_; (repeat' first | apply Cj.mk | exact Nl.nl) <;> intros)
    refine wo_callV (fv:=yv) rfl rfl rfl ?_
    refine hst.mono ?_
    rintro v h4 ⟨(⟨rfl,hI4⟩ | ⟨rfl,hE⟩),hn4,hk4⟩
    · (refine W_x trivial ?_; (repeat' first | apply Cj.mk | exact Nl.nl) <;> intros)
      refine ⟨(hk4 _ (.inl ⟨by omega,by omega,by omega⟩)).trans ho,hn4,fun b hb=>hk4 b (.inr hb),by omega,fun b hb hlt'=>(hk4 b (.inl ⟨hb,by omega,by omega⟩)).trans (f1 b hb hlt'), ?_⟩
      refine cons.frI _ _ _ _ _ hI4 ⟨Nat.le_refl _,fun _ _ _=>rfl⟩ fun b hq=>?_
      rcases hq with hq | hq
      · exact ⟨hq.2.2,.inl (.inl ⟨hq.1,hq.2.1,by omega⟩)⟩
      · exact ⟨by have:=(hP b hq).2; omega,.inl (.inr hq)⟩
    · (refine W_x trivial ?_; (repeat' first | apply Cj.mk | exact Nl.nl) <;> intros)
      refine ⟨(hk4 _ (.inl ⟨by omega,by omega,by omega⟩)).trans ho,hn4,fun b hb=>hk4 b (.inr hb),rfl,by omega, ?_⟩
      refine cons.frE _ _ _ _ hE ⟨Nat.le_refl _,fun _ _ _=>rfl⟩ fun b hq=>?_
      rcases hq with hq | hq
      · exact ⟨hq.2.2,.inl (.inl ⟨hq.1,hq.2.1,by omega⟩)⟩
      · exact ⟨by have:=(hP b hq).2; omega,.inl (.inr hq)⟩
  · rintro P h1 ⟨f0,f1,hI⟩ hP hlt
    (refine W_x trivial ?_; (repeat' first | apply Cj.mk | exact Nl.nl) <;> intros)
    exact ⟨_,.inl hI⟩
  · rintro ex P h1 hne ⟨rfl,f0,hE⟩ hP hlt
    (refine W_x trivial ?_; (repeat' first | apply Cj.mk | exact Nl.nl) <;> intros)
    exact ⟨_,.inr hE⟩
end Go.Proofs.YtakmapoompffgaaGreatDoor.AM
namespace Go.Proofs.YtakmapoompffgaaGreatDoor.AM
open Go
set_option maxRecDepth 10000 in
theorem u8_and:∀ m:Fin 256,IntKind.u8.wrap ((BitVec.ofInt 8 ((m.val:Nat):Int) &&& BitVec.ofInt 8 63).toNat:Int) = ((m.val % 64:Nat):Int):=by
  decide
end Go.Proofs.YtakmapoompffgaaGreatDoor.AM
namespace Go.Proofs.YtakmapoompffgaaGreatDoor.AM
open Go
def LF_guiseref1_Spots:LFunc :=
  .mk 1 [.tmp 2] (.seq (R 999 [0] [.set 2 (.cv (.slice none 0 0))]) (.seq (R 999 [0,3] [.set 3 (.cv (.slice none 0 0))]) (.seq (R 999 [0,3,4] [.set 4 (xi 0)]) (.seq (.block 0
  (.loop (.seq (.seq (R 8 [0,3,4,11] [.tmp 11 (xb .lss (.va 4) (xsl (.va 0)))]) (.cond (.s 11) .skip (.exit 0))) (.block 1 (.seq (R 13 [0,3,4,5,6] [.set 12 (xc1
  85 (.op (.p (.slS (.s 0) (some (.s 1)) none)) (.cons (.va 0) (.va 4)))),.tmp 17 (xex 0 (.sl 12)),.tmp 18 (xex 1 (.sl 12)),.set 5 (.sl 17),.set 6 (.sl 18)])
  (.seq (R 19 [0,3,4,5,7] [.tmp 22 (.op (.p (.build [.int .i32 0,.int .i64 0,.int .i64 0,.bool false] [(0,1,.s 0),(1,1,.s 1),(2,1,.s 2)])) (.cons (.va 6) (.cons (.va
  4) (.va 5)))),.at 7,.tmp 7 (xnl 7 [.int .i32 0,.int .i64 0,.int .i64 0,.bool false]),.run (xst 4 (.sl 7) (.sl 22))]) (.seq (.seq (R 23 [0,3,4,7,24] [.tmp 24 (xb .eql
  (.va 5) (xi 0))]) (.cond (.s 24) (R 25 [0,3,4,7] [.run (xst 4 (.sl 7) (.op (.p (.build [.int .i32 0,.int .i64 0,.int .i64 0,.bool false] [(0,1,.s 0),(1,1,.s 1),(2,1,
  .s 2),(3,1,.s 3)])) (.cons (xr 65533) (.cons (.va 4) (.cons (xi 1) (.cv (.bool true)))))))]) .skip)) (.seq (R 27 [0,3,4,7] [.set 3 (xap 4 32 (.va 3) (.op (.e (.litL 29 1 4
  [.int .i32 0,.int .i64 0,.int .i64 0,.bool false] [(0,4,.s 0)])) (xln 4 (.sl 7))))]) (R 31 [0,3,4] [.set 4 (xb .add (.va 4) (xld (xfa 2 (.sl 7))))]))))))))) (.seq (R 35 [2]
  [.set 2 (.va 3)]) .ret)))))
theorem fn_guiseref1_Spots:(autoPrg Tryz.prog).fn 49 = some LF_guiseref1_Spots:=by kernel_rfl
def LF_guiseref1_Sequence:LFunc :=
  .mk 1 [.tmp 2,.tmp 3] (.seq (R 999 [0] [.set 2 (xi 0),.set 3 (xr 0)]) (.seq (.seq (R 10 [0,12] [.tmp 12 (xb .eql (xsl (.va 0)) (xi 0))]) (.cond (.s 12) (.seq (R 999 [2,3]
  [.set 2 (xi 0),.set 3 (xr 0)]) .ret) .skip)) (.seq (R 13 [0,4] [.set 4 (xis (.va 0) (xi 0))]) (.seq (.seq (R 15 [0,4,16] [.tmp 16 (xb .lss (.va 4) (.cv (.int .u8 128)))])
  (.cond (.s 16) (.seq (R 17 [2,3] [.tmp 18 (xcn .i32 (.va 4)),.set 2 (xi 1),.set 3 (.sl 18)]) .ret) .skip)) (.seq (R 20 [0,4,5,6] [.set 19 (xc1 129 (.va 4)),
  .tmp 22 (xex 0 (.sl 19)),.tmp 23 (xex 1 (.sl 19)),.set 5 (.sl 22),.set 6 (.sl 23)]) (.seq (.seq (R 24 [0,4,42] [.tmp 42 (.or (.or (.or (xb .eql (.va 5) (.cv (.int .u8 0)))
  (xb .lss (xsl (.va 0)) (xi 2))) (xb .lss (xis (.va 0) (xi 1)) (.va 5))) (xb .gtr (xis (.va 0) (xi 1)) (.va 6)))]) (.cond (.s 42) (.seq (R 999 [2,3] [.set 2 (xi 0),.set 3 (xr
  0)]) .ret) .skip)) (.seq (R 999 [0,4,7] [.set 7 (xi 2)]) (.seq (R 43 [0,4,7,8] [.set 8 (xcn .i32 (xb .and (.va 4) (.cv (.int .u8 31))))]) (.seq (.seq (R 46 [0,4,7,8,47]
  [.tmp 47 (xb .geq (.va 4) (.cv (.int .u8 224)))]) (.cond (.s 47) (.seq (R 999 [0,4,7] [.set 7 (xi 3)]) (R 48 [0,4,7,8] [.set 8 (xcn .i32 (xb .and (.va 4) (.cv (.int .u8
  15))))])) .skip)) (.seq (.seq (R 51 [0,4,7,8,52] [.tmp 52 (xb .geq (.va 4) (.cv (.int .u8 240)))]) (.cond (.s 52) (.seq (R 999 [0,4,7] [.set 7 (xi 4)]) (R 53 [0,7,8] [.set
  8 (xcn .i32 (xb .and (.va 4) (.cv (.int .u8 7))))])) .skip)) (.seq (.seq (R 999 [0,7,8,9] [.set 9 (xi 1)]) (.block 0 (.loop (.seq (.seq (R 56 [0,7,8,9,58] [.tmp 58 (xb .lss
  (.va 9) (.va 7))]) (.cond (.s 58) .skip (.exit 0))) (.seq (.block 1 (.seq (.seq (R 61 [0,7,8,9,76] [.tmp 76 (.or (.or (xb .geq (.va 9) (xsl (.va 0))) (xb .lss (xis (.va 0)
  (.va 9)) (.cv (.int .u8 128)))) (xb .gtr (xis (.va 0) (.va 9)) (.cv (.int .u8 191))))]) (.cond (.s 76) (.seq (R 999 [2,3] [.set 2 (xi 0),.set 3 (xr 0)]) .ret) .skip)) (R 77 [0,
  7,8,9] [.set 8 (xb .or (xb .shl (.va 8) (.cv (.int .u64 6))) (xcn .i32 (xb .and (xis (.va 0) (.va 9)) (.cv (.int .u8 63)))))]))) (R 59 [0,7,8,9] [.set 9 (xb .add (.va 9) (xi
  1))])))))) (.seq (R 85 [2,3] [.tmp 85 (.va 7),.tmp 86 (.va 8),.set 2 (.sl 85),.set 3 (.sl 86)]) .ret))))))))))))
theorem fn_guiseref1_Sequence:(autoPrg Tryz.prog).fn 85 = some LF_guiseref1_Sequence:=by kernel_rfl
def LF_guiseref1_second:LFunc :=
  .mk 1 [.tmp 2,.tmp 3] (.seq (R 999 [0] [.set 2 (.cv (.int .u8 0)),.set 3 (.cv (.int .u8 0))]) (.seq (.block 0 (.seq (.seq (R 5 [0,4] [.set 4 (.and (xb .geq (.va 0) (.cv (.int
  .u8 194))) (xb .leq (.va 0) (.cv (.int .u8 223))))]) (.cond (.s 4) .skip (.seq (R 11 [0,4] [.set 4 (.and (xb .geq (.va 0) (.cv (.int .u8 225))) (xb .leq (.va 0) (.cv (.int .u8
  236))))]) (.cond (.s 4) .skip (.seq (R 17 [0,4] [.set 4 (xb .eql (.va 0) (.cv (.int .u8 238)))]) (.cond (.s 4) .skip (.seq (R 19 [0,4] [.set 4 (xb .eql (.va 0) (.cv (.int .u8
  239)))]) (.cond (.s 4) .skip (R 21 [0,4] [.set 4 (.and (xb .geq (.va 0) (.cv (.int .u8 241))) (xb .leq (.va 0) (.cv (.int .u8 243))))]))))))))) (.cond (.s 4) (.seq (R 999 [2,3]
  [.set 2 (.cv (.int .u8 128)),.set 3 (.cv (.int .u8 191))]) .ret) (.seq (R 28 [0,27] [.set 27 (xb .eql (.va 0) (.cv (.int .u8 224)))]) (.cond (.s 27) (.seq (R 999 [2,3] [.set 2
  (.cv (.int .u8 160)),.set 3 (.cv (.int .u8 191))]) .ret) (.seq (R 31 [0,30] [.set 30 (xb .eql (.va 0) (.cv (.int .u8 237)))]) (.cond (.s 30) (.seq (R 999 [2,3] [.set 2 (.cv
  (.int .u8 128)),.set 3 (.cv (.int .u8 159))]) .ret) (.seq (R 34 [0,33] [.set 33 (xb .eql (.va 0) (.cv (.int .u8 240)))]) (.cond (.s 33) (.seq (R 999 [2,3] [.set 2 (.cv (.int
  .u8 144)),.set 3 (.cv (.int .u8 191))]) .ret) (.seq (R 37 [36] [.set 36 (xb .eql (.va 0) (.cv (.int .u8 244)))]) (.cond (.s 36) (.seq (R 999 [2,3] [.set 2 (.cv (.int .u8 128)),
  .set 3 (.cv (.int .u8 143))]) .ret) .skip))))))))))) (.seq (R 999 [2,3] [.set 2 (.cv (.int .u8 0)),.set 3 (.cv (.int .u8 0))]) .ret)))
theorem fn_guiseref1_second:(autoPrg Tryz.prog).fn 129 = some LF_guiseref1_second:=by kernel_rfl
end Go.Proofs.YtakmapoompffgaaGreatDoor.AM
namespace Go.Proofs.YtakmapoompffgaaGreatDoor.AM
open Go
def secN (c:Nat):Nat × Nat:=if c = 0xe0 then (0xa0,0xbf) else if c = 0xed then (0x80,0x9f) else if c = 0xf0 then (0x90,0xbf) else if c = 0xf4 then (0x80,0x8f) else if 0xc2≤c∧c≤0xf4 then (0x80,0xbf) else (0,0)
theorem second_eq {c:Nat} (hc:c < 256) (h:AH):callO PX 129 [.int .u8 c] h = some (.tuple (List.toArray [.int .u8 (secN c).1,.int .u8 (secN c).2]),h):=by
  apply WpC.eqn
  refine wpc_fn (px_ext rfl) (px_fn fn_guiseref1_second) rfl ?_
  unfold LF_guiseref1_second
  simp only [argFr]
  (refine W_x trivial ?_; (repeat' first | apply Cj.mk | exact Nl.nl) <;> intros)
  all_goals
    refine ⟨?_,rfl⟩
    unfold secN
    repeat' split
    all_goals first | rfl | (exfalso; omega)
end Go.Proofs.YtakmapoompffgaaGreatDoor.AM
namespace Go.Proofs.YtakmapoompffgaaGreatDoor.AM
open Go
def contN (b:Nat):Prop:=128≤b∧b≤191
instance (b:Nat):Decidable (contN b):=inferInstanceAs (Decidable (_∧_))
def seqC (n b0 b1 b2 b3:Nat):Nat × Nat :=
  if b0 < 128 then (1,b0)
  else if (secN b0).1 = 0∨n < 2∨b1 < (secN b0).1∨(secN b0).2 < b1 then (0,0)
  else if b0 < 224 then (2,b0 % 32 * 64 + b1 % 64)
  else if n < 3 ∨ ¬ contN b2 then (0,0)
  else if b0 < 240 then (3,(b0 % 16 * 64 + b1 % 64) * 64 + b2 % 64)
  else if n < 4 ∨ ¬ contN b3 then (0,0)
  else (4,((b0 % 8 * 64 + b1 % 64) * 64 + b2 % 64) * 64 + b3 % 64)
def seqN (l:Bytes):Nat × Nat:=seqC l.length (bat l 0) (bat l 1) (bat l 2) (bat l 3)
theorem bat_lt' (l:Bytes) (k:Nat):bat l k < 256:=(l.getD k 0).toNat_lt
def decC (n b0 b1 b2 b3:Nat):Nat × Nat :=
  if b0 < 128 then (b0,1)
  else if b0 / 32 = 6∧1 < n∧b1 / 64 = 2 then
    if 128≤b0 % 32 * 64 + b1 % 64 then (b0 % 32 * 64 + b1 % 64,2) else (65533,1)
  else if (b0 / 16 = 14∧1 < n∧b1 / 64 = 2)∧2 < n∧b2 / 64 = 2 then
    if 2048≤b0 % 16 * 4096 + b1 % 64 * 64 + b2 % 64∧RuneN (b0 % 16 * 4096 + b1 % 64 * 64 + b2 % 64) then (b0 % 16 * 4096 + b1 % 64 * 64 + b2 % 64,3) else (65533,1)
  else if ((b0 / 8 = 30∧1 < n∧b1 / 64 = 2)∧2 < n∧b2 / 64 = 2)∧3 < n∧b3 / 64 = 2 then
    if 65536≤b0 % 8 * 262144 + b1 % 64 * 4096 + b2 % 64 * 64 + b3 % 64∧RuneN (b0 % 8 * 262144 + b1 % 64 * 4096 + b2 % 64 * 64 + b3 % 64) then
      (b0 % 8 * 262144 + b1 % 64 * 4096 + b2 % 64 * 64 + b3 % 64,4) else (65533,1)
  else (65533,1)
theorem decC_eq (l:Bytes):dec1 l = decC l.length (bat l 0) (bat l 1) (bat l 2) (bat l 3):=by
  unfold dec1 bcont decC
  have hv:∀ c:Nat,(Utf8.valid (c:Int) = true) = RuneN c:=fun c=>propext (valid_iff c)
  simp only [Bool.and_eq_true,beq_iff_eq,decide_eq_true_eq,ge_iff_le,hv]
theorem secN_cases (b0:Nat):(secN b0 = (0,0)∧(b0 < 194∨244 < b0))∨(secN b0 = (128,191)∧194≤b0∧b0 < 244∧b0≠224∧b0≠237∧b0≠240)∨(secN b0 = (160,191)∧b0 = 224)∨(secN b0 = (128,159)∧b0 = 237)∨(secN b0 = (144,191)∧b0 = 240)∨(secN b0 = (128,143)∧b0 = 244):=by
  unfold secN
  repeat' split
  all_goals simp only [true_and,Prod.mk.injEq]
  all_goals omega
theorem seqC_dec {n b0 b1 b2 b3:Nat} (hn:0 < n) (h0:b0 < 256) (h1:b1 < 256) (h2:b2 < 256) (h3:b3 < 256):seqC n b0 b1 b2 b3 = if isBad2 (decC n b0 b1 b2 b3) = true then (0,0) else ((decC n b0 b1 b2 b3).2,(decC n b0 b1 b2 b3).1):=by
  have hgood:∀ {w c:Nat},seqC n b0 b1 b2 b3 = (w,c)→decC n b0 b1 b2 b3 = (c,w)→w≠1∨c≠65533→seqC n b0 b1 b2 b3 = if isBad2 (decC n b0 b1 b2 b3) = true then (0,0) else ((decC n b0 b1 b2 b3).2,(decC n b0 b1 b2 b3).1):=fun hs hd hw=>by
    rw [hs,hd,if_neg]
    simp only [isBad2,Bool.and_eq_true,beq_iff_eq]
    omega
  have hbad:seqC n b0 b1 b2 b3 = (0,0)→decC n b0 b1 b2 b3 = (65533,1)→seqC n b0 b1 b2 b3 = if isBad2 (decC n b0 b1 b2 b3) = true then (0,0) else ((decC n b0 b1 b2 b3).2,(decC n b0 b1 b2 b3).1):=fun hs hd=>by
    rw [hs,hd]; rfl
  by_cases a:b0 < 128
  · exact hgood (w:=1) (c:=b0) (by unfold seqC; rw [if_pos a]) (by unfold decC; rw [if_pos a]) (by omega)
  by_cases b:b0 < 194∨244 < b0
  · have hs:(secN b0).1 = 0:=by rcases secN_cases b0 with h | h | h | h | h | h <;> first | (rw [h.1]; done) | (exfalso; omega)
    refine hbad (by unfold seqC; rw [if_neg a,if_pos (.inl hs)]) ?_
    unfold decC
    rw [if_neg a]
    by_cases c:b0 / 32 = 6∧1 < n∧b1 / 64 = 2
    · rw [if_pos c,if_neg (by omega)]
    · rw [if_neg c,if_neg (by omega)]
      by_cases d:((b0 / 8 = 30∧1 < n∧b1 / 64 = 2)∧2 < n∧b2 / 64 = 2)∧3 < n∧b3 / 64 = 2
      · rw [if_pos d,if_neg (by unfold RuneN; omega)]
      · rw [if_neg d]
  have hz : ¬ (secN b0).1 = 0:=by rcases secN_cases b0 with h | h | h | h | h | h <;> first | (rw [h.1]; decide) | (exfalso; omega)
  by_cases ok1:1 < n∧(secN b0).1≤b1∧b1≤(secN b0).2
  · have q1 : ¬ ((secN b0).1 = 0∨n < 2∨b1 < (secN b0).1∨(secN b0).2 < b1):=by omega
    have hb1:b1 / 64 = 2:=by
      rcases secN_cases b0 with h | h | h | h | h | h <;> (rw [h.1] at ok1 hz; simp only at ok1 hz; omega)
    by_cases c:b0 < 224
    · refine hgood (w:=2) (c:=b0 % 32 * 64 + b1 % 64) (by unfold seqC; rw [if_neg a,if_neg q1,if_pos c]) ?_ (by omega)
      unfold decC
      rw [if_neg a,if_pos ⟨by omega,ok1.1,hb1⟩,if_pos (by omega)]
    · by_cases d:b0 < 240
      · by_cases e:2 < n∧b2 / 64 = 2
        · have hv:2048≤b0 % 16 * 4096 + b1 % 64 * 64 + b2 % 64∧RuneN (b0 % 16 * 4096 + b1 % 64 * 64 + b2 % 64):=by
            unfold RuneN
            rcases secN_cases b0 with h | h | h | h | h | h <;> (rw [h.1] at ok1 hz; simp only at ok1 hz; omega)
          refine hgood (w:=3) (c:=b0 % 16 * 4096 + b1 % 64 * 64 + b2 % 64) ?_ ?_ (by omega)
          · unfold seqC
            rw [if_neg a,if_neg q1,if_neg c,if_neg (by unfold contN; omega),if_pos d]
            congr 1
            omega
          · unfold decC
            rw [if_neg a,if_neg (by omega),if_pos ⟨⟨by omega,ok1.1,hb1⟩,e⟩,if_pos hv]
        · refine hbad (by unfold seqC; rw [if_neg a,if_neg q1,if_neg c,if_pos (by unfold contN; omega)]) ?_
          unfold decC
          rw [if_neg a,if_neg (by omega),if_neg (by omega),if_neg (by omega)]
      · by_cases e:2 < n∧b2 / 64 = 2
        · by_cases f:3 < n∧b3 / 64 = 2
          · have hv:65536≤b0 % 8 * 262144 + b1 % 64 * 4096 + b2 % 64 * 64 + b3 % 64∧RuneN (b0 % 8 * 262144 + b1 % 64 * 4096 + b2 % 64 * 64 + b3 % 64):=by
              unfold RuneN
              rcases secN_cases b0 with h | h | h | h | h | h <;> (rw [h.1] at ok1 hz; simp only at ok1 hz; omega)
            refine hgood (w:=4) (c:=b0 % 8 * 262144 + b1 % 64 * 4096 + b2 % 64 * 64 + b3 % 64) ?_ ?_ (by omega)
            · unfold seqC
              rw [if_neg a,if_neg q1,if_neg c,if_neg (by unfold contN; omega),if_neg d,if_neg (by unfold contN; omega)]
              congr 1
              omega
            · unfold decC
              rw [if_neg a,if_neg (by omega),if_neg (by omega),if_pos ⟨⟨⟨by omega,ok1.1,hb1⟩,e⟩,f⟩,if_pos hv]
          · refine hbad (by unfold seqC; rw [if_neg a,if_neg q1,if_neg c,if_neg (by unfold contN; omega),if_neg d,if_pos (by unfold contN; omega)]) ?_
            unfold decC
            rw [if_neg a,if_neg (by omega),if_neg (by omega),if_neg (by omega)]
        · refine hbad (by unfold seqC; rw [if_neg a,if_neg q1,if_neg c,if_pos (by unfold contN; omega)]) ?_
          unfold decC
          rw [if_neg a,if_neg (by omega),if_neg (by omega),if_neg (by omega)]
  · refine hbad (by unfold seqC; rw [if_neg a,if_pos (by omega)]) ?_
    unfold decC
    rw [if_neg a]
    by_cases c:b0 / 32 = 6∧1 < n∧b1 / 64 = 2
    · exfalso
      rcases secN_cases b0 with h | h | h | h | h | h <;> (rw [h.1] at ok1 hz; simp only at ok1 hz; omega)
    · rw [if_neg c]
      by_cases d:(b0 / 16 = 14∧1 < n∧b1 / 64 = 2)∧2 < n∧b2 / 64 = 2
      · rw [if_pos d,if_neg]
        unfold RuneN
        rcases secN_cases b0 with h | h | h | h | h | h <;> (rw [h.1] at ok1 hz; simp only at ok1 hz; omega)
      · rw [if_neg d]
        by_cases e:((b0 / 8 = 30∧1 < n∧b1 / 64 = 2)∧2 < n∧b2 / 64 = 2)∧3 < n∧b3 / 64 = 2
        · rw [if_pos e,if_neg]
          unfold RuneN
          rcases secN_cases b0 with h | h | h | h | h | h <;> (rw [h.1] at ok1 hz; simp only at ok1 hz; omega)
        · rw [if_neg e]
theorem seq_dec {l:Bytes} (hl:l≠[]):seqN l = if isBad2 (dec1 l) = true then (0,0) else ((dec1 l).2,(dec1 l).1):=by
  rw [decC_eq]
  exact seqC_dec (List.length_pos_iff.2 hl) (bat_lt' l 0) (bat_lt' l 1) (bat_lt' l 2) (bat_lt' l 3)
end Go.Proofs.YtakmapoompffgaaGreatDoor.AM
