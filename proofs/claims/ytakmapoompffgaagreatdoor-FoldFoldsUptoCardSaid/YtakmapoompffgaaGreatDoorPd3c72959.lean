/- Parts of proofs: lemmas, joined. -/
import Derived.Test.YtakmapoompffgaaGreatDoorP6e9ed35d
import Derived.Deep.DeepHandedRow
import Derived.OpenShut
import Derived.LaidLaws
set_option linter.unusedVariables false
set_option linter.unusedSimpArgs false
set_option linter.unusedSectionVars false
namespace Go.Proofs.YtakmapoompffgaaGreatDoor.AM
open Go
structure U8T (h:AH):Prop where
  f:h.get 0 = some (.cells true firstV)
  a:h.get 1 = some (.cells true acceptV)
theorem U8T.kp {h h':AH} (t:U8T h) (k:Kp h h'):U8T h':=⟨k.get t.f,k.get t.a⟩
def fstN (x:Nat):Nat:=Go.Pinned.utf8FirstZ.getD x 0
set_option maxRecDepth 100000 in
theorem fst_len:Go.Pinned.utf8FirstZ.length = 256:=by decide
set_option maxRecDepth 100000 in
theorem fst_cls:∀ x:Fin 256,128≤x.val→(194≤x.val∧x.val≤223∧fstN x.val = 2)∨(x.val = 224∧fstN x.val = 19)∨(x.val = 237∧fstN x.val = 35)∨(225≤x.val∧x.val≤239∧x.val≠237∧fstN x.val = 3)∨(x.val = 240∧fstN x.val = 52)∨(x.val = 244∧fstN x.val = 68) ∨
    (241≤x.val∧x.val≤243∧fstN x.val = 4)∨((x.val < 194∨244 < x.val)∧fstN x.val = 241):=by decide
theorem rd_first {h:AH} (t:U8T h) (lc:Lc) {x:Nat} (hx:x < 256):Mem.rd ⟨lc,h⟩ ⟨0,x,none⟩ 1 = some [.int .u8 (fstN x)]:=by
  have hl:firstV.length = 256:=by unfold firstV; rw [List.length_map,fst_len]
  rw [rd_heap,t.f]
  simp only [hl]
  rw [if_pos (by omega)]
  congr 1
  rw [List.drop_eq_getElem_cons (by omega),List.take_succ_cons,List.take_zero]
  unfold firstV fstN
  rw [List.getElem_map,List.getD_eq_getElem?_getD,List.getElem?_eq_getElem (by rw [fst_len]; exact hx),Option.getD_some]
theorem rd_accept {h:AH} (t:U8T h) (lc:Lc) (j:Fin 16):Mem.rd ⟨lc,h⟩ ⟨1,2 * j.val,none⟩ 2 = some [.int .u8 (acceptZ.getD j.val (0,0)).1,.int .u8 (acceptZ.getD j.val (0,0)).2]:=by
  rw [rd_heap,t.a]
  obtain ⟨j,hj⟩:=j
  rcases (show j = 0∨j = 1∨j = 2∨j = 3∨j = 4∨j = 5∨j = 6∨j = 7∨j = 8∨j = 9∨j = 10∨j = 11∨j = 12∨j = 13∨j = 14∨j = 15 by omega) with rfl | rfl | rfl | rfl | rfl | rfl | rfl | rfl | rfl | rfl | rfl | rfl | rfl | rfl | rfl | rfl <;> rfl
theorem rn_some {l:Bytes}:(rnB l).isSome = validB l:=by
  unfold rnB
  split
  · rename_i h; rw [h]; rfl
  · rename_i h; rw [Bool.eq_false_iff.2 h]; rfl
theorem rn_skip:∀ (k:Nat) {l:Bytes},k≤l.length→(∀ i,i < k→bat l i < 128)→(rnB l).isSome = (rnB (l.drop k)).isSome
  | 0,l,_,_=>by rw [List.drop_zero]
  | k + 1,l,hk,h=>by
    have hne:l≠[]:=fun e=>by rw [e] at hk; simp at hk
    have h0:=h 0 (by omega)
    have e:(rnB l).isSome = (rnB (l.drop 1)).isSome:=by
      rcases seq1 hne with ⟨_,e⟩ | ⟨a,_⟩ | ⟨a,_⟩ | ⟨a,_⟩ | ⟨_,hh,_⟩
      · rw [e]; simp
      all_goals omega
    rw [e,rn_skip k (by rw [List.length_drop]; omega) (fun i hi=>by rw [bat_drop]; exact h (1 + i) (by omega)),List.drop_drop]
    congr 3
    omega
theorem ext_drop (s:ByteArray) (i:Nat) (hi:i≤s.size):(s.extract i s.size).data.toList = s.data.toList.drop i∧(s.extract i s.size).size = s.size - i:=by
  have e:=ba_extract s i s.size (Nat.le_refl _)
  have hz:s.size = s.data.toList.length:=rfl
  rw [List.take_of_length_le (by rw [List.length_drop]; omega)] at e
  refine ⟨e, ?_⟩
  show (s.extract i s.size).data.size = _
  rw [← Array.length_toList,e,List.length_drop]
  omega
theorem u8a (z r:Int) (h:(z,r)∈[((2:Int),(2:Int)),(19,3),(35,3),(3,3),(52,4),(68,4),(4,4),(241,1)]):binA .and (.int .u8 z) (.int .u8 7) = some (.int .u8 r):=by
  simp only [List.mem_cons,List.mem_nil_iff,or_false,Prod.mk.injEq] at h
  rcases h with ⟨rfl,rfl⟩ | ⟨rfl,rfl⟩ | ⟨rfl,rfl⟩ | ⟨rfl,rfl⟩ | ⟨rfl,rfl⟩ | ⟨rfl,rfl⟩ | ⟨rfl,rfl⟩ | ⟨rfl,rfl⟩ <;> rfl
theorem u8s (z r:Int) (h:(z,r)∈[((2:Int),(0:Int)),(19,1),(35,2),(3,0),(52,3),(68,4),(4,0),(241,15)]):binA .shr (.int .u8 z) (.int .u64 4) = some (.int .u8 r):=by
  simp only [List.mem_cons,List.mem_nil_iff,or_false,Prod.mk.injEq] at h
  rcases h with ⟨rfl,rfl⟩ | ⟨rfl,rfl⟩ | ⟨rfl,rfl⟩ | ⟨rfl,rfl⟩ | ⟨rfl,rfl⟩ | ⟨rfl,rfl⟩ | ⟨rfl,rfl⟩ | ⟨rfl,rfl⟩ <;> rfl
set_option maxHeartbeats 4000000 in
theorem validString_eq (s:ByteArray) (h:AH) (hT:U8T h) (hsz:s.size < 100000000):callO PX 97 [.string s] h = some (.bool (validB s.data.toList),h):=by
  apply WpC.eqn
  rw [← rn_some]
  obtain ⟨V,hV⟩:∃ V,V = (rnB s.data.toList).isSome:=⟨_,rfl⟩
  rw [← hV]
  refine wpc_fn (px_ext rfl) (px_fn fn_utf8_ValidString) rfl ?_
  unfold LF_utf8_ValidString
  simp only [argFr]
  (refine W_x trivial ?_; (repeat' first | apply Cj.mk | exact Nl.nl) <;> intros)
  refine wp_loopB (fun w fr lc h1 => ∃ t:ByteArray,w = t.size∧t.size < 100000000∧V = (rnB t.data.toList).isSome∧h1 = h∧fr = [(0,.string t)]∧lc = []) s.size [(0,.string s)] (by repeat' first | exact True.intro | refine And.intro rfl ?_) ⟨s,rfl,hsz,hV,rfl,rfl,rfl⟩ (by rintro _ _ _ _ ⟨t,_,_,_,_,rfl,_⟩; rfl) ?_
  rintro w fr lc h1 ⟨t,rfl,htz,hV,rfl,rfl,rfl⟩
  obtain ⟨l,hl⟩:∃ l,l = t.data.toList:=⟨_,rfl⟩
  have hll:l.length = t.size:=by rw [hl]; rfl
  rw [← hl] at hV
  rcases Nat.eq_zero_or_pos t.size with h0 | h0
  · have hn:l = []:=List.eq_nil_of_length_eq_zero (by omega)
    rw [hn,rnB_nil] at hV
    (refine W_x trivial ?_; (repeat' first | apply Cj.mk | exact Nl.nl) <;> intros)
    exact ⟨by rw [hV]; rfl,rfl⟩
  have hne:l≠[]:=fun e=>by rw [e] at hll; simp at hll; omega
  have cut:∀ k:Nat,k≤t.size→∃ u:ByteArray,t.extract k t.size = u∧u.data.toList = l.drop k∧u.size = t.size - k:=fun k hk=>by
    obtain ⟨a,b⟩:=ext_drop t k hk
    exact ⟨_,rfl,by rw [a,hl],b⟩
  obtain ⟨x0,q0⟩:∃ x,bat l 0 = x:=⟨_,rfl⟩
  have c0:=bat_lt l 0
  rw [q0] at c0
  by_cases hx:x0 < 128
  · obtain ⟨u,hu,ul,uz⟩:=cut 1 (by omega)
    have hV1:V = (rnB u.data.toList).isSome:=by rw [hV,ul]; exact rn_skip 1 (by omega) (fun i hi=>by rw [show i = 0 by omega,q0]; exact hx)
    have hlt:u.size < t.size:=by omega
    clear hV cut
    have ec:((hiC:Nat):Int) = 9259542123273814144:=rfl
    have fin:∀ (w:ByteArray) (f:Fr),V = (rnB w.data.toList).isSome→w.size < t.size→AgF [(0,Value.string w)] f→∃ n',n' < t.size∧∃ f1:Fr,AgF f1 f∧∃ t1:ByteArray,n' = t1.size∧t1.size < 100000000∧V = (rnB t1.data.toList).isSome∧h1 = h1∧f1 = [(0,.string t1)]∧([]:Lc) = []:=fun w f a b c=>⟨_,b,_,c,w,rfl,by omega,a,rfl,rfl,rfl⟩
    have skip:∀ (w:ByteArray) (k:Nat),V = (rnB w.data.toList).isSome→w.size < t.size→k≤w.size→(∀ i,i < k→bat w.data.toList i < 128)→∃ w',w.extract k w.size = w'∧V = (rnB w'.data.toList).isSome∧w'.size < t.size∧w'.size = w.size - k:=fun w k a b c d=>by
      obtain ⟨e1,e2⟩:=ext_drop w k c
      exact ⟨_,rfl,by rw [e1,a]; exact rn_skip k (by rw [Array.length_toList]; exact c) d,by omega,e2⟩
    by_cases c8:8 < u.size
    · obtain ⟨w1, v1⟩:=word_eq u h1 (by omega)
      have ec1:=and64 v1 (show hiC < 18446744073709551616 by decide)
      rw [ec] at ec1
      by_cases z1:wordN u.data.toList &&& hiC = 0
      · rw [z1] at ec1
        obtain ⟨u2,hu2,hV2,lt2,uz2⟩:=skip u 8 hV1 hlt (by omega) (word_low z1)
        by_cases c16:16 < u2.size
        · obtain ⟨w2,v2⟩:=word_eq u2 h1 (by omega)
          obtain ⟨d3,d3z⟩:=ext_drop u2 8 (by omega)
          obtain ⟨w3,v3⟩:=word_eq (u2.extract 8 u2.size) h1 (by omega)
          obtain ⟨o1,o2⟩:=or64 v2 v3
          have ec2:=and64 o2 (show hiC < 18446744073709551616 by decide)
          rw [ec] at ec2
          by_cases z2:(wordN u2.data.toList ||| wordN (u2.extract 8 u2.size).data.toList) &&& hiC = 0
          · rw [z2] at ec2
            obtain ⟨y1,y2⟩:=or_zero z2
            have y1:=word_low y1
            have y2:=word_low y2
            obtain ⟨u3,hu3,hV3,lt3,uz3⟩:=skip u2 16 hV2 lt2 (by omega) (fun i hi=>by
              rcases Nat.lt_or_ge i 8 with h8 | h8
              · exact y1 i h8
              · have:=y2 (i - 8) (by omega)
                rw [d3,bat_drop,show 8 + (i - 8) = i by omega] at this
                exact this)
            (refine W_x (Aj hl.symm (Aj q0 (Aj hu (Aj w1 (Aj ec1 (Aj hu2 (Aj w2 (Aj w3 (Aj o1 (Aj ec2 hu3)))))))))) ?_; (repeat' first | apply Cj.mk | exact Nl.nl) <;> intros)
            clear hV1 hV2 w1 w2 w3 o1 o2 ec1 ec2 hu hu2 hu3 d3 d3z v1 v2 v3 z1 z2 y1 y2 c8 c16 uz uz2 uz3 ul hlt lt2
            refine wp_loopB (fun w fr lc h2 => ∃ t1:ByteArray,w = t1.size∧V = (rnB t1.data.toList).isSome∧t1.size < t.size∧h2 = h1∧fr = [(0,.string t1)]∧lc = []) u3.size [(0,.string u3)] (by repeat' first | exact True.intro | refine And.intro rfl ?_) ⟨u3,rfl,hV3,lt3,rfl,rfl,rfl⟩ (by rintro _ _ _ _ ⟨t,_,_,_,_,rfl,_⟩; rfl) ?_
            rintro w fr lc h2 ⟨t1,rfl,hV4,lt4,rfl,rfl,rfl⟩
            by_cases c32:32 < t1.size
            · obtain ⟨w1,v1⟩:=word_eq t1 h2 (by omega)
              obtain ⟨d2,d2z⟩:=ext_drop t1 8 (by omega)
              obtain ⟨w2,v2⟩:=word_eq (t1.extract 8 t1.size) h2 (by omega)
              obtain ⟨d3,d3z⟩:=ext_drop t1 16 (by omega)
              obtain ⟨w3,v3⟩:=word_eq (t1.extract 16 t1.size) h2 (by omega)
              obtain ⟨d4,d4z⟩:=ext_drop t1 24 (by omega)
              obtain ⟨w4,v4⟩:=word_eq (t1.extract 24 t1.size) h2 (by omega)
              obtain ⟨o1,o2⟩:=or64 v1 v2
              obtain ⟨o3,o4⟩:=or64 v3 v4
              obtain ⟨o5,o6⟩:=or64 o2 o4
              have ec2:=and64 o6 (show hiC < 18446744073709551616 by decide)
              rw [ec] at ec2
              by_cases z2:((wordN t1.data.toList ||| wordN (t1.extract 8 t1.size).data.toList) ||| (wordN (t1.extract 16 t1.size).data.toList ||| wordN (t1.extract 24 t1.size).data.toList)) &&& hiC = 0
              · rw [z2] at ec2
                obtain ⟨y12,y34⟩:=or_zero z2
                obtain ⟨y1,y2⟩:=or_zero y12
                obtain ⟨y3,y4⟩:=or_zero y34
                have y1:=word_low y1
                have y2:=word_low y2
                have y3:=word_low y3
                have y4:=word_low y4
                obtain ⟨u4,hu4,hV5,lt5,uz5⟩:=skip t1 32 hV4 lt4 (by omega) (fun i hi=>by
                  rcases Nat.lt_or_ge i 8 with h8 | h8
                  · exact y1 i h8
                  rcases Nat.lt_or_ge i 16 with h16 | h16
                  · have:=y2 (i - 8) (by omega)
                    rw [d2,bat_drop,show 8 + (i - 8) = i by omega] at this
                    exact this
                  rcases Nat.lt_or_ge i 24 with h24 | h24
                  · have:=y3 (i - 16) (by omega)
                    rw [d3,bat_drop,show 16 + (i - 16) = i by omega] at this
                    exact this
                  · have:=y4 (i - 24) (by omega)
                    rw [d4,bat_drop,show 24 + (i - 24) = i by omega] at this
                    exact this)
                (refine W_x (Aj w1 (Aj w2 (Aj w3 (Aj w4 (Aj o1 (Aj o3 (Aj o5 (Aj ec2 hu4)))))))) ?_; (repeat' first | apply Cj.mk | exact Nl.nl) <;> intros)
                exact ⟨_,by omega,_,(by repeat' first | exact True.intro | refine And.intro rfl ?_),u4,rfl,hV5,lt5,rfl,rfl,rfl⟩
              · generalize ((wordN t1.data.toList ||| wordN (t1.extract 8 t1.size).data.toList) ||| (wordN (t1.extract 16 t1.size).data.toList ||| wordN (t1.extract 24 t1.size).data.toList)) &&& hiC = zz at ec2 z2
                (refine W_x (Aj w1 (Aj w2 (Aj w3 (Aj w4 (Aj o1 (Aj o3 (Aj o5 ec2))))))) ?_; (repeat' first | apply Cj.mk | exact Nl.nl) <;> intros)
                exact fin t1 _ hV4 lt4 (by repeat' first | exact True.intro | refine And.intro rfl ?_)
            · (refine W_x trivial ?_; (repeat' first | apply Cj.mk | exact Nl.nl) <;> intros)
              exact fin t1 _ hV4 lt4 (by repeat' first | exact True.intro | refine And.intro rfl ?_)
          · generalize (wordN u2.data.toList ||| wordN (u2.extract 8 u2.size).data.toList) &&& hiC = zz at ec2 z2
            (refine W_x (Aj hl.symm (Aj q0 (Aj hu (Aj w1 (Aj ec1 (Aj hu2 (Aj w2 (Aj w3 (Aj o1 ec2))))))))) ?_; (repeat' first | apply Cj.mk | exact Nl.nl) <;> intros)
            exact fin u2 _ hV2 lt2 (by repeat' first | exact True.intro | refine And.intro rfl ?_)
        · (refine W_x (Aj hl.symm (Aj q0 (Aj hu (Aj w1 (Aj ec1 hu2))))) ?_; (repeat' first | apply Cj.mk | exact Nl.nl) <;> intros)
          exact fin u2 _ hV2 lt2 (by repeat' first | exact True.intro | refine And.intro rfl ?_)
      · generalize wordN u.data.toList &&& hiC = zz at ec1 z1
        (refine W_x (Aj hl.symm (Aj q0 (Aj hu (Aj w1 ec1)))) ?_; (repeat' first | apply Cj.mk | exact Nl.nl) <;> intros)
        exact fin u _ hV1 hlt (by repeat' first | exact True.intro | refine And.intro rfl ?_)
    · (refine W_x (Aj hl.symm (Aj q0 hu)) ?_; (repeat' first | apply Cj.mk | exact Nl.nl) <;> intros)
      exact fin u _ hV1 hlt (by repeat' first | exact True.intro | refine And.intro rfl ?_)
  ·
    obtain ⟨x1,q1⟩:∃ x,bat l 1 = x:=⟨_,rfl⟩
    obtain ⟨x2,q2⟩:∃ x,bat l 2 = x:=⟨_,rfl⟩
    obtain ⟨x3,q3⟩:∃ x,bat l 3 = x:=⟨_,rfl⟩
    have c1:=bat_lt l 1
    have c2:=bat_lt l 2
    have c3:=bat_lt l 3
    rw [q1] at c1
    rw [q2] at c2
    rw [q3] at c3
    have rf:=fun lc=>rd_first hT lc c0
    have ra:=fun j lc=>rd_accept hT lc j
    have fin:∀ (k:Nat) (c:Nat) (f:Fr),0 < k→k≤t.size→rnB l = (rnB (l.drop k)).map (c :: ·)→AgF [(0,Value.string (t.extract k t.size))] f→∃ n',n' < t.size∧∃ f1:Fr,AgF f1 f∧∃ t1:ByteArray,n' = t1.size∧t1.size < 100000000∧V = (rnB t1.data.toList).isSome∧h1 = h1∧f1 = [(0,.string t1)]∧([]:Lc) = []:=fun k c f h0 hk e ha=>by
      obtain ⟨u,hu,ul,uz⟩:=cut k hk
      rw [hu] at ha
      exact ⟨_,by omega,_,ha,u,rfl,by omega,by rw [hV,e,ul]; simp,rfl,rfl,rfl⟩
    have badV:rnB l = none→V = false:=fun e=>by rw [hV,e]; rfl
    have g2:=seq1 hne
    clear hV cut
    simp only [acceptZ] at ra
    rcases fst_cls ⟨x0,c0⟩ (by simp only; omega) with ⟨a1,a2,hz⟩ | ⟨a1,hz⟩ | ⟨a1,hz⟩ | ⟨a1,a2,a3,hz⟩ | ⟨a1,hz⟩ | ⟨a1,hz⟩ | ⟨a1,a2,hz⟩ | ⟨a1,hz⟩
    all_goals simp only at hz
    · have rf:∀ lc,Mem.rd ⟨lc,h1⟩ ⟨0,x0,none⟩ 1 = some [.int .u8 2]:=fun lc=>by rw [rf lc,hz]; rfl
      have e1:=u8a 2 2 (by simp)
      have e2:=u8s 2 0 (by simp)
      have r0:∀ lc,Mem.rd ⟨lc,h1⟩ ⟨1,0,none⟩ 2 = some [.int .u8 128,.int .u8 191]:=fun lc=>ra 0 lc
      simp only at a1 a2
      rcases g2 with ⟨a,e⟩ | ⟨a,b,n,d1,r,e⟩ | ⟨a,b,n,d1,d2,r,v,e⟩ | ⟨a,b,n,d1,d2,d3,r,v,e⟩ | ⟨e,hh,b2,b3,b4⟩
      · rw [q0] at a; omega
      · simp only [q0,q1] at a b d1 r e
        (refine W_x (Aj hl.symm (Aj q0 (Aj q1 (Aj q2 (Aj q3 (Aj rf (Aj e1 (Aj e2 r0)))))))) ?_; (repeat' first | apply Cj.mk | exact Nl.nl) <;> intros)
        exact fin 2 _ _ (by decide) (by omega) e (by repeat' first | exact True.intro | refine And.intro rfl ?_)
      · simp only [q0,q1,q2] at a b d1 d2 r v e
        omega
      · simp only [q0,q1,q2,q3] at a b d1 d2 d3 r v e
        omega
      · have hVf:=badV e
        simp only [q0,q1,q2,q3] at hh b2 b3 b4
        unfold RuneN at b3 b4
        (refine W_x (Aj hl.symm (Aj q0 (Aj q1 (Aj q2 (Aj q3 (Aj rf (Aj e1 (Aj e2 r0)))))))) ?_; (repeat' first | apply Cj.mk | exact Nl.nl) <;> intros)
        all_goals exact ⟨by rw [hVf],rfl⟩
    · have rf:∀ lc,Mem.rd ⟨lc,h1⟩ ⟨0,x0,none⟩ 1 = some [.int .u8 19]:=fun lc=>by rw [rf lc,hz]; rfl
      have e1:=u8a 19 3 (by simp)
      have e2:=u8s 19 1 (by simp)
      have r0:∀ lc,Mem.rd ⟨lc,h1⟩ ⟨1,2,none⟩ 2 = some [.int .u8 160,.int .u8 191]:=fun lc=>ra 1 lc
      simp only at a1
      rcases g2 with ⟨a,e⟩ | ⟨a,b,n,d1,r,e⟩ | ⟨a,b,n,d1,d2,r,v,e⟩ | ⟨a,b,n,d1,d2,d3,r,v,e⟩ | ⟨e,hh,b2,b3,b4⟩
      · rw [q0] at a; omega
      · simp only [q0,q1] at a b d1 r e
        omega
      · simp only [q0,q1,q2] at a b d1 d2 r v e
        unfold RuneN at v
        (refine W_x (Aj hl.symm (Aj q0 (Aj q1 (Aj q2 (Aj q3 (Aj rf (Aj e1 (Aj e2 r0)))))))) ?_; (repeat' first | apply Cj.mk | exact Nl.nl) <;> intros)
        exact fin 3 _ _ (by decide) (by omega) e (by repeat' first | exact True.intro | refine And.intro rfl ?_)
      · simp only [q0,q1,q2,q3] at a b d1 d2 d3 r v e
        omega
      · have hVf:=badV e
        simp only [q0,q1,q2,q3] at hh b2 b3 b4
        unfold RuneN at b3 b4
        (refine W_x (Aj hl.symm (Aj q0 (Aj q1 (Aj q2 (Aj q3 (Aj rf (Aj e1 (Aj e2 r0)))))))) ?_; (repeat' first | apply Cj.mk | exact Nl.nl) <;> intros)
        all_goals exact ⟨by rw [hVf],rfl⟩
    · have rf:∀ lc,Mem.rd ⟨lc,h1⟩ ⟨0,x0,none⟩ 1 = some [.int .u8 35]:=fun lc=>by rw [rf lc,hz]; rfl
      have e1:=u8a 35 3 (by simp)
      have e2:=u8s 35 2 (by simp)
      have r0:∀ lc,Mem.rd ⟨lc,h1⟩ ⟨1,4,none⟩ 2 = some [.int .u8 128,.int .u8 159]:=fun lc=>ra 2 lc
      simp only at a1
      rcases g2 with ⟨a,e⟩ | ⟨a,b,n,d1,r,e⟩ | ⟨a,b,n,d1,d2,r,v,e⟩ | ⟨a,b,n,d1,d2,d3,r,v,e⟩ | ⟨e,hh,b2,b3,b4⟩
      · rw [q0] at a; omega
      · simp only [q0,q1] at a b d1 r e
        omega
      · simp only [q0,q1,q2] at a b d1 d2 r v e
        unfold RuneN at v
        (refine W_x (Aj hl.symm (Aj q0 (Aj q1 (Aj q2 (Aj q3 (Aj rf (Aj e1 (Aj e2 r0)))))))) ?_; (repeat' first | apply Cj.mk | exact Nl.nl) <;> intros)
        exact fin 3 _ _ (by decide) (by omega) e (by repeat' first | exact True.intro | refine And.intro rfl ?_)
      · simp only [q0,q1,q2,q3] at a b d1 d2 d3 r v e
        omega
      · have hVf:=badV e
        simp only [q0,q1,q2,q3] at hh b2 b3 b4
        unfold RuneN at b3 b4
        (refine W_x (Aj hl.symm (Aj q0 (Aj q1 (Aj q2 (Aj q3 (Aj rf (Aj e1 (Aj e2 r0)))))))) ?_; (repeat' first | apply Cj.mk | exact Nl.nl) <;> intros)
        all_goals exact ⟨by rw [hVf],rfl⟩
    · have rf:∀ lc,Mem.rd ⟨lc,h1⟩ ⟨0,x0,none⟩ 1 = some [.int .u8 3]:=fun lc=>by rw [rf lc,hz]; rfl
      have e1:=u8a 3 3 (by simp)
      have e2:=u8s 3 0 (by simp)
      have r0:∀ lc,Mem.rd ⟨lc,h1⟩ ⟨1,0,none⟩ 2 = some [.int .u8 128,.int .u8 191]:=fun lc=>ra 0 lc
      simp only at a1 a2 a3
      rcases g2 with ⟨a,e⟩ | ⟨a,b,n,d1,r,e⟩ | ⟨a,b,n,d1,d2,r,v,e⟩ | ⟨a,b,n,d1,d2,d3,r,v,e⟩ | ⟨e,hh,b2,b3,b4⟩
      · rw [q0] at a; omega
      · simp only [q0,q1] at a b d1 r e
        omega
      · simp only [q0,q1,q2] at a b d1 d2 r v e
        unfold RuneN at v
        (refine W_x (Aj hl.symm (Aj q0 (Aj q1 (Aj q2 (Aj q3 (Aj rf (Aj e1 (Aj e2 r0)))))))) ?_; (repeat' first | apply Cj.mk | exact Nl.nl) <;> intros)
        exact fin 3 _ _ (by decide) (by omega) e (by repeat' first | exact True.intro | refine And.intro rfl ?_)
      · simp only [q0,q1,q2,q3] at a b d1 d2 d3 r v e
        omega
      · have hVf:=badV e
        simp only [q0,q1,q2,q3] at hh b2 b3 b4
        unfold RuneN at b3 b4
        (refine W_x (Aj hl.symm (Aj q0 (Aj q1 (Aj q2 (Aj q3 (Aj rf (Aj e1 (Aj e2 r0)))))))) ?_; (repeat' first | apply Cj.mk | exact Nl.nl) <;> intros)
        all_goals exact ⟨by rw [hVf],rfl⟩
    · have rf:∀ lc,Mem.rd ⟨lc,h1⟩ ⟨0,x0,none⟩ 1 = some [.int .u8 52]:=fun lc=>by rw [rf lc,hz]; rfl
      have e1:=u8a 52 4 (by simp)
      have e2:=u8s 52 3 (by simp)
      have r0:∀ lc,Mem.rd ⟨lc,h1⟩ ⟨1,6,none⟩ 2 = some [.int .u8 144,.int .u8 191]:=fun lc=>ra 3 lc
      simp only at a1
      rcases g2 with ⟨a,e⟩ | ⟨a,b,n,d1,r,e⟩ | ⟨a,b,n,d1,d2,r,v,e⟩ | ⟨a,b,n,d1,d2,d3,r,v,e⟩ | ⟨e,hh,b2,b3,b4⟩
      · rw [q0] at a; omega
      · simp only [q0,q1] at a b d1 r e
        omega
      · simp only [q0,q1,q2] at a b d1 d2 r v e
        omega
      · simp only [q0,q1,q2,q3] at a b d1 d2 d3 r v e
        unfold RuneN at v
        (refine W_x (Aj hl.symm (Aj q0 (Aj q1 (Aj q2 (Aj q3 (Aj rf (Aj e1 (Aj e2 r0)))))))) ?_; (repeat' first | apply Cj.mk | exact Nl.nl) <;> intros)
        exact fin 4 _ _ (by decide) (by omega) e (by repeat' first | exact True.intro | refine And.intro rfl ?_)
      · have hVf:=badV e
        simp only [q0,q1,q2,q3] at hh b2 b3 b4
        unfold RuneN at b3 b4
        (refine W_x (Aj hl.symm (Aj q0 (Aj q1 (Aj q2 (Aj q3 (Aj rf (Aj e1 (Aj e2 r0)))))))) ?_; (repeat' first | apply Cj.mk | exact Nl.nl) <;> intros)
        all_goals exact ⟨by rw [hVf],rfl⟩
    · have rf:∀ lc,Mem.rd ⟨lc,h1⟩ ⟨0,x0,none⟩ 1 = some [.int .u8 68]:=fun lc=>by rw [rf lc,hz]; rfl
      have e1:=u8a 68 4 (by simp)
      have e2:=u8s 68 4 (by simp)
      have r0:∀ lc,Mem.rd ⟨lc,h1⟩ ⟨1,8,none⟩ 2 = some [.int .u8 128,.int .u8 143]:=fun lc=>ra 4 lc
      simp only at a1
      rcases g2 with ⟨a,e⟩ | ⟨a,b,n,d1,r,e⟩ | ⟨a,b,n,d1,d2,r,v,e⟩ | ⟨a,b,n,d1,d2,d3,r,v,e⟩ | ⟨e,hh,b2,b3,b4⟩
      · rw [q0] at a; omega
      · simp only [q0,q1] at a b d1 r e
        omega
      · simp only [q0,q1,q2] at a b d1 d2 r v e
        omega
      · simp only [q0,q1,q2,q3] at a b d1 d2 d3 r v e
        unfold RuneN at v
        (refine W_x (Aj hl.symm (Aj q0 (Aj q1 (Aj q2 (Aj q3 (Aj rf (Aj e1 (Aj e2 r0)))))))) ?_; (repeat' first | apply Cj.mk | exact Nl.nl) <;> intros)
        exact fin 4 _ _ (by decide) (by omega) e (by repeat' first | exact True.intro | refine And.intro rfl ?_)
      · have hVf:=badV e
        simp only [q0,q1,q2,q3] at hh b2 b3 b4
        unfold RuneN at b3 b4
        (refine W_x (Aj hl.symm (Aj q0 (Aj q1 (Aj q2 (Aj q3 (Aj rf (Aj e1 (Aj e2 r0)))))))) ?_; (repeat' first | apply Cj.mk | exact Nl.nl) <;> intros)
        all_goals exact ⟨by rw [hVf],rfl⟩
    · have rf:∀ lc,Mem.rd ⟨lc,h1⟩ ⟨0,x0,none⟩ 1 = some [.int .u8 4]:=fun lc=>by rw [rf lc,hz]; rfl
      have e1:=u8a 4 4 (by simp)
      have e2:=u8s 4 0 (by simp)
      have r0:∀ lc,Mem.rd ⟨lc,h1⟩ ⟨1,0,none⟩ 2 = some [.int .u8 128,.int .u8 191]:=fun lc=>ra 0 lc
      simp only at a1 a2
      rcases g2 with ⟨a,e⟩ | ⟨a,b,n,d1,r,e⟩ | ⟨a,b,n,d1,d2,r,v,e⟩ | ⟨a,b,n,d1,d2,d3,r,v,e⟩ | ⟨e,hh,b2,b3,b4⟩
      · rw [q0] at a; omega
      · simp only [q0,q1] at a b d1 r e
        omega
      · simp only [q0,q1,q2] at a b d1 d2 r v e
        omega
      · simp only [q0,q1,q2,q3] at a b d1 d2 d3 r v e
        unfold RuneN at v
        (refine W_x (Aj hl.symm (Aj q0 (Aj q1 (Aj q2 (Aj q3 (Aj rf (Aj e1 (Aj e2 r0)))))))) ?_; (repeat' first | apply Cj.mk | exact Nl.nl) <;> intros)
        exact fin 4 _ _ (by decide) (by omega) e (by repeat' first | exact True.intro | refine And.intro rfl ?_)
      · have hVf:=badV e
        simp only [q0,q1,q2,q3] at hh b2 b3 b4
        unfold RuneN at b3 b4
        (refine W_x (Aj hl.symm (Aj q0 (Aj q1 (Aj q2 (Aj q3 (Aj rf (Aj e1 (Aj e2 r0)))))))) ?_; (repeat' first | apply Cj.mk | exact Nl.nl) <;> intros)
        all_goals exact ⟨by rw [hVf],rfl⟩
    · have rf:∀ lc,Mem.rd ⟨lc,h1⟩ ⟨0,x0,none⟩ 1 = some [.int .u8 241]:=fun lc=>by rw [rf lc,hz]; rfl
      have e1:=u8a 241 1 (by simp)
      have e2:=u8s 241 15 (by simp)
      have r0:∀ lc,Mem.rd ⟨lc,h1⟩ ⟨1,30,none⟩ 2 = some [.int .u8 0,.int .u8 0]:=fun lc=>ra 15 lc
      simp only at a1
      rcases g2 with ⟨a,e⟩ | ⟨a,b,n,d1,r,e⟩ | ⟨a,b,n,d1,d2,r,v,e⟩ | ⟨a,b,n,d1,d2,d3,r,v,e⟩ | ⟨e,hh,b2,b3,b4⟩
      · rw [q0] at a; omega
      · simp only [q0,q1] at a b d1 r e
        omega
      · simp only [q0,q1,q2] at a b d1 d2 r v e
        omega
      · simp only [q0,q1,q2,q3] at a b d1 d2 d3 r v e
        unfold RuneN at v; omega
      · have hVf:=badV e
        simp only [q0,q1,q2,q3] at hh b2 b3 b4
        unfold RuneN at b3 b4
        (refine W_x (Aj hl.symm (Aj q0 (Aj q1 (Aj q2 (Aj q3 (Aj rf (Aj e1 (Aj e2 r0)))))))) ?_; (repeat' first | apply Cj.mk | exact Nl.nl) <;> intros)
        all_goals exact ⟨by rw [hVf],rfl⟩
end Go.Proofs.YtakmapoompffgaaGreatDoor.AM
namespace Go.Proofs.YtakmapoompffgaaGreatDoor.AM
open Go Go.ChangeShapes Go.WideShapes Go.ChangeAt Go.RowKit
abbrev laidL : List (String × DataW Unit) := [("unicode/utf8.acceptRanges", Rows.laid_unicode_utf8_acceptRanges), ("unicode/utf8.first", Rows.laid_unicode_utf8_first)]
def laidV:List (Nat × List Value):=[(0,firstV),(1,acceptV)]
theorem g_first : Tryz.prog.globalNamed "unicode/utf8.first" = some 0 := by kernel_rfl
theorem g_accept : Tryz.prog.globalNamed "unicode/utf8.acceptRanges" = some 1 := by kernel_rfl
set_option maxRecDepth 100000 in
theorem laid_start {W:World} (hL:laidMetH Tryz.prog laidL W):HRel Tryz.prog W.heap.size (laidR Tryz.prog laidV) (laidH Tryz.prog laidV) W∧RO (laidH Tryz.prog laidV)∧U8T (laidH Tryz.prog laidV)∧2≤(laidH Tryz.prog laidV).n:=by
  have hm:laidMet Tryz.prog laidL W:=hL
  have gs:Tryz.prog.globals.size = 3:=by kernel_rfl
  have v1 : VarIs W 0 firstV := first_is (Lib.laidMet.reads hm (n := "unicode/utf8.first") (d := Rows.laid_unicode_utf8_first) (by simp [laidL])) g_first (t := 196) (e := 5) (by kernel_rfl) Tryz.underlying196 Tryz.underlying5 (by kernel_rfl) (by kernel_rfl)
  have v2 : VarIs W 1 acceptV := accept_is (Lib.laidMet.reads hm (n := "unicode/utf8.acceptRanges") (d := Rows.laid_unicode_utf8_acceptRanges) (by simp [laidL])) g_accept (t := 199) (e := 198) (by kernel_rfl) Tryz.underlying199 Tryz.underlying198 ⟨Tryz.underlying5, rfl, by kernel_rfl⟩ ⟨Tryz.underlying5, rfl, by kernel_rfl⟩ (by kernel_rfl) (by kernel_rfl)
  have hg:∀ x∈laidV,x.1 < Tryz.prog.globals.size:=fun x hx=>by
    rw [gs]
    simp only [laidV,List.mem_cons,List.mem_nil_iff,or_false] at hx
    rcases hx with rfl | rfl <;> decide
  have hl:=hrel_laid (P:=Tryz.prog) (L:=laidV) (w:=W) hg (fun x hx=>by
    simp only [laidV,List.mem_cons,List.mem_nil_iff,or_false] at hx
    rcases hx with rfl | rfl <;> decide) (fun x hx=>by
    simp only [laidV,List.mem_cons,List.mem_nil_iff,or_false] at hx
    rcases hx with rfl | rfl
    · exact v1
    · exact v2)
  have hn:=laidH_n Tryz.prog laidV
  rw [gs] at hn
  refine ⟨hl.1,hl.2,⟨?_, ?_⟩,by omega⟩
  · simp only [laidH,laidV,List.foldr_cons,List.foldr_nil]
    exact AH.get_set_same _ (by rw [AH.set_n,gs]; decide)
  · simp only [laidH,laidV,List.foldr_cons,List.foldr_nil]
    rw [AH.get_set_ne _ (by decide)]
    exact AH.get_set_same _ (by rw [gs]; decide)
end Go.Proofs.YtakmapoompffgaaGreatDoor.AM
namespace Go.Proofs.YtakmapoompffgaaGreatDoor.AM
open Go Go.ChangeShapes Go.WideShapes Go.ChangeAt Go.RowKit
theorem own:ownKnob Tryz.prog.godebug = none:=by kernel_rfl
theorem mixed:Tryz.prog.follows .mixedOrders = true:=by kernel_rfl
theorem laidOut:laidOutB Tryz.prog = true:=by kernel_rfl
def setO (xs:List Value):Obj→Obj
  | .cells _ t frozen=>.cells xs.toArray t frozen
  | o=>o
noncomputable def laidWorld (os:Os):World :=
  { World.holding Tryz.prog os ⟨#[], #[],[]⟩ with heap:=((World.holding Tryz.prog os ⟨#[], #[],[]⟩).heap.modify 0 (setO firstV)).modify 1 (setO acceptV) }
set_option maxRecDepth 100000 in
theorem laid_met (os:Os) (args:Array Value):laidMet Tryz.prog laidL ((laidWorld os).forCall (fun _ _=>0) ⟨#[],args,[]⟩).memory :=
  laidMet_of_run' 8 (by kernel_rfl) (by kernel_rfl)
end Go.Proofs.YtakmapoompffgaaGreatDoor.AM
namespace Go.Proofs.YtakmapoompffgaaGreatDoor.AM
open Go
def LF_guisekeep_Of:LFunc :=
  .mk 1 [.tmp 2,.tmp 3,.tmp 4] (.seq (R 1 [1] [.tmp 1 (xbl 1 8 (.sl 0)),.set 2 (.cv (.pointer none)),.set 3 (.cv (.bool false)),.set 4 (.cv (.bool false))]) (.seq (.seq (R 8
  [1,9] [.tmp 9 (xc1 38 (xln 8 (.sl 1)))]) (.cond (.s 9) (.seq (R 999 [2,3,4] [.set 2 (.cv (.pointer none)),.set 3 (.cv (.bool false)),.set 4 (.cv (.bool
  true))]) .ret) .skip)) (.seq (R 11 [1,5,6] [.set 10 (xc1 39 (xln 8 (.sl 1))),.tmp 13 (xex 0 (.sl 10)),.tmp 14 (xex 1 (.sl 10)),.at 6,.tmp 6 (xnl 6 [.int .i64 0,
  .int .i64 0,.int .i64 0]),.set 5 (.sl 13),.run (xst 3 (.sl 6) (.sl 14))]) (.seq (R 15 [5,6,7] [.tmp 16 (xc1 40 (xln 8 (.sl 1))),.at 7,.tmp 7 (xnl 7 [.int
  .i64 0,.int .i64 0,.int .i64 0]),.run (xst 3 (.sl 7) (.sl 16))]) (.seq (.seq (R 17 [5,6,7,19] [.tmp 19 (xb .neq (xld (xfa 0 (.sl 7))) (xi 0))]) (.cond (.s 19) (.seq (R 20
  [2,3,4] [.tmp 26 (.and (.op (.p (.eqk false .ptr (.s 0) (.s 1))) (.cons (.va 5) (.cv (.pointer none)))) (.op (.p (.eqA false [.int,.int,.int] (.s 0) (.s 1))) (.cons (xln 3
  (.sl 6)) (xln 3 (.sl 7))))),.set 2 (.cv (.pointer none)),.set 3 (.cv (.bool false)),.set 4 (.sl 26)]) .ret) .skip)) (.seq (.seq (R 27 [5,33] [.tmp 33 (.or (.op (.p (.eqk false
  .ptr (.s 0) (.s 1))) (.cons (.va 5) (.cv (.pointer none)))) (.op (.p (.eqA true [.int,.int,.int] (.s 0) (.s 1))) (.cons (xln 3 (.sl 6)) (.op (.p (.build [.int .i64 0,.int .i64
  0,.int .i64 0] [])) .nil))))]) (.cond (.s 33) (.seq (R 999 [2,3,4] [.set 2 (.cv (.pointer none)),.set 3 (.cv (.bool false)),.set 4 (.cv (.bool false))]) .ret) .skip)) (.seq
  (R 34 [2,3,4] [.set 2 (.va 5),.set 3 (.cv (.bool true)),.set 4 (.cv (.bool true))]) .ret)))))))
theorem fn_guisekeep_Of:(autoPrg Tryz.prog).fn 9 = some LF_guisekeep_Of:=by kernel_rfl
def LF_guisekeep6_Large:LFunc :=
  .mk 1 [.tmp 2] (.seq (R 1 [1] [.tmp 1 (xbl 1 8 (.sl 0)),.set 2 (.cv (.bool false))]) (.seq (R 5 [1,3] [.set 3 (xb .add (xb .add (xb .add (xb .add (xb .add (xb .add (xlen (xld
  (xfa 1 (.sl 1)))) (xlen (xld (xfa 2 (.sl 1))))) (xlen (xld (xfa 3 (.sl 1))))) (xlen (xld (xfa 4 (.sl 1))))) (xlen (xld (xfa 5 (.sl 1))))) (xlen (xld (xfa 6 (.sl 1))))) (xlen (xld
  (xfa 7 (.sl 1)))))]) (.seq (.seq (R 999 [1,3,4] [.set 4 (xi 0)]) (.block 0 (.loop (.seq (.seq (R 32 [1,3,4,40] [.tmp 40 (.and (xb .lss (.va 4) (xlen (xld (xfa 0 (.sl 1)))))
  (xb .lss (.va 4) (xi 200)))]) (.cond (.s 40) .skip (.exit 0))) (.seq (.block 1 (R 43 [1,3,4] [.set 3 (xb .add (xb .add (.va 3) (xi 1)) (xlen (xld (xfa 1 (xia 2 (xld (xfa 0 (.sl
  1))) (.va 4))))))])) (R 41 [1,3,4] [.set 4 (xb .add (.va 4) (xi 1))])))))) (.seq (R 53 [2] [.set 2 (.or (xb .gtr (.va 3) (xi 6000)) (xb .gtr (xlen (xld (xfa 0 (.sl 1)))) (xi
  100)))]) .ret))))
theorem fn_guisekeep6_Large:(autoPrg Tryz.prog).fn 38 = some LF_guisekeep6_Large:=by kernel_rfl
def LF_tables_New:LFunc :=
  .mk 1 [.tmp 2,.cell 3 (some 3)] (.seq (R 1 [1,3] [.tmp 1 (xbl 1 8 (.sl 0)),.set 2 (.cv (.pointer none)),.at 3,.tmp 3 (xnl 3 [.int .i64 0,.int .i64 0,.int .i64 0])]) (.seq
  (R 8 [1,3,4] [.set 4 (xbh 9 (.op (.p (.build [.slice none 0 0,.slice none 0 0,.slice none 0 0,.slice none 0 0,.slice none 0 0,.slice none 0 0,.slice none 0 0,.slice none
  0 0,.pointer none] [(0,8,.s 0),(8,1,.s 1)])) (.cons (xln 8 (.sl 1)) (xbh 13 (.op (.p (.build [.slice none 0 0,.slice none 0 0,.slice none 0 0,.slice none 0 0,.slice none
  0 0,.slice none 0 0,.slice none 0 0,.slice none 0 0,.map none,.map none,.map none,.map none,.map none] [(8,1,.s 0),(9,1,.s 1),(10,1,.s 2),(11,1,.s 3),(12,1,
  .s 4)])) (.cons (.op (.e (.mkmap)) .nil) (.cons (.op (.e (.mkmap)) .nil) (.cons (.op (.e (.mkmap)) .nil) (.cons (.op (.e (.mkmap)) .nil) (.op (.e (.mkmap)) .nil))))))))))]) (.seq
  (.seq (R 18 [1,3,4,36,37,38] [.tmp 36 (.op (.e (.litH 9 1 [.nilFunc] [(0,1,.s 0),(1,1,.s 1),(2,1,.s 2),(3,1,.s 3),(4,1,.s 4),(5,1,.s 5),(6,1,.s 6),(7,1,
  .s 7),(8,1,.s 8)])) (.cons (.op (.p (.mkfn (.func 56) [.s 0] [])) (.va 4)) (.cons (.op (.p (.mkfn (.func 57) [.s 0] [])) (.va 4))
  (.cons (.op (.p (.mkfn (.func 58) [.s 0] [])) (.va 4)) (.cons (.op (.p (.mkfn (.func 59) [.s 0] [])) (.va 4)) (.cons (.op (.p (.mkfn
  (.func 60) [.s 0] [])) (.va 4)) (.cons (.op (.p (.mkfn (.func 61) [.s 0] [])) (.va 4)) (.cons (.op (.p (.mkfn (.func
  62) [.s 0] [])) (.va 4)) (.cons (.op (.p (.mkfn (.func 63) [.s 0] [])) (.va 4)) (.op (.p (.mkfn (.func 64) [.s
  0] [])) (.va 4))))))))))),.tmp 37 (xlen (.sl 36)),.set 38 (xi 0)]) (.block 0 (.loop (.seq (R 39 [1,3,4,36,37,38,39] [.tmp 39 (xb .lss (.sl 38) (.sl 37))]) (.seq (.cond (.s
  39) .skip (.exit 0)) (.seq (.block 1 (.seq (R 40 [1,3,4,6,36,37,38] [.set 6 (xld (xia 1 (.sl 36) (.sl 38)))]) (.seq (R 42 [1,3,4,7,36,37,38] [.tmp 43 (xv0 (.va 6)),
  .at 7,.tmp 7 (xnl 7 [.int .i64 0,.int .i64 0,.int .i64 0]),.run (xst 3 (.sl 7) (.sl 43))]) (.seq (R 44 [1,3,4,7,36,37,38,46] [.tmp 46 (xb .neq (xld (xfa 0 (.sl 7))) (xi
  0))]) (.cond (.s 46) (.seq (R 47 [2,3] [.tmp 47 (xln 3 (.sl 7)),.set 2 (.cv (.pointer none)),.run (xst 3 (.sl 3) (.sl 47))]) .ret) .skip))))) (R 48 [1,3,4,36,37,38] [.set
  38 (xb .add (.sl 38) (xi 1))]))))))) (.seq (.region [.mk (some 49) (.p (.mv (.s 4))) none,.mk (some 50) (.p (.nilck (.s 49))) none,.mk (some 51) (.p (.faddr 8 (.s 50))) none,
  .mk (some 52) (.r (.load none (.s 51))) none,.mk (some 53) (.r (.load (some 8) (.s 1))) none,.mk (some 54) (.e (.call 65 [.s 53])) none,.mk (some 55) (.p (.nilck
  (.s 52))) none,.mk (some 56) (.p (.faddr 0 (.s 55))) none,.mk none (.e (.store 8 (.s 56) (.s 54))) none] [3,4] [(3,6)]) (.seq (R 57 [2,3] [.tmp 60 (xld (xfa 8 (xnk (.va
  4)))),.tmp 61 (.op (.p (.build [.int .i64 0,.int .i64 0,.int .i64 0] [])) .nil),.set 2 (.sl 60),.run (xst 3 (.sl 3) (.sl 61))]) .ret)))))
theorem fn_tables_New:(autoPrg Tryz.prog).fn 39 = some LF_tables_New:=by kernel_rfl
def LF_tables_check_long:LFunc :=
  .mk 1 [.cell 2 (some 3)] (.seq (R 2 [0,2] [.tmp 2 (xnl 2 [.int .i64 0,.int .i64 0,.int .i64 0])]) (.seq (.seq (R 7 [0,2,13] [.tmp 13 (xb .gtr (xlen (xld (xfa 0 (xfa 0 (xnk
  (.va 0)))))) (xi 64))]) (.cond (.s 13) (.seq (R 14 [2] [.run (xst 3 (.sl 2) (xc3 92 (xi 4) (xi 1) (xi 64)))]) .ret) .skip)) (.seq (.seq (R 15 [0,2,19,20,21]
  [.tmp 19 (xld (xfa 0 (xfa 0 (xnk (.va 0))))),.tmp 20 (xlen (.sl 19)),.set 21 (xi 0)]) (.block 0 (.loop (.seq (R 22 [0,2,19,20,21,22] [.tmp 22 (xb .lss (.sl 21) (.sl 20))])
  (.seq (.cond (.s 22) .skip (.exit 0)) (.seq (.block 1 (.seq (R 23 [0,2,3,4,19,20,21] [.tmp 23 (.va 21),.tmp 25 (xln 2 (xia 2 (.sl 19) (.sl 21))),.at 4,.tmp 4 (xnl 4
  [.string ⟨#[]⟩,.slice none 0 0]),.set 3 (.sl 23),.run (xst 2 (.sl 4) (.sl 25))]) (.seq (R 26 [0,2,3,19,20,21,29] [.tmp 29 (xb .gtr (xlen (xld (xfa 1 (.sl 4)))) (xi
  1024))]) (.cond (.s 29) (.seq (R 30 [2] [.run (xst 3 (.sl 2) (xc3 92 (xi 4) (xi 1) (.va 3)))]) .ret) .skip)))) (R 32 [0,2,19,20,21] [.set 21 (xb .add (.sl 21)
  (xi 1))]))))))) (.seq (.seq (R 33 [2,82,83,84] [.tmp 82 (.op (.e (.litH 7 3 [.int .i64 0,.int .i64 0,.int .i64 0] [(0,3,.s 0),(3,3,.s 1),(6,3,.s 2),(9,3,.s 3),
  (12,3,.s 4),(15,3,.s 5),(18,3,.s 6)])) (.cons (.op (.p (.build [.int .i64 0,.int .i64 0,.int .i64 0] [(0,1,.s 0),(1,1,.s 1),(2,1,.s 2)])) (.cons (xi 2) (.cons
  (xlen (xld (xfa 1 (xfa 0 (xnk (.va 0)))))) (xi 1024)))) (.cons (.op (.p (.build [.int .i64 0,.int .i64 0,.int .i64 0] [(0,1,.s 0),(1,1,.s 1),(2,1,.s 2)])) (.cons (xi 3)
  (.cons (xlen (xld (xfa 2 (xfa 0 (xnk (.va 0)))))) (xi 512)))) (.cons (.op (.p (.build [.int .i64 0,.int .i64 0,.int .i64 0] [(0,1,.s 0),(1,1,.s 1),(2,1,.s 2)])) (.cons
  (xi 4) (.cons (xlen (xld (xfa 3 (xfa 0 (xnk (.va 0)))))) (xi 4096)))) (.cons (.op (.p (.build [.int .i64 0,.int .i64 0,.int .i64 0] [(0,1,.s 0),(1,1,.s 1),(2,1,.s 2)]))
  (.cons (xi 5) (.cons (xlen (xld (xfa 4 (xfa 0 (xnk (.va 0)))))) (xi 4096)))) (.cons (.op (.p (.build [.int .i64 0,.int .i64 0,.int .i64 0] [(0,1,.s 0),(1,1,.s 1),(2,1,.s
  2)])) (.cons (xi 6) (.cons (xlen (xld (xfa 5 (xfa 0 (xnk (.va 0)))))) (xi 4096)))) (.cons (.op (.p (.build [.int .i64 0,.int .i64 0,.int .i64 0] [(0,1,.s 0),(1,1,.s 1),(2,
  1,.s 2)])) (.cons (xi 7) (.cons (xlen (xld (xfa 6 (xfa 0 (xnk (.va 0)))))) (xi 1024)))) (.op (.p (.build [.int .i64 0,.int .i64 0,.int .i64 0] [(0,1,.s 0),(1,1,.s 1),(2,
  1,.s 2)])) (.cons (xi 8) (.cons (xlen (xld (xfa 7 (xfa 0 (xnk (.va 0)))))) (xi 1024))))))))))),.tmp 83 (xlen (.sl 82)),.set 84 (xi 0)]) (.block 2 (.loop (.seq (R 85 [2,82,83,
  84,85] [.tmp 85 (xb .lss (.sl 84) (.sl 83))]) (.seq (.cond (.s 85) .skip (.exit 2)) (.seq (.block 3 (.seq (R 86 [2,6,82,83,84] [.tmp 87 (xln 3 (xia 3 (.sl 82) (.sl 84))),.at
  6,.tmp 6 (xnl 6 [.int .i64 0,.int .i64 0,.int .i64 0]),.run (xst 3 (.sl 6) (.sl 87))]) (.seq (R 88 [2,6,82,83,84,92] [.tmp 92 (xb .gtr (xld (xfa 1 (.sl 6))) (xld (xfa 2
  (.sl 6))))]) (.cond (.s 92) (.seq (R 93 [2] [.run (xst 3 (.sl 2) (xc3 92 (xi 4) (xld (xfa 0 (.sl 6))) (xld (xfa 2 (.sl 6)))))]) .ret) .skip)))) (R 98 [2,82,83,84]
  [.set 84 (xb .add (.sl 84) (xi 1))]))))))) (.seq (R 99 [2] [.run (xst 3 (.sl 2) (.op (.p (.build [.int .i64 0,.int .i64 0,.int .i64 0] [])) .nil))]) .ret)))))
theorem fn_tables_check_long:(autoPrg Tryz.prog).fn 56 = some LF_tables_check_long:=by kernel_rfl
def LF_tables_check_forms:LFunc :=
  .mk 1 [.cell 2 (some 3)] (.seq (R 2 [0,2] [.tmp 2 (xnl 2 [.int .i64 0,.int .i64 0,.int .i64 0])]) (.seq (.seq (R 22 [0,2,26,27,28] [.tmp 26 (xld (xfa 0 (xfa 0 (xnk (.va
  0))))),.tmp 27 (xlen (.sl 26)),.set 28 (xi 0)]) (.block 0 (.loop (.seq (R 29 [0,2,26,27,28,29] [.tmp 29 (xb .lss (.sl 28) (.sl 27))]) (.seq (.cond (.s 29) .skip (.exit 0))
  (.seq (.block 1 (.seq (R 30 [0,2,3,4,26,27,28] [.tmp 30 (.va 28),.tmp 32 (xln 2 (xia 2 (.sl 26) (.sl 28))),.at 4,.tmp 4 (xnl 4 [.string ⟨#[]⟩,.slice none 0 0]),.set 3
  (.sl 30),.run (xst 2 (.sl 4) (.sl 32))]) (.seq (.seq (R 33 [0,2,3,4,26,27,28,36] [.tmp 36 (xu .not (xc1 93 (xld (xfa 0 (.sl 4)))))]) (.cond (.s 36) (.seq (R
  37 [2] [.run (xst 3 (.sl 2) (xc3 92 (xi 38) (xi 1) (.va 3)))]) .ret) .skip)) (.seq (R 40 [0,2,3,6,26,27,28] [.set 39 (xc1 94 (xld (xfa 1 (.sl
  4)))),.tmp 43 (xex 0 (.sl 39)),.tmp 44 (xex 1 (.sl 39)),.set 5 (.sl 43),.set 6 (.sl 44)]) (.seq (R 45 [0,2,3,6,26,27,28,46] [.tmp 46 (xb .neq (.va 6) (xi 0))]) (.cond
  (.s 46) (.seq (R 47 [2] [.run (xst 3 (.sl 2) (xc3 92 (.va 6) (xi 1) (.va 3)))]) .ret) .skip)))))) (R 50 [0,2,26,27,28] [.set 28 (xb .add (.sl 28) (xi 1))])))))))
  (.seq (.seq (R 52 [0,2,7,8] [.set 51 (xc1 94 (xld (xfa 1 (xfa 0 (xnk (.va 0)))))),.tmp 58 (xex 0 (.sl 51)),.tmp 59 (xex 1 (.sl 51)),.set 7 (.sl 58),.set 8 (.sl
  59)]) (.seq (R 60 [0,2,7,8,61] [.tmp 61 (xb .neq (.va 8) (xi 0))]) (.cond (.s 61) (.seq (R 62 [2] [.run (xst 3 (.sl 2) (xc3 92 (.va 8) (xi 2) (.va 7)))]) .ret)
  .skip))) (.seq (.seq (R 65 [0,2,69,70,71] [.tmp 69 (xld (xfa 2 (xfa 0 (xnk (.va 0))))),.tmp 70 (xlen (.sl 69)),.set 71 (xi 0)]) (.block 2 (.loop (.seq (R 72 [0,2,69,70,
  71,72] [.tmp 72 (xb .lss (.sl 71) (.sl 70))]) (.seq (.cond (.s 72) .skip (.exit 2)) (.seq (.block 3 (.seq (R 73 [0,2,9,10,69,70,71] [.tmp 73 (.va 71),.tmp 75 (xln 2 (xia 2
  (.sl 69) (.sl 71))),.at 10,.tmp 10 (xnl 10 [.int .i32 0,.int .i64 0]),.set 9 (.sl 73),.run (xst 2 (.sl 10) (.sl 75))]) (.block 4 (.seq (R 77 [0,2,9,10,69,70,71,76]
  [.set 76 (xu .not (xc1 95 (xld (xfa 0 (.sl 10)))))]) (.cond (.s 76) (.seq (R 81 [2] [.run (xst 3 (.sl 2) (xc3 92 (xi 12) (xi 3) (.va 9)))]) .ret)
  (.seq (R 84 [0,2,9,69,70,71,83] [.set 83 (.or (xb .lss (xld (xfa 1 (.sl 10))) (xi 1)) (xb .gtr (xld (xfa 1 (.sl 10))) (xi 254)))]) (.cond (.s 83) (.seq (R 92 [2] [.run (xst
  3 (.sl 2) (xc3 92 (xi 30) (xi 3) (.va 9)))]) .ret) .skip))))))) (R 94 [0,2,69,70,71] [.set 71 (xb .add (.sl 71) (xi 1))]))))))) (.seq (.seq (R 95 [0,2,99,100,
  101] [.tmp 99 (xld (xfa 3 (xfa 0 (xnk (.va 0))))),.tmp 100 (xlen (.sl 99)),.set 101 (xi 0)]) (.block 5 (.loop (.seq (R 102 [0,2,99,100,101,102] [.tmp 102 (xb .lss (.sl 101)
  (.sl 100))]) (.seq (.cond (.s 102) .skip (.exit 5)) (.seq (.block 6 (.seq (R 103 [0,2,11,12,99,100,101] [.tmp 103 (.va 101),.tmp 105 (xln 3 (xia 3 (.sl 99) (.sl 101))),.at
  12,.tmp 12 (xnl 12 [.int .i32 0,.int .i32 0,.int .i32 0]),.set 11 (.sl 103),.run (xst 3 (.sl 12) (.sl 105))]) (.seq (R 106 [0,2,11,99,100,101,121] [.tmp 121 (.or (.or
  (xu .not (xc1 95 (xld (xfa 0 (.sl 12))))) (xu .not (xc1 95 (xld (xfa 1 (.sl 12)))))) (xu .not (xc1 95 (xld (xfa 2 (.sl 12))))))])
  (.cond (.s 121) (.seq (R 122 [2] [.run (xst 3 (.sl 2) (xc3 92 (xi 12) (xi 4) (.va 11)))]) .ret) .skip)))) (R 124 [0,2,99,100,101] [.set 101 (xb .add (.sl 101)
  (xi 1))]))))))) (.seq (.seq (R 125 [0,2,135,136,137] [.tmp 135 (.op (.e (.litH 2 1 [.slice none 0 0] [(0,1,.s 0),(1,1,.s 1)])) (.cons (xld (xfa 4 (xfa 0 (xnk (.va 0)))))
  (xld (xfa 5 (xfa 0 (xnk (.va 0))))))),.tmp 136 (xlen (.sl 135)),.set 137 (xi 0)]) (.block 7 (.loop (.seq (R 138 [0,2,135,136,137,138] [.tmp 138 (xb .lss (.sl 137) (.sl
  136))]) (.seq (.cond (.s 138) .skip (.exit 7)) (.seq (.block 8 (.seq (R 139 [0,2,13,14,135,136,137] [.tmp 139 (.va 137),.tmp 141 (xld (xia 1 (.sl 135) (.sl 137))),.set 13
  (.sl 139),.set 14 (.sl 141)]) (.seq (R 142 [0,2,13,135,136,137,142,143,144] [.tmp 142 (.va 14),.tmp 143 (xlen (.sl 142)),.set 144 (xi 0)]) (.block 9 (.loop (.seq (R 145
  [0,2,13,135,136,137,142,143,144,145] [.tmp 145 (xb .lss (.sl 144) (.sl 143))]) (.seq (.cond (.s 145) .skip (.exit 9)) (.seq (.block 10 (.seq (R 146 [0,2,13,15,16,
  135,136,137,142,143,144] [.tmp 146 (.va 144),.tmp 148 (xln 2 (xia 2 (.sl 142) (.sl 144))),.at 16,.tmp 16 (xnl 16 [.int .i32 0,.string ⟨#[]⟩]),.set 15 (.sl 146),.run
  (xst 2 (.sl 16) (.sl 148))]) (.seq (R 149 [0,2,13,15,16,17,135,136,137,142,143,144] [.set 17 (xc1 96 (xld (xfa 1 (.sl 16))))]) (.block 11 (.seq
  (R 153 [0,2,13,15,16,17,135,136,137,142,143,144,152] [.set 152 (xu .not (xc1 95 (xld (xfa 0 (.sl 16)))))]) (.cond (.s 152) (.seq (R 157 [2] [.run (xst
  3 (.sl 2) (xc3 92 (xi 12) (xb .add (xi 5) (.va 13)) (.va 15)))]) .ret) (.seq (R 162 [0,2,13,15,135,136,137,142,143,144,161] [.set 161 (.or (.or (xu .not
  (xc1 97 (xld (xfa 1 (.sl 16))))) (xb .lss (.va 17) (xi 1))) (xb .gtr (.va 17) (xi 4)))]) (.cond (.s 161) (.seq (R 174 [2] [.run (xst 3 (.sl 2) (xc3
  92 (xi 35) (xb .add (xi 5) (.va 13)) (.va 15)))]) .ret) .skip)))))))) (R 178 [0,2,13,135,136,137,142,143,144] [.set 144 (xb .add (.sl 144) (xi 1))])))))))))
  (R 179 [0,2,135,136,137] [.set 137 (xb .add (.sl 137) (xi 1))]))))))) (.seq (.seq (R 180 [2,190,191,192] [.tmp 190 (.op (.e (.litH 2 1 [.slice none 0 0] [(0,1,.s 0),(1,
  1,.s 1)])) (.cons (xld (xfa 6 (xfa 0 (xnk (.va 0))))) (xld (xfa 7 (xfa 0 (xnk (.va 0))))))),.tmp 191 (xlen (.sl 190)),.set 192 (xi 0)]) (.block 12 (.loop (.seq (R 193 [2,190,
  191,192,193] [.tmp 193 (xb .lss (.sl 192) (.sl 191))]) (.seq (.cond (.s 193) .skip (.exit 12)) (.seq (.block 13 (.seq (R 194 [2,18,19,190,191,192] [.tmp 194 (.va 192),.tmp
  196 (xld (xia 1 (.sl 190) (.sl 192))),.set 18 (.sl 194),.set 19 (.sl 196)]) (.seq (R 198 [2,18,20,21,190,191,192] [.set 197 (xc1 94 (.va 19)),.tmp 200 (xex 0
  (.sl 197)),.tmp 201 (xex 1 (.sl 197)),.set 20 (.sl 200),.set 21 (.sl 201)]) (.seq (R 202 [2,18,20,21,190,191,192,203] [.tmp 203 (xb .neq (.va 21) (xi 0))]) (.cond (.s
  203) (.seq (R 204 [2] [.run (xst 3 (.sl 2) (xc3 92 (.va 21) (xb .add (xi 7) (.va 18)) (.va 20)))]) .ret) .skip))))) (R 209 [2,190,191,192] [.set 192 (xb .add (.sl
  192) (xi 1))]))))))) (.seq (R 210 [2] [.run (xst 3 (.sl 2) (.op (.p (.build [.int .i64 0,.int .i64 0,.int .i64 0] [])) .nil))]) .ret))))))))
theorem fn_tables_check_forms:(autoPrg Tryz.prog).fn 57 = some LF_tables_check_forms:=by kernel_rfl
def LF_tables_check_once:LFunc :=
  .mk 1 [.cell 2 (some 3)] (.seq (R 2 [0,2] [.tmp 2 (xnl 2 [.int .i64 0,.int .i64 0,.int .i64 0])]) (.seq (R 21 [0,2,3] [.set 3 (.op (.e (.mkmap)) .nil)]) (.seq (.seq (R 22 [0,
  2,3,26,27,28] [.tmp 26 (xld (xfa 0 (xfa 0 (xnk (.va 0))))),.tmp 27 (xlen (.sl 26)),.set 28 (xi 0)]) (.block 0 (.loop (.seq (R 29 [0,2,3,26,27,28,29] [.tmp 29 (xb .lss
  (.sl 28) (.sl 27))]) (.seq (.cond (.s 29) .skip (.exit 0)) (.seq (.block 1 (.seq (R 30 [0,2,3,4,5,26,27,28] [.tmp 30 (.va 28),.tmp 32 (xln 2 (xia 2 (.sl 26) (.sl 28))),
  .at 5,.tmp 5 (xnl 5 [.string ⟨#[]⟩,.slice none 0 0]),.set 4 (.sl 30),.run (xst 2 (.sl 5) (.sl 32))]) (.seq (.seq (R 33 [0,2,3,4,5,26,27,28,36] [.tmp 36 (.op (.r
  (.lookup (.one .string) (.bool false) false (.s 0) (.s 1))) (.cons (.va 3) (xld (xfa 0 (.sl 5)))))]) (.cond (.s 36) (.seq (R 37 [2] [.run (xst 3 (.sl 2) (xc3 92 (xi
  14) (xi 1) (.va 4)))]) .ret) .skip)) (R 39 [0,2,3,26,27,28] [.run (.ef (.mapup (.one .string) (.s 0) (.s 1) (.s 2)) (.cons (.va 3) (.cons (xld (xfa 0 (.sl 5))) (.cv (.bool
  true)))))])))) (R 42 [0,2,3,26,27,28] [.set 28 (xb .add (.sl 28) (xi 1))]))))))) (.seq (.seq (R 43 [0,2,47,48,49] [.tmp 47 (xld (xfa 2 (xfa 0 (xnk (.va 0))))),.tmp 48
  (xlen (.sl 47)),.set 49 (xi 0)]) (.block 2 (.loop (.seq (R 50 [0,2,47,48,49,50] [.tmp 50 (xb .lss (.sl 49) (.sl 48))]) (.seq (.cond (.s 50) .skip (.exit 2)) (.seq (.block 3
  (.seq (R 51 [0,2,6,7,47,48,49] [.tmp 51 (.va 49),.tmp 53 (xln 2 (xia 2 (.sl 47) (.sl 49))),.at 7,.tmp 7 (xnl 7 [.int .i32 0,.int .i64 0]),.set 6 (.sl 51),.run (xst 2
  (.sl 7) (.sl 53))]) (.seq (.seq (R 54 [0,2,6,7,47,48,49,64] [.tmp 64 (xb .neq (.op (.r (.lookup (.one .int) (.int .i64 0) false (.s 0) (.s 1))) (.cons (xld (xfa 8 (xnk (xld
  (xfa 8 (xnk (.va 0))))))) (xld (xfa 0 (.sl 7))))) (xi 0))]) (.cond (.s 64) (.seq (R 65 [2] [.run (xst 3 (.sl 2) (xc3 92 (xi 14) (xi 3) (.va 6)))]) .ret) .skip)) (R
  67 [0,2,47,48,49] [.run (.ef (.mapup (.one .int) (.s 0) (.s 1) (.s 2)) (.cons (xld (xfa 8 (xnk (xld (xfa 8 (xnk (.va 0))))))) (.cons (xld (xfa 0 (.sl 7))) (xld (xfa 1 (.sl
  7))))))])))) (R 78 [0,2,47,48,49] [.set 49 (xb .add (.sl 49) (xi 1))]))))))) (.seq (.seq (R 79 [0,2,83,84,85] [.tmp 83 (xld (xfa 3 (xfa 0 (xnk (.va 0))))),.tmp 84 (xlen
  (.sl 83)),.set 85 (xi 0)]) (.block 4 (.loop (.seq (R 86 [0,2,83,84,85,86] [.tmp 86 (xb .lss (.sl 85) (.sl 84))]) (.seq (.cond (.s 86) .skip (.exit 4)) (.seq (.block 5 (.seq
  (R 87 [0,2,8,9,83,84,85] [.tmp 87 (.va 85),.tmp 89 (xln 3 (xia 3 (.sl 83) (.sl 85))),.at 9,.tmp 9 (xnl 9 [.int .i32 0,.int .i32 0,.int .i32 0]),.set 8 (.sl 87),.run
  (xst 3 (.sl 9) (.sl 89))]) (.seq (R 90 [0,2,8,9,10,83,84,85] [.tmp 94 (.op (.p (.build [.int .i32 0,.int .i32 0] [(0,1,.s 0),(1,1,.s 1)])) (.cons (xld (xfa 1 (.sl
  9))) (xld (xfa 2 (.sl 9))))),.at 10,.tmp 10 (xnl 10 [.int .i32 0,.int .i32 0]),.run (xst 2 (.sl 10) (.sl 94))]) (.seq (.seq (.region [.mk (some 96) (.p (.mv (.s 0))) none,.mk
  (some 97) (.p (.nilck (.s 96))) none,.mk (some 98) (.p (.faddr 8 (.s 97))) none,.mk (some 99) (.r (.load none (.s 98))) none,.mk (some 100) (.p (.nilck (.s 99))) none,.mk
  (some 101) (.p (.faddr 9 (.s 100))) none,.mk (some 102) (.r (.load none (.s 101))) none,.mk (some 103) (.p (.faddr 0 (.s 9))) none,.mk (some 104) (.r (.load none (.s 103)))
  none,.mk (some 105) (.r (.lookup (.one .int) (.agg (Array.mk [.int .i32 0,.int .i32 0])) true (.s 102) (.s 104))) none,.mk (some 95) (.p (.mv (.s 105))) none,.mk (some 106)
  (.p (.ext 0 (.s 95))) none,.mk (some 107) (.p (.ext 1 (.s 95))) none,.mk (some 11) (.e (.newL 11 [.int .i32 0,.int .i32 0])) none,.mk none (.e (.store 2 (.s 11) (.s 106)))
  none,.mk (some 12) (.p (.mv (.s 107))) none] [0,2,8,9,10,12,83,84,85] [(3,14),(6,14),(8,14),(9,14)]) (.seq (R 108 [0,2,8,9,10,83,84,85,108] [.tmp 108 (.va
  12)]) (.cond (.s 108) (.seq (R 109 [2] [.run (xst 3 (.sl 2) (xc3 92 (xi 14) (xi 4) (.va 8)))]) .ret) .skip))) (.seq (.seq (R 112 [0,2,8,9,10,14,83,84,85]
  [.set 111 (.op (.r (.lookup (.agg [.int,.int]) (.int .i32 0) true (.s 0) (.s 1))) (.cons (xld (xfa 10 (xnk (xld (xfa 8 (xnk (.va 0))))))) (xln 2 (.sl 10)))),.tmp 121 (xex 0 (.sl
  111)),.tmp 122 (xex 1 (.sl 111)),.set 13 (.sl 121),.set 14 (.sl 122)]) (.seq (R 123 [0,2,8,9,10,83,84,85,123] [.tmp 123 (.va 14)]) (.cond (.s 123) (.seq (R 124 [2]
  [.run (xst 3 (.sl 2) (xc3 92 (xi 14) (xi 4) (.va 8)))]) .ret) .skip))) (.region [.mk (some 126) (.p (.mv (.s 0))) none,.mk (some 127) (.p (.nilck (.s 126))) none,
  .mk (some 128) (.p (.faddr 8 (.s 127))) none,.mk (some 129) (.r (.load none (.s 128))) none,.mk (some 130) (.p (.nilck (.s 129))) none,.mk (some 131) (.p (.faddr 9 (.s 130)))
  none,.mk (some 132) (.r (.load none (.s 131))) none,.mk (some 133) (.p (.faddr 0 (.s 9))) none,.mk (some 134) (.r (.load none (.s 133))) none,.mk (some 135) (.p (.mv (.s 0)))
  none,.mk (some 136) (.p (.nilck (.s 135))) none,.mk (some 137) (.p (.faddr 8 (.s 136))) none,.mk (some 138) (.r (.load none (.s 137))) none,.mk (some 139) (.p (.nilck (.s
  138))) none,.mk (some 140) (.p (.faddr 10 (.s 139))) none,.mk (some 141) (.r (.load none (.s 140))) none,.mk (some 142) (.r (.load (some 2) (.s 10))) none,.mk (some 143) (.r
  (.load (some 2) (.s 10))) none,.mk (some 144) (.p (.faddr 0 (.s 9))) none,.mk (some 145) (.r (.load none (.s 144))) none,.mk (some 146) (.e (.mapent (.one .int) (.agg (Array.mk
  [.int .i32 0,.int .i32 0])) (.s 132) (.s 134))) none,.mk (some 147) (.p (.ext 1 (.s 146))) none,.mk none (.e (.mapst (.s 132) (.s 147) (.s 143))) none,.mk (some 148) (.e
  (.mapent (.agg [.int,.int]) (.int .i32 0) (.s 141) (.s 142))) none,.mk (some 149) (.p (.ext 1 (.s 148))) none,.mk none (.e (.mapst (.s 141) (.s 149) (.s 145))) none] [0,2,83,
  84,85] [(16,21),(16,23),(17,21),(19,21),(19,23),(19,24)])))))) (R 150 [0,2,83,84,85] [.set 85 (xb .add (.sl 85) (xi 1))]))))))) (.seq (.seq (R 151 [0,2,165,166,
  167] [.tmp 165 (.op (.e (.litH 2 1 [.map none] [(0,1,.s 0),(1,1,.s 1)])) (.cons (xld (xfa 11 (xnk (xld (xfa 8 (xnk (.va 0))))))) (xld (xfa 12 (xnk (xld (xfa 8 (xnk (.va
  0))))))))),.tmp 166 (xlen (.sl 165)),.set 167 (xi 0)]) (.block 6 (.loop (.seq (R 168 [0,2,165,166,167,168] [.tmp 168 (xb .lss (.sl 167) (.sl 166))]) (.seq (.cond (.s 168)
  .skip (.exit 6)) (.seq (.block 7 (.seq (R 169 [0,2,15,16,165,166,167] [.tmp 169 (.va 167),.tmp 171 (xld (xia 1 (.sl 165) (.sl 167))),.set 15 (.sl 169),.set 16 (.sl 171)])
  (.seq (R 172 [0,2,15,16,165,166,167,185,186,187] [.tmp 185 (xld (xia 1 (.op (.e (.litH 2 1 [.slice none 0 0] [(0,1,.s 0),(1,1,.s 1)])) (.cons (xld (xfa 4 (xfa 0 (xnk
  (.va 0))))) (xld (xfa 5 (xfa 0 (xnk (.va 0))))))) (.va 15))),.tmp 186 (xlen (.sl 185)),.set 187 (xi 0)]) (.block 8 (.loop (.seq (R 188 [0,2,15,16,165,166,167,185,186,
  187,188] [.tmp 188 (xb .lss (.sl 187) (.sl 186))]) (.seq (.cond (.s 188) .skip (.exit 8)) (.seq (.block 9 (.seq (R 189 [0,2,15,16,17,18,165,166,167,185,186,187] [.tmp
  189 (.va 187),.tmp 191 (xln 2 (xia 2 (.sl 185) (.sl 187))),.at 18,.tmp 18 (xnl 18 [.int .i32 0,.string ⟨#[]⟩]),.set 17 (.sl 189),.run (xst 2 (.sl 18) (.sl 191))]) (.seq
  (.seq (R 193 [0,2,15,16,17,18,20,165,166,167,185,186,187] [.set 192 (.op (.r (.lookup (.one .int) (.string ⟨#[]⟩) true (.s 0) (.s 1))) (.cons (.va 16) (xld (xfa 0 (.sl
  18))))),.tmp 197 (xex 0 (.sl 192)),.tmp 198 (xex 1 (.sl 192)),.set 19 (.sl 197),.set 20 (.sl 198)]) (.seq (R 199 [0,2,15,16,17,18,165,166,167,185,186,187,199]
  [.tmp 199 (.va 20)]) (.cond (.s 199) (.seq (R 200 [2] [.run (xst 3 (.sl 2) (xc3 92 (xi 14) (xb .add (xi 5) (.va 15)) (.va 17)))]) .ret) .skip))) (R 204 [0,2,15,
  16,165,166,167,185,186,187] [.run (.ef (.mapup (.one .int) (.s 0) (.s 1) (.s 2)) (.cons (.va 16) (.cons (xld (xfa 0 (.sl 18))) (xld (xfa 1 (.sl 18))))))])))) (R 209 [0,2,
  15,16,165,166,167,185,186,187] [.set 187 (xb .add (.sl 187) (xi 1))]))))))))) (R 210 [0,2,165,166,167] [.set 167 (xb .add (.sl 167) (xi 1))]))))))) (.seq (R 211 [2]
  [.run (xst 3 (.sl 2) (.op (.p (.build [.int .i64 0,.int .i64 0,.int .i64 0] [])) .nil))]) .ret)))))))
theorem fn_tables_check_once:(autoPrg Tryz.prog).fn 58 = some LF_tables_check_once:=by kernel_rfl
def LF_tables_check_pairs:LFunc :=
  .mk 1 [.cell 2 (some 3)] (.seq (R 2 [0,2] [.tmp 2 (xnl 2 [.int .i64 0,.int .i64 0,.int .i64 0])]) (.seq (.seq (R 5 [0,2,9,10,11] [.tmp 9 (xld (xfa 3 (xfa 0 (xnk (.va
  0))))),.tmp 10 (xlen (.sl 9)),.set 11 (xi 0)]) (.block 0 (.loop (.seq (R 12 [0,2,9,10,11,12] [.tmp 12 (xb .lss (.sl 11) (.sl 10))]) (.seq (.cond (.s 12) .skip (.exit 0))
  (.seq (.block 1 (.seq (R 13 [0,2,3,4,9,10,11] [.tmp 13 (.va 11),.tmp 15 (xln 3 (xia 3 (.sl 9) (.sl 11))),.at 4,.tmp 4 (xnl 4 [.int .i32 0,.int .i32 0,.int .i32 0]),
  .set 3 (.sl 13),.run (xst 3 (.sl 4) (.sl 15))]) (.seq (R 16 [0,2,3,9,10,11,52] [.tmp 52 (.or (.or (xb .neq (.op (.r (.lookup (.one .int) (.int .i64 0) false (.s 0) (.s 1)))
  (.cons (xld (xfa 8 (xnk (xld (xfa 8 (xnk (.va 0))))))) (xld (xfa 0 (.sl 4))))) (xi 0)) (xb .neq (.op (.r (.lookup (.one .int) (.int .i64 0) false (.s 0) (.s 1))) (.cons (xld (xfa
  8 (xnk (xld (xfa 8 (xnk (.va 0))))))) (xld (xfa 1 (.sl 4))))) (xi 0))) (xb .eql (.op (.r (.lookup (.one .int) (.int .i64 0) false (.s 0) (.s 1))) (.cons (xld (xfa 8 (xnk (xld (xfa
  8 (xnk (.va 0))))))) (xld (xfa 2 (.sl 4))))) (xi 0)))]) (.cond (.s 52) (.seq (R 53 [2] [.run (xst 3 (.sl 2) (xc3 92 (xi 32) (xi 4) (.va 3)))]) .ret) .skip)))) (R 55
  [0,2,9,10,11] [.set 11 (xb .add (.sl 11) (xi 1))]))))))) (.seq (R 56 [2] [.run (xst 3 (.sl 2) (.op (.p (.build [.int .i64 0,.int .i64 0,.int .i64 0] [])) .nil))]) .ret)))
theorem fn_tables_check_pairs:(autoPrg Tryz.prog).fn 59 = some LF_tables_check_pairs:=by kernel_rfl
def LF_tables_check_chains:LFunc :=
  .mk 1 [.cell 2 (some 3)] (.seq (R 2 [0,2] [.tmp 2 (xnl 2 [.int .i64 0,.int .i64 0,.int .i64 0])]) (.seq (.seq (R 9 [0,2,13,14,15] [.tmp 13 (xld (xfa 3 (xfa 0 (xnk (.va
  0))))),.tmp 14 (xlen (.sl 13)),.set 15 (xi 0)]) (.block 0 (.loop (.seq (R 16 [0,2,13,14,15,16] [.tmp 16 (xb .lss (.sl 15) (.sl 14))]) (.seq (.cond (.s 16) .skip (.exit 0))
  (.seq (.block 1 (.seq (R 17 [0,2,3,4,13,14,15] [.tmp 17 (.va 15),.tmp 19 (xln 3 (xia 3 (.sl 13) (.sl 15))),.at 4,.tmp 4 (xnl 4 [.int .i32 0,.int .i32 0,.int .i32 0]),
  .set 3 (.sl 17),.run (xst 3 (.sl 4) (.sl 19))]) (.seq (R 20 [0,2,3,5,6,13,14,15] [.tmp 21 (xld (xfa 1 (.sl 4))),.set 5 (xi 1),.set 6 (.sl 21)]) (.seq (.block 2 (.loop
  (.seq (.seq (R 22 [0,2,3,5,6,13,14,15,29] [.tmp 29 (xb .leq (.va 5) (xlen (xld (xfa 3 (xfa 0 (xnk (.va 0)))))))]) (.cond (.s 29) .skip (.exit 2))) (.seq (.block 3 (.seq (R
  33 [0,2,3,5,7,8,13,14,15] [.set 32 (.op (.r (.lookup (.one .int) (.agg (Array.mk [.int .i32 0,.int .i32 0])) true (.s 0) (.s 1))) (.cons (xld (xfa 9 (xnk (xld (xfa 8 (xnk
  (.va 0))))))) (.va 6))),.tmp 42 (xex 0 (.sl 32)),.tmp 43 (xex 1 (.sl 32)),.at 7,.tmp 7 (xnl 7 [.int .i32 0,.int .i32 0]),.run (xst 2 (.sl 7) (.sl 42)),.tmp 8 (.va 43)])
  (.seq (.seq (R 44 [0,2,3,5,7,13,14,15,45] [.tmp 45 (xu .not (.va 8))]) (.cond (.s 45) (.exit 2) .skip)) (R 46 [0,2,3,5,6,13,14,15] [.set 6 (xld (.op (.p (.iaddrA 2
  1 (.s 0) (.s 1))) (.cons (.sl 7) (xi 0))))])))) (R 30 [0,2,3,5,6,13,14,15] [.set 5 (xb .add (.va 5) (xi 1))]))))) (.block 4 (.seq (R 49 [0,2,3,5,13,14,15,48] [.set
  48 (xb .gtr (.va 5) (xlen (xld (xfa 3 (xfa 0 (xnk (.va 0)))))))]) (.cond (.s 48) (.seq (R 57 [2] [.run (xst 3 (.sl 2) (xc3 92 (xi 33) (xi 4) (.va 3)))]) .ret) (.seq
  (R 60 [0,2,3,13,14,15,59] [.set 59 (xb .gtr (.va 5) (xi 4))]) (.cond (.s 59) (.seq (R 62 [2] [.run (xst 3 (.sl 2) (xc3 92 (xi 34) (xi 4) (.va 3)))]) .ret)
  .skip))))))))) (R 64 [0,2,13,14,15] [.set 15 (xb .add (.sl 15) (xi 1))]))))))) (.seq (R 65 [2] [.run (xst 3 (.sl 2) (.op (.p (.build [.int .i64 0,.int .i64 0,.int .i64 0]
  [])) .nil))]) .ret)))
theorem fn_tables_check_chains:(autoPrg Tryz.prog).fn 60 = some LF_tables_check_chains:=by kernel_rfl
def LF_tables_check_drops:LFunc :=
  .mk 1 [.cell 2 (some 3)] (.seq (R 1 [1,2] [.tmp 1 (xbh 1 (.sl 0)),.tmp 2 (xnl 2 [.int .i64 0,.int .i64 0,.int .i64 0])]) (.seq (R 12 [1,2,3] [.set 3 (.op (.p (.mkfn (.func
  98) [] [.s 0])) (.sl 1))]) (.seq (.seq (R 13 [1,2,3,17,18,19] [.tmp 17 (xld (xfa 2 (xfa 0 (xnk (xld (.sl 1)))))),.tmp 18 (xlen (.sl 17)),.set 19
  (xi 0)]) (.block 0 (.loop (.seq (R 20 [1,2,3,17,18,19,20] [.tmp 20 (xb .lss (.sl 19) (.sl 18))]) (.seq (.cond (.s 20) .skip (.exit 0)) (.seq (.block 1 (.seq (R 21 [1,2,3,
  4,5,17,18,19] [.tmp 21 (.va 19),.tmp 23 (xln 2 (xia 2 (.sl 17) (.sl 19))),.at 5,.tmp 5 (xnl 5 [.int .i32 0,.int .i64 0]),.set 4 (.sl 21),.run (xst 2 (.sl 5) (.sl 23))])
  (.seq (R 24 [1,2,3,4,17,18,19,28] [.tmp 28 (xv1 (.va 3) (.op (.e (.litH 1 1 [.int .i32 0] [(0,1,.s 0)])) (xld (xfa 0 (.sl 5)))))]) (.cond (.s 28) (.seq (R 29 [2] [.run
  (xst 3 (.sl 2) (xc3 92 (xi 37) (xi 3) (.va 4)))]) .ret) .skip)))) (R 31 [1,2,3,17,18,19] [.set 19 (xb .add (.sl 19) (xi 1))]))))))) (.seq (.seq (R 32 [1,2,3,
  36,37,38] [.tmp 36 (xld (xfa 3 (xfa 0 (xnk (xld (.sl 1)))))),.tmp 37 (xlen (.sl 36)),.set 38 (xi 0)]) (.block 2 (.loop (.seq (R 39 [1,2,3,36,37,38,39] [.tmp 39 (xb .lss
  (.sl 38) (.sl 37))]) (.seq (.cond (.s 39) .skip (.exit 2)) (.seq (.block 3 (.seq (R 40 [1,2,3,6,7,36,37,38] [.tmp 40 (.va 38),.tmp 42 (xln 3 (xia 3 (.sl 36) (.sl 38))),
  .at 7,.tmp 7 (xnl 7 [.int .i32 0,.int .i32 0,.int .i32 0]),.set 6 (.sl 40),.run (xst 3 (.sl 7) (.sl 42))]) (.seq (R 43 [1,2,3,6,36,37,38,51] [.tmp 51 (xv1 (.va 3) (.op
  (.e (.litH 3 1 [.int .i32 0] [(0,1,.s 0),(1,1,.s 1),(2,1,.s 2)])) (.cons (xld (xfa 0 (.sl 7))) (.cons (xld (xfa 1 (.sl 7))) (xld (xfa 2 (.sl 7)))))))]) (.cond (.s 51)
  (.seq (R 52 [2] [.run (xst 3 (.sl 2) (xc3 92 (xi 37) (xi 4) (.va 6)))]) .ret) .skip)))) (R 54 [1,2,3,36,37,38] [.set 38 (xb .add (.sl 38) (xi 1))]))))))) (.seq
  (.seq (R 55 [2,3,65,66,67] [.tmp 65 (.op (.e (.litH 2 1 [.slice none 0 0] [(0,1,.s 0),(1,1,.s 1)])) (.cons (xld (xfa 4 (xfa 0 (xnk (xld (.sl 1)))))) (xld (xfa 5 (xfa 0
  (xnk (xld (.sl 1)))))))),.tmp 66 (xlen (.sl 65)),.set 67 (xi 0)]) (.block 4 (.loop (.seq (R 68 [2,3,65,66,67,68] [.tmp 68 (xb .lss (.sl 67) (.sl 66))]) (.seq (.cond (.s 68)
  .skip (.exit 4)) (.seq (.block 5 (.seq (R 69 [2,3,8,9,65,66,67] [.tmp 69 (.va 67),.tmp 71 (xld (xia 1 (.sl 65) (.sl 67))),.set 8 (.sl 69),.set 9 (.sl 71)]) (.seq (R 72
  [2,3,8,65,66,67,72,73,74] [.tmp 72 (.va 9),.tmp 73 (xlen (.sl 72)),.set 74 (xi 0)]) (.block 6 (.loop (.seq (R 75 [2,3,8,65,66,67,72,73,74,75] [.tmp 75 (xb .lss
  (.sl 74) (.sl 73))]) (.seq (.cond (.s 75) .skip (.exit 6)) (.seq (.block 7 (.seq (R 76 [2,3,8,10,11,65,66,67,72,73,74] [.tmp 76 (.va 74),.tmp 78 (xln 2 (xia 2 (.sl 72)
  (.sl 74))),.at 11,.tmp 11 (xnl 11 [.int .i32 0,.string ⟨#[]⟩]),.set 10 (.sl 76),.run (xst 2 (.sl 11) (.sl 78))]) (.seq (R 79 [2,3,8,10,65,66,67,72,73,74,83] [.tmp
  83 (xv1 (.va 3) (.op (.e (.litH 1 1 [.int .i32 0] [(0,1,.s 0)])) (xld (xfa 0 (.sl 11)))))]) (.cond (.s 83) (.seq (R 84 [2] [.run (xst 3 (.sl 2) (xc3 92 (xi 37) (xb
  .add (xi 5) (.va 8)) (.va 10)))]) .ret) .skip)))) (R 88 [2,3,8,65,66,67,72,73,74] [.set 74 (xb .add (.sl 74) (xi 1))]))))))))) (R 89 [2,3,65,66,67] [.set 67 (xb .add
  (.sl 67) (xi 1))]))))))) (.seq (R 90 [2] [.run (xst 3 (.sl 2) (.op (.p (.build [.int .i64 0,.int .i64 0,.int .i64 0] [])) .nil))]) .ret))))))
theorem fn_tables_check_drops:(autoPrg Tryz.prog).fn 61 = some LF_tables_check_drops:=by kernel_rfl
def LF_tables_check_froms:LFunc :=
  .mk 1 [.cell 2 (some 3)] (.seq (R 2 [0,2] [.tmp 2 (xnl 2 [.int .i64 0,.int .i64 0,.int .i64 0])]) (.seq (.seq (R 9 [0,2,19,20,21] [.tmp 19 (.op (.e (.litH 2 1 [.slice none
  0 0] [(0,1,.s 0),(1,1,.s 1)])) (.cons (xld (xfa 4 (xfa 0 (xnk (.va 0))))) (xld (xfa 5 (xfa 0 (xnk (.va 0))))))),.tmp 20 (xlen (.sl 19)),.set 21 (xi 0)]) (.block 0 (.loop
  (.seq (R 22 [0,2,19,20,21,22] [.tmp 22 (xb .lss (.sl 21) (.sl 20))]) (.seq (.cond (.s 22) .skip (.exit 0)) (.seq (.block 1 (.seq (R 23 [0,2,3,4,19,20,21] [.tmp 23 (.va
  21),.tmp 25 (xld (xia 1 (.sl 19) (.sl 21))),.set 3 (.sl 23),.set 4 (.sl 25)]) (.seq (R 26 [0,2,3,19,20,21,26,27,28] [.tmp 26 (.va 4),.tmp 27 (xlen (.sl 26)),.set 28
  (xi 0)]) (.block 2 (.loop (.seq (R 29 [0,2,3,19,20,21,26,27,28,29] [.tmp 29 (xb .lss (.sl 28) (.sl 27))]) (.seq (.cond (.s 29) .skip (.exit 2)) (.seq (.block 3 (.seq (R
  30 [0,2,3,5,6,19,20,21,26,27,28] [.tmp 30 (.va 28),.tmp 32 (xln 2 (xia 2 (.sl 26) (.sl 28))),.at 6,.tmp 6 (xnl 6 [.int .i32 0,.string ⟨#[]⟩]),.set 5 (.sl 30),.run
  (xst 2 (.sl 6) (.sl 32))]) (.seq (.region [.mk (some 34) (.p (.mv (.s 0))) none,.mk (some 35) (.p (.nilck (.s 34))) none,.mk (some 36) (.p (.faddr 8 (.s 35))) none,.mk (some
  37) (.r (.load none (.s 36))) none,.mk (some 38) (.p (.nilck (.s 37))) none,.mk (some 39) (.p (.faddr 9 (.s 38))) none,.mk (some 40) (.r (.load none (.s 39))) none,.mk (some
  41) (.p (.faddr 0 (.s 6))) none,.mk (some 42) (.r (.load none (.s 41))) none,.mk (some 43) (.r (.lookup (.one .int) (.agg (Array.mk [.int .i32 0,.int .i32 0])) true (.s 40) (.s
  42))) none,.mk (some 33) (.p (.mv (.s 43))) none,.mk (some 44) (.p (.ext 0 (.s 33))) none,.mk (some 45) (.p (.ext 1 (.s 33))) none,.mk (some 7) (.e (.newL 7 [.int .i32 0,.int
  .i32 0])) none,.mk none (.e (.store 2 (.s 7) (.s 44))) none,.mk (some 8) (.p (.mv (.s 45))) none] [0,2,3,5,6,8,19,20,21,26,27,28] [(3,14),(6,14),(8,14),(9,
  14)]) (.seq (R 46 [0,2,3,5,19,20,21,26,27,28,59] [.tmp 59 (.or (.va 8) (xb .neq (.op (.r (.lookup (.one .int) (.int .i64 0) false (.s 0) (.s 1))) (.cons (xld (xfa 8 (xnk
  (xld (xfa 8 (xnk (.va 0))))))) (xld (xfa 0 (.sl 6))))) (xi 0)))]) (.cond (.s 59) (.seq (R 60 [2] [.run (xst 3 (.sl 2) (xc3 92 (xi 31) (xb .add (xi 5) (.va 3)) (.va
  5)))]) .ret) .skip))))) (R 64 [0,2,3,19,20,21,26,27,28] [.set 28 (xb .add (.sl 28) (xi 1))]))))))))) (R 65 [0,2,19,20,21] [.set 21 (xb .add (.sl 21) (xi 1))])))))))
  (.seq (R 66 [2] [.run (xst 3 (.sl 2) (.op (.p (.build [.int .i64 0,.int .i64 0,.int .i64 0] [])) .nil))]) .ret)))
theorem fn_tables_check_froms:(autoPrg Tryz.prog).fn 62 = some LF_tables_check_froms:=by kernel_rfl
def LF_tables_check_tos:LFunc :=
  .mk 1 [.cell 2 (some 3)] (.seq (R 2 [0,2] [.tmp 2 (xnl 2 [.int .i64 0,.int .i64 0,.int .i64 0])]) (.seq (R 13 [0,2] [.tmp 16 (xld (xfa 8 (xnk (.va 0)))),.tmp 21 (xld (xfa 6
  (xfa 0 (xnk (.va 0))))),.run (xst 1 (xfa 6 (xfa 0 (xnk (.sl 16)))) (.sl 21))]) (.seq (.seq (R 25 [0,2,29,30,31] [.tmp 29 (xld (xfa 4 (xfa 0 (xnk (.va 0))))),.tmp 30 (xlen
  (.sl 29)),.set 31 (xi 0)]) (.block 0 (.loop (.seq (R 32 [0,2,29,30,31,32] [.tmp 32 (xb .lss (.sl 31) (.sl 30))]) (.seq (.cond (.s 32) .skip (.exit 0)) (.seq (.block 1 (.seq
  (R 33 [0,2,3,4,29,30,31] [.tmp 33 (.va 31),.tmp 35 (xln 2 (xia 2 (.sl 29) (.sl 31))),.at 4,.tmp 4 (xnl 4 [.int .i32 0,.string ⟨#[]⟩]),.set 3 (.sl 33),.run (xst 2 (.sl
  4) (.sl 35))]) (.seq (R 36 [0,2,3,29,30,31,38] [.tmp 38 (.op (.e (.rngS 38 (.s 0))) (xld (xfa 1 (.sl 4))))]) (.block 2 (.loop (.seq (R 39 [0,2,3,29,30,31,38,39,40]
  [.tmp 39 (.op (.e (.nxtS (.s 0))) (.sl 38)),.tmp 40 (xex 0 (.sl 39))]) (.seq (.cond (.s 40) .skip (.exit 2)) (.block 3 (.seq (R 41 [0,2,3,6,29,30,31,38] [.set 6 (xex 2
  (.sl 39))]) (.seq (R 42 [0,2,3,29,30,31,38,48] [.tmp 48 (xu .not (xc2 100 (xld (xfa 8 (xnk (.va 0)))) (.va 6)))]) (.cond (.s 48) (.seq (R 49 [2] [.run
  (xst 3 (.sl 2) (xc3 92 (xi 35) (xi 5) (.va 3)))]) .ret) .skip))))))))))) (R 51 [0,2,29,30,31] [.set 31 (xb .add (.sl 31) (xi 1))]))))))) (.seq (.seq (R 52 [0,2,
  56,57,58] [.tmp 56 (xld (xfa 5 (xfa 0 (xnk (.va 0))))),.tmp 57 (xlen (.sl 56)),.set 58 (xi 0)]) (.block 4 (.loop (.seq (R 59 [0,2,56,57,58,59] [.tmp 59 (xb .lss (.sl 58)
  (.sl 57))]) (.seq (.cond (.s 59) .skip (.exit 4)) (.seq (.block 5 (.seq (R 60 [0,2,7,8,56,57,58] [.tmp 60 (.va 58),.tmp 62 (xln 2 (xia 2 (.sl 56) (.sl 58))),.at 8,.tmp 8
  (xnl 8 [.int .i32 0,.string ⟨#[]⟩]),.set 7 (.sl 60),.run (xst 2 (.sl 8) (.sl 62))]) (.seq (R 63 [0,2,7,56,57,58,65] [.tmp 65 (.op (.e (.rngS 65 (.s 0))) (xld (xfa 1 (.sl
  8))))]) (.block 6 (.loop (.seq (R 66 [0,2,7,56,57,58,65,66,67] [.tmp 66 (.op (.e (.nxtS (.s 0))) (.sl 65)),.tmp 67 (xex 0 (.sl 66))]) (.seq (.cond (.s 67) .skip (.exit
  6)) (.block 7 (.seq (R 68 [0,2,7,10,56,57,58,65] [.set 10 (xex 2 (.sl 66))]) (.seq (R 70 [0,2,7,10,12,56,57,58,65] [.set 69 (.op (.r (.lookup (.one .int) (.string
  ⟨#[]⟩) true (.s 0) (.s 1))) (.cons (xld (xfa 12 (xnk (xld (xfa 8 (xnk (.va 0))))))) (.va 10))),.tmp 79 (xex 0 (.sl 69)),.tmp 80 (xex 1 (.sl 69)),.set 11 (.sl 79),.set 12 (.sl
  80)]) (.seq (R 81 [0,2,7,56,57,58,65,90] [.tmp 90 (.or (.va 12) (xu .not (xc2 100 (xld (xfa 8 (xnk (.va 0)))) (.va 10))))]) (.cond (.s 90) (.seq (R 91
  [2] [.run (xst 3 (.sl 2) (xc3 92 (xi 36) (xi 6) (.va 7)))]) .ret) .skip)))))))))))) (R 93 [0,2,56,57,58] [.set 58 (xb .add (.sl 58) (xi 1))]))))))) (.seq (R 94
  [2] [.run (xst 3 (.sl 2) (.op (.p (.build [.int .i64 0,.int .i64 0,.int .i64 0] [])) .nil))]) .ret)))))
theorem fn_tables_check_tos:(autoPrg Tryz.prog).fn 63 = some LF_tables_check_tos:=by kernel_rfl
def LF_tables_check_house:LFunc :=
  .mk 1 [.cell 2 (some 3)] (.seq (R 2 [0,2] [.tmp 2 (xnl 2 [.int .i64 0,.int .i64 0,.int .i64 0])]) (.seq (.seq (R 20 [0,2,20] [.tmp 20 (.op (.e (.rngS 20 (.s 0))) (.cv
  (.string ⟨#[45,46,48,49,50,51,52,53,54,55,56,57]⟩)))]) (.block 0 (.loop (.seq (R 21 [0,2,20,21,22] [.tmp 21 (.op (.e (.nxtS (.s 0))) (.sl 20)),.tmp 22 (xex 0 (.sl
  21))]) (.seq (.cond (.s 22) .skip (.exit 0)) (.block 1 (.seq (R 23 [0,2,4,20] [.set 4 (xex 2 (.sl 21))]) (.seq (R 24 [0,2,20,31] [.tmp 31 (xu .not (xc2 99 (.va 4)
  (xld (xfa 1 (xfa 0 (xnk (.va 0)))))))]) (.cond (.s 31) (.seq (R 32 [2] [.run (xst 3 (.sl 2) (xc3 92 (xi 5) (xi 2) (xi 0)))]) .ret) .skip))))))))) (.seq (.seq (R 33
  [0,2,37,38,39] [.tmp 37 (xld (xfa 2 (xfa 0 (xnk (.va 0))))),.tmp 38 (xlen (.sl 37)),.set 39 (xi 0)]) (.block 2 (.loop (.seq (R 40 [0,2,37,38,39,40] [.tmp 40 (xb .lss
  (.sl 39) (.sl 38))]) (.seq (.cond (.s 40) .skip (.exit 2)) (.seq (.block 3 (.seq (R 41 [0,2,5,6,37,38,39] [.tmp 41 (.va 39),.tmp 43 (xln 2 (xia 2 (.sl 37) (.sl 39))),.at
  6,.tmp 6 (xnl 6 [.int .i32 0,.int .i64 0]),.set 5 (.sl 41),.run (xst 2 (.sl 6) (.sl 43))]) (.seq (R 44 [0,2,5,37,38,39,46] [.tmp 46 (xc1 101 (xld (xfa 0 (.sl
  6))))]) (.cond (.s 46) (.seq (R 47 [2] [.run (xst 3 (.sl 2) (xc3 92 (xi 5) (xi 3) (.va 5)))]) .ret) .skip)))) (R 49 [0,2,37,38,39] [.set 39 (xb .add (.sl 39) (xi
  1))]))))))) (.seq (.seq (R 50 [0,2,54,55,56] [.tmp 54 (xld (xfa 3 (xfa 0 (xnk (.va 0))))),.tmp 55 (xlen (.sl 54)),.set 56 (xi 0)]) (.block 4 (.loop (.seq (R 57 [0,2,54,
  55,56,57] [.tmp 57 (xb .lss (.sl 56) (.sl 55))]) (.seq (.cond (.s 57) .skip (.exit 4)) (.seq (.block 5 (.seq (R 58 [0,2,7,8,54,55,56] [.tmp 58 (.va 56),.tmp 60 (xln 3
  (xia 3 (.sl 54) (.sl 56))),.at 8,.tmp 8 (xnl 8 [.int .i32 0,.int .i32 0,.int .i32 0]),.set 7 (.sl 58),.run (xst 3 (.sl 8) (.sl 60))]) (.seq (R 61 [0,2,7,54,55,56,63]
  [.tmp 63 (xc1 101 (xld (xfa 0 (.sl 8))))]) (.cond (.s 63) (.seq (R 64 [2] [.run (xst 3 (.sl 2) (xc3 92 (xi 5) (xi 4) (.va 7)))]) .ret) .skip)))) (R 66 [0,
  2,54,55,56] [.set 56 (xb .add (.sl 56) (xi 1))]))))))) (.seq (.seq (R 67 [0,2,71,72,73] [.tmp 71 (xld (xfa 4 (xfa 0 (xnk (.va 0))))),.tmp 72 (xlen (.sl 71)),.set 73 (xi
  0)]) (.block 6 (.loop (.seq (R 74 [0,2,71,72,73,74] [.tmp 74 (xb .lss (.sl 73) (.sl 72))]) (.seq (.cond (.s 74) .skip (.exit 6)) (.seq (.block 7 (.seq (R 75 [0,2,9,10,71,
  72,73] [.tmp 75 (.va 73),.tmp 77 (xln 2 (xia 2 (.sl 71) (.sl 73))),.at 10,.tmp 10 (xnl 10 [.int .i32 0,.string ⟨#[]⟩]),.set 9 (.sl 75),.run (xst 2 (.sl 10) (.sl 77))])
  (.seq (R 78 [0,2,9,71,72,73,95] [.tmp 95 (.or (.and (xc1 101 (xld (xfa 0 (.sl 10)))) (.or (xb .lss (xld (xfa 0 (.sl 10))) (xr 65)) (xb .gtr (xld (xfa 0 (.sl 10)))
  (xr 90)))) (xc2 102 (xld (xfa 1 (.sl 10))) (.cv (.func (.func 103) (Array.mk []) (Array.mk [])))))]) (.cond (.s 95) (.seq (R 96 [2] [.run (xst 3
  (.sl 2) (xc3 92 (xi 5) (xi 5) (.va 9)))]) .ret) .skip)))) (R 98 [0,2,71,72,73] [.set 73 (xb .add (.sl 73) (xi 1))]))))))) (.seq (.seq (R 99 [0,2,103,104,105]
  [.tmp 103 (xld (xfa 5 (xfa 0 (xnk (.va 0))))),.tmp 104 (xlen (.sl 103)),.set 105 (xi 0)]) (.block 8 (.loop (.seq (R 106 [0,2,103,104,105,106] [.tmp 106 (xb .lss (.sl 105)
  (.sl 104))]) (.seq (.cond (.s 106) .skip (.exit 8)) (.seq (.block 9 (.seq (R 107 [0,2,11,12,103,104,105] [.tmp 107 (.va 105),.tmp 109 (xln 2 (xia 2 (.sl 103) (.sl 105))),
  .at 12,.tmp 12 (xnl 12 [.int .i32 0,.string ⟨#[]⟩]),.set 11 (.sl 107),.run (xst 2 (.sl 12) (.sl 109))]) (.seq (R 110 [0,2,11,103,104,105,117] [.tmp 117 (.or (xc1
  103 (xld (xfa 0 (.sl 12)))) (xc2 102 (xld (xfa 1 (.sl 12))) (.cv (.func (.func 103) (Array.mk []) (Array.mk [])))))]) (.cond (.s
  117) (.seq (R 118 [2] [.run (xst 3 (.sl 2) (xc3 92 (xi 5) (xi 6) (.va 11)))]) .ret) .skip)))) (R 120 [0,2,103,104,105] [.set 105 (xb .add (.sl 105) (xi
  1))]))))))) (.seq (.seq (R 121 [0,2,125,126,127] [.tmp 125 (xld (xfa 6 (xfa 0 (xnk (.va 0))))),.tmp 126 (xlen (.sl 125)),.set 127 (xi 0)]) (.block 10 (.loop (.seq (R 128 [0,
  2,125,126,127,128] [.tmp 128 (xb .lss (.sl 127) (.sl 126))]) (.seq (.cond (.s 128) .skip (.exit 10)) (.seq (.block 11 (.seq (R 129 [0,2,13,14,125,126,127] [.tmp 129 (.va
  127),.tmp 131 (xln 2 (xia 2 (.sl 125) (.sl 127))),.at 14,.tmp 14 (xnl 14 [.int .i32 0,.int .i32 0]),.set 13 (.sl 129),.run (xst 2 (.sl 14) (.sl 131))]) (.seq (R 132 [0,2,
  13,125,126,127,144] [.tmp 144 (.or (xb .lss (xld (xfa 0 (.sl 14))) (xr 128)) (.and (xb .leq (xld (xfa 0 (.sl 14))) (xr 65533)) (xb .geq (xld (xfa 1 (.sl 14))) (xr 65533))))])
  (.cond (.s 144) (.seq (R 145 [2] [.run (xst 3 (.sl 2) (xc3 92 (xi 5) (xi 7) (.va 13)))]) .ret) .skip)))) (R 147 [0,2,125,126,127] [.set 127 (xb .add (.sl 127)
  (xi 1))]))))))) (.seq (.seq (R 148 [0,2,152,153,154] [.tmp 152 (xld (xfa 7 (xfa 0 (xnk (.va 0))))),.tmp 153 (xlen (.sl 152)),.set 154 (xi 0)]) (.block 12 (.loop (.seq (R 155
  [0,2,152,153,154,155] [.tmp 155 (xb .lss (.sl 154) (.sl 153))]) (.seq (.cond (.s 155) .skip (.exit 12)) (.seq (.block 13 (.seq (R 156 [0,2,15,16,152,153,154] [.tmp 156
  (.va 154),.tmp 158 (xln 2 (xia 2 (.sl 152) (.sl 154))),.at 16,.tmp 16 (xnl 16 [.int .i32 0,.int .i32 0]),.set 15 (.sl 156),.run (xst 2 (.sl 16) (.sl 158))]) (.seq (R 159 [0,
  2,15,16,17,152,153,154] [.set 17 (xld (xfa 0 (.sl 16)))]) (.block 14 (.loop (.seq (.seq (R 161 [0,2,15,16,17,152,153,154,165] [.tmp 165 (xb .leq (.va 17) (.op (.p
  (.mm false [.s 0,.s 1])) (.cons (xld (xfa 1 (.sl 16))) (xr 127))))]) (.cond (.s 165) .skip (.exit 14))) (.seq (.block 15 (.seq (R 168 [0,2,15,16,17,152,153,154,170] [.tmp
  170 (xu .not (xc2 104 (.cv (.string ⟨#[45,48,49,50,51,52,53,54,55,56,57,97,98,99,100,101,102,103,104,105,106,107,108,109,110,111,
  112,113,114,115,116,117,118,119,120,121,122]⟩)) (.va 17)))]) (.cond (.s 170) (.seq (R 171 [2] [.run (xst 3 (.sl 2) (xc3 92 (xi 5) (xi 8) (.va 15)))]) .ret)
  .skip))) (R 166 [0,2,15,16,17,152,153,154] [.set 17 (xb .add (.va 17) (xr 1))])))))))) (R 173 [0,2,152,153,154] [.set 154 (xb .add (.sl 154) (xi 1))]))))))) (.seq (.seq
  (R 174 [0,2,174] [.tmp 174 (.op (.e (.rngS 174 (.s 0))) (.cv (.string ⟨#[45,48,49,50,51,52,53,54,55,56,57,97,98,99,100,101,102,103,104,105,106,107,108,
  109,110,111,112,113,114,115,116,117,118,119,120,121,122]⟩)))]) (.block 16 (.loop (.seq (R 175 [0,2,174,175,176] [.tmp 175 (.op (.e (.nxtS (.s 0))) (.sl 174)),
  .tmp 176 (xex 0 (.sl 175))]) (.seq (.cond (.s 176) .skip (.exit 16)) (.block 17 (.seq (R 177 [0,2,19,174] [.set 19 (xex 2 (.sl 175))]) (.seq (R 178 [0,2,174,185] [.tmp 185
  (xu .not (xc2 99 (.va 19) (xld (xfa 7 (xfa 0 (xnk (.va 0)))))))]) (.cond (.s 185) (.seq (R 186 [2] [.run (xst 3 (.sl 2) (xc3 92 (xi 5) (xi 8) (xi 0)))])
  .ret) .skip))))))))) (.seq (R 187 [2] [.run (xst 3 (.sl 2) (.op (.p (.build [.int .i64 0,.int .i64 0,.int .i64 0] [])) .nil))]) .ret))))))))))
theorem fn_tables_check_house:(autoPrg Tryz.prog).fn 64 = some LF_tables_check_house:=by kernel_rfl
def LF_tables_copied:LFunc :=
  .mk 1 [.cell 2 (some 8)] (.seq (R 1 [1,2] [.tmp 1 (xbl 1 8 (.sl 0)),.tmp 2 (xnl 2 [.slice none 0 0,.slice none 0 0,.slice none 0 0,.slice none 0 0,.slice none 0 0,.slice
  none 0 0,.slice none 0 0,.slice none 0 0])]) (.seq (R 5 [1,2,3] [.set 3 (xc1 105 (xc1 106 (xld (xfa
  0 (.sl 1)))))]) (.seq (.seq (R 9 [1,2,3,10,11] [.tmp 10 (xlen (.va 3)),.set 11 (xi 0)]) (.block 0 (.loop (.seq (R 12 [1,2,3,10,11,12] [.tmp 12 (xb .lss (.sl 11) (.sl
  10))]) (.seq (.cond (.s 12) .skip (.exit 0)) (.seq (.block 1 (.seq (R 13 [1,2,3,4,10,11] [.set 4 (.va 11)]) (R 14 [1,2,3,10,11] [.tmp 14 (.va 3),.tmp 15 (.va 4),.tmp 22
  (xc1 107 (xc1 108 (xld (xfa 1 (xia 2 (.va 3) (.va 4)))))),.run (xst 1 (xfa 1 (xia 2 (.sl 14) (.sl 15))) (.sl
  22))]))) (R 25 [1,2,3,10,11] [.set 11 (xb .add (.sl 11) (xi 1))]))))))) (.seq (.region [.mk (some 26) (.p (.mv (.s 3))) none,.mk (some 27) (.p (.faddr 1 (.s 1))) none,.mk
  (some 28) (.r (.load none (.s 27))) none,.mk (some 29) (.e (.call 108 [.s 28])) none,.mk (some 30) (.e (.call
  107 [.s 29])) none,.mk (some 31) (.p (.faddr 2 (.s 1))) none,.mk (some 32) (.r (.load none (.s 31))) none,.mk (some 33) (.e (.call
  110 [.s 32])) none,.mk (some 34) (.e (.call 109 [.s 33])) none,.mk (some 35) (.p (.faddr 3 (.s 1))) none,.mk
  (some 36) (.r (.load none (.s 35))) none,.mk (some 37) (.e (.call 112 [.s 36])) none,.mk (some 38) (.e (.call
  111 [.s 37])) none,.mk (some 39) (.p (.faddr 4 (.s 1))) none,.mk (some 40) (.r (.load none (.s 39))) none,.mk (some 41) (.e (.call
  114 [.s 40])) none,.mk (some 42) (.e (.call 113 [.s 41])) none,.mk (some 43) (.p (.faddr 5 (.s 1))) none,.mk
  (some 44) (.r (.load none (.s 43))) none,.mk (some 45) (.e (.call 114 [.s 44])) none,.mk (some 46) (.e (.call 113
  [.s 45])) none,.mk (some 47) (.p (.faddr 6 (.s 1))) none,.mk (some 48) (.r (.load none (.s 47))) none,.mk (some 49) (.e (.call 108 [.s 48]))
  none,.mk (some 50) (.e (.call 107 [.s 49])) none,.mk (some 51) (.p (.faddr 7 (.s 1))) none,.mk (some 52) (.r (.load none (.s 51))) none,.mk
  (some 53) (.e (.call 108 [.s 52])) none,.mk (some 54) (.e (.call 107 [.s 53])) none,.mk (some 55) (.p (.build
  [.slice none 0 0,.slice none 0 0,.slice none 0 0,.slice none 0 0,.slice none 0 0,.slice none 0 0,.slice none 0 0,.slice none 0 0] [(0,1,.s 26),(1,1,.s 30),(2,1,.s
  34),(3,1,.s 38),(4,1,.s 42),(5,1,.s 46),(6,1,.s 50),(7,1,.s 54)])) none,.mk none (.e (.store 8 (.s 2) (.s 55))) none] [2] [(6,0),(6,4),(10,0),(10,4),(10,
  5),(10,8),(14,0),(14,4),(14,5),(14,8),(14,9),(14,12),(18,0),(18,4),(18,5),(18,8),(18,9),(18,12),(18,13),(18,16),(22,0),(22,4),(22,5),(22,8),
  (22,9),(22,12),(22,13),(22,16),(22,17),(22,20),(26,0),(26,4),(26,5),(26,8),(26,9),(26,12),(26,13),(26,16),(26,17),(26,20),(26,21),(26,24)])
  .ret))))
theorem fn_tables_copied:(autoPrg Tryz.prog).fn 65 = some LF_tables_copied:=by kernel_rfl
def LF_tables_check_drops_1:LFunc :=
  .mk 2 [.tmp 3] (.seq (R 999 [0,1] [.set 3 (.cv (.bool false))]) (.seq (.seq (R 6 [1,6,7,8] [.tmp 6 (.va 0),.tmp 7 (xlen (.sl 6)),.set 8 (xi 0)]) (.block 0 (.loop (.seq (R 9
  [1,6,7,8,9] [.tmp 9 (xb .lss (.sl 8) (.sl 7))]) (.seq (.cond (.s 9) .skip (.exit 0)) (.seq (.block 1 (.seq (R 10 [1,5,6,7,8] [.set 5 (xld (xia 1 (.sl 6) (.sl 8)))]) (.seq
  (R 12 [1,6,7,8,18] [.tmp 18 (xc2 99 (.va 5) (xld (xfa 6 (xfa 0 (xnk (xld (.sl 1)))))))]) (.cond (.s 18) (.seq (R 999 [3] [.set 3 (.cv (.bool true))]) .ret)
  .skip)))) (R 19 [1,6,7,8] [.set 8 (xb .add (.sl 8) (xi 1))]))))))) (.seq (R 999 [3] [.set 3 (.cv (.bool false))]) .ret)))
theorem fn_tables_check_drops_1:(autoPrg Tryz.prog).fn 98 = some LF_tables_check_drops_1:=by kernel_rfl
def LF_tables_Book_Plain:LFunc :=
  .mk 2 [.tmp 4] (.seq (R 999 [0,1] [.set 4 (.cv (.bool false))]) (.seq (R 10 [0,1,6] [.set 9 (.op (.r (.lookup (.one .int) (.agg (Array.mk [.int .i32 0,.int .i32 0])) true (.s
  0) (.s 1))) (.cons (xld (xfa 9 (xnk (.va 0)))) (.va 1))),.tmp 16 (xex 0 (.sl 9)),.tmp 17 (xex 1 (.sl 9)),.at 5,.run (xst 2 (xnl 5 [.int .i32 0,.int .i32 0]) (.sl 16)),.tmp 6
  (.va 17)]) (.seq (R 19 [0,1,6,8] [.set 18 (.op (.r (.lookup (.one .int) (.string ⟨#[]⟩) true (.s 0) (.s 1))) (.cons (xld (xfa 11 (xnk (.va 0)))) (.va 1))),.tmp 25 (xex 0 (.sl
  18)),.tmp 26 (xex 1 (.sl 18)),.set 7 (.sl 25),.set 8 (.sl 26)]) (.seq (R 27 [4] [.set 4 (.and (.and (.and (.and (xc1 95 (.va 1)) (xb .eql (.op (.r (.lookup
  (.one .int) (.int .i64 0) false (.s 0) (.s 1))) (.cons (xld (xfa 8 (xnk (.va 0)))) (.va 1))) (xi 0))) (xu .not (.va 6))) (xu .not (.va 8))) (xu .not (xc2
  137 (.va 0) (.va 1))))]) .ret))))
theorem fn_tables_Book_Plain:(autoPrg Tryz.prog).fn 100 = some LF_tables_Book_Plain:=by kernel_rfl
def LF_tables_Book_Dropped:LFunc :=
  .mk 2 [.tmp 4] (.seq (R 999 [0,1] [.set 4 (.cv (.bool false))]) (.seq (R 5 [4] [.set 4 (xc2 99 (.va 1) (xld (xfa 6 (xfa 0 (xnk (.va 0))))))]) .ret))
theorem fn_tables_Book_Dropped:(autoPrg Tryz.prog).fn 137 = some LF_tables_Book_Dropped:=by kernel_rfl
def LF_slices_Clip_api_Script_api_Script:LFunc :=
  .mk 1 [.tmp 2] (.seq (R 999 [0] [.set 2 (.cv (.slice none 0 0))]) (.seq (R 3 [2] [.set 2 (.op (.p (.sl 2 (.s 0) none (some (.s 1)) (some (.s 2)))) (.cons (.va 0) (.cons (xlen (.va
  0)) (xlen (.va 0)))))]) .ret))
theorem fn_slices_Clip_api_Script_api_Script:(autoPrg Tryz.prog).fn 105 = some LF_slices_Clip_api_Script_api_Script:=by kernel_rfl
def LF_slices_Clone_api_Script_api_Script:LFunc :=
  .mk 1 [.tmp 2] (.seq (R 999 [0] [.set 2 (.cv (.slice none 0 0))]) (.seq (.seq (R 3 [0,4] [.tmp 4 (.op (.p (.eqk false .sl (.s 0) (.s 1))) (.cons (.va 0) (.cv (.slice none 0
  0))))]) (.cond (.s 4) (.seq (R 999 [2] [.set 2 (.cv (.slice none 0 0))]) .ret) .skip)) (.seq (R 5 [2] [.set 2 (xap 2 40 (.op (.e (.litH 0 2 [] [])) .nil) (.va 0))]) .ret)))
theorem fn_slices_Clone_api_Script_api_Script:(autoPrg Tryz.prog).fn 106 = some LF_slices_Clone_api_Script_api_Script:=by kernel_rfl
def LF_slices_Clip_api_Span_api_Span:LFunc :=
  .mk 1 [.tmp 2] (.seq (R 999 [0] [.set 2 (.cv (.slice none 0 0))]) (.seq (R 3 [2] [.set 2 (.op (.p (.sl 2 (.s 0) none (some (.s 1)) (some (.s 2)))) (.cons (.va 0) (.cons (xlen (.va
  0)) (xlen (.va 0)))))]) .ret))
theorem fn_slices_Clip_api_Span_api_Span:(autoPrg Tryz.prog).fn 107 = some LF_slices_Clip_api_Span_api_Span:=by kernel_rfl
def LF_slices_Clone_api_Span_api_Span:LFunc :=
  .mk 1 [.tmp 2] (.seq (R 999 [0] [.set 2 (.cv (.slice none 0 0))]) (.seq (.seq (R 3 [0,4] [.tmp 4 (.op (.p (.eqk false .sl (.s 0) (.s 1))) (.cons (.va 0) (.cv (.slice none 0
  0))))]) (.cond (.s 4) (.seq (R 999 [2] [.set 2 (.cv (.slice none 0 0))]) .ret) .skip)) (.seq (R 5 [2] [.set 2 (xap 2 8 (.op (.e (.litH 0 2 [] [])) .nil) (.va 0))]) .ret)))
theorem fn_slices_Clone_api_Span_api_Span:(autoPrg Tryz.prog).fn 108 = some LF_slices_Clone_api_Span_api_Span:=by kernel_rfl
def LF_slices_Clone_api_Mark_api_Mark:LFunc :=
  .mk 1 [.tmp 2] (.seq (R 999 [0] [.set 2 (.cv (.slice none 0 0))]) (.seq (.seq (R 3 [0,4] [.tmp 4 (.op (.p (.eqk false .sl (.s 0) (.s 1))) (.cons (.va 0) (.cv (.slice none 0
  0))))]) (.cond (.s 4) (.seq (R 999 [2] [.set 2 (.cv (.slice none 0 0))]) .ret) .skip)) (.seq (R 5 [2] [.set 2 (xap 2 16 (.op (.e (.litH 0 2 [] [])) .nil) (.va 0))]) .ret)))
theorem fn_slices_Clone_api_Mark_api_Mark:(autoPrg Tryz.prog).fn 110 = some LF_slices_Clone_api_Mark_api_Mark:=by kernel_rfl
def LF_slices_Clip_api_Mark_api_Mark:LFunc :=
  .mk 1 [.tmp 2] (.seq (R 999 [0] [.set 2 (.cv (.slice none 0 0))]) (.seq (R 3 [2] [.set 2 (.op (.p (.sl 2 (.s 0) none (some (.s 1)) (some (.s 2)))) (.cons (.va 0) (.cons (xlen (.va
  0)) (xlen (.va 0)))))]) .ret))
theorem fn_slices_Clip_api_Mark_api_Mark:(autoPrg Tryz.prog).fn 109 = some LF_slices_Clip_api_Mark_api_Mark:=by kernel_rfl
def LF_slices_Clone_api_Pair_api_Pair:LFunc :=
  .mk 1 [.tmp 2] (.seq (R 999 [0] [.set 2 (.cv (.slice none 0 0))]) (.seq (.seq (R 3 [0,4] [.tmp 4 (.op (.p (.eqk false .sl (.s 0) (.s 1))) (.cons (.va 0) (.cv (.slice none 0
  0))))]) (.cond (.s 4) (.seq (R 999 [2] [.set 2 (.cv (.slice none 0 0))]) .ret) .skip)) (.seq (R 5 [2] [.set 2 (xap 3 12 (.op (.e (.litH 0 3 [] [])) .nil) (.va 0))]) .ret)))
theorem fn_slices_Clone_api_Pair_api_Pair:(autoPrg Tryz.prog).fn 112 = some LF_slices_Clone_api_Pair_api_Pair:=by kernel_rfl
def LF_slices_Clip_api_Pair_api_Pair:LFunc :=
  .mk 1 [.tmp 2] (.seq (R 999 [0] [.set 2 (.cv (.slice none 0 0))]) (.seq (R 3 [2] [.set 2 (.op (.p (.sl 3 (.s 0) none (some (.s 1)) (some (.s 2)))) (.cons (.va 0) (.cons (xlen (.va
  0)) (xlen (.va 0)))))]) .ret))
theorem fn_slices_Clip_api_Pair_api_Pair:(autoPrg Tryz.prog).fn 111 = some LF_slices_Clip_api_Pair_api_Pair:=by kernel_rfl
def LF_slices_Clone_api_Map_api_Map:LFunc :=
  .mk 1 [.tmp 2] (.seq (R 999 [0] [.set 2 (.cv (.slice none 0 0))]) (.seq (.seq (R 3 [0,4] [.tmp 4 (.op (.p (.eqk false .sl (.s 0) (.s 1))) (.cons (.va 0) (.cv (.slice none 0
  0))))]) (.cond (.s 4) (.seq (R 999 [2] [.set 2 (.cv (.slice none 0 0))]) .ret) .skip)) (.seq (R 5 [2] [.set 2 (xap 2 24 (.op (.e (.litH 0 2 [] [])) .nil) (.va 0))]) .ret)))
theorem fn_slices_Clone_api_Map_api_Map:(autoPrg Tryz.prog).fn 114 = some LF_slices_Clone_api_Map_api_Map:=by kernel_rfl
def LF_slices_Clip_api_Map_api_Map:LFunc :=
  .mk 1 [.tmp 2] (.seq (R 999 [0] [.set 2 (.cv (.slice none 0 0))]) (.seq (R 3 [2] [.set 2 (.op (.p (.sl 2 (.s 0) none (some (.s 1)) (some (.s 2)))) (.cons (.va 0) (.cons (xlen (.va
  0)) (xlen (.va 0)))))]) .ret))
theorem fn_slices_Clip_api_Map_api_Map:(autoPrg Tryz.prog).fn 113 = some LF_slices_Clip_api_Map_api_Map:=by kernel_rfl
end Go.Proofs.YtakmapoompffgaaGreatDoor.AM
namespace Go.Proofs.YtakmapoompffgaaGreatDoor.AM
open Go
def bV (d:Value) (B:Nat):List Value:=[.slice none 0 0,.slice none 0 0,.slice none 0 0,.slice none 0 0,.slice none 0 0,.slice none 0 0,d,.slice none 0 0,.map (some B),.map (some (B + 1)),.map (some (B + 2)),.map (some (B + 3)),.map (some (B + 4))]
def cV (S:TS) (B:Nat):List Value:=[S.s0.val 2,S.s1.val 2,S.s2.val 2,S.s3.val 3,S.s4.val 2,S.s5.val 2,S.s6.val 2,S.s7.val 2,.pointer (some ⟨B + 5,0,none⟩)]
def mvC (x:Int × Int):Value:=.int .i64 x.2
def mvP (x:Int × Int × Int):Value:=kP (x.2.1,x.2.2)
def mvJ (x:Int × Int × Int):Value:=.int .i32 x.1
def mvF (x:Int × ByteArray):Value:=.string x.2
structure MpAt (h:AH) (B:Nat) (Lm:List (Int × Int)) (Lp:List (Int × Int × Int)) (Lf Ll:List (Int × ByteArray)):Prop where
  m1:h.get B = some (.map (Lm.map fun x=>(kI x.1,mvC x)))
  m2:h.get (B + 1) = some (.map (Lp.map fun x=>(kI x.1,mvP x)))
  m3:h.get (B + 2) = some (.map (Lp.map fun x=>(kP (x.2.1,x.2.2),mvJ x)))
  m4:h.get (B + 3) = some (.map (Lf.map fun x=>(kI x.1,mvF x)))
  m5:h.get (B + 4) = some (.map (Ll.map fun x=>(kI x.1,mvF x)))
structure CAt (h:AH) (B:Nat) (S:TS) (T:Tab) (d:Value):Prop where
  n:B + 7≤h.n
  c:h.get (B + 6) = some (.cells false (cV S B))
  b:h.get (B + 5) = some (.cells false (bV d B))
  o:∃ h0:AH,h0.n≤B∧Kp h0 h∧TabAt h0 S T
theorem CAt.t {h:AH} {B:Nat} {S:TS} {T:Tab} {d:Value} (c:CAt h B S T d):TabAt h S T:=let ⟨_,_,k,t⟩:=c.o; t.kp k
theorem MpAt.kp {h h':AH} {B:Nat} {Lm Lp Lf Ll} (m:MpAt h B Lm Lp Lf Ll) (k:Kp h h'):MpAt h' B Lm Lp Lf Ll:=⟨k.get m.m1,k.get m.m2,k.get m.m3,k.get m.m4,k.get m.m5⟩
theorem CAt.kp {h h':AH} {B:Nat} {S:TS} {T:Tab} {d:Value} (m:CAt h B S T d) (k:Kp h h'):CAt h' B S T d:=⟨Nat.le_trans m.n k.1,k.get m.c,k.get m.b,let ⟨h0,e,k0,t⟩:=m.o; ⟨h0,e,k0.trans k,t⟩⟩
def KpM (B:Nat) (h h':AH):Prop:=h.n≤h'.n∧∀ b,b < h.n → ¬ (B≤b∧b < B + 5)→h'.get b = h.get b
theorem Kp.m {B:Nat} {h h':AH} (k:Kp h h'):KpM B h h':=⟨k.1,fun b hb _=>k.2 b hb⟩
theorem KpM.trans {B:Nat} {a b c:AH} (k:KpM B a b) (k':KpM B b c):KpM B a c:=⟨Nat.le_trans k.1 k'.1,fun i hi hn=>(k'.2 i (Nat.lt_of_lt_of_le hi k.1) hn).trans (k.2 i hi hn)⟩
theorem KpM.set {B m:Nat} {h:AH} (o:AObj) (h1:B≤m) (h2:m < B + 5):KpM B h (h.set m o):=⟨Nat.le_refl _,fun b _ hn=>AH.get_set_ne _ (by omega)⟩
theorem CAt.kpm {h h':AH} {B:Nat} {S:TS} {T:Tab} {d:Value} (m:CAt h B S T d) (k:KpM B h h'):CAt h' B S T d :=
  have hn:=m.n
  ⟨Nat.le_trans m.n k.1,by rw [k.2 _ (by omega) (by omega)]; exact m.c,by rw [k.2 _ (by omega) (by omega)]; exact m.b,by
    obtain ⟨h0,e,k0,t⟩:=m.o
    exact ⟨h0,e,⟨Nat.le_trans k0.1 k.1,fun b hb=>by rw [k.2 b (by omega) (by omega)]; exact k0.2 b hb⟩,t⟩⟩
theorem U8T.kpm {h h':AH} {B:Nat} (u:U8T h) (hB:2≤B) (hg:0 < 2∧1 < 2) (k:KpM B h h'):U8T h' :=
  ⟨by rw [k.2 _ (AH.get_lt u.f) (by omega)]; exact u.f,by rw [k.2 _ (AH.get_lt u.a) (by omega)]; exact u.a⟩
def cP (B:Nat):Value:=.pointer (some ⟨B + 6,0,none⟩)
set_option maxHeartbeats 1000000 in
theorem cLong {h:AH} {B:Nat} {S:TS} {T:Tab} {d:Value} (c:CAt h B S T d):WpC PX 56 [cP B] h fun v h'=>v = wrV (longW T)∧Kp h h':=by
  have t:=c.t
  have hc:=c.c
  have f:=t.fits
  have n0:=f.n0
  have hz:=f.n0s
  rw [← t.zs] at hz n0
  rw [List.length_map] at n0
  have s0:=t.r0.len
  have s1:=t.r1.len; have n1:=f.n1
  have s2:=t.r2.len; have n2:=f.n2
  have s3:=t.r3.len; have n3:=f.n3
  have s4:=t.r4.len; have n4:=f.n4
  have s5:=t.r5.len; have n5:=f.n5
  have s6:=t.r6.len; have n6:=f.n6
  have s7:=t.r7.len; have n7:=f.n7
  have e1:=fun a b c h=>wrong_eq a b c h
  simp only [wrV] at e1
  refine wpc_fn (px_ext rfl) (px_fn fn_tables_check_long) rfl ?_
  unfold LF_tables_check_long
  simp only [argFr]
  unfold longW cP
  unfold cV at hc
  rw [← t.zs,scanL_map,List.length_map]
  (refine W_x (Aj hc (Aj s0 e1)) ?_; (repeat' first | apply Cj.mk | exact Nl.nl) <;> intros)
  · rw [if_pos (by omega)]
    exact ⟨rfl,Kp.refl h⟩
  rw [if_neg (by omega)]
  refine wp_scanF 21 S.z (fun i z=>if 1024 < z.1.2.length then W 4 1 i else none) (by intro n; simp only [setF,push_cast,Nat.reduceEqDiff, ↓reduceIte,reduceCtorEq,Nat.reduceAdd,Nat.reduceMul,Nat.reduceLeDiff]; rfl) rfl (fun i hi hit=>?_) fun fin=>?_
  · have g1:=fun lc=>rd_map (lc:=lc) t.r0 hi
    have hm:=List.getElem_mem hi
    have sz:=(t.rz _ hm).len
    have nz:=(hz _ (List.mem_map_of_mem hm)).1
    generalize S.z[i] = z at g1 hit sz nz
    unfold scrV at g1
    (refine W_x (Aj s0 (Aj g1 (Aj sz e1))) ?_; (repeat' first | apply Cj.mk | exact Nl.nl) <;> intros)
    · rw [hit _ (if_pos (by omega))]
      exact ⟨rfl,Kp.refl h⟩
    · exact ⟨if_neg (by omega),rfl,rfl,rfl⟩
  · rw [fin,Option.none_or]
    (refine W_x (Aj hc (Aj s0 (Aj s1 (Aj s2 (Aj s3 (Aj s4 (Aj s5 (Aj s6 s7)))))))) ?_; (repeat' first | apply Cj.mk | exact Nl.nl) <;> intros)
    refine wp_unroll ?_
    (refine W_x e1 ?_; (repeat' first | apply Cj.mk | exact Nl.nl) <;> intros)
    · exact ⟨by simp (disch:=omega) only [if_pos,if_neg]; rfl,(Kp.refl h).push _⟩
    refine wp_unroll ?_
    (refine W_x e1 ?_; (repeat' first | apply Cj.mk | exact Nl.nl) <;> intros)
    · exact ⟨by simp (disch:=omega) only [if_pos,if_neg]; rfl,(Kp.refl h).push _⟩
    refine wp_unroll ?_
    (refine W_x e1 ?_; (repeat' first | apply Cj.mk | exact Nl.nl) <;> intros)
    · exact ⟨by simp (disch:=omega) only [if_pos,if_neg]; rfl,(Kp.refl h).push _⟩
    refine wp_unroll ?_
    (refine W_x e1 ?_; (repeat' first | apply Cj.mk | exact Nl.nl) <;> intros)
    · exact ⟨by simp (disch:=omega) only [if_pos,if_neg]; rfl,(Kp.refl h).push _⟩
    refine wp_unroll ?_
    (refine W_x e1 ?_; (repeat' first | apply Cj.mk | exact Nl.nl) <;> intros)
    · exact ⟨by simp (disch:=omega) only [if_pos,if_neg]; rfl,(Kp.refl h).push _⟩
    refine wp_unroll ?_
    (refine W_x e1 ?_; (repeat' first | apply Cj.mk | exact Nl.nl) <;> intros)
    · exact ⟨by simp (disch:=omega) only [if_pos,if_neg]; rfl,(Kp.refl h).push _⟩
    refine wp_unroll ?_
    (refine W_x e1 ?_; (repeat' first | apply Cj.mk | exact Nl.nl) <;> intros)
    · exact ⟨by simp (disch:=omega) only [if_pos,if_neg]; rfl,(Kp.refl h).push _⟩
    refine wp_unroll ?_
    (refine W_x trivial ?_; (repeat' first | apply Cj.mk | exact Nl.nl) <;> intros)
    exact ⟨by simp (disch:=omega) only [if_pos,if_neg]; rfl,(Kp.refl h).push _⟩
end Go.Proofs.YtakmapoompffgaaGreatDoor.AM
namespace Go.Proofs.YtakmapoompffgaaGreatDoor.AM
open Go
theorem scrE_eq (x:Scr):scrE x = if nameB x.1.data.toList = false then some 38 else (spansE x.2).map (·.1):=rfl
set_option maxHeartbeats 4000000 in
theorem cForms {h:AH} {B:Nat} {S:TS} {T:Tab} {d:Value} (c:CAt h B S T d) (u:U8T h):WpC PX 57 [cP B] h fun v h'=>v = wrV (formsW T)∧Kp h h':=by
  have t:=c.t
  have hc:=c.c
  have hcn:=c.n
  have f:=t.fits
  have n0:=f.n0
  have hz:=f.n0s
  rw [← t.zs] at hz n0
  rw [List.length_map] at n0
  have s0:=t.r0.len
  have s2:=t.r2.len; have n2:=f.n2
  have s3:=t.r3.len; have n3:=f.n3
  have s4:=t.r4.len; have n4:=f.n4
  have s5:=t.r5.len; have n5:=f.n5
  have ew:=fun a b c h=>wrong_eq a b c h
  simp only [wrV] at ew
  have er:=validRune_eq
  have e1:=setsRight_eq t.r1 f.n1
  have ev:=fun (s:ByteArray) (h':AH) (k:Kp h h') (hs:s.size < 100000000)=>validString_eq s h' (u.kp k) hs
  have en:=fun (s:ByteArray) (h':AH) (hs:s.size < 100000000)=>runeCount_eq s h' hs
  refine wpc_fn (px_ext rfl) (px_fn fn_tables_check_forms) rfl ?_
  unfold LF_tables_check_forms
  simp only [argFr]
  unfold formsW cP
  unfold cV at hc
  rw [← t.zs,scanL_map]
  (refine W_x (Aj hc (Aj s0 ew)) ?_; (repeat' first | apply Cj.mk | exact Nl.nl) <;> intros)
  refine wp_scanF 28 S.z (fun i z=>(scrE z.1).map fun e=>((e,1,(i:Int)):W3)) (by intro n; simp only [setF,push_cast,Nat.reduceEqDiff, ↓reduceIte,reduceCtorEq,Nat.reduceAdd,Nat.reduceMul,Nat.reduceLeDiff]; rfl) rfl (fun i hi hit=>?_) fun fin=>?_
  · have g1:=fun lc=>rd_map (lc:=lc) t.r0 hi
    have hm:=List.getElem_mem hi
    have rz:=t.rz _ hm
    have nz:=hz _ (List.mem_map_of_mem hm)
    generalize S.z[i] = z at g1 hit rz nz
    have e3:=fun h=>name_eq z.1.1 h nz.2
    have e4:=setsRight_eq rz nz.1
    rw [scrE_eq] at hit ⊢
    have hp:∀ e i',spansE z.1.2 = some (e,i')→e≠0:=fun e i' he=>by
      unfold spansE at he
      obtain ⟨j,hj,hw⟩:=scanL_some he
      cases hx:spanE z.1.2 j z.1.2[j] with
      | none=>rw [hx] at hw; cases hw
      | some e'=>rw [hx] at hw; injection hw with hw; injection hw with hw; subst hw; exact spanE_pos hx
    unfold scrV at g1
    generalize nameB z.1.1.data.toList = b at e3 hit
    cases b
    · rw [hit _ (by rw [if_pos rfl]; rfl)]
      (refine W_x (Aj s0 (Aj g1 (Aj e3 ew))) ?_; (repeat' first | apply Cj.mk | exact Nl.nl) <;> intros)
      exact ⟨rfl,Kp.refl h⟩
    · simp only [Bool.true_eq_false,if_false] at hit ⊢
      generalize spansE z.1.2 = o at e4 hit hp
      match o,e4,hp with
      | none,e4,_ =>
        simp only at e4
        (refine W_x (Aj s0 (Aj g1 (Aj e3 (Aj e4 ew)))) ?_; (repeat' first | apply Cj.mk | exact Nl.nl) <;> intros)
        exact ⟨rfl,rfl,rfl,rfl⟩
      | some (e,i'),e4,hp =>
        have:=hp e i' rfl
        simp only at e4
        rw [hit _ rfl]
        (refine W_x (Aj s0 (Aj g1 (Aj e3 (Aj e4 ew)))) ?_; (repeat' first | apply Cj.mk | exact Nl.nl) <;> intros)
        exact ⟨rfl,Kp.refl h⟩
  rw [fin,Option.none_or]
  have hp:∀ (l:List Span) e i',spansE l = some (e,i')→e≠0:=fun l e i' he=>by
    unfold spansE at he
    obtain ⟨j,hj,hw⟩:=scanL_some he
    cases hx:spanE l j l[j] with
    | none=>rw [hx] at hw; cases hw
    | some e'=>rw [hx] at hw; injection hw with hw; injection hw with hw; subst hw; exact spanE_pos hx
  have hp1:=hp T.common
  unfold spansW
  generalize spansE T.common = o at e1 hp1
  match o,e1,hp1 with
  | some (e,i'),e1,hp1 =>
    have:=hp1 e i' rfl
    simp only at e1
    (refine W_x (Aj hc (Aj s0 (Aj e1 ew))) ?_; (repeat' first | apply Cj.mk | exact Nl.nl) <;> intros)
    exact ⟨rfl,Kp.refl h⟩
  | none,e1,hp1 =>
  simp only at e1
  rw [Option.map_none,Option.none_or]
  (refine W_x (Aj hc (Aj s0 (Aj s2 (Aj e1 ew)))) ?_; (repeat' first | apply Cj.mk | exact Nl.nl) <;> intros)
  refine wp_scanF 71 T.marks (fun i x=>if runeI x.1 = false then W 12 3 i else if x.2 < 1∨254 < x.2 then W 30 3 i else none) (by intro n; simp only [setF,push_cast,Nat.reduceEqDiff, ↓reduceIte,reduceCtorEq,Nat.reduceAdd,Nat.reduceMul,Nat.reduceLeDiff]; rfl) rfl (fun i hi hit=>?_) fun fin=>?_
  · have g0:=fun lc=>rd_map (lc:=lc) t.r2 hi
    generalize T.marks[i] = x at g0 hit
    unfold markV at g0
    have e3:=er x.1
    generalize runeI x.1 = b at e3 hit
    cases b
    · rw [hit _ (if_pos rfl)]
      (refine W_x (Aj s2 (Aj g0 (Aj e3 ew))) ?_; (repeat' first | apply Cj.mk | exact Nl.nl) <;> intros)
      exact ⟨rfl,Kp.refl h⟩
    · simp only [Bool.true_eq_false,if_false] at hit ⊢
      (refine W_x (Aj s2 (Aj g0 (Aj e3 ew))) ?_; (repeat' first | apply Cj.mk | exact Nl.nl) <;> intros)
      · rw [hit _ (if_pos (by omega))]
        exact ⟨rfl,Kp.refl h⟩
      · rw [hit _ (if_pos (by omega))]
        exact ⟨rfl,Kp.refl h⟩
      · exact ⟨if_neg (by omega),rfl,rfl,rfl⟩
  rw [fin,Option.none_or]
  (refine W_x (Aj hc (Aj s2 s3)) ?_; (repeat' first | apply Cj.mk | exact Nl.nl) <;> intros)
  refine wp_scanF 101 T.pairs (fun i x=>if runeI x.1 = false∨runeI x.2.1 = false∨runeI x.2.2 = false then W 12 4 i else none) (by intro n; simp only [setF,push_cast,Nat.reduceEqDiff, ↓reduceIte,reduceCtorEq,Nat.reduceAdd,Nat.reduceMul,Nat.reduceLeDiff]; rfl) rfl (fun i hi hit=>?_) fun fin=>?_
  · have g0:=fun lc=>rd_map (lc:=lc) t.r3 hi
    generalize T.pairs[i] = x at g0 hit
    unfold tripV at g0
    have e3:=er x.1
    have e4:=er x.2.1
    have e5:=er x.2.2
    generalize runeI x.1 = b1 at e3 hit
    generalize runeI x.2.1 = b2 at e4 hit
    generalize runeI x.2.2 = b3 at e5 hit
    cases b1
    · rw [hit _ (if_pos (.inl rfl))]
      (refine W_x (Aj s3 (Aj g0 (Aj e3 ew))) ?_; (repeat' first | apply Cj.mk | exact Nl.nl) <;> intros)
      exact ⟨rfl,Kp.refl h⟩
    cases b2
    · rw [hit _ (if_pos (.inr (.inl rfl)))]
      (refine W_x (Aj s3 (Aj g0 (Aj e3 (Aj e4 ew)))) ?_; (repeat' first | apply Cj.mk | exact Nl.nl) <;> intros)
      exact ⟨rfl,Kp.refl h⟩
    cases b3
    · rw [hit _ (if_pos (.inr (.inr rfl)))]
      (refine W_x (Aj s3 (Aj g0 (Aj e3 (Aj e4 (Aj e5 ew))))) ?_; (repeat' first | apply Cj.mk | exact Nl.nl) <;> intros)
      exact ⟨rfl,Kp.refl h⟩
    · (refine W_x (Aj s3 (Aj g0 (Aj e3 (Aj e4 e5)))) ?_; (repeat' first | apply Cj.mk | exact Nl.nl) <;> intros)
      exact ⟨if_neg (by simp),rfl,rfl,rfl⟩
  rw [fin,Option.none_or]
  have k1:Kp h (h.push (.cells false [S.s4.val 2,S.s5.val 2])):=(Kp.refl h).push _
  have t1:=t.kp k1
  (refine W_x (Aj hc s3) ?_; (repeat' first | apply Cj.mk | exact Nl.nl) <;> intros)
  refine wp_unroll ?_
  (refine W_x s4 ?_; (repeat' first | apply Cj.mk | exact Nl.nl) <;> intros)
  refine wp_scanF 144 T.folds (fun i x=>if runeI x.1 = false then W 12 5 i else if toBad x.2 then W 35 5 i else none) (by intro n; simp only [setF,push_cast,Nat.reduceEqDiff, ↓reduceIte,reduceCtorEq,Nat.reduceAdd,Nat.reduceMul,Nat.reduceLeDiff]; rfl) rfl (fun i hi hit=>?_) fun fin=>?_
  · have g0:=fun lc=>rd_map (lc:=lc) t1.r4 hi
    have hx:=f.v4 _ (List.getElem_mem hi)
    generalize T.folds[i] = x at g0 hit hx
    unfold mapV at g0
    have e3:=er x.1
    have e4:=fun h'=>en x.2 h' hx.2
    have e5:=ev x.2 _ k1 hx.2
    have hsl:=spots_len x.2.data.toList
    have hxs:x.2.data.toList.length = x.2.size:=rfl
    have hb:toBad x.2↔validB x.2.data.toList = false∨(spots x.2.data.toList).length < 1∨4 < (spots x.2.data.toList).length:=by
      unfold toBad runesB
      rw [List.length_map]
    generalize runeI x.1 = b at e3 hit
    cases b
    · rw [show mapsW T.folds 5 = _ from hit _ (if_pos rfl)]
      (refine W_x (Aj s4 (Aj g0 (Aj e3 (Aj e4 ew)))) ?_; (repeat' first | apply Cj.mk | exact Nl.nl) <;> intros)
      exact ⟨rfl,k1⟩
    · simp only [Bool.true_eq_false,if_false] at hit ⊢
      generalize validB x.2.data.toList = b2 at e5 hb
      generalize (spots x.2.data.toList).length = ln at e4 hb hsl
      cases b2
      · rw [show mapsW T.folds 5 = _ from hit _ (if_pos (hb.2 (.inl rfl)))]
        (refine W_x (Aj s4 (Aj g0 (Aj e3 (Aj e4 (Aj e5 ew))))) ?_; (repeat' first | apply Cj.mk | exact Nl.nl) <;> intros)
        exact ⟨rfl,k1⟩
      · (refine W_x (Aj s4 (Aj g0 (Aj e3 (Aj e4 (Aj e5 ew))))) ?_; (repeat' first | apply Cj.mk | exact Nl.nl) <;> intros)
        · rw [show mapsW T.folds 5 = _ from hit _ (if_pos (hb.2 (.inr (by omega))))]
          exact ⟨rfl,k1⟩
        · rw [show mapsW T.folds 5 = _ from hit _ (if_pos (hb.2 (.inr (by omega))))]
          exact ⟨rfl,k1⟩
        · exact ⟨if_neg (fun q=>(hb.1 q).elim (by simp) (fun q=>by omega)),rfl,rfl,rfl⟩
  have fin:mapsW T.folds 5 = none:=fin
  rw [fin,Option.none_or]
  (refine W_x s4 ?_; (repeat' first | apply Cj.mk | exact Nl.nl) <;> intros)
  refine wp_unroll ?_
  (refine W_x s5 ?_; (repeat' first | apply Cj.mk | exact Nl.nl) <;> intros)
  refine wp_scanF 144 T.looks (fun i x=>if runeI x.1 = false then W 12 6 i else if toBad x.2 then W 35 6 i else none) (by intro n; simp only [setF,push_cast,Nat.reduceEqDiff, ↓reduceIte,reduceCtorEq,Nat.reduceAdd,Nat.reduceMul,Nat.reduceLeDiff]; rfl) rfl (fun i hi hit=>?_) fun fin=>?_
  · have g0:=fun lc=>rd_map (lc:=lc) t1.r5 hi
    have hx:=f.v5 _ (List.getElem_mem hi)
    generalize T.looks[i] = x at g0 hit hx
    unfold mapV at g0
    have e3:=er x.1
    have e4:=fun h'=>en x.2 h' hx.2
    have e5:=ev x.2 _ k1 hx.2
    have hsl:=spots_len x.2.data.toList
    have hxs:x.2.data.toList.length = x.2.size:=rfl
    have hb:toBad x.2↔validB x.2.data.toList = false∨(spots x.2.data.toList).length < 1∨4 < (spots x.2.data.toList).length:=by
      unfold toBad runesB
      rw [List.length_map]
    generalize runeI x.1 = b at e3 hit
    cases b
    · rw [show mapsW T.looks 6 = _ from hit _ (if_pos rfl)]
      (refine W_x (Aj s5 (Aj g0 (Aj e3 (Aj e4 ew)))) ?_; (repeat' first | apply Cj.mk | exact Nl.nl) <;> intros)
      exact ⟨rfl,k1⟩
    · simp only [Bool.true_eq_false,if_false] at hit ⊢
      generalize validB x.2.data.toList = b2 at e5 hb
      generalize (spots x.2.data.toList).length = ln at e4 hb hsl
      cases b2
      · rw [show mapsW T.looks 6 = _ from hit _ (if_pos (hb.2 (.inl rfl)))]
        (refine W_x (Aj s5 (Aj g0 (Aj e3 (Aj e4 (Aj e5 ew))))) ?_; (repeat' first | apply Cj.mk | exact Nl.nl) <;> intros)
        exact ⟨rfl,k1⟩
      · (refine W_x (Aj s5 (Aj g0 (Aj e3 (Aj e4 (Aj e5 ew))))) ?_; (repeat' first | apply Cj.mk | exact Nl.nl) <;> intros)
        · rw [show mapsW T.looks 6 = _ from hit _ (if_pos (hb.2 (.inr (by omega))))]
          exact ⟨rfl,k1⟩
        · rw [show mapsW T.looks 6 = _ from hit _ (if_pos (hb.2 (.inr (by omega))))]
          exact ⟨rfl,k1⟩
        · exact ⟨if_neg (fun q=>(hb.1 q).elim (by simp) (fun q=>by omega)),rfl,rfl,rfl⟩
  have fin:mapsW T.looks 6 = none:=fin
  rw [fin,Option.none_or]
  (refine W_x s5 ?_; (repeat' first | apply Cj.mk | exact Nl.nl) <;> intros)
  refine wp_unroll ?_
  (refine W_x trivial ?_; (repeat' first | apply Cj.mk | exact Nl.nl) <;> intros)
  have k2:=k1.push (.cells false [S.s6.val 2,S.s7.val 2])
  have t2:=t.kp k2
  have e1:=setsRight_eq t2.r6 f.n6
  have e2:=setsRight_eq t2.r7 f.n7
  have hc2:=k1.get c.c
  unfold cV at hc2
  (refine W_x hc2 ?_; (repeat' first | apply Cj.mk | exact Nl.nl) <;> intros)
  refine wp_unroll ?_
  have hp1:=hp T.drops
  generalize spansE T.drops = o at e1 hp1
  match o,e1,hp1 with
  | some (e,i'),e1,hp1 =>
    have:=hp1 e i' rfl
    simp only at e1
    (refine W_x (Aj e1 ew) ?_; (repeat' first | apply Cj.mk | exact Nl.nl) <;> intros)
    exact ⟨rfl,k2⟩
  | none,e1,hp1 =>
  simp only at e1
  rw [Option.map_none,Option.none_or]
  (refine W_x (Aj e1 ew) ?_; (repeat' first | apply Cj.mk | exact Nl.nl) <;> intros)
  refine wp_unroll ?_
  have hp1:=hp T.allowed
  generalize spansE T.allowed = o at e2 hp1
  match o,e2,hp1 with
  | some (e,i'),e2,hp1 =>
    have:=hp1 e i' rfl
    simp only at e2
    (refine W_x (Aj e2 ew) ?_; (repeat' first | apply Cj.mk | exact Nl.nl) <;> intros)
    exact ⟨rfl,k2⟩
  | none,e2,hp1 =>
    simp only at e2
    (refine W_x (Aj e2 ew) ?_; (repeat' first | apply Cj.mk | exact Nl.nl) <;> intros)
    refine wp_unroll ?_
    (refine W_x trivial ?_; (repeat' first | apply Cj.mk | exact Nl.nl) <;> intros)
    exact ⟨rfl,k2⟩
end Go.Proofs.YtakmapoompffgaaGreatDoor.AM
