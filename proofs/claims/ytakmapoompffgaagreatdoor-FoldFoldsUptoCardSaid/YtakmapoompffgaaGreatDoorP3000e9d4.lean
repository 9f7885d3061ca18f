/- Parts of proofs: lemmas, joined. -/
import Derived.Test.YtakmapoompffgaaGreatDoorPd358b175
set_option linter.unusedVariables false
set_option linter.unusedSimpArgs false
set_option linter.unusedSectionVars false
namespace Go.Proofs.YtakmapoompffgaaGreatDoor.AM
open Go
variable {α:Type} [Inhabited α] {q:Pl} {enc:α→List Value} {val:α→Value} {cv:Value} {key:α→Int} {idx:α→Int}
theorem ltK_trans {x y z:α} (h:ltK key idx x y) (g:ltK key idx y z):ltK key idx x z:=by unfold ltK at *; omega
theorem nil_or_snoc (l:List α):l = []∨∃ m x,l = m ++ [x]:=by
  rcases List.eq_nil_or_concat l with h | ⟨m,x,h⟩
  · exact .inl h
  · exact .inr ⟨m,x,by rw [h,List.concat_eq_append]⟩
theorem insertion_eq (hc:CmpS q enc val cv key) {P X S:List α} {n:Nat} {a b:Int} (hn:(P ++ X ++ S).length = n) (hn2:n < 1000000000000) (ha:a = P.length) (hb:b = P.length + X.length) (hX:X.Pairwise (fun x y=>idx x < idx y)) :
    ∃ Z:List α,Z.Perm X∧Z.Pairwise (ltK key idx)∧callO PX 145 [(q.s n).val 1,.int .i64 a,.int .i64 b,cv] (q.H enc (P ++ X ++ S)) = some (.tuple #[],q.H enc (P ++ Z ++ S)):=by
  have hlen:(q.s n).len = n:=rfl
  have hset:=hc.isF.set
  have hlc1:=hc.isF.lc1
  have hloc:=hc.isF.loc
  have hn':=hn
  simp only [List.length_append] at hn'
  suffices hw:WpC PX 145 [(q.s n).val 1,.int .i64 a,.int .i64 b,cv] (q.H enc (P ++ X ++ S)) fun v h1=>v = .tuple #[]∧∃ Z:List α,Z.Perm X∧Z.Pairwise (ltK key idx)∧h1 = q.H enc (P ++ Z ++ S) by
    obtain ⟨v,h1,e,rfl,Z,z1,z2,rfl⟩:=hw
    exact ⟨Z,z1,z2,e⟩
  refine wpc_fn (px_ext rfl) (px_fn fn_slices_insertionSortCmpFunc_rune) rfl ?_
  unfold LF_slices_insertionSortCmpFunc_rune
  simp only [argFr]
  obtain ⟨D0,hD0⟩:∃ D0,D0 = P ++ X ++ S:=⟨_,rfl⟩
  rw [← hD0]
  (refine W_g (Aj hset (Aj hlc1 hloc)) ?_; (repeat' first | apply Cj.mk | exact Nl.nl) <;> intros)
  refine wp_loop (fun w fr lc h1 => ∃ (k:Nat) (Z D:List α),w = X.length + 1 - k∧1≤k∧k≤X.length + 1∧Z.Perm (X.take k)∧Z.Pairwise (ltK key idx)∧D = P ++ Z ++ X.drop k ++ S ∧
      fr = [(0,(q.s n).val 1),(1,.int .i64 a),(2,.int .i64 b),(3,cv),(8,.int .i64 (a + k))]∧lc = []∧h1 = q.H enc D) (X.length + 1 - 1)
    ⟨1,X.take 1,D0,rfl,by omega,by omega,.refl _,by cases X <;> simp,by rw [hD0,List.append_assoc P (X.take 1),List.take_append_drop],rfl,rfl,rfl⟩ ?_
  rintro w fr lc h1 ⟨k,Z,D,rfl,hk1,hk2,hZp,hZs,hD,rfl,rfl,rfl⟩
  rcases Nat.lt_or_ge k X.length with hkl | hkl
  · have hZl:Z.length = k:=by rw [hZp.length_eq,List.length_take]; omega
    have hbef:∀ y∈Z,idx y < idx X[k]:=fun y hy=>by
      have hy2:=hZp.mem_iff.1 hy
      obtain ⟨i,hi,rfl⟩:=List.getElem_of_mem hy2
      rw [List.length_take] at hi
      rw [List.getElem_take]
      exact List.pairwise_iff_getElem.1 hX _ _ _ hkl (by omega)
    have hdr:X.drop k = X[k] :: X.drop (k + 1):=List.drop_eq_getElem_cons hkl
    have htk:X.take (k + 1) = X.take k ++ [X[k]]:=List.take_succ_eq_append_getElem hkl
    generalize X[k] = x at hbef hdr htk
    (refine W_g (Aj hset (Aj hlc1 hloc)) ?_; (repeat' first | apply Cj.mk | exact Nl.nl) <;> intros)
    refine wp_loop (fun w fr lc h1 => ∃ (A B D:List α) (j:Int),w = A.length∧A ++ B = Z∧D = P ++ A ++ x :: B ++ X.drop (k + 1) ++ S∧j = P.length + A.length∧(∀ y∈B,ltK key idx x y) ∧
        fr = [(0,(q.s n).val 1),(1,.int .i64 a),(2,.int .i64 b),(3,cv),(8,.int .i64 (a + k)),(9,.int .i64 j)]∧lc = []∧h1 = q.H enc D) k
      ⟨Z,[],D,a + k,hZl.symm,by simp,by rw [hD,hdr]; simp,by omega,by simp,rfl,rfl,rfl⟩ ?_
    clear hD
    rintro w fr lc h1 ⟨A,B,D,j,rfl,hAB,hD,hj,hB,rfl,rfl,rfl⟩
    have hABl:A.length + B.length = k:=by rw [← hZl,← hAB,List.length_append]
    have hDl:D.length = n:=by rw [hD]; simp only [List.length_append,List.length_cons,List.length_drop]; omega
    have hZA:=hAB ▸ hZs
    have hr:=hc.rd hDl
    have hw:=hc.wr hDl
    have hw2:=hc.wr2 hDl
    have hcl:=hc.cells
    have hl1:=hc.len
    have hok:=hc.ok
    have hgo:∀ Z',Z' = A ++ x :: B→(∀ y∈A,ltK key idx y x)→∃ Z'':List α,Z''.Perm (X.take (k + 1))∧Z''.Pairwise (ltK key idx)∧D = P ++ Z'' ++ X.drop (k + 1) ++ S:=fun Z' e hA=>by
      refine ⟨A ++ x :: B, ?_, ?_,by rw [hD]; simp⟩
      · rw [htk]
        refine List.perm_middle.trans ?_
        rw [hAB]
        exact (List.Perm.cons x hZp).trans (List.perm_append_singleton _ _).symm
      · obtain ⟨p1,p2,p3⟩:=List.pairwise_append.1 hZA
        exact List.pairwise_append.2 ⟨p1,List.pairwise_cons.2 ⟨hB,p2⟩,fun y hy z hz=>by
          rcases List.mem_cons.1 hz with rfl | hz
          · exact hA y hy
          · exact p3 y hy z hz⟩
    rcases nil_or_snoc A with rfl | ⟨A',y,rfl⟩
    · have hja:j = a:=by simp at hj; omega
      (refine W_g (Aj hset (Aj hlc1 (Aj hloc hr))) ?_; (repeat' first | apply Cj.mk | exact Nl.nl) <;> intros)
      obtain ⟨Z'',z1,z2,z3⟩:=hgo _ rfl (by simp)
      exact ⟨X.length + 1 - (k + 1),by omega,k + 1,Z'',D,rfl,by omega,by omega,z1,z2,z3,by rw [show a + (k:Int) + 1 = a + ((k + 1:Nat):Int) by omega],rfl,rfl⟩
    · have hj2:j = (P ++ A').length + 1:=by simp at hj ⊢; omega
      have hD2:D = (P ++ A') ++ y :: x :: (B ++ X.drop (k + 1) ++ S):=by rw [hD]; simp
      obtain ⟨q1,q2,q3⟩:=swap_down (P:=P ++ A') (R:=B ++ X.drop (k + 1) ++ S) (x:=x) (y:=y) hj2
      rw [← hD2] at q1 q2 q3
      obtain ⟨m,e1,e2,e3,e4⟩:=hc.run x y D
      rw [hc.vw,hc.vw] at e1
      have hyx:idx y < idx x:=hbef y (by rw [← hAB]; simp)
      simp only [List.length_append,List.length_cons,List.length_nil] at hj2 hABl
      (refine W_g (Aj hset (Aj hlc1 (Aj hloc (Aj hr (Aj q1 q2))))) ?_; (repeat' first | apply Cj.mk | exact Nl.nl) <;> intros)
      refine wpr_callV (fv:=cv) rfl rfl (by first | rfl | simp only [List.all_cons,List.all_nil,hc.okv,Bool.and_self] | (simp (disch:=omega) only [push_cast,Nat.reduceEqDiff, ↓reduceIte,reduceCtorEq,Nat.reduceAdd,Nat.reduceMul,Nat.reduceLeDiff,opds,List.all_cons,List.all_nil,hc.okv,Bool.and_self]; done) | fail) ?_
      refine ⟨_,_,e1, ?_⟩
      (refine W_g (Aj hset (Aj hlc1 (Aj hloc (Aj hr (Aj q1 (Aj q2 (Aj hw (Aj hw2 (Aj hl1 (Aj hok hcl)))))))))) ?_; (repeat' first | apply Cj.mk | exact Nl.nl) <;> intros)
      · refine ⟨_, ?_,A',y :: B,_,j - 1,rfl,by rw [← hAB]; simp,by rw [q3]; simp,by omega, ?_,rfl,rfl,rfl⟩
        · simp
        · intro z hz
          rcases List.mem_cons.1 hz with rfl | hz
          · exact .inl (e2.1 (by assumption))
          · exact hB z hz
      · have hnk : ¬ key x < key y:=fun h=>absurd (e2.2 h) (by omega)
        have hyx2:ltK key idx y x:=by unfold ltK; omega
        obtain ⟨Z'',z1,z2,z3⟩:=hgo _ rfl (fun z hz=>by
          rcases List.mem_append.1 hz with hz | hz
          · have h1:=(List.pairwise_append.1 hZA).1
            exact ltK_trans ((List.pairwise_append.1 h1).2.2 z hz y (by simp)) hyx2
          · rw [List.mem_singleton.1 hz]; exact hyx2)
        exact ⟨X.length + 1 - (k + 1),by omega,k + 1,Z'',D,rfl,by omega,by omega,z1,z2,z3,by rw [show a + (k:Int) + 1 = a + ((k + 1:Nat):Int) by omega],rfl,rfl⟩
  · rw [List.take_of_length_le hkl] at hZp
    rw [List.drop_of_length_le hkl,List.append_nil] at hD
    (refine W_g (Aj hset (Aj hlc1 hloc)) ?_; (repeat' first | apply Cj.mk | exact Nl.nl) <;> intros)
    exact ⟨rfl,Z,hZp,hZs,by rw [hD]⟩
theorem wrap_u64c {x:Int} (h1:0≤x) (h2:x < 18446744073709551616):IntKind.u64.wrap x = x:=by
  show (if (false && decide (x % 18446744073709551616 ≥ 9223372036854775808)) = true then x % 18446744073709551616 - 18446744073709551616 else x % 18446744073709551616) = x
  simp only [Bool.false_and,Bool.false_eq_true,if_false]
  omega
theorem shr_onec {a:Int} (h:0≤a):binA .shr (.int .u64 a) (.int .u64 1) = some (.int .u64 (a / 2)):=by
  have e:binA .shr (.int .u64 a) (.int .u64 1) = some (.int .u64 (a.fdiv 2)):=rfl
  rw [e,Int.fdiv_eq_ediv_of_nonneg _ (by decide)]
theorem ltK_key {x y:α} (h:idx x < idx y):(key y < key x↔ltK key idx y x):=by unfold ltK; omega
theorem ltK_tot {x y:α} (h:idx x < idx y) (g : ¬ ltK key idx y x):ltK key idx x y:=by unfold ltK at *; omega
theorem part_at (t:α→Prop) [DecidablePred t]:∀ (Y:List α),Y.Pairwise (fun x y=>t y→t x)→∃ k,k≤Y.length∧(∀ x∈Y.take k,t x)∧(∀ x∈Y.drop k, ¬ t x)
  | [],_=>⟨0,by simp,by simp,by simp⟩
  | y :: Y,h=>by
    have h1:=List.pairwise_cons.1 h
    by_cases hy:t y
    · obtain ⟨k,a,b,c⟩:=part_at t Y h1.2
      refine ⟨k + 1,by simpa using a,fun x hx=>?_,by simpa using c⟩
      rw [List.take_succ_cons] at hx
      rcases List.mem_cons.1 hx with rfl | hx
      · exact hy
      · exact b x hx
    · refine ⟨0,Nat.zero_le _,by simp,fun x hx=>?_⟩
      rw [List.drop_zero] at hx
      rcases List.mem_cons.1 hx with rfl | hx
      · exact hy
      · exact fun g=>hy (h1.1 x hx g)
theorem ati_in {P Y R:List α} {i:Int} (h0:(P.length:Int)≤i) (h1:i < P.length + Y.length):∃ h:(i - P.length).toNat < Y.length,ati (P ++ Y ++ R) i = Y[(i - P.length).toNat]:=by
  refine ⟨by omega, ?_⟩
  have hi:i.toNat = P.length + (i - P.length).toNat:=by omega
  simp only [ati,List.getD_eq_getElem?_getD]
  rw [hi,List.append_assoc,List.getElem?_append_right (by omega),Nat.add_sub_cancel_left,List.getElem?_append_left (by omega),List.getElem?_eq_getElem (by omega),Option.getD_some]
theorem ati_ix {P Y R:List α} (k:Nat) (hk:k < Y.length) {i:Int} (h:i = P.length + k):ati (P ++ Y ++ R) i = Y[k]:=by
  obtain ⟨h1,h2⟩:=ati_in (P:=P) (Y:=Y) (R:=R) (i:=i) (by omega) (by omega)
  rw [h2]
  congr 1
  omega
theorem merge_one (hc:CmpS q enc val cv key) {P Y S:List α} {x:α} {n:Nat} {a m b:Int} (hn:(P ++ [x] ++ Y ++ S).length = n) (hn2:n < 1000000000000) (ha:a = P.length) (hm:m = P.length + 1) (hb:b = P.length + 1 + Y.length)
    (hYs:Y.Pairwise (ltK key idx)) (hxy:∀ y∈Y,idx x < idx y) :
    ∃ Z:List α,Z.Perm ([x] ++ Y)∧Z.Pairwise (ltK key idx)∧callO PX 146 [(q.s n).val 1,.int .i64 a,.int .i64 m,.int .i64 b,cv] (q.H enc (P ++ [x] ++ Y ++ S)) = some (.tuple #[],q.H enc (P ++ Z ++ S)):=by
  have hlen:(q.s n).len = n:=rfl
  have hset:=hc.isF.set
  have hlc1:=hc.isF.lc1
  have hloc:=hc.isF.loc
  have hn':=hn
  simp only [List.length_append,List.length_cons,List.length_nil] at hn'
  have hdec:∀ y z:α,Decidable (ltK key idx y z):=fun y z=>by unfold ltK; infer_instance
  obtain ⟨c,hc1,hc2,hc3⟩:=part_at (fun y=>ltK key idx y x) Y (hYs.imp fun h g=>ltK_trans h g)
  have hcl:∀ k (hk:k < Y.length),k < c→key Y[k] < key x:=fun k hk h=>(ltK_key (hxy _ (List.getElem_mem hk))).2 (hc2 _ (by rw [List.mem_take_iff_getElem]; exact ⟨k,by omega,rfl⟩))
  have hcr:∀ k (hk:k < Y.length),c≤k → ¬ key Y[k] < key x:=fun k hk h g=>hc3 Y[k] (by rw [List.mem_drop_iff_getElem]; exact ⟨k - c,by omega,by congr 1; omega⟩) ((ltK_key (hxy _ (List.getElem_mem hk))).1 g)
  refine ⟨Y.take c ++ x :: Y.drop c, ?_, ?_, ?_⟩
  · refine List.perm_middle.trans ?_
    rw [List.take_append_drop]; exact .refl _
  · refine List.pairwise_append.2 ⟨hYs.sublist (List.take_sublist _ _),List.pairwise_cons.2 ⟨fun y hy=>ltK_tot (hxy y (List.mem_of_mem_drop hy)) (hc3 y hy),hYs.sublist (List.drop_sublist _ _)⟩,fun y hy z hz=>?_⟩
    have hyx:=hc2 y hy
    rcases List.mem_cons.1 hz with rfl | hz
    · exact hyx
    · exact ltK_trans hyx (ltK_tot (hxy z (List.mem_of_mem_drop hz)) (hc3 z hz))
  · apply WpC.eqn
    refine wpc_fn (px_ext rfl) (px_fn fn_slices_symMergeCmpFunc_rune) rfl ?_
    unfold LF_slices_symMergeCmpFunc_rune
    simp only [argFr]
    obtain ⟨D,hD⟩:∃ D,D = P ++ [x] ++ Y ++ S:=⟨_,rfl⟩
    rw [← hD]
    have hDl:D.length = n:=by rw [hD,← hn]
    have hr:=hc.rd hDl
    have hda:ati D a = x:=by rw [hD,List.append_assoc P,List.append_assoc P]; exact ati_mid ha
    (refine W_g (Aj hset (Aj hlc1 hloc)) ?_; (repeat' first | apply Cj.mk | exact Nl.nl) <;> intros)
    refine wp_loop (fun w fr lc h1 => ∃ (i j:Int),w = (j - i).toNat∧m≤i∧i≤m + c∧m + c≤j∧j≤b∧fr = [(0,(q.s n).val 1),(1,.int .i64 a),(4,cv),(10,.int .i64 i),(11,.int .i64 j)]∧lc = []∧h1 = q.H enc D) (b - m).toNat
      ⟨m,b,rfl,by omega,by omega,by omega,by omega,rfl,rfl,rfl⟩ ?_
    rintro w fr lc h1 ⟨i,j,rfl,hi1,hi2,hj1,hj2,rfl,rfl,rfl⟩
    by_cases hij:i < j
    · have hdh:∃ hk:((i + j) / 2 - m).toNat < Y.length,ati D ((i + j) / 2) = Y[((i + j) / 2 - m).toNat]:=by
        have hk:((i + j) / 2 - m).toNat < Y.length:=by omega
        exact ⟨hk,by rw [hD]; exact ati_ix _ hk (by simp only [List.length_append,List.length_cons,List.length_nil]; omega)⟩
      obtain ⟨hk,hdh⟩:=hdh
      obtain ⟨mm,e1,e2,e3,e4⟩:=hc.run (ati D ((i + j) / 2)) (ati D a) D
      rw [hc.vw,hc.vw] at e1
      rw [hdh,hda] at e2
      have e2l:=fun h=>e2.2 (hcl _ hk h)
      have e2r:=fun h=>hcr _ hk h
      (refine W_g (Aj hset (Aj hlc1 (Aj hloc (Aj hr (Aj hlen (Aj @wrap_u64c @shr_onec)))))) ?_; (repeat' first | apply Cj.mk | exact Nl.nl) <;> intros)
      refine wpr_callV (fv:=cv) rfl rfl (by first | rfl | simp only [List.all_cons,List.all_nil,hc.okv,Bool.and_self] | (simp (disch:=omega) only [push_cast,Nat.reduceEqDiff, ↓reduceIte,reduceCtorEq,Nat.reduceAdd,Nat.reduceMul,Nat.reduceLeDiff,opds,List.all_cons,List.all_nil,hc.okv,Bool.and_self]; done) | fail) ?_
      refine ⟨_,_,e1, ?_⟩
      (refine W_g (Aj hset (Aj hlc1 (Aj hloc hr))) ?_; (repeat' first | apply Cj.mk | exact Nl.nl) <;> intros)
      · rename_i g
        have:((i + j) / 2 - m).toNat < c:=by
          apply Decidable.byContradiction
          intro h
          exact e2r (by omega) (e2.1 g)
        exact ⟨_,by omega,(i + j) / 2 + 1,j,rfl,by omega,by omega,by omega,by omega,rfl,rfl,rfl⟩
      · rename_i g
        have : ¬ ((i + j) / 2 - m).toNat < c:=fun h=>g (e2l h)
        exact ⟨_,by omega,i,(i + j) / 2,rfl,by omega,by omega,by omega,by omega,rfl,rfl,rfl⟩
    · have hi:i = m + c:=by omega
      have hl1:=hc.len
      have hok:=hc.ok
      have hcl2:=hc.cells
      (refine W_g (Aj hset (Aj hlc1 hloc)) ?_; (repeat' first | apply Cj.mk | exact Nl.nl) <;> intros)
      refine wp_loop (fun w fr lc h1 => ∃ (A B D:List α) (k:Int),w = B.length∧A ++ B = Y.take c∧D = P ++ A ++ x :: B ++ (Y.drop c ++ S)∧k = P.length + A.length∧fr = [(0,(q.s n).val 1),(10,.int .i64 i),(13,.int .i64 k)]∧lc = []∧h1 = q.H enc D) (Y.take c).length
        ⟨[],Y.take c,D,a,rfl,rfl,by rw [hD]; simp only [List.append_assoc,List.cons_append,List.nil_append]; rw [← List.append_assoc (Y.take c),List.take_append_drop],by simp; omega,rfl,rfl,rfl⟩ ?_
      rintro w fr lc h1 ⟨A,B,D',k,rfl,hAB,hD',hk,rfl,rfl,rfl⟩
      have hABl:A.length + B.length = c:=by have:=congrArg List.length hAB; simp only [List.length_append,List.length_take] at this; omega
      cases B with
      | nil =>
        simp only [List.length_nil] at hABl
        (refine W_g (Aj hset (Aj hlc1 hloc)) ?_; (repeat' first | apply Cj.mk | exact Nl.nl) <;> intros)
        refine ⟨rfl, ?_⟩
        rw [hD',← hAB]
        simp
      | cons y B =>
        simp only [List.length_cons] at hABl
        have hD'l:D'.length = n:=by rw [hD']; simp only [List.length_append,List.length_cons,List.length_drop]; omega
        have hr':=hc.rd hD'l
        have hw':=hc.wr hD'l
        have hw2':=hc.wr2 hD'l
        have hk2:k = (P ++ A).length:=by simp; omega
        obtain ⟨q1,q2,q3⟩:=swap_up (P:=P ++ A) (R:=B ++ (Y.drop c ++ S)) (x:=x) (y:=y) hk2
        have hD'2:D' = (P ++ A) ++ x :: y :: (B ++ (Y.drop c ++ S)):=by rw [hD']; simp
        rw [← hD'2] at q1 q2 q3
        (refine W_g (Aj hset (Aj hlc1 (Aj hloc (Aj hr' (Aj q1 (Aj q2 (Aj hw' (Aj hw2' (Aj hlen (Aj hl1 (Aj hok hcl2))))))))))) ?_; (repeat' first | apply Cj.mk | exact Nl.nl) <;> intros)
        refine ⟨_, ?_,A ++ [y],B,_,k + 1,rfl,by rw [← hAB]; simp,by rw [q3]; simp,by simp only [List.length_append,List.length_cons,List.length_nil]; omega,rfl,rfl,rfl⟩
        simp
theorem merge_last (hc:CmpS q enc val cv key) {P X S:List α} {y:α} {n:Nat} {a m b:Int} (hn:(P ++ X ++ [y] ++ S).length = n) (hn2:n < 1000000000000) (ha:a = P.length) (hm:m = P.length + X.length) (hb:b = P.length + X.length + 1) (hX1:X.length≠1)
    (hXs:X.Pairwise (ltK key idx)) (hxy:∀ x∈X,idx x < idx y) :
    ∃ Z:List α,Z.Perm (X ++ [y])∧Z.Pairwise (ltK key idx)∧callO PX 146 [(q.s n).val 1,.int .i64 a,.int .i64 m,.int .i64 b,cv] (q.H enc (P ++ X ++ [y] ++ S)) = some (.tuple #[],q.H enc (P ++ Z ++ S)):=by
  have hlen:(q.s n).len = n:=rfl
  have hset:=hc.isF.set
  have hlc1:=hc.isF.lc1
  have hloc:=hc.isF.loc
  have hn':=hn
  simp only [List.length_append,List.length_cons,List.length_nil] at hn'
  have hdec:∀ y z:α,Decidable (ltK key idx y z):=fun y z=>by unfold ltK; infer_instance
  obtain ⟨c,hc1,hc2,hc3⟩:=part_at (fun x => ¬ ltK key idx y x) X (hXs.imp fun h g k=>g (ltK_trans k h))
  have hcl:∀ k (hk:k < X.length),k < c → ¬ key y < key X[k]:=fun k hk h g=>hc2 X[k] (by rw [List.mem_take_iff_getElem]; exact ⟨k,by omega,rfl⟩) ((ltK_key (hxy _ (List.getElem_mem hk))).1 g)
  have hcr:∀ k (hk:k < X.length),c≤k→key y < key X[k]:=fun k hk h=>(ltK_key (hxy _ (List.getElem_mem hk))).2 (Decidable.not_not.1 (hc3 X[k] (by rw [List.mem_drop_iff_getElem]; exact ⟨k - c,by omega,by congr 1; omega⟩)))
  refine ⟨X.take c ++ y :: X.drop c, ?_, ?_, ?_⟩
  · refine List.perm_middle.trans ?_
    rw [List.take_append_drop]
    exact (List.perm_append_singleton _ _).symm
  · refine List.pairwise_append.2 ⟨hXs.sublist (List.take_sublist _ _),List.pairwise_cons.2 ⟨fun x hx=>Decidable.not_not.1 (hc3 x hx),hXs.sublist (List.drop_sublist _ _)⟩,fun x hx z hz=>?_⟩
    have hxy2:=ltK_tot (hxy x (List.mem_of_mem_take hx)) (hc2 x hx)
    rcases List.mem_cons.1 hz with rfl | hz
    · exact hxy2
    · exact ltK_trans hxy2 (Decidable.not_not.1 (hc3 z hz))
  · apply WpC.eqn
    refine wpc_fn (px_ext rfl) (px_fn fn_slices_symMergeCmpFunc_rune) rfl ?_
    unfold LF_slices_symMergeCmpFunc_rune
    simp only [argFr]
    obtain ⟨D,hD⟩:∃ D,D = P ++ X ++ [y] ++ S:=⟨_,rfl⟩
    rw [← hD]
    have hDl:D.length = n:=by rw [hD,← hn]
    have hr:=hc.rd hDl
    have hda:ati D m = y:=by rw [hD,List.append_assoc (P ++ X)]; exact ati_mid (by rw [List.length_append]; omega)
    (refine W_g (Aj hset (Aj hlc1 hloc)) ?_; (repeat' first | apply Cj.mk | exact Nl.nl) <;> intros)
    refine wp_loop (fun w fr lc h1 => ∃ (i j:Int),w = (j - i).toNat∧a≤i∧i≤a + c∧a + c≤j∧j≤m∧fr = [(0,(q.s n).val 1),(2,.int .i64 m),(4,cv),(14,.int .i64 i),(15,.int .i64 j)]∧lc = []∧h1 = q.H enc D) (m - a).toNat
      ⟨a,m,rfl,by omega,by omega,by omega,by omega,rfl,rfl,rfl⟩ ?_
    rintro w fr lc h1 ⟨i,j,rfl,hi1,hi2,hj1,hj2,rfl,rfl,rfl⟩
    by_cases hij:i < j
    · have hdh:∃ hk:((i + j) / 2 - a).toNat < X.length,ati D ((i + j) / 2) = X[((i + j) / 2 - a).toNat]:=by
        have hk:((i + j) / 2 - a).toNat < X.length:=by omega
        exact ⟨hk,by rw [hD,List.append_assoc (P ++ X)]; exact ati_ix _ hk (by omega)⟩
      obtain ⟨hk,hdh⟩:=hdh
      obtain ⟨mm,e1,e2,e3,e4⟩:=hc.run (ati D m) (ati D ((i + j) / 2)) D
      rw [hc.vw,hc.vw] at e1
      rw [hdh,hda] at e2
      have e2l:=fun h=>hcl _ hk h
      have e2r:=fun h=>e2.2 (hcr _ hk h)
      (refine W_g (Aj hset (Aj hlc1 (Aj hloc (Aj hr (Aj hlen (Aj @wrap_u64c @shr_onec)))))) ?_; (repeat' first | apply Cj.mk | exact Nl.nl) <;> intros)
      refine wpr_callV (fv:=cv) rfl rfl (by first | rfl | simp only [List.all_cons,List.all_nil,hc.okv,Bool.and_self] | (simp (disch:=omega) only [push_cast,Nat.reduceEqDiff, ↓reduceIte,reduceCtorEq,Nat.reduceAdd,Nat.reduceMul,Nat.reduceLeDiff,opds,List.all_cons,List.all_nil,hc.okv,Bool.and_self]; done) | fail) ?_
      refine ⟨_,_,e1, ?_⟩
      (refine W_g (Aj hset (Aj hlc1 (Aj hloc hr))) ?_; (repeat' first | apply Cj.mk | exact Nl.nl) <;> intros)
      · rename_i g
        have : ¬ ((i + j) / 2 - a).toNat < c:=fun h=>e2l h (e2.1 g)
        exact ⟨_,by omega,i,(i + j) / 2,rfl,by omega,by omega,by omega,by omega,rfl,rfl,rfl⟩
      · rename_i g
        have:((i + j) / 2 - a).toNat < c:=by
          apply Decidable.byContradiction
          intro h
          exact g (e2r (by omega))
        exact ⟨_,by omega,(i + j) / 2 + 1,j,rfl,by omega,by omega,by omega,by omega,rfl,rfl,rfl⟩
    · have hi:i = a + c:=by omega
      have hl1:=hc.len
      have hok:=hc.ok
      have hcl2:=hc.cells
      (refine W_g (Aj hset (Aj hlc1 hloc)) ?_; (repeat' first | apply Cj.mk | exact Nl.nl) <;> intros)
      refine wp_loop (fun w fr lc h1 => ∃ (A B D:List α) (k:Int),w = A.length∧A ++ B = X.drop c∧D = P ++ X.take c ++ A ++ y :: B ++ S∧k = P.length + c + A.length∧fr = [(0,(q.s n).val 1),(14,.int .i64 i),(17,.int .i64 k)]∧lc = []∧h1 = q.H enc D) (X.drop c).length
        ⟨X.drop c,[],D,m,rfl,by simp,by rw [hD]; simp only [List.append_assoc,List.cons_append,List.nil_append]; rw [← List.append_assoc (X.take c),List.take_append_drop],by rw [List.length_drop]; omega,rfl,rfl,rfl⟩ ?_
      rintro w fr lc h1 ⟨A,B,D',k,rfl,hAB,hD',hk,rfl,rfl,rfl⟩
      have hABl:A.length + B.length = X.length - c:=by have:=congrArg List.length hAB; simpa only [List.length_append,List.length_drop] using this
      rcases nil_or_snoc A with rfl | ⟨A,x,rfl⟩
      · simp only [List.length_nil] at hABl hk
        (refine W_g (Aj hset (Aj hlc1 hloc)) ?_; (repeat' first | apply Cj.mk | exact Nl.nl) <;> intros)
        refine ⟨rfl, ?_⟩
        rw [hD',← hAB]
        simp
      · simp only [List.length_append,List.length_cons,List.length_nil] at hABl hk
        have htc:(X.take c).length = c:=by rw [List.length_take]; omega
        have hD'l:D'.length = n:=by rw [hD']; simp only [List.length_append,List.length_cons,List.length_nil,htc]; omega
        have hr':=hc.rd hD'l
        have hw':=hc.wr hD'l
        have hw2':=hc.wr2 hD'l
        have hk2:k = (P ++ X.take c ++ A).length + 1:=by simp only [List.length_append,htc]; omega
        obtain ⟨q1,q2,q3⟩:=swap_down (P:=P ++ X.take c ++ A) (R:=B ++ S) (x:=y) (y:=x) hk2
        have hD'2:D' = (P ++ X.take c ++ A) ++ x :: y :: (B ++ S):=by rw [hD']; simp
        rw [← hD'2] at q1 q2 q3
        (refine W_g (Aj hset (Aj hlc1 (Aj hloc (Aj hr' (Aj q1 (Aj q2 (Aj hw' (Aj hw2' (Aj hlen (Aj hl1 (Aj hok hcl2))))))))))) ?_; (repeat' first | apply Cj.mk | exact Nl.nl) <;> intros)
        refine ⟨_, ?_,A,x :: B,_,k - 1,rfl,by rw [← hAB]; simp,by rw [q3]; simp,by omega,rfl,rfl,rfl⟩
        simp
end Go.Proofs.YtakmapoompffgaaGreatDoor.AM
