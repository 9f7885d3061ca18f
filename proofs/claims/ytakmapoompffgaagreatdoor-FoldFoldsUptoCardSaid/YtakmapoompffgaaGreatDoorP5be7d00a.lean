/- Parts of proofs: lemmas, joined. -/
import Derived.Test.YtakmapoompffgaaGreatDoorP3000e9d4
set_option linter.unusedVariables false
set_option linter.unusedSimpArgs false
set_option linter.unusedSectionVars false
namespace Go.Proofs.YtakmapoompffgaaGreatDoor.AM
open Go
variable {α:Type} [Inhabited α] {q:Pl} {enc:α→List Value} {val:α→Value} {cv:Value} {key:α→Int} {idx:α→Int}
theorem sorted_get {X:List α} (h:X.Pairwise (ltK key idx)) {i j:Nat} (hj:j < X.length) (hij:i < j):ltK key idx (X[i]'(by omega)) X[j]:=List.pairwise_iff_getElem.1 h _ _ _ _ hij
theorem part_two {X Y:List α} (hX:X.Pairwise (ltK key idx)) (hY:Y.Pairwise (ltK key idx)) {h u:Nat} (hu:u≤X.length) (huh:u≤h) (hh:h - u≤Y.length)
    (h1:∀ k,∀ (a:k < X.length) (b:h - 1 - k < Y.length),k < u→k < h→ltK key idx X[k] Y[h - 1 - k]) (h2:∀ k,∀ (a:k < X.length) (b:h - 1 - k < Y.length),u≤k→k < h→ltK key idx Y[h - 1 - k] X[k]) :
    ∀ x∈X.take u ++ Y.take (h - u),∀ y∈X.drop u ++ Y.drop (h - u),ltK key idx x y:=by
  intro x hx y hy
  rcases List.mem_append.1 hx with hx | hx <;> rcases List.mem_append.1 hy with hy | hy
  · rw [List.mem_take_iff_getElem] at hx
    rw [List.mem_drop_iff_getElem] at hy
    obtain ⟨i,hi,rfl⟩:=hx
    obtain ⟨j,hj,rfl⟩:=hy
    exact sorted_get (i:=i) (j:=u + j) hX (by omega) (by omega)
  · rw [List.mem_take_iff_getElem] at hx
    rw [List.mem_drop_iff_getElem] at hy
    obtain ⟨i,hi,rfl⟩:=hx
    obtain ⟨j,hj,rfl⟩:=hy
    have k1:=h1 (u - 1) (by omega) (by omega) (by omega) (by omega)
    have k2:X[i]'(by omega) = X[u - 1]'(by omega)∨ltK key idx (X[i]'(by omega)) (X[u - 1]'(by omega)):=by
      rcases Nat.lt_or_ge i (u - 1) with g | g
      · exact .inr (sorted_get hX (by omega) g)
      · left; congr 1; omega
    have k3:Y[h - 1 - (u - 1)]'(by omega) = Y[h - u + j]∨ltK key idx (Y[h - 1 - (u - 1)]'(by omega)) Y[h - u + j]:=by
      rcases Nat.eq_zero_or_pos j with g | g
      · left; congr 1; omega
      · exact .inr (sorted_get (i:=h - 1 - (u - 1)) (j:=h - u + j) hY (by omega) (by omega))
    rcases k2 with k2 | k2 <;> rcases k3 with k3 | k3
    · rw [k2,← k3]; exact k1
    · rw [k2]; exact ltK_trans k1 k3
    · rw [← k3]; exact ltK_trans k2 k1
    · exact ltK_trans k2 (ltK_trans k1 k3)
  · rw [List.mem_take_iff_getElem] at hx
    rw [List.mem_drop_iff_getElem] at hy
    obtain ⟨i,hi,rfl⟩:=hx
    obtain ⟨j,hj,rfl⟩:=hy
    have k1:=h2 u (by omega) (by omega) (by omega) (by omega)
    have k2:Y[i]'(by omega) = Y[h - 1 - u]'(by omega)∨ltK key idx (Y[i]'(by omega)) (Y[h - 1 - u]'(by omega)):=by
      rcases Nat.lt_or_ge i (h - 1 - u) with g | g
      · exact .inr (sorted_get hY (by omega) g)
      · left; congr 1; omega
    have k3:X[u]'(by omega) = X[u + j]∨ltK key idx (X[u]'(by omega)) X[u + j]:=by
      rcases Nat.eq_zero_or_pos j with g | g
      · left; congr 1; omega
      · exact .inr (sorted_get (i:=u) (j:=u + j) hX (by omega) (by omega))
    rcases k2 with k2 | k2 <;> rcases k3 with k3 | k3
    · rw [k2,← k3]; exact k1
    · rw [k2]; exact ltK_trans k1 k3
    · rw [← k3]; exact ltK_trans k2 k1
    · exact ltK_trans k2 (ltK_trans k1 k3)
  · rw [List.mem_take_iff_getElem] at hx
    rw [List.mem_drop_iff_getElem] at hy
    obtain ⟨i,hi,rfl⟩:=hx
    obtain ⟨j,hj,rfl⟩:=hy
    exact sorted_get (i:=i) (j:=h - u + j) hY (by omega) (by omega)
set_option maxHeartbeats 8000000 in
theorem merge_eq (hc:CmpS q enc val cv key) {n:Nat} (hn2:n < 1000000000000):∀ (N:Nat) (P X Y S:List α) (a m b:Int),X.length + Y.length≤N→(P ++ X ++ Y ++ S).length = n→a = P.length→m = P.length + X.length→b = P.length + X.length + Y.length→0 < X.length→0 < Y.length →
    X.Pairwise (ltK key idx)→Y.Pairwise (ltK key idx)→(∀ x∈X,∀ y∈Y,idx x < idx y) →
    ∃ Z:List α,Z.Perm (X ++ Y)∧Z.Pairwise (ltK key idx)∧callO PX 146 [(q.s n).val 1,.int .i64 a,.int .i64 m,.int .i64 b,cv] (q.H enc (P ++ X ++ Y ++ S)) = some (.tuple #[],q.H enc (P ++ Z ++ S)):=by
  intro N
  induction N with
  | zero=>intros; omega
  | succ N ih =>
  intro P X Y S a m b hN hn ha hm hb hX0 hY0 hXs hYs hXY
  by_cases hX1:X.length = 1
  · match X,hX1 with
    | [x],_=>exact merge_one hc hn hn2 ha hm (by simpa using hb) hYs (hXY x (by simp))
  by_cases hY1:Y.length = 1
  · match Y,hY1 with
    | [y],_=>exact merge_last hc hn hn2 ha hm (by simpa using hb) hX1 hXs (fun x hx=>hXY x hx y (by simp))
  have hlen:(q.s n).len = n:=rfl
  have hset:=hc.isF.set
  have hlc1:=hc.isF.lc1
  have hloc:=hc.isF.loc
  have hn':=hn
  simp only [List.length_append] at hn'
  have hXYlt:∀ i j (hi:i < X.length) (hj:j < Y.length),(key Y[j] < key X[i]↔ltK key idx Y[j] X[i])∧(¬ key Y[j] < key X[i]↔ltK key idx X[i] Y[j]):=fun i j hi hj=>by
    have:=hXY _ (List.getElem_mem hi) _ (List.getElem_mem hj)
    exact ⟨ltK_key this,by unfold ltK; omega⟩
  obtain ⟨h,hh⟩:∃ h:Nat,h = (X.length + Y.length) / 2 + (if (P.length + P.length + X.length + Y.length) / 2 - P.length = (X.length + Y.length) / 2 then 0 else 0):=⟨_,rfl⟩
  have hh2:h = (X.length + Y.length) / 2:=by rw [hh]; split <;> rfl
  clear hh
  have hmid:(a + b) / 2 = a + h:=by omega
  obtain ⟨lo,hi,hlo,hhi⟩:∃ lo hi:Nat,(lo = if h < X.length then h - Y.length else 0)∧(hi = if h < X.length then h else X.length):=⟨_,_,rfl,rfl⟩
  obtain ⟨D,hD⟩:∃ D,D = P ++ X ++ Y ++ S:=⟨_,rfl⟩
  have hDl:D.length = n:=by rw [hD,← hn]
  have hr:=hc.rd hDl
  have hdx:∀ (i:Nat) (hi:i < X.length),ati D (a + i) = X[i]:=fun i hi=>by rw [hD,List.append_assoc (P ++ X)]; exact ati_ix i hi (by omega)
  have hdy:∀ (i:Nat) (hi:i < Y.length),ati D (m + i) = Y[i]:=fun i hi=>by rw [hD]; exact ati_ix i hi (by simp only [List.length_append]; omega)
  suffices hw:WpC PX 146 [(q.s n).val 1,.int .i64 a,.int .i64 m,.int .i64 b,cv] (q.H enc D) fun v h1=>v = .tuple #[]∧∃ Z:List α,Z.Perm (X ++ Y)∧Z.Pairwise (ltK key idx)∧h1 = q.H enc (P ++ Z ++ S) by
    obtain ⟨v,h1,e,rfl,Z,z1,z2,rfl⟩:=hw
    exact ⟨Z,z1,z2,hD ▸ e⟩
  refine wpc_fn (px_ext rfl) (px_fn fn_slices_symMergeCmpFunc_rune) rfl ?_
  unfold LF_slices_symMergeCmpFunc_rune
  simp only [argFr]
  obtain ⟨I,hI⟩:∃ I:Nat→Fr→Lc→AH→Prop,I = (fun w fr lc h1 => ∃ (u v:Nat) (s0 r0:Int),w = v - u∧lo≤u∧u≤v∧v≤hi∧s0 = a + u∧r0 = a + v ∧
      (∀ k,lo≤k→k < u→∀ (x:k < X.length) (y:h - 1 - k < Y.length),ltK key idx X[k] Y[h - 1 - k])∧(∀ k,v≤k→k < hi→∀ (x:k < X.length) (y:h - 1 - k < Y.length),ltK key idx Y[h - 1 - k] X[k]) ∧
      fr = [(0,(q.s n).val 1),(1,.int .i64 a),(2,.int .i64 m),(3,.int .i64 b),(4,cv),(18,.int .i64 (a + h)),(19,.int .i64 (a + h + m)),(20,.int .i64 s0),(21,.int .i64 r0),(22,.int .i64 (a + h + m - 1))]∧lc = []∧h1 = q.H enc D):=⟨_,rfl⟩
  by_cases hcase:h < X.length
  all_goals
    simp only [hcase,if_true,if_false] at hlo hhi
    (refine W_g (Aj hset (Aj hlc1 (Aj hloc (Aj @wrap_u64c (Aj @shr_onec hmid))))) ?_; (repeat' first | apply Cj.mk | exact Nl.nl) <;> intros)
    refine wp_loop I (hi - lo) (by
      rw [hI]
      exact ⟨lo,hi,_,_,rfl,Nat.le_refl _,by omega,Nat.le_refl _,by omega,by omega,by intros; omega,by intros; omega,rfl,rfl,rfl⟩) ?_
    rw [hI]
    clear hI I
    rintro w fr lc h1 ⟨u,v,s0,r0,rfl,hu1,huv,hv1,hs0,hr0,hp1,hp2,rfl,rfl,rfl⟩
    by_cases huv2:u < v
    · obtain ⟨k,hk⟩:∃ k:Nat,k = (u + v) / 2:=⟨_,rfl⟩
      have hck:(s0 + r0) / 2 = a + k:=by omega
      have hkX:k < X.length:=by omega
      have hkY:h - 1 - k < Y.length:=by omega
      have e1:=hdx k hkX
      have e2:=hdy (h - 1 - k) hkY
      rw [show m + ((h - 1 - k:Nat):Int) = a + h + m - 1 - (a + k) by omega] at e2
      obtain ⟨mm,c1,c2,c3,c4⟩:=hc.run (ati D (a + h + m - 1 - (a + k))) (ati D (a + k)) D
      rw [hc.vw,hc.vw] at c1
      rw [e1,e2] at c2
      obtain ⟨t1,t2⟩:=hXYlt k (h - 1 - k) hkX hkY
      (refine W_g (Aj hset (Aj hlc1 (Aj hloc (Aj hr (Aj hlen (Aj @wrap_u64c (Aj @shr_onec hck))))))) ?_; (repeat' first | apply Cj.mk | exact Nl.nl) <;> intros)
      refine wpr_callV (fv:=cv) rfl rfl (by first | rfl | simp only [List.all_cons,List.all_nil,hc.okv,Bool.and_self] | (simp (disch:=omega) only [push_cast,Nat.reduceEqDiff, ↓reduceIte,reduceCtorEq,Nat.reduceAdd,Nat.reduceMul,Nat.reduceLeDiff,opds,List.all_cons,List.all_nil,hc.okv,Bool.and_self]; done) | fail) ?_
      refine ⟨_,_,c1, ?_⟩
      (refine W_g (Aj hset (Aj hlc1 (Aj hloc hr))) ?_; (repeat' first | apply Cj.mk | exact Nl.nl) <;> intros)
      · rename_i g
        have hlt:=t1.1 (c2.1 g)
        refine ⟨k - u,by omega,u,k,s0,a + k,rfl,hu1,by omega,by omega,hs0,rfl,hp1,fun z z1 z2 x y=>?_,rfl,rfl,rfl⟩
        rcases Nat.eq_or_lt_of_le z1 with rfl | g1
        · exact hlt
        · have w1:=sorted_get (i:=k) (j:=z) hXs (by omega) g1
          rcases Nat.eq_or_lt_of_le (show h - 1 - z≤h - 1 - k by omega) with g2 | g2
          · omega
          · have w2:=sorted_get (i:=h - 1 - z) (j:=h - 1 - k) hYs (by omega) g2
            exact ltK_trans w2 (ltK_trans hlt w1)
      · rename_i g
        have hlt:=t2.1 (fun x=>g (c2.2 x))
        refine ⟨v - (k + 1),by omega,k + 1,v,a + k + 1,r0,rfl,by omega,by omega,hv1,by omega,hr0,fun z z1 z2 x y=>?_,hp2,rfl,rfl,rfl⟩
        rcases Nat.eq_or_lt_of_le (show z≤k by omega) with rfl | g1
        · exact hlt
        · have w1:=sorted_get (i:=z) (j:=k) hXs (by omega) g1
          have w2:=sorted_get (i:=h - 1 - k) (j:=h - 1 - z) hYs (by omega) (by omega)
          exact ltK_trans w1 (ltK_trans hlt w2)
    · have hvu:v = u:=by omega
      subst hvu
      have hs0r:r0 = s0:=by omega
      subst hs0r
      have huX:v≤X.length:=by omega
      have huh:v≤h:=by omega
      have hhY:h - v≤Y.length:=by omega
      have hlow:=part_two hXs hYs huX huh hhY (fun k k1 k2 k3 k4=>by
        rcases Nat.lt_or_ge k lo with g | g
        · omega
        · exact hp1 k g k3 k1 k2) (fun k k1 k2 k3 k4=>hp2 k k3 (by omega) k1 k2)
      obtain ⟨X1,hX1e⟩:∃ X1,X1 = X.take v:=⟨_,rfl⟩
      obtain ⟨X2,hX2e⟩:∃ X2,X2 = X.drop v:=⟨_,rfl⟩
      obtain ⟨Y1,hY1e⟩:∃ Y1,Y1 = Y.take (h - v):=⟨_,rfl⟩
      obtain ⟨Y2,hY2e⟩:∃ Y2,Y2 = Y.drop (h - v):=⟨_,rfl⟩
      have hXe:X = X1 ++ X2:=by rw [hX1e,hX2e,List.take_append_drop]
      have hYe:Y = Y1 ++ Y2:=by rw [hY1e,hY2e,List.take_append_drop]
      have lX1:X1.length = v:=by rw [hX1e,List.length_take]; omega
      have lX2:X2.length = X.length - v:=by rw [hX2e,List.length_drop]
      have lY1:Y1.length = h - v:=by rw [hY1e,List.length_take]; omega
      have lY2:Y2.length = Y.length - (h - v):=by rw [hY2e,List.length_drop]
      rw [← hX1e,← hX2e,← hY1e,← hY2e] at hlow
      have sX1:X1.Pairwise (ltK key idx):=by rw [hX1e]; exact hXs.sublist (List.take_sublist _ _)
      have sX2:X2.Pairwise (ltK key idx):=by rw [hX2e]; exact hXs.sublist (List.drop_sublist _ _)
      have sY1:Y1.Pairwise (ltK key idx):=by rw [hY1e]; exact hYs.sublist (List.take_sublist _ _)
      have sY2:Y2.Pairwise (ltK key idx):=by rw [hY2e]; exact hYs.sublist (List.drop_sublist _ _)
      have mX1:∀ x∈X1,x∈X:=fun x hx=>by rw [hXe]; simp [hx]
      have mX2:∀ x∈X2,x∈X:=fun x hx=>by rw [hXe]; simp [hx]
      have mY1:∀ x∈Y1,x∈Y:=fun x hx=>by rw [hYe]; simp [hx]
      have mY2:∀ x∈Y2,x∈Y:=fun x hx=>by rw [hYe]; simp [hx]
      clear hX1e hX2e hY1e hY2e
      have hrot:0 < X2.length→0 < Y1.length→callO PX 151 [(q.s n).val 1,.int .i64 r0,.int .i64 m,.int .i64 (a + h + m - r0),cv] (q.H enc D) = some (.tuple #[],q.H enc (P ++ X1 ++ Y1 ++ (X2 ++ Y2 ++ S))):=fun p1 p2=>by
        have:=rotate_eq hc (P:=P ++ X1) (U:=X2) (V:=Y1) (S:=Y2 ++ S) (n:=n) (a:=r0) (m:=m) (b:=a + h + m - r0) (by simp only [List.length_append]; omega) hn2 (by simp only [List.length_append]; omega) (by simp only [List.length_append]; omega) (by simp only [List.length_append]; omega) p1 p2
        have eD:D = P ++ X1 ++ X2 ++ Y1 ++ (Y2 ++ S):=by rw [hD,hXe,hYe]; simp only [List.append_assoc]
        rw [eD,this]
        simp only [List.append_assoc]
      have hnrot : ¬ (0 < X2.length∧0 < Y1.length)→D = P ++ X1 ++ Y1 ++ (X2 ++ Y2 ++ S):=fun g=>by
        rw [hD,hXe,hYe]
        rcases Nat.eq_zero_or_pos X2.length with g1 | g1
        · rw [List.eq_nil_of_length_eq_zero g1]; simp
        · rw [List.eq_nil_of_length_eq_zero (l:=Y1) (by omega)]; simp
      obtain ⟨Z1,p1,s1,c1,n1⟩:∃ Z1:List α,Z1.Perm (X1 ++ Y1)∧Z1.Pairwise (ltK key idx)∧(0 < X1.length∧0 < Y1.length→callO PX 146 [(q.s n).val 1,.int .i64 a,.int .i64 r0,.int .i64 (a + h),cv] (q.H enc (P ++ X1 ++ Y1 ++ (X2 ++ Y2 ++ S))) = some (.tuple #[],q.H enc (P ++ Z1 ++ (X2 ++ Y2 ++ S))))∧(¬ (0 < X1.length∧0 < Y1.length)→Z1 = X1 ++ Y1):=by
        by_cases g:0 < X1.length∧0 < Y1.length
        · obtain ⟨Z,z1,z2,z3⟩:=ih P X1 Y1 (X2 ++ Y2 ++ S) a r0 (a + h) (by omega) (by simp only [List.length_append]; omega) ha (by omega) (by omega) g.1 g.2 sX1 sY1 (fun x hx y hy=>hXY x (mX1 x hx) y (mY1 y hy))
          exact ⟨Z,z1,z2,fun _=>z3,fun h=>absurd g h⟩
        · refine ⟨X1 ++ Y1,.refl _, ?_,fun h=>absurd h g,fun _=>rfl⟩
          rcases Nat.eq_zero_or_pos X1.length with g1 | g1
          · rw [List.eq_nil_of_length_eq_zero g1]; exact sY1
          · rw [List.eq_nil_of_length_eq_zero (l:=Y1) (by omega),List.append_nil]; exact sX1
      have lZ1:Z1.length = h:=by rw [p1.length_eq,List.length_append]; omega
      obtain ⟨Z2,p2,s2,c2,n2⟩:∃ Z2:List α,Z2.Perm (X2 ++ Y2)∧Z2.Pairwise (ltK key idx)∧(0 < X2.length∧0 < Y2.length→callO PX 146 [(q.s n).val 1,.int .i64 (a + h),.int .i64 (a + h + m - r0),.int .i64 b,cv] (q.H enc (P ++ Z1 ++ (X2 ++ Y2 ++ S))) = some (.tuple #[],q.H enc (P ++ (Z1 ++ Z2) ++ S)))∧(¬ (0 < X2.length∧0 < Y2.length)→Z2 = X2 ++ Y2):=by
        by_cases g:0 < X2.length∧0 < Y2.length
        · obtain ⟨Z,z1,z2,z3⟩:=ih (P ++ Z1) X2 Y2 S (a + h) (a + h + m - r0) b (by omega) (by simp only [List.length_append]; omega) (by simp only [List.length_append]; omega) (by simp only [List.length_append]; omega) (by simp only [List.length_append]; omega) g.1 g.2 sX2 sY2 (fun x hx y hy=>hXY x (mX2 x hx) y (mY2 y hy))
          refine ⟨Z,z1,z2,fun _=>?_,fun h=>absurd g h⟩
          have e1:P ++ Z1 ++ (X2 ++ Y2 ++ S) = P ++ Z1 ++ X2 ++ Y2 ++ S:=by simp only [List.append_assoc]
          rw [e1,z3]
          simp only [List.append_assoc]
        · refine ⟨X2 ++ Y2,.refl _, ?_,fun h=>absurd h g,fun _=>rfl⟩
          rcases Nat.eq_zero_or_pos X2.length with g1 | g1
          · rw [List.eq_nil_of_length_eq_zero g1]; exact sY2
          · rw [List.eq_nil_of_length_eq_zero (l:=Y2) (by omega),List.append_nil]; exact sX2
      have hfin:(Z1 ++ Z2).Perm (X ++ Y)∧(Z1 ++ Z2).Pairwise (ltK key idx):=by
        refine ⟨?_,List.pairwise_append.2 ⟨s1,s2,fun x hx y hy=>?_⟩⟩
        · rw [hXe,hYe]
          refine (p1.append p2).trans ?_
          simp only [List.append_assoc]
          refine List.Perm.append_left _ ?_
          rw [← List.append_assoc,← List.append_assoc]
          exact List.Perm.append_right _ List.perm_append_comm
        · refine hlow x ?_ y ?_
          · have:=p1.mem_iff.1 hx; simpa using this
          · have:=p2.mem_iff.1 hy; simpa using this
      have hn1 : ¬ (0 < X1.length∧0 < Y1.length)→P ++ X1 ++ Y1 ++ (X2 ++ Y2 ++ S) = P ++ Z1 ++ (X2 ++ Y2 ++ S):=fun g=>by rw [n1 g]; simp only [List.append_assoc]
      have hn2' : ¬ (0 < X2.length∧0 < Y2.length)→P ++ Z1 ++ (X2 ++ Y2 ++ S) = P ++ (Z1 ++ Z2) ++ S:=fun g=>by rw [n2 g]; simp only [List.append_assoc]
      by_cases g0:0 < X2.length∧0 < Y1.length
      all_goals by_cases g1:0 < X1.length∧0 < Y1.length
      all_goals by_cases g2:0 < X2.length∧0 < Y2.length
      all_goals
        first | (have q0:=hrot g0.1 g0.2) | (have q0:=hnrot g0)
        first | (have q1:=c1 g1) | (have q1:=hn1 g1)
        first | (have q2:=c2 g2) | (have q2:=hn2' g2)
        (refine W_g (Aj hset (Aj hlc1 (Aj hloc (Aj q0 (Aj q1 q2))))) ?_; (repeat' first | apply Cj.mk | exact Nl.nl) <;> intros)
        all_goals first | exact ⟨rfl,_,hfin.1,hfin.2,rfl⟩ | exact ⟨rfl,_,hfin.1,hfin.2,by rw [q0,q1,q2]⟩
end Go.Proofs.YtakmapoompffgaaGreatDoor.AM
