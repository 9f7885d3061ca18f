/- Parts of proofs: lemmas, joined. -/
import Derived.Test.YtakmapoompffgaaGreatDoorP5be7d00a
set_option linter.unusedVariables false
set_option linter.unusedSimpArgs false
set_option linter.unusedSectionVars false
namespace Go.Proofs.YtakmapoompffgaaGreatDoor.AM
open Go
variable {α:Type} [Inhabited α] {q:Pl} {enc:α→List Value} {val:α→Value} {cv:Value} {key:α→Int} {idx:α→Int}
def Bl (bs:Nat):List (List α)→Prop
  | []=>True
  | A :: r=>0 < A.length∧A.length≤bs∧(r≠[]→A.length = bs)∧Bl bs r
def Far (idx:α→Int) (A B:List α):Prop:=∀ x∈A,∀ y∈B,idx x < idx y
theorem Bl.snoc {bs:Nat}:∀ {L:List (List α)},(∀ A∈L,A.length = bs)→0 < bs→∀ {R:List (List α)},Bl bs R→Bl bs (L ++ R)
  | [],_,_,_,h=>h
  | A :: r,h,hb,R,hR=>by
    have h1:=h A (by simp)
    exact ⟨by omega,by omega,fun _=>h1,Bl.snoc (fun B hB=>h B (List.mem_cons_of_mem _ hB)) hb hR⟩
set_option maxHeartbeats 4000000 in
theorem stable_eq (hc:CmpS q enc val cv key) {O:List α} {n:Nat} (hn:O.length = n) (hn2:n < 1000000000) (hO:O.Pairwise (fun x y=>idx x < idx y)) :
    ∃ Z:List α,Z.Perm O∧Z.Pairwise (ltK key idx)∧callO PX 125 [(q.s n).val 1,.int .i64 n,cv] (q.H enc O) = some (.tuple #[],q.H enc Z):=by
  have hlen:(q.s n).len = n:=rfl
  have hset:=hc.isF.set
  have hlc1:=hc.isF.lc1
  have hloc:=hc.isF.loc
  suffices hw:WpC PX 125 [(q.s n).val 1,.int .i64 n,cv] (q.H enc O) fun v h1=>v = .tuple #[]∧∃ Z:List α,Z.Perm O∧Z.Pairwise (ltK key idx)∧h1 = q.H enc Z by
    obtain ⟨v,h1,e,rfl,Z,z1,z2,rfl⟩:=hw
    exact ⟨Z,z1,z2,e⟩
  refine wpc_fn (px_ext rfl) (px_fn fn_slices_stableCmpFunc_rune) rfl ?_
  unfold LF_slices_stableCmpFunc_rune
  simp only [argFr]
  (refine W_g (Aj hset (Aj hlc1 hloc)) ?_; (repeat' first | apply Cj.mk | exact Nl.nl) <;> intros)
  refine wp_loop (fun w fr lc h1 => ∃ (L:List (List α)) (R:List α) (a b:Int),w = R.length∧(∀ A∈L,A.length = 20)∧(∀ A∈L,A.Pairwise (ltK key idx))∧L.Pairwise (Far idx)∧(∀ A∈L,Far idx A R)∧R.Pairwise (fun x y=>idx x < idx y)∧(L.flatten ++ R).Perm O ∧
      a = L.flatten.length∧b = a + 20∧fr = [(0,(q.s n).val 1),(1,.int .i64 n),(2,cv),(6,.int .i64 20),(7,.int .i64 a),(8,.int .i64 b)]∧lc = []∧h1 = q.H enc (L.flatten ++ R)) O.length
    ⟨[],O,0,20,rfl,by simp,by simp,List.Pairwise.nil,by simp,hO,.refl _,rfl,rfl,rfl,rfl,rfl⟩ ?_
  rintro w fr lc h1 ⟨L,R,a,b,rfl,hL1,hL2,hL3,hL4,hR,hP,ha,hb,rfl,rfl,rfl⟩
  have hl:=hP.length_eq
  rw [hn,List.length_append] at hl
  by_cases hbn:b≤n
  · have hR20:20≤R.length:=by omega
    have hRe:R = R.take 20 ++ R.drop 20:=(List.take_append_drop 20 R).symm
    obtain ⟨Z,z1,z2,z3⟩:=insertion_eq (idx:=idx) hc (P:=L.flatten) (X:=R.take 20) (S:=R.drop 20) (n:=n) (a:=a) (b:=b) (by simp only [List.length_append,List.length_take,List.length_drop]; omega) (by omega) ha (by rw [List.length_take]; omega) (hR.sublist (List.take_sublist _ _))
    have hDe:L.flatten ++ R = L.flatten ++ R.take 20 ++ R.drop 20:=by rw [List.append_assoc,← hRe]
    have hZl:Z.length = 20:=by rw [z1.length_eq,List.length_take]; omega
    rw [← hDe] at z3
    have hmz:∀ x∈Z,x∈R:=fun x hx=>List.mem_of_mem_take (z1.mem_iff.1 hx)
    have hpw:=List.pairwise_append.1 (hRe ▸ hR:(R.take 20 ++ R.drop 20).Pairwise (fun x y=>idx x < idx y))
    (refine W_g (Aj hset (Aj hlc1 (Aj hloc z3))) ?_; (repeat' first | apply Cj.mk | exact Nl.nl) <;> intros)
    refine ⟨(R.drop 20).length,by rw [List.length_drop]; omega,L ++ [Z],R.drop 20,b,b + 20,rfl,fun A hA=>?_,fun A hA=>?_,List.pairwise_append.2 ⟨hL3,by simp,fun A hA B hB x hx y hy=>?_⟩,fun A hA x hx y hy=>?_,hpw.2.1, ?_, ?_,rfl,rfl,rfl,by simp⟩
    · rcases List.mem_append.1 hA with hA | hA
      · exact hL1 A hA
      · rw [List.mem_singleton.1 hA]; exact hZl
    · rcases List.mem_append.1 hA with hA | hA
      · exact hL2 A hA
      · rw [List.mem_singleton.1 hA]; exact z2
    · rw [List.mem_singleton.1 hB] at hy
      exact hL4 A hA x hx y (hmz y hy)
    · rcases List.mem_append.1 hA with hA | hA
      · exact hL4 A hA x hx y (List.mem_of_mem_drop hy)
      · rw [List.mem_singleton.1 hA] at hx
        exact hpw.2.2 x (z1.mem_iff.1 hx) y hy
    · refine List.Perm.trans ?_ hP
      rw [hDe]
      simp only [List.flatten_append,List.flatten_cons,List.flatten_nil,List.append_nil]
      exact List.Perm.append_right _ (List.Perm.append_left _ z1)
    · simp only [List.flatten_append,List.flatten_cons,List.flatten_nil,List.append_nil,List.length_append]; omega
  · obtain ⟨Z,z1,z2,z3⟩:=insertion_eq (idx:=idx) hc (P:=L.flatten) (X:=R) (S:=[]) (n:=n) (a:=a) (b:=n) (by simp only [List.length_append,List.length_nil]; omega) (by omega) ha (by omega) hR
    rw [List.append_nil,List.append_nil] at z3
    have hZl:=z1.length_eq
    (refine W_g (Aj hset (Aj hlc1 (Aj hloc z3))) ?_; (repeat' first | apply Cj.mk | exact Nl.nl) <;> intros)
    refine wp_loop (fun w fr lc h1 => ∃ (bs:Nat) (L:List (List α)),w = n - bs∧20≤bs∧bs≤2 * n + 20∧Bl bs L∧(∀ A∈L,A.Pairwise (ltK key idx))∧L.Pairwise (Far idx)∧L.flatten.Perm O ∧
        fr = [(0,(q.s n).val 1),(1,.int .i64 n),(2,cv),(6,.int .i64 bs)]∧lc = []∧h1 = q.H enc L.flatten) (n - 20) ?_ ?_
    · by_cases hZ0:Z = []
      · refine ⟨20,L,rfl,by omega,by omega, ?_,hL2,hL3, ?_,rfl,rfl,by rw [hZ0,List.append_nil]⟩
        · have:=Bl.snoc (bs:=20) hL1 (by omega) (R:=[]) trivial
          rwa [List.append_nil] at this
        · refine List.Perm.trans ?_ hP
          rw [List.eq_nil_of_length_eq_zero (l:=R) (by rw [← hZl,hZ0]; rfl),List.append_nil]
      · refine ⟨20,L ++ [Z],rfl,by omega,by omega,Bl.snoc hL1 (by omega) ⟨List.length_pos_iff.2 hZ0,by omega,fun h=>absurd rfl h,trivial⟩,fun A hA=>?_,List.pairwise_append.2 ⟨hL3,by simp,fun A hA B hB x hx y hy=>?_⟩, ?_,rfl,rfl,by simp⟩
        · rcases List.mem_append.1 hA with hA | hA
          · exact hL2 A hA
          · rw [List.mem_singleton.1 hA]; exact z2
        · rw [List.mem_singleton.1 hB] at hy
          exact hL4 A hA x hx y (z1.mem_iff.1 hy)
        · refine List.Perm.trans ?_ hP
          simp only [List.flatten_append,List.flatten_cons,List.flatten_nil,List.append_nil]
          exact List.Perm.append_left _ z1
    clear hL1 hL2 hL3 hL4 hR hP ha hb hl hbn z1 z2 z3 hZl
    rintro w fr lc h1 ⟨bs,L,rfl,hbs,hbs2,hBl,hLs,hLf,hP,rfl,rfl,rfl⟩
    by_cases hbn:bs < n
    rotate_left
    · (refine W_g (Aj hset (Aj hlc1 hloc)) ?_; (repeat' first | apply Cj.mk | exact Nl.nl) <;> intros)
      refine ⟨rfl,L.flatten,hP, ?_,rfl⟩
      have hl:=hP.length_eq
      match L,hBl,hLs,hl with
      | [],_,_,_=>simp
      | [A],_,h,_=>simpa using h A (by simp)
      | A :: B :: r,hBl,_,hl =>
        obtain ⟨_,_,b3,b4,_⟩:=hBl
        have:=b3 (by simp)
        simp only [List.flatten_cons,List.length_append] at hl
        omega
    · (refine W_g (Aj hset (Aj hlc1 hloc)) ?_; (repeat' first | apply Cj.mk | exact Nl.nl) <;> intros)
      refine wp_loop (fun w fr lc h1 => ∃ (M:List (List α)) (R:List (List α)) (a b:Int),w = R.length∧(∀ A∈M,A.length = 2 * bs)∧Bl bs R∧(∀ A∈M ++ R,A.Pairwise (ltK key idx))∧(M ++ R).Pairwise (Far idx)∧(M ++ R).flatten.Perm O∧a = M.flatten.length∧b = a + 2 * bs ∧
          fr = [(0,(q.s n).val 1),(1,.int .i64 n),(2,cv),(6,.int .i64 bs),(7,.int .i64 a),(8,.int .i64 b)]∧lc = []∧h1 = q.H enc (M ++ R).flatten) L.length
        ⟨[],L,0,2 * bs,rfl,by simp,hBl,hLs,hLf,hP,rfl,by omega,rfl,rfl,rfl⟩ ?_
      clear hBl hLs hLf hP
      rintro w fr lc h1 ⟨M,R,a,b,rfl,hM,hBl,hMs,hMf,hP,ha,hb,rfl,rfl,rfl⟩
      have hl:=hP.length_eq
      rw [hn,List.flatten_append,List.length_append] at hl
      have hmerge:∀ A B R',R = A :: B :: R'→∃ Z:List α,Z.length = A.length + B.length∧callO PX 146 [(q.s n).val 1,.int .i64 a,.int .i64 (a + A.length),.int .i64 (a + A.length + B.length),cv] (q.H enc (M ++ R).flatten) = some (.tuple #[],q.H enc (M ++ (Z :: R')).flatten) ∧
          (∀ A∈M ++ (Z :: R'),A.Pairwise (ltK key idx))∧(M ++ (Z :: R')).Pairwise (Far idx)∧(M ++ (Z :: R')).flatten.Perm O:=by
        rintro A B R' rfl
        obtain ⟨b1,b2,b3,b4,b5,b6,b7⟩:=hBl
        have hp:=List.pairwise_append.1 hMf
        have hp2:=List.pairwise_cons.1 hp.2.1
        have hp3:=List.pairwise_cons.1 hp2.2
        have hAB:Far idx A B:=hp2.1 B (by simp)
        simp only [List.flatten_cons,List.length_append] at hl
        obtain ⟨Z,z1,z2,z3⟩:=merge_eq (n:=n) hc (by omega) _ M.flatten A B R'.flatten a (a + A.length) (a + A.length + B.length) (Nat.le_refl _) (by simp only [List.length_append]; omega) ha (by omega) (by omega) b1 b4 (hMs A (by simp)) (hMs B (by simp)) hAB
        have e1:(M ++ A :: B :: R').flatten = M.flatten ++ A ++ B ++ R'.flatten:=by simp
        have e2:(M ++ Z :: R').flatten = M.flatten ++ Z ++ R'.flatten:=by simp
        have hmem:∀ x∈Z,x∈A∨x∈B:=fun x hx=>by have:=z1.mem_iff.1 hx; simpa using this
        refine ⟨Z,by rw [z1.length_eq,List.length_append],by rw [e1,e2]; exact z3,fun C hC=>?_,List.pairwise_append.2 ⟨hp.1,List.pairwise_cons.2 ⟨fun C hC x hx y hy=>?_,hp3.2⟩,fun C hC E hE x hx y hy=>?_⟩, ?_⟩
        · rcases List.mem_append.1 hC with hC | hC
          · exact hMs C (by simp [hC])
          · rcases List.mem_cons.1 hC with rfl | hC
            · exact z2
            · exact hMs C (by simp [hC])
        · rcases hmem x hx with h | h
          · exact hp2.1 C (by simp [hC]) x h y hy
          · exact hp3.1 C hC x h y hy
        · rcases List.mem_cons.1 hE with rfl | hE
          · rcases hmem y hy with h | h
            · exact hp.2.2 C hC A (by simp) x hx y h
            · exact hp.2.2 C hC B (by simp) x hx y h
          · exact hp.2.2 C hC E (by simp [hE]) x hx y hy
        · refine List.Perm.trans ?_ hP
          rw [e1,e2]
          refine List.Perm.append_right _ ?_
          rw [List.append_assoc]
          exact List.Perm.append_left _ z1
      by_cases hbn2:b≤n
      · match R,hBl,hl,hmerge with
        | [],_,hl,_=>simp only [List.flatten_nil,List.length_nil] at hl; omega
        | [A],hBl,hl,_ =>
          have:=hBl.2.1
          simp only [List.flatten_cons,List.flatten_nil,List.append_nil] at hl; omega
        | A :: B :: R',hBl,hl,hmerge =>
          obtain ⟨b1,b2,b3,b4,b5,b6,b7⟩:=hBl
          obtain ⟨Z,z0,z1,z2,z3,z4⟩:=hmerge A B R' rfl
          have hA:=b3 (by simp)
          simp only [List.flatten_cons,List.length_append] at hl
          have hB:B.length = bs:=by
            by_cases hR':R' = []
            · subst hR'; simp only [List.flatten_nil,List.length_nil] at hl; omega
            · exact b6 hR'
          rw [hA,show a + (bs:Int) + B.length = b by omega] at z1
          (refine W_g (Aj hset (Aj hlc1 (Aj hloc z1))) ?_; (repeat' first | apply Cj.mk | exact Nl.nl) <;> intros)
          refine ⟨R'.length,by simp; omega,M ++ [Z],R',b,b + 2 * bs,rfl,fun C hC=>?_,b7,by simpa using z2,by simpa using z3,by simpa using z4,by simp only [List.flatten_append,List.flatten_cons,List.flatten_nil,List.append_nil,List.length_append]; omega,rfl,rfl,rfl,by simp⟩
          rcases List.mem_append.1 hC with hC | hC
          · exact hM C hC
          · rw [List.mem_singleton.1 hC]; omega
      · match R,hBl,hl,hmerge,hMs,hMf,hP with
        | [],_,hl,_,hMs,hMf,hP =>
          simp only [List.flatten_nil,List.length_nil] at hl
          (refine W_g (Aj hset (Aj hlc1 hloc)) ?_; (repeat' first | apply Cj.mk | exact Nl.nl) <;> intros)
          refine ⟨n - 2 * bs,by omega,2 * bs,M,rfl,by omega,by omega, ?_,by simpa using hMs,by simpa using hMf,by simpa using hP,by simp only [Int.natCast_mul]; congr 6; omega,rfl,by simp⟩
          have:=Bl.snoc (bs:=2 * bs) hM (by omega) (R:=[]) trivial
          rwa [List.append_nil] at this
        | [A],hBl,hl,_,hMs,hMf,hP =>
          have b1:=hBl.1
          have b2:=hBl.2.1
          simp only [List.flatten_cons,List.flatten_nil,List.append_nil] at hl
          (refine W_g (Aj hset (Aj hlc1 hloc)) ?_; (repeat' first | apply Cj.mk | exact Nl.nl) <;> intros)
          exact ⟨n - 2 * bs,by omega,2 * bs,M ++ [A],rfl,by omega,by omega,Bl.snoc hM (by omega) ⟨b1,by omega,fun h=>absurd rfl h,trivial⟩,hMs,hMf,hP,by simp only [Int.natCast_mul]; congr 6; omega,rfl,rfl⟩
        | [A,B],hBl,hl,hmerge,hMs,hMf,hP =>
          obtain ⟨b1,b2,b3,b4,b5,b6,b7⟩:=hBl
          obtain ⟨Z,z0,z1,z2,z3,z4⟩:=hmerge A B [] rfl
          have hA:=b3 (by simp)
          simp only [List.flatten_cons,List.flatten_nil,List.append_nil,List.length_append] at hl
          rw [hA,show a + (bs:Int) + B.length = n by omega] at z1
          (refine W_g (Aj hset (Aj hlc1 (Aj hloc z1))) ?_; (repeat' first | apply Cj.mk | exact Nl.nl) <;> intros)
          exact ⟨n - 2 * bs,by omega,2 * bs,M ++ [Z],rfl,by omega,by omega,Bl.snoc hM (by omega) ⟨by omega,by omega,fun h=>absurd rfl h,trivial⟩,z2,z3,z4,by simp only [Int.natCast_mul]; congr 6; omega,rfl,rfl⟩
        | A :: B :: C :: R',hBl,hl,_,_,_,_ =>
          obtain ⟨b1,b2,b3,b4,b5,b6,b7⟩:=hBl
          have hA:=b3 (by simp)
          have hB:=b6 (by simp)
          simp only [List.flatten_cons,List.length_append] at hl
          omega
theorem sortStable_eq (hc:CmpS q enc val cv key) {O:List α} {n:Nat} (hn:O.length = n) (hn2:n < 1000000000) (hO:O.Pairwise (fun x y=>idx x < idx y)) :
    ∃ Z:List α,Z.Perm O∧Z.Pairwise (ltK key idx)∧callO PX 76 [(q.s n).val 1,cv] (q.H enc O) = some (.tuple #[],q.H enc Z):=by
  have hlen:(q.s n).len = n:=rfl
  have hset:=hc.isF.set
  have hlc1:=hc.isF.lc1
  have hloc:=hc.isF.loc
  obtain ⟨Z,z1,z2,z3⟩:=stable_eq hc hn hn2 hO
  refine ⟨Z,z1,z2, ?_⟩
  apply WpC.eqn
  refine wpc_fn (px_ext rfl) (px_fn fn_slices_SortStableFunc_rune_rune) rfl ?_
  unfold LF_slices_SortStableFunc_rune_rune
  simp only [argFr]
  (refine W_g (Aj hset (Aj hlc1 (Aj hloc (Aj hlen z3)))) ?_; (repeat' first | apply Cj.mk | exact Nl.nl) <;> intros)
  exact ⟨rfl,rfl⟩
end Go.Proofs.YtakmapoompffgaaGreatDoor.AM
namespace Go.Proofs.YtakmapoompffgaaGreatDoor.AM
open Go
section
variable {p:Prg} {fr:Fr} {lc:Lc} {h:AH} {Q:Post}
theorem wp_spotsG {β:Type} {n:Nat} {keep:List Nat} {sts:List St} {b:LCode} {L:Nat→Lc} (F:Nat→Fr) (K:Nat) (s:ByteArray) (l:Bytes) (J:Nat→AH→Prop) (g:Nat→Nat × Nat→Option β) (hl:l = s.data.toList)
    (hf0:AgF (F 0) fr) (hk:∀ i,okS keep ((F i).map (·.1)) n sts = true) (hL:∀ n,setL lc K (.siter s n) = L n) (h0:lc = L 0) (hJ:J 0 h)
    (more:∀ i (hi:i < (spots l).length) h,J i h→(∀ w,g i (spots l)[i] = some w→scanL (spots l) g = some w) →
      WpS p keep sts (F i) (L (posn l i)) h (thenQ p b (loopQ (fun fr' lc' h'=>g i (spots l)[i] = none∧AgF (F (i + 1)) fr'∧lc' = L (posn l (i + 1))∧J (i + 1) h') Q) .norm))
    (fin:∀ h,J (spots l).length h→scanL (spots l) g = none→WpS p keep sts (F (spots l).length) (L l.length) h (thenQ p b (loopQ (fun _ _ _=>False) Q) .norm)):Wp p (.loop (.seq (R n keep sts) b)) fr lc h Q:=by
  refine wp_scanL (spots l) g (fun i fr lc' h=>AgF (F i) fr∧lc' = L (posn l i)∧J i h) ⟨hf0,by rw [posn_zero]; exact h0,hJ⟩ ?_ ?_
  · rintro fr _ h ⟨ha,rfl,hj⟩ fn
    rw [posn_all]
    exact wp_seq (wp_RA ha (hk _) (fin h hj fn))
  · rintro i hi fr _ h ⟨ha,rfl,hj⟩ hit
    refine wp_mono (wp_seq (wp_RA ha (hk _) (more i hi h hj hit))) fun ex fr lc h hq=>?_
    have hq:=hq.out
    cases ex with
    | norm=>exact ⟨⟨hq.1,hq.2.1,hq.2.2.1,hq.2.2.2⟩⟩
    | exit j=>exact ⟨hq⟩
    | ret=>exact ⟨hq⟩
end
abbrev clT (T:Tab) (c:Nat):Int:=classI T c
def plV:Option (Nat × Nat)→Value
  | some (a,b)=>.tuple (List.toArray [.agg (List.toArray [.int .i64 a,.int .i64 b]),.bool true])
  | none=>.tuple (List.toArray [.agg (List.toArray [.int .i64 0,.int .i64 0]),.bool false])
end Go.Proofs.YtakmapoompffgaaGreatDoor.AM
namespace Go.Proofs.YtakmapoompffgaaGreatDoor.AM
open Go
section
variable {p:Prg} {fr:Fr} {lc:Lc} {h:AH} {Q:Post}
theorem wp_spotsS {σ β:Type} {n:Nat} {keep:List Nat} {sts:List St} {b:LCode} (F:Nat→σ→Fr) (L:Nat→σ→Lc) (s:ByteArray) (l:Bytes) (J:Nat→σ→AH→Prop) (g:Nat→Nat × Nat→Option β) (st0:σ) (hl:l = s.data.toList)
    (hf0:AgF (F 0 st0) fr) (hk:∀ i st,okS keep ((F i st).map (·.1)) n sts = true) (h0:lc = L 0 st0) (hJ:J 0 st0 h)
    (more:∀ i (hi:i < (spots l).length) st h,J i st h→(∀ w,g i (spots l)[i] = some w→scanL (spots l) g = some w) →
      WpS p keep sts (F i st) (L (posn l i) st) h (thenQ p b (loopQ (fun fr' lc' h'=>g i (spots l)[i] = none∧∃ st',AgF (F (i + 1) st') fr'∧lc' = L (posn l (i + 1)) st'∧J (i + 1) st' h') Q) .norm))
    (fin:∀ st h,J (spots l).length st h→scanL (spots l) g = none→WpS p keep sts (F (spots l).length st) (L l.length st) h (thenQ p b (loopQ (fun _ _ _=>False) Q) .norm)):Wp p (.loop (.seq (R n keep sts) b)) fr lc h Q:=by
  refine wp_scanL (spots l) g (fun i fr lc' h => ∃ st,AgF (F i st) fr∧lc' = L (posn l i) st∧J i st h) ⟨st0,hf0,by rw [posn_zero]; exact h0,hJ⟩ ?_ ?_
  · rintro fr _ h ⟨st,ha,rfl,hj⟩ fn
    rw [posn_all]
    exact wp_seq (wp_RA ha (hk _ _) (fin st h hj fn))
  · rintro i hi fr _ h ⟨st,ha,rfl,hj⟩ hit
    refine wp_mono (wp_seq (wp_RA ha (hk _ _) (more i hi st h hj hit))) fun ex fr lc h hq=>?_
    have hq:=hq.out
    cases ex with
    | norm=>exact ⟨⟨hq.1,hq.2⟩⟩
    | exit j=>exact ⟨hq⟩
    | ret=>exact ⟨hq⟩
theorem wp_forS {σ α β:Type} {a:LCode} (F:Nat→σ→Fr) (L:Nat→σ→Lc) (l:List α) (J:Nat→σ→AH→Prop) (g:Nat→α→Option β) (st0:σ) (h0:fr = F 0 st0) (hc:lc = L 0 st0) (hJ:J 0 st0 h)
    (more:∀ i (hi:i < l.length) st h,J i st h→(∀ w,g i l[i] = some w→scanL l g = some w)→Wp p a (F i st) (L i st) h (loopQ (fun fr' lc' h'=>g i l[i] = none∧∃ st',fr' = F (i + 1) st'∧lc' = L (i + 1) st'∧J (i + 1) st' h') Q))
    (fin:∀ st h,J l.length st h→scanL l g = none→Wp p a (F l.length st) (L l.length st) h (loopQ (fun _ _ _=>False) Q)):Wp p (.loop a) fr lc h Q:=by
  refine wp_scanL l g (fun i fr lc' h => ∃ st,fr = F i st∧lc' = L i st∧J i st h) ⟨st0,h0,hc,hJ⟩ ?_ ?_
  · rintro _ _ h ⟨st,rfl,rfl,hj⟩ fn
    exact fin st h hj fn
  · rintro i hi _ _ h ⟨st,rfl,rfl,hj⟩ hit
    refine wp_mono (more i hi st h hj hit) fun ex fr lc h hq=>?_
    have hq:=hq.out
    cases ex with
    | norm=>exact ⟨⟨hq.1,hq.2⟩⟩
    | exit j=>exact ⟨hq⟩
    | ret=>exact ⟨hq⟩
end
theorem runesB_take {l:Bytes} {i:Nat} (hi:i < (spots l).length):(runesB l).take (i + 1) = (runesB l).take i ++ [((spots l)[i]).1]:=by
  have hl:i < (runesB l).length:=by rw [runesB,List.length_map]; exact hi
  rw [take_snoc hl]
  simp [runesB]
theorem runesB_len (l:Bytes):(runesB l).length = (spots l).length:=by rw [runesB,List.length_map]
theorem ref8Runes_spec (s:ByteArray) (hs:s.size≤1048576) (h:AH):WpC PX 53 [.string s] h fun v h' => ∃ sl,v = sl.val 1∧FOwn h h' 1 sl ((runesB s.data.toList).map rnV):=by
  obtain ⟨l,hl⟩:∃ l,l = s.data.toList:=⟨_,rfl⟩
  have hz:l.length = s.size:=by rw [hl]; rfl
  have hn:=spots_len l
  rw [← hl]
  refine wpc_fn (px_ext rfl) (px_fn fn_guiseref8_Runes) rfl ?_
  unfold LF_guiseref8_Runes
  simp only [argFr]
  (refine W_x @ev_rngS ?_; (repeat' first | apply Cj.mk | exact Nl.nl) <;> intros)
  refine wp_spotsS (fun i sl=>[(3,sl.val 1),(7,.pointer (some ⟨14,0,some 1⟩))]) (fun n _=>[(14,.siter s n)]) s l (fun i sl h'=>FOwn h h' 1 sl (((runesB l).take i).map rnV)) (fun _ _=>(none:Option Unit)) Sl.nil hl (by repeat' first | exact True.intro | refine And.intro rfl ?_) (fun _ _=>rfl) rfl (FOwn.nil (Kp.refl h))
    (fun i hi sl h1 fo hit=>?_) fun sl h1 fo fin=>?_
  · (refine W_x trivial ?_; (repeat' first | apply Cj.mk | exact Nl.nl) <;> intros)
    refine wo_next hl rfl hi ?_
    have ht:=runesB_take hi
    generalize (spots l)[i] = y at ht
    (refine W_x trivial ?_; (repeat' first | apply Cj.mk | exact Nl.nl) <;> intros)
    refine wo_app1 (cs:=rnV y.1) fo rfl rfl (by decide) (by decide) (by rw [List.length_map,List.length_take]; omega) fun s2 h2 f2=>?_
    (refine W_x trivial ?_; (repeat' first | apply Cj.mk | exact Nl.nl) <;> intros)
    refine ⟨rfl,s2,(by repeat' first | exact True.intro | refine And.intro rfl ?_),rfl, ?_⟩
    rw [ht,List.map_append]
    exact f2
  · (refine W_x trivial ?_; (repeat' first | apply Cj.mk | exact Nl.nl) <;> intros)
    refine wo_nextE hl rfl ?_
    (refine W_x trivial ?_; (repeat' first | apply Cj.mk | exact Nl.nl) <;> intros)
    refine ⟨sl,rfl, ?_⟩
    rw [← runesB_len,List.take_length] at fo
    exact fo
theorem encs_snoc (B:List Nat) (c:Nat):encs (B ++ [c]) = encs B ++ encN c:=by
  rw [encs_append]
  simp [encs]
theorem encs_lenle (L:List Nat):(encs L).length≤4 * L.length:=by
  induction L with
  | nil=>simp [encs]
  | cons c L ih =>
    have:=(encN_len c).2
    rw [encs_cons,List.length_append,List.length_cons]
    omega
theorem ref8Text_spec {s:Sl} {B:List Nat} {h:AH} (rd:Reads h 1 s (B.map rnV)) (hB:∀ c∈B,RuneN c) (hn:B.length≤10000000):WpC PX 50 [s.val 1] h fun v h'=>v = .string (bs (encs B))∧Kp h h':=by
  have hs:=rd.len
  refine wpc_fn (px_ext rfl) (px_fn fn_guiseref8_Text) rfl ?_
  unfold LF_guiseref8_Text
  simp only [argFr]
  (refine W_x hs ?_; (repeat' first | apply Cj.mk | exact Nl.nl) <;> intros)
  refine wp_forS (fun i sl=>[(0,s.val 1),(3,sl.val 1),(4,.int .i64 i)]) (fun _ _=>[]) B (fun i sl h'=>FOwn h h' 1 sl ((encs (B.take i)).map byteV)) (fun _ _=>(none:Option Unit)) Sl.nil rfl rfl (by simpa [encs] using FOwn.nil (Kp.refl h)) (fun i hi sl h1 fo hit=>?_) fun sl h1 fo fin=>?_
  · have g0:=fun lc=>rd_map (lc:=lc) (rd.kp fo.kp) hi
    have hr:=hB _ (List.getElem_mem hi)
    have ht:=take_snoc hi
    generalize B[i] = c at g0 hr ht
    unfold rnV at g0
    have hl:=encs_lenle (B.take i)
    rw [List.length_take] at hl
    obtain ⟨e,he⟩:∃ e,e = Utf8.encode (c:Int):=⟨_,rfl⟩
    have he1:e = bs (encN c):=he.trans (enc_bs hr)
    have he2:e.size≤4:=by rw [he1,bs_size]; exact (encN_len c).2
    have he3:e.data.toList = encN c:=by rw [he1,bs_l]
    clear he1
    (refine W_x (Aj hs (Aj g0 he.symm)) ?_; (repeat' first | apply Cj.mk | exact Nl.nl) <;> intros)
    refine wo_appT fo (by decide) (by rw [List.length_map]; omega) fun s2 h2 f2=>?_
    rw [he3] at f2
    (refine W_x trivial ?_; (repeat' first | apply Cj.mk | exact Nl.nl) <;> intros)
    refine ⟨rfl,s2,rfl,rfl, ?_⟩
    rw [ht,encs_snoc,List.map_append]
    exact f2
  · have hb:=fun lc=>b2s_own (lc:=lc) fo.own
    (refine W_x (Aj hs hb) ?_; (repeat' first | apply Cj.mk | exact Nl.nl) <;> intros)
    rw [List.take_length]
    exact ⟨rfl,fo.kp⟩
end Go.Proofs.YtakmapoompffgaaGreatDoor.AM
namespace Go.Proofs.YtakmapoompffgaaGreatDoor.AM
open Go
theorem ordered_of {cl:Nat→Int}:∀ {l:List Nat},(∀ j (hj:j + 1 < l.length), ¬ (0 < cl l[j + 1]∧cl l[j + 1] < cl (l[j]'(by omega))))→Ordered cl l
  | [],_=>trivial
  | [a],_=>trivial
  | a :: c :: t,h=>⟨h 0 (by simp),ordered_of (l:=c :: t) fun j hj=>h (j + 1) (by simpa using hj)⟩
theorem swap_at {D:List Nat} {j:Nat} (hj:j + 1 < D.length):D = D.take j ++ D[j] :: D[j + 1] :: D.drop (j + 2)∧(D.set (j + 1) D[j]).set j D[j + 1] = D.take j ++ D[j + 1] :: D[j] :: D.drop (j + 2):=by
  have h1:D = D.take j ++ D[j] :: D[j + 1] :: D.drop (j + 2):=by
    conv=>lhs; rw [← List.take_append_drop j D,List.drop_eq_getElem_cons (by omega),List.drop_eq_getElem_cons hj]
  refine ⟨h1, ?_⟩
  generalize hx:D[j] = x at h1 ⊢
  generalize hy:D[j + 1] = y at h1 ⊢
  have hp:(D.take j).length = j:=by rw [List.length_take]; omega
  generalize D.take j = P at h1 hp ⊢
  generalize D.drop (j + 2) = S at h1 ⊢
  subst h1
  subst hp
  simp
theorem ref8Sorted_spec {S:TS} {T:Tab} {h:AH} (t:TabAt h S T) {s:Sl} {B:List Nat} (rd:Reads h 1 s (B.map rnV)) (hn:B.length≤10000000) :
    WpC PX 87 [.agg S.vs.toArray,s.val 1] h fun v h' => ∃ sl,v = sl.val 1∧FOwn h h' 1 sl ((ord (clT T) B).map rnV):=by
  refine wpc_fn (px_ext rfl) (px_fn fn_guiseref8_Sorted) rfl ?_
  unfold LF_guiseref8_Sorted
  simp only [argFr]
  unfold TS.vs
  (refine W_x trivial ?_; (repeat' first | apply Cj.mk | exact Nl.nl) <;> intros)
  refine wo_appL (s:=.at h.n 0 0) (t:=s) (xss:=[]) (yss:=B.map rnV) (FOwn.make (n:=0) (z:=List.replicate 1 undef) (Kp.refl h) (by simp)) (rd.kp ((Kp.refl h).push _)) (by decide) (by decide) (by simp; omega) fun sl h1 fo=>?_
  rw [List.nil_append] at fo
  (refine W_x trivial ?_; (repeat' first | apply Cj.mk | exact Nl.nl) <;> intros)
  refine wp_loopB (fun w fr lc g => ∃ (D:List Nat) (again:Bool),w = (if again then inv (clT T) D + 1 else 0)∧D.length = B.length∧ord (clT T) D = ord (clT T) B∧(again = false→Ordered (clT T) D)∧FOwn h g 1 sl (D.map rnV) ∧
    fr = [(2,.pointer (some ⟨4,0,some 1⟩)),(5,sl.val 1),(6,.bool again)]∧lc = [(4,.cells false [S.s0.val 2,S.s1.val 2,S.s2.val 2,S.s3.val 3,S.s4.val 2,S.s5.val 2,S.s6.val 2,S.s7.val 2])]) (inv (clT T) B + 1) _ (by repeat' first | exact True.intro | refine And.intro rfl ?_) ⟨B,true,rfl,rfl,rfl,(fun q=>by cases q),fo,rfl,rfl⟩ (fun w f0 lc h ⟨_,_,_,_,_,_,_,e,_⟩=>by rw [e]; rfl) ?_
  rintro w fr lc g ⟨D,again,rfl,hD,ho,hf,fo,rfl,rfl⟩
  cases again
  · (refine W_x trivial ?_; (repeat' first | apply Cj.mk | exact Nl.nl) <;> intros)
    refine ⟨sl,rfl, ?_⟩
    rw [← ho,ord_of_ordered (hf rfl)]
    exact fo
  · have sll:=fo.own.1
    rw [List.length_map] at sll
    (refine W_x trivial ?_; (repeat' first | apply Cj.mk | exact Nl.nl) <;> intros)
    refine wp_loop (fun w fr lc g => ∃ (j:Nat) (E:List Nat) (again:Bool),w = D.length - j∧E.length = D.length∧ord (clT T) E = ord (clT T) D∧(again = false→E = D∧∀ i (hi:i + 1 < D.length),i < j → ¬ (0 < clT T D[i + 1]∧clT T D[i + 1] < clT T (D[i]'(by omega))))∧(again = true→inv (clT T) E < inv (clT T) D)∧FOwn h g 1 sl (E.map rnV) ∧
      fr = [(2,.pointer (some ⟨4,0,some 1⟩)),(5,sl.val 1),(6,.bool again),(7,.int .i64 ((j:Int) + 1))]∧lc = [(4,.cells false [S.s0.val 2,S.s1.val 2,S.s2.val 2,S.s3.val 3,S.s4.val 2,S.s5.val 2,S.s6.val 2,S.s7.val 2])]) D.length
      ⟨0,D,false,rfl,rfl,rfl,fun _=>⟨rfl,fun i hi h0=>by omega⟩,(fun q=>by cases q),fo,rfl,rfl⟩ ?_
    rintro w fr lc g ⟨j,E,again,rfl,hE,hoE,hf1,hf2,fo,rfl,rfl⟩
    by_cases hj:j + 1 < E.length
    · have rdE:=fo.reads
      have g0:=fun lc=>rd_map (lc:=lc) rdE (i:=j) (by omega)
      have g1:=fun lc=>rd_map (lc:=lc) rdE hj
      have tt:=t.kp fo.kp
      have e1:=class6_eq tt
      unfold TS.vs at e1
      obtain ⟨hs1,hs2⟩:=swap_at hj
      have hj0:j < E.length:=by omega
      have sw:=fun (h1:0 < clT T E[j + 1]) (h2:clT T E[j + 1] < clT T E[j])=>ord_swap (cl:=clT T) (a:=E[j]) (c:=E[j + 1]) h1 h2 (E.take j) (E.drop (j + 2))
      have iw:=fun (h1:0 < clT T E[j + 1]) (h2:clT T E[j + 1] < clT T E[j])=>inv_swap (cl:=clT T) (a:=E[j]) (c:=E[j + 1]) h1 h2 (E.drop (j + 2)) (E.take j)
      rw [← hs1,← hs2] at sw iw
      have e2:=e1 (E[j]:Nat)
      have e3:=e1 (E[j + 1]:Nat)
      rw [show classI T (E[j]:Nat) = clT T E[j] from rfl] at e2
      rw [show classI T (E[j + 1]:Nat) = clT T E[j + 1] from rfl] at e3
      obtain ⟨g2,hw1,f1⟩:=fo.set (i:=j + 1) (by rw [List.length_map]; exact hj) (vs:=rnV E[j]) rfl
      obtain ⟨g3,hw2,f2⟩:=f1.set (i:=j) (by rw [List.length_set,List.length_map]; omega) (vs:=rnV E[j + 1]) rfl
      rw [← List.map_set,← List.map_set] at f2
      have hix:((j:Int) + 1 - 1).toNat = j:=by omega
      have hix1:((j:Int) + 1).toNat = j + 1:=by omega
      have hEj:again = false→∀ hi:j + 1 < D.length,E[j + 1] = D[j + 1]∧E[j] = D[j]'(by omega):=fun q hi=>by
        have:=(hf1 q).1
        subst this
        exact ⟨rfl,rfl⟩
      generalize E[j] = x at *
      generalize E[j + 1] = y at *
      unfold rnV at g0 g1 hw1 hw2
      (refine W_x (Aj sll (Aj hix (Aj hix1 (Aj g0 (Aj g1 (Aj e2 (Aj e3 (Aj hw1 hw2)))))))) ?_; (repeat' first | apply Cj.mk | exact Nl.nl) <;> intros)
      · have hs:=sw (by omega) (by omega)
        have hi:=iw (by omega) (by omega)
        refine ⟨_,by omega,j + 1,(E.set (j + 1) x).set j y,true,rfl,by rw [List.length_set,List.length_set]; exact hE,by rw [← hs]; exact hoE,(fun q=>by cases q),fun _=>?_,f2,by simp only [Int.natCast_add]; rfl,rfl⟩
        cases again with
        | true=>have:=hf2 rfl; omega
        | false=>rw [← (hf1 rfl).1]; omega
      all_goals
        refine ⟨_,by omega,j + 1,E,again,rfl,hE,hoE,fun q=>⟨(hf1 q).1,fun i hi hij=>?_⟩,hf2,fo,by simp only [Int.natCast_add]; rfl,rfl⟩
        rcases Nat.lt_or_ge i j with h5 | h5
        · exact (hf1 q).2 i hi h5
        · have h6:i = j:=by omega
          subst h6
          rw [← (hEj q hi).1,← (hEj q hi).2]
          omega
    · (refine W_x sll ?_; (repeat' first | apply Cj.mk | exact Nl.nl) <;> intros)
      refine ⟨_, ?_,_,(by repeat' first | exact True.intro | refine And.intro rfl ?_),E,again,rfl,by omega,by rw [hoE,ho],fun q=>?_,fo,rfl,rfl⟩
      · cases again with
        | true=>have:=hf2 rfl; simp only [if_true]; omega
        | false=>simp
      · rw [(hf1 q).1]
        exact ordered_of fun i hi=>(hf1 q).2 i hi (by omega)
def orderB (T:Tab) (l:Bytes):Bytes:=encs (ord (clT T) (runesB l))
end Go.Proofs.YtakmapoompffgaaGreatDoor.AM
namespace Go.Proofs.YtakmapoompffgaaGreatDoor.AM
open Go
section
variable {cl:Nat→Int}
theorem insR_split {r:Nat}:∀ (A B:List Nat),(∀ s∈A,0 < cl r∧cl r < cl s)→(∀ b∈B, ¬ (0 < cl r∧cl r < cl b))→insR cl (A ++ B) r = A ++ r :: B
  | [],[],_,_=>rfl
  | [],b :: B,_,h=>by simp only [List.nil_append,insR]; rw [if_neg (h b (by simp))]
  | a :: A,B,h,g=>by
    simp only [List.cons_append,insR]
    rw [if_pos (h a (by simp)),insR_split A B (fun s hs=>h s (by simp [hs])) g]
theorem ord_snoc (l:List Nat) (r:Nat):ord cl (l ++ [r]) = (insR cl (ord cl l).reverse r).reverse:=by
  unfold ord
  rw [List.foldl_append,List.foldl_cons,List.foldl_nil,List.reverse_reverse]
theorem sorted_ord:∀ (n:Nat) (O Z:List (Nat × Nat)),O.length = n→O.Pairwise (fun x y=>(x.2:Int) < y.2)→Z.Perm O→Z.Pairwise (ltK (fun x=>cl x.1) fun x=>(x.2:Int))→(∀ x∈O,0 < cl x.1)→Z.map (·.1) = ord cl (O.map (·.1))
  | 0,O,Z,hn,_,hp,_,_=>by
    have:O = []:=List.eq_nil_of_length_eq_zero hn
    subst this
    rw [hp.eq_nil]
    rfl
  | n + 1,O,Z,hn,ho,hp,hz,hc=>by
    rcases List.eq_nil_or_concat O with rfl | ⟨O',x,rfl⟩
    · simp at hn
    · rw [List.concat_eq_append] at *
      rw [List.length_append,List.length_singleton] at hn
      have hx:x∈Z:=hp.mem_iff.2 (by simp)
      obtain ⟨P,S,rfl⟩:=List.append_of_mem hx
      have hp':(P ++ S).Perm O':=by
        have h1:=hp.symm.trans List.perm_middle
        have h2:(O' ++ [x]).Perm (x :: O'):=List.perm_append_singleton x O'
        exact (List.Perm.cons_inv (h2.symm.trans h1)).symm
      have ho':=List.pairwise_append.1 ho
      have hz1:=List.pairwise_append.1 hz
      have hz2:=List.pairwise_cons.1 hz1.2.1
      have ih:=sorted_ord n O' (P ++ S) (by omega) ho'.1 hp' (hz.sublist (by simp)) fun y hy=>hc y (by simp [hy])
      have hcx:=hc x (by simp)
      rw [List.map_append,List.map_cons,List.map_append,List.map_cons,List.map_nil,ord_snoc,← ih,List.map_append,List.reverse_append]
      rw [insR_split]
      · simp
      · intro s hs
        rw [List.mem_reverse] at hs
        obtain ⟨y,hy,rfl⟩:=List.mem_map.1 hs
        have h1:=hz2.1 y hy
        have h2:=ho'.2.2 y (hp'.mem_iff.1 (by simp [hy])) x (by simp)
        unfold ltK at h1
        simp only at h1
        omega
      · intro s hs
        rw [List.mem_reverse] at hs
        obtain ⟨y,hy,rfl⟩:=List.mem_map.1 hs
        have h1:=hz1.2.2 y hy x (by simp)
        unfold ltK at h1
        simp only at h1
        omega
theorem ordered_append:∀ {A B:List Nat},Ordered cl A→Ordered cl B→(∀ a b,A.getLast? = some a→B.head? = some b → ¬ (0 < cl b∧cl b < cl a))→Ordered cl (A ++ B)
  | [],B,_,hB,_=>hB
  | [a],[],_,_,_=>trivial
  | [a],b :: B,_,hB,h=>⟨h a b rfl rfl,hB⟩
  | a :: c :: A,B,hA,hB,h=>⟨hA.1,ordered_append (A:=c :: A) hA.2 hB fun x y hx hy=>h x y (by rw [List.getLast?_cons_cons]; exact hx) hy⟩
end
theorem Tr.set_self:∀ (f:Nat) (t:Tr) (k:Nat) (o:AObj),k < f→t.get k = some o→Tr.set f t k (some o) = t
  | 0,t,k,o,h,_=>by omega
  | f + 1,.e,k,o,_,h=>by simp [Tr.get] at h
  | f + 1,.n l v r,k,o,hk,h=>by
    simp only [Tr.get] at h
    by_cases h0:k = 0
    · rw [if_pos h0] at h
      simp only [Tr.set,if_pos h0,h]
    · rw [if_neg h0] at h
      by_cases h1:k % 2 = 1
      · rw [if_pos h1] at h
        simp only [Tr.set,if_neg h0,if_pos h1,Tr.set_self f l (k / 2) o (by omega) h]
      · rw [if_neg h1] at h
        simp only [Tr.set,if_neg h0,if_neg h1,Tr.set_self f r (k / 2 - 1) o (by omega) h]
theorem AH.set_self {h:AH} {b:Nat} {o:AObj} (e:h.get b = some o):h.set b o = h:=by
  have hb:=AH.get_lt e
  simp only [AH.get,hb,if_true] at e
  simp only [AH.set,AH.put,Tr.set_self (b + 1) h.m b o (by omega) e]
end Go.Proofs.YtakmapoompffgaaGreatDoor.AM
namespace Go.Proofs.YtakmapoompffgaaGreatDoor.AM
open Go
theorem isNaNi_eq (n:Int) (h:AH):callO PX 126 [.int .i64 n] h = some (.bool false,h):=by
  apply WpC.eqn
  refine wpc_fn (px_ext rfl) (px_fn fn_cmp_isNaN_int) rfl ?_
  unfold LF_cmp_isNaN_int
  simp only [argFr]
  (refine W_x trivial ?_; (repeat' first | apply Cj.mk | exact Nl.nl) <;> intros)
  all_goals exact ⟨rfl,rfl⟩
def cmpI (x y:Int):Int:=if x < y then -1 else if y < x then 1 else 0
theorem compareI_eq (x y:Int) (h:AH):callO PX 78 [.int .i64 x,.int .i64 y] h = some (.int .i64 (cmpI x y),h):=by
  have e:=fun n=>isNaNi_eq n
  apply WpC.eqn
  refine wpc_fn (px_ext rfl) (px_fn fn_cmp_Compare_int) rfl ?_
  unfold LF_cmp_Compare_int
  simp only [argFr]
  (refine W_x e ?_; (repeat' first | apply Cj.mk | exact Nl.nl) <;> intros)
  all_goals (refine ⟨?_,rfl⟩; unfold cmpI; congr 1; (repeat' split) <;> omega)
abbrev rpV (x:Nat × Nat):List Value:=rnV x.1
theorem cmp_marks (q:Pl) {T:Tab} {k B c:Nat} {s6:Sl} (hb:∀ D,BkAt (q.H rpV D) k B s6 T) (hc:∀ D,(q.H rpV D).get c = some (.cells false [.pointer (some ⟨k,0,none⟩)])) :
    CmpS q rpV (fun x=>.int .i32 x.1) (.func (.func 77) #[] #[.pointer (some ⟨c,0,none⟩)]) (fun x:Nat × Nat=>clT T x.1) where
  len:=fun x=>rfl
  cells:=fun x=>rfl
  ok:=fun x=>rfl
  okv:=fun x=>rfl
  cvf:=⟨_,.inr ⟨c,0,rfl⟩⟩
  run:=fun x y D=>by
    refine ⟨cmpI (clT T x.1) (clT T y.1), ?_,by unfold cmpI; (repeat' split) <;> omega,by unfold cmpI; (repeat' split) <;> omega,by unfold cmpI; (repeat' split) <;> omega⟩
    have e:=fun a b=>compareI_eq a b
    have e1:=class_eq (hb D)
    have g:=hc D
    show callO PX 77 [.int .i32 x.1,.int .i32 y.1,.pointer (some ⟨c,0,none⟩)] _ = _
    apply WpC.eqn
    refine wpc_fn (px_ext rfl) (px_fn fn_marks_Order_1) rfl ?_
    unfold LF_marks_Order_1
    simp only [argFr]
    (refine W_y (Aj e (Aj e1 g)) ?_; (repeat' first | apply Cj.mk | exact Nl.nl) <;> intros)
    exact ⟨rfl,rfl⟩
  vw:=fun x=>rfl
  rdw:=fun x=>rfl
def sl3 (e:Nat) (v a b c:Value):Option Value:=(POp.sl e (.c v) (some (.c a)) (some (.c b)) (some (.c c))).ev []
theorem ev_sl3 {fr:Fr} {e:Nat} {x a b c:Opd}:(POp.sl e x (some a) (some b) (some c)).ev fr = sl3 e (opd fr x) (opd fr a) (opd fr b) (opd fr c):=rfl
attribute [push_cast] ev_sl3
theorem sl3_val {bk o n:Nat} {i j m:Int} (h0:0≤i) (h1:i≤j) (h2:j≤m) (h3:m≤n):sl3 1 ((Sl.at bk o n).val 1) (.int .i64 i) (.int .i64 j) (.int .i64 m) = some ((Sl.at bk (o + i.toNat) (j - i).toNat).val 1):=by
  obtain ⟨i,rfl⟩:=Int.eq_ofNat_of_zero_le h0
  obtain ⟨j,rfl⟩:=Int.eq_ofNat_of_zero_le (Int.le_trans h0 h1)
  obtain ⟨m,rfl⟩:=Int.eq_ofNat_of_zero_le (Int.le_trans h0 (Int.le_trans h1 h2))
  have a1:i≤j:=by omega
  have a2:j≤m:=by omega
  have a3:m≤n:=by omega
  simp [sl3,POp.ev,opd,Sl.val,optInt,asNat,ptrOff,a1,a2,a3]
theorem sort_run {h g:AH} {k B c i j:Nat} {s6 sl:Sl} {T:Tab} {D:List Nat} (bk:BkAt h k B s6 T) (hc:h.get c = some (.cells false [.pointer (some ⟨k,0,none⟩)])) (fo:FOwn h g 1 sl (D.map rnV)) (hij:i < j) (hj:j≤D.length) (hn:D.length < 1000000000)
    (hm:∀ x∈(D.drop i).take (j - i),0 < clT T x) :
    ∃ (w:Sl) (g':AH),sl3 1 (sl.val 1) (.int .i64 i) (.int .i64 j) (.int .i64 j) = some (w.val 1)∧callO PX 76 [w.val 1,.func (.func 77) #[] #[.pointer (some ⟨c,0,none⟩)]] g = some (.tuple #[],g') ∧
      FOwn h g' 1 sl ((D.take i ++ ord (clT T) ((D.drop i).take (j - i)) ++ D.drop j).map rnV):=by
  have hlen:=fo.own.1
  have hnew:=fo.new
  have hkp:=fo.kp
  rw [List.length_map] at hlen
  cases sl with
  | nil=>simp [Sl.len] at hlen; omega
  | «at» b o n =>
    simp only [Sl.len] at hlen
    obtain ⟨h1,h2,pre,h3,h4⟩:=fo.own
    have hnb:=hnew b rfl
    have hbg:=AH.get_lt h3
    obtain ⟨M,hM⟩:∃ M,M = (D.drop i).take (j - i):=⟨_,rfl⟩
    have hMl:M.length = j - i:=by rw [hM,List.length_take,List.length_drop]; omega
    have hD:D = D.take i ++ M ++ D.drop j:=by
      rw [hM]
      conv=>lhs; rw [← List.take_append_drop i D,← List.take_append_drop (j - i) (D.drop i),List.drop_drop,show i + (j - i) = j by omega]
      rw [List.append_assoc]
    rw [← hM] at hm ⊢
    let q:Pl:=⟨g,b,pre ++ ((D.take i).map rnV).flatten,((D.drop j).map rnV).flatten,hbg⟩
    have hfm:∀ Z:List (Nat × Nat),Z.map rpV = (Z.map (·.1)).map rnV:=fun Z=>by rw [List.map_map]; rfl
    have hO:M.zipIdx.map (·.1) = M:=List.zipIdx_map_fst 0 M
    have hfl:(D.map rnV).flatten = ((D.take i).map rnV).flatten ++ ((M.map rnV).flatten ++ ((D.drop j).map rnV).flatten):=by
      conv=>lhs; rw [hD]
      simp only [List.map_append,List.flatten_append,List.append_assoc]
    have hH:q.H rpV M.zipIdx = g:=by
      show g.set b (.cells false (pre ++ ((D.take i).map rnV).flatten ++ (M.zipIdx.map rpV).flatten ++ ((D.drop j).map rnV).flatten)) = g
      rw [hfm,hO]
      refine AH.set_self ?_
      rw [h3,hfl]
      simp only [List.append_assoc]
    have kpq:∀ E,Kp h (q.H rpV E):=fun E=>⟨hkp.1,fun x hx=>by
      show (g.set b _).get x = _
      rw [AH.get_set_ne _ (by omega)]
      exact hkp.2 x hx⟩
    have hcq:=AH.get_lt hc
    obtain ⟨Z,z1,z2,z3⟩:=sortStable_eq (idx:=fun x:Nat × Nat=>(x.2:Int)) (cmp_marks q (T:=T) (k:=k) (B:=B) (c:=c) (s6:=s6) (fun E=>bk.kp (kpq E)) (fun E=>(kpq E).get hc)) (O:=M.zipIdx) (n:=M.length) (by simp) (by omega) (by
      rw [List.pairwise_iff_getElem]
      intro x y hx hy hxy
      simp only [List.getElem_zipIdx]
      omega)
    have hmz:∀ x∈M.zipIdx,0 < clT T x.1:=fun x hx=>hm _ (by rw [← hO]; exact List.mem_map_of_mem hx)
    have hZ:=sorted_ord (cl:=clT T) _ M.zipIdx Z rfl (by
      rw [List.pairwise_iff_getElem]
      intro x y hx hy hxy
      simp only [List.getElem_zipIdx]
      omega) z1 z2 hmz
    rw [hO] at hZ
    rw [hH] at z3
    have hl1:∀ l:List Nat,((l.map rnV).flatten).length = l.length:=fun l=>by rw [flatten_len (e:=1) (fun x hx=>by obtain ⟨y,_,rfl⟩:=List.mem_map.1 hx; rfl),List.length_map,Nat.mul_one]
    have hqs:q.s M.length = .at b (o + i) (j - i):=by
      show Sl.at b (pre ++ ((D.take i).map rnV).flatten).length _ = _
      rw [List.length_append,hl1,List.length_take,h4,hMl,Nat.min_eq_left (by omega)]
    have hs:=sl3_val (bk:=b) (o:=o) (n:=n) (i:=i) (j:=j) (m:=j) (by omega) (by omega) (by omega) (by omega)
    rw [show ((j:Int) - i).toNat = j - i by omega,Int.toNat_natCast] at hs
    rw [hqs] at z3
    refine ⟨_,_,hs,z3,⟨⟨by simp only [Sl.len,List.length_map,List.length_append,ord_length,hMl,List.length_take,List.length_drop]; omega,fun x hx=>by obtain ⟨y,_,rfl⟩:=List.mem_map.1 hx; rfl,pre, ?_,h4⟩,kpq Z,hnew⟩⟩
    rw [q.get]
    show some (AObj.cells false ((pre ++ ((D.take i).map rnV).flatten) ++ (Z.map rpV).flatten ++ ((D.drop j).map rnV).flatten)) = _
    rw [hfm,hZ]
    simp only [List.map_append,List.flatten_append,List.append_assoc]
set_option maxHeartbeats 1000000 in
theorem marksOrder_spec {h:AH} {k B:Nat} {s6:Sl} {T:Tab} (bk:BkAt h k B s6 T) (s:ByteArray) (hs:s.size≤100000000):WpC PX 42 [.pointer (some ⟨k,0,none⟩),.string s] h fun v h'=>v = .string (bs (orderB T s.data.toList))∧Kp h h':=by
  have hz:s.data.toList.length = s.size:=rfl
  have hn:=spots_len s.data.toList
  have hl:=runesB_len s.data.toList
  have hr:=runesB_rune s.data.toList
  unfold orderB
  refine wpc_fn (px_ext rfl) (px_fn fn_marks_Order) rfl ?_
  unfold LF_marks_Order
  simp only [argFr]
  (refine W_x trivial ?_; (repeat' first | apply Cj.mk | exact Nl.nl) <;> intros)
  refine wo_s2r (h0:=h.push (.cells false [.pointer (some ⟨k,0,none⟩)])) (Kp.refl _) (by omega) fun sl g fo=>?_
  have bk1:=bk.kp ((Kp.refl h).push (.cells false [.pointer (some ⟨k,0,none⟩)]))
  have hbox:(h.push (.cells false [.pointer (some ⟨k,0,none⟩)])).get h.n = some (.cells false [.pointer (some ⟨k,0,none⟩)]):=AH.get_push_same h _
  have kp0:Kp h (h.push (.cells false [.pointer (some ⟨k,0,none⟩)])):=(Kp.refl h).push _
  generalize h.push (.cells false [.pointer (some ⟨k,0,none⟩)]) = h1 at fo bk1 hbox kp0
  generalize h.n = c at hbox
  generalize runesB s.data.toList = L at fo hl hr
  (refine W_x trivial ?_; (repeat' first | apply Cj.mk | exact Nl.nl) <;> intros)
  refine wp_loop (fun w fr lc g => ∃ (A R:List Nat),w = R.length∧A.length + R.length = L.length∧ord (clT T) (A ++ R) = ord (clT T) L∧Ordered (clT T) A∧(A = []∨R = []∨(∃ a A',A = A' ++ [a]∧clT T a≤0)∨(∃ a R',R = a :: R'∧clT T a≤0))∧FOwn h1 g 1 sl ((A ++ R).map rnV) ∧
    fr = [(2,.pointer (some ⟨c,0,none⟩)),(5,sl.val 1),(6,.int .i64 A.length)]∧lc = []) L.length ⟨[],L,rfl,by simp,rfl,trivial,.inl rfl,fo,rfl,rfl⟩ ?_
  rintro w fr lc g ⟨A,R,rfl,hAR,ho,hA,hb,fo,rfl,rfl⟩
  have sll:=fo.own.1
  rw [List.length_map,List.length_append] at sll
  have hbx:=fo.kp.get hbox
  have e1:=class_eq (bk1.kp fo.kp)
  cases R with
  | nil =>
    rw [List.append_nil] at fo ho
    rw [List.length_nil,Nat.add_zero] at sll
    have hg:=fun lc=>r2s_own (lc:=lc) fo.own (fun x hx=>hr x (by rw [← ord_mem (cl:=clT T),← ho]; exact ord_mem.2 hx))
    (refine W_x (Aj sll hg) ?_; (repeat' first | apply Cj.mk | exact Nl.nl) <;> intros)
    refine ⟨?_,kp0.trans fo.kp⟩
    rw [← ho,ord_of_ordered hA]
  | cons r R =>
    rw [List.length_cons] at sll hAR
    have hi:A.length < (A ++ r :: R).length:=by rw [List.length_append,List.length_cons]; omega
    have g0:=fun lc=>rd_map (lc:=lc) fo.reads hi
    have hget:(A ++ r :: R)[A.length] = r:=by simp
    rw [hget] at g0
    have e2:=e1 (r:Nat)
    rw [show classI T (r:Nat) = clT T r from rfl] at e2
    unfold rnV at g0
    (refine W_x (Aj sll (Aj hbx (Aj g0 e2))) ?_; (repeat' first | apply Cj.mk | exact Nl.nl) <;> intros)
    · have hb':A = []∨(∃ a A',A = A' ++ [a]∧clT T a≤0):=by
        rcases hb with hb | hb | hb | ⟨a,R',e,ha⟩
        · exact .inl hb
        · cases hb
        · exact .inr hb
        · injection e with e e2
          subst e
          omega
      refine wp_loopB (fun w f0 lc g' => ∃ (m:Nat) (j:Int),j = (A.length:Int) + 1 + m∧w = R.length - m∧m≤R.length∧(∀ x∈R.take m,0 < clT T x)∧f0 = [(2,.pointer (some ⟨c,0,none⟩)),(5,sl.val 1),(6,.int .i64 A.length),(7,.int .i64 j)]∧lc = []∧g' = g) R.length _ (by repeat' first | exact True.intro | refine And.intro rfl ?_)
        ⟨0,(A.length:Int) + 1,by omega,rfl,Nat.zero_le _,by simp,rfl,rfl,rfl⟩ (fun w f0 lc h ⟨_,_,_,_,_,_,e,_,_⟩=>by rw [e]; rfl) ?_
      rintro w f0 lc g' ⟨m,j,hj,rfl,hm,hM,rfl,rfl,rfl⟩
      have fin:(m = R.length∨∃ hm:m < R.length,clT T R[m]≤0)→∃ (w:Sl) (g2:AH),sl3 1 (sl.val 1) (.int .i64 A.length) (.int .i64 j) (.int .i64 j) = some (w.val 1) ∧
          callO PX 76 [w.val 1,.func (.func 77) #[] #[.pointer (some ⟨c,0,none⟩)]] g' = some (.tuple #[],g2) ∧
          ∃ A':List Nat,(A'.length:Int) = j∧A'.length + (R.drop m).length = L.length∧ord (clT T) (A' ++ R.drop m) = ord (clT T) L∧Ordered (clT T) A'∧(A' = []∨R.drop m = []∨(∃ a A2,A' = A2 ++ [a]∧clT T a≤0)∨(∃ a R',R.drop m = a :: R'∧clT T a≤0))∧FOwn h1 g2 1 sl ((A' ++ R.drop m).map rnV):=fun hend=>by
        have hcut:R.drop m = []∨∃ a R',R.drop m = a :: R'∧clT T a≤0:=by
          rcases hend with e | ⟨hlt,e⟩
          · exact .inl (by rw [e,List.drop_length])
          · exact .inr ⟨_,_,List.drop_eq_getElem_cons hlt,e⟩
        have hd:((A ++ r :: R).drop A.length).take (A.length + 1 + m - A.length) = r :: R.take m:=by
          rw [List.drop_left,show A.length + 1 + m - A.length = m + 1 by omega,List.take_succ_cons]
        have hpos:∀ x∈r :: R.take m,0 < clT T x:=fun x hx=>by
          rcases List.mem_cons.1 hx with rfl | hx
          · assumption
          · exact hM x hx
        obtain ⟨w,g2,q1,q2,q3⟩:=sort_run (i:=A.length) (j:=A.length + 1 + m) bk1 hbox fo (by omega) (by rw [List.length_append,List.length_cons]; omega) (by rw [List.length_append,List.length_cons]; omega) (by rw [hd]; exact hpos)
        have hd2:(A ++ r :: R).drop (A.length + 1 + m) = R.drop m:=by
          rw [show A.length + 1 + m = A.length + (m + 1) by omega,← List.drop_drop,List.drop_left,List.drop_succ_cons]
        rw [hd,List.take_left,hd2] at q3
        refine ⟨w,g2,by rw [hj]; simpa using q1,q2,A ++ ord (clT T) (r :: R.take m), ?_, ?_, ?_, ?_, ?_,q3⟩
        · rw [List.length_append,ord_length,List.length_cons,List.length_take]; omega
        · rw [List.length_append,ord_length,List.length_cons,List.length_take,List.length_drop]; omega
        · rw [← ho]
          have e:A ++ r :: R = A ++ ((r :: R.take m) ++ R.drop m):=by simp
          have hc2:∀ {X:List Nat},(A = []∨X = []∨(∃ a p',A = p' ++ [a]∧clT T a≤0)∨(∃ a q',X = a :: q'∧clT T a≤0)):=by
            rcases hb' with h | h
            · exact .inl h
            · exact .inr (.inr (.inl h))
          have hc3:∀ {X:List Nat},(X = []∨R.drop m = []∨(∃ a p',X = p' ++ [a]∧clT T a≤0)∨(∃ a q',R.drop m = a :: q'∧clT T a≤0)):=by
            rcases hcut with h | h
            · exact .inr (.inl h)
            · exact .inr (.inr (.inr h))
          rw [e,List.append_assoc,ord_append hc2,ord_append hc3,ord_append hc2,ord_append hc3,ord_ord]
        · refine ordered_append hA (ord_ordered _) fun a b ha hb2=>?_
          have hbp:0 < clT T b:=hpos b (ord_mem.1 (List.mem_of_head? hb2))
          rcases hb' with rfl | ⟨a',A2,rfl,ha'⟩
          · cases ha
          · rw [List.getLast?_concat] at ha
            injection ha with ha
            subst ha
            omega
        · exact .inr (hcut.imp id .inr)
      by_cases hlt:m < R.length
      · have hi2:A.length + 1 + m < (A ++ r :: R).length:=by rw [List.length_append,List.length_cons]; omega
        have g1:=fun lc=>rd_map (lc:=lc) fo.reads hi2
        have hget2:(A ++ r :: R)[A.length + 1 + m] = R[m]:=by
          rw [List.getElem_append_right (by omega)]
          simp only [show A.length + 1 + m - A.length = m + 1 by omega,List.getElem_cons_succ]
        rw [hget2] at g1
        have ht:=take_snoc hlt
        generalize hy:R[m] = y at g1 ht
        have e3:=e1 (y:Nat)
        rw [show classI T (y:Nat) = clT T y from rfl] at e3
        unfold rnV at g1
        have hix:j.toNat = A.length + 1 + m:=by omega
        (refine W_x (Aj sll (Aj hbx (Aj hix (Aj g1 e3)))) ?_; (repeat' first | apply Cj.mk | exact Nl.nl) <;> intros)
        · refine ⟨_,by omega,[(2,.pointer (some ⟨c,0,none⟩)),(5,sl.val 1),(6,.int .i64 A.length),(7,.int .i64 (j + 1))],(by repeat' first | exact True.intro | refine And.intro rfl ?_),m + 1,j + 1,by omega,rfl,by omega,fun x hx=>?_,rfl,rfl,rfl⟩
          rw [ht] at hx
          rcases List.mem_append.1 hx with hx | hx
          · exact hM x hx
          · rw [List.mem_singleton.1 hx]; assumption
        · obtain ⟨w,g2,q1,q2,A',a1,a2,a3,a4,a5,a6⟩:=fin (.inr ⟨hlt,by rw [hy]; omega⟩)
          (refine W_x (Aj q1 q2) ?_; (repeat' first | apply Cj.mk | exact Nl.nl) <;> intros)
          exact ⟨_,by rw [List.length_cons,List.length_drop]; omega,A',R.drop m,rfl,a2,a3,a4,a5,a6,by rw [a1],rfl⟩
      · obtain ⟨w,g2,q1,q2,A',a1,a2,a3,a4,a5,a6⟩:=fin (.inl (by omega))
        (refine W_x (Aj sll (Aj hbx (Aj q1 q2))) ?_; (repeat' first | apply Cj.mk | exact Nl.nl) <;> intros)
        exact ⟨_,by rw [List.length_cons,List.length_drop]; omega,A',R.drop m,rfl,a2,a3,a4,a5,a6,by rw [a1],rfl⟩
    · refine ⟨R.length,by simp,A ++ [r],R,rfl,by rw [List.length_append,List.length_singleton]; omega,by rw [List.append_assoc]; exact ho, ?_,.inr (.inr (.inl ⟨r,A,rfl,by omega⟩)),by rw [List.append_assoc]; exact fo,by simp only [List.length_append,List.length_singleton,Int.natCast_add]; rfl,rfl⟩
      exact ordered_append hA trivial fun a b _ hb2=>by
        injection hb2 with hb2
        subst hb2
        omega
end Go.Proofs.YtakmapoompffgaaGreatDoor.AM
namespace Go.Proofs.YtakmapoompffgaaGreatDoor.AM
open Go
end Go.Proofs.YtakmapoompffgaaGreatDoor.AM
namespace Go.Proofs.YtakmapoompffgaaGreatDoor.AM
open Go
theorem good_check {T:Tab} (h:goodB T = true):checkW T = none:=by
  unfold goodB at h
  simp only [Bool.and_eq_true,Option.isNone_iff_eq_none] at h
  exact h.2
theorem good_marks {T:Tab} (h:goodB T = true):∀ x∈T.marks,runeI x.1 = true∧1≤x.2∧x.2≤254:=by
  intro x hx
  have hf:=(checkW_none (good_check h)).2.1
  unfold formsW at hf
  simp only [Option.or_eq_none_iff] at hf
  obtain ⟨i,hi,rfl⟩:=List.mem_iff_getElem.1 hx
  have:=scanL_none hf.2.2.1 i hi
  split at this
  · cases this
  · rename_i h1
    split at this
    · cases this
    · exact ⟨by simpa using h1,by omega,by omega⟩
section
variable {cl:Nat→Int}
end
end Go.Proofs.YtakmapoompffgaaGreatDoor.AM
namespace Go.Proofs.YtakmapoompffgaaGreatDoor.AM
open Go
def withinI (n lo hi:Int):Int:=lo + n % (hi - lo + 1)
theorem within_range {n lo hi:Int} (h:lo≤hi):lo≤withinI n lo hi∧withinI n lo hi≤hi:=by
  unfold withinI
  have h1:=Int.emod_nonneg n (show hi - lo + 1≠0 by omega)
  have h2:=Int.emod_lt_of_pos n (show 0 < hi - lo + 1 by omega)
  omega
theorem within_eq (n lo hi:Int) (h1:lo≤hi) (h2 : -1000000000≤lo) (h3:hi≤1000000000) (h:AH):callO PX 30 [.int .i64 n,.int .i64 lo,.int .i64 hi] h = some (.int .i64 (withinI n lo hi),h):=by
  have e:=Int.tmod_eq_emod (a:=n) (b:=hi - lo + 1)
  have e1:=Int.emod_nonneg n (show hi - lo + 1≠0 by omega)
  have e2:=Int.emod_lt_of_pos n (show 0 < hi - lo + 1 by omega)
  have hd : ¬ 0≤n→(hi - lo + 1) ∣ n→n % (hi - lo + 1) = 0:=fun _ q=>Int.emod_eq_zero_of_dvd q
  have hz : ¬ 0≤n → ¬ (hi - lo + 1) ∣ n→n % (hi - lo + 1)≠0:=fun _ q z=>q (Int.dvd_of_emod_eq_zero z)
  have ab:((hi - lo + 1).natAbs:Int) = hi - lo + 1:=by omega
  unfold withinI
  generalize n % (hi - lo + 1) = u at *
  have key:(n.tmod (hi - lo + 1) = u)∨(n.tmod (hi - lo + 1) = u - (hi - lo + 1)∧u≠0):=by
    rw [e]
    by_cases q:0≤n
    · left; rw [if_pos (.inl q)]; omega
    · by_cases d:(hi - lo + 1) ∣ n
      · left; rw [if_pos (.inr d)]; omega
      · right; rw [if_neg (by simp only [q,d,or_self,not_false_eq_true]),ab]; exact ⟨rfl,hz q d⟩
  clear e hd hz
  have hne:hi - lo + 1≠0:=by omega
  have hrem:binA .rem (.int .i64 n) (.int .i64 (hi - lo + 1)) = some (.int .i64 (n.tmod (hi - lo + 1))):=binA_remB hne
  apply WpC.eqn
  refine wpc_fn (px_ext rfl) (px_fn fn_guisebook_Within) rfl ?_
  unfold LF_guisebook_Within
  simp only [argFr]
  (refine W_x hrem ?_; (repeat' first | apply Cj.mk | exact Nl.nl) <;> intros)
  · refine ⟨?_,rfl⟩
    congr 1
    omega
  · refine ⟨?_,rfl⟩
    congr 1
    omega
theorem few_le (s:ByteArray) (n:Nat):(fewB s n).size≤n:=by
  unfold fewB
  split
  · rw [ba_size,ba_extract _ _ _ (by omega),List.length_take]
    omega
  · omega
theorem orderB_encs (T:Tab) {L:List Nat} (h:∀ c∈L,RuneN c):orderB T (encs L) = encs (ord (clT T) L):=by
  unfold orderB
  rw [runesB_of_encs h]
end Go.Proofs.YtakmapoompffgaaGreatDoor.AM
namespace Go.Proofs.YtakmapoompffgaaGreatDoor.AM
open Go
def LF_strings_Builder_WriteString:LFunc :=
  .mk 2 [.tmp 4,.tmp 5] (.seq (R 999 [0,1] [.set 4 (xi 0),.set 5 (.cv .nilIface)]) (.seq (R 6 [0,1] [.tmp 7 (xc1 81 (.va 0))]) (.seq (R 8 [1] [.tmp
  8 (.va 0),.tmp 14 (.op (.e (.appendT 10 1 1 (.s 0) (.s 1))) (.cons (xld (xfa 1 (xnk (.va 0)))) (.va 1))),.run (xst 1 (xfa 1 (xnk (.sl 8))) (.sl 14))]) (.seq (R 17 [4,
  5] [.set 4 (xsl (.va 1)),.set 5 (.cv .nilIface)]) .ret))))
theorem fn_strings_Builder_WriteString:(autoPrg Tryz.prog).fn 44 = some LF_strings_Builder_WriteString:=by kernel_rfl
def LF_tables_Book_Fold:LFunc :=
  .mk 2 [.tmp 4,.tmp 5] (.seq (R 999 [0,1] [.set 4 (.cv (.slice none 0 0)),.set 5 (.cv (.bool false))]) (.seq (R 6 [4,5] [.tmp 11 (xc2 82 (xld (xfa 11 (xnk (.va 0))))
  (.va 1)),.tmp 12 (xex 0 (.sl 11)),.tmp 13 (xex 1 (.sl 11)),.set 4 (.sl 12),.set 5 (.sl 13)]) .ret))
theorem fn_tables_Book_Fold:(autoPrg Tryz.prog).fn 46 = some LF_tables_Book_Fold:=by kernel_rfl
def LF_tables_to:LFunc :=
  .mk 2 [.tmp 4,.tmp 5] (.seq (R 999 [0,1] [.set 4 (.cv (.slice none 0 0)),.set 5 (.cv (.bool false))]) (.seq (R 9 [6,7] [.set 8 (.op (.r (.lookup (.one .int) (.string ⟨#[]⟩)
  true (.s 0) (.s 1))) (.cons (.va 0) (.va 1))),.tmp 12 (xex 0 (.sl 8)),.tmp 13 (xex 1 (.sl 8)),.set 6 (.sl 12),.set 7 (.sl 13)]) (.seq (.seq (R 14 [6,15] [.tmp 15 (xu .not
  (.va 7))]) (.cond (.s 15) (.seq (R 999 [4,5] [.set 4 (.cv (.slice none 0 0)),.set 5 (.cv (.bool false))]) .ret) .skip)) (.seq (R 16 [4,5] [.set 4 (xc1
  128 (.op (.e (.s2r (.s 0))) (.va 6))),.set 5 (.cv (.bool true))]) .ret))))
theorem fn_tables_to:(autoPrg Tryz.prog).fn 82 = some LF_tables_to:=by kernel_rfl
def LF_slices_Clip_rune_rune:LFunc :=
  .mk 1 [.tmp 2] (.seq (R 999 [0] [.set 2 (.cv (.slice none 0 0))]) (.seq (R 3 [2] [.set 2 (.op (.p (.sl 1 (.s 0) none (some (.s 1)) (some (.s 2)))) (.cons (.va 0) (.cons (xlen (.va
  0)) (xlen (.va 0)))))]) .ret))
theorem fn_slices_Clip_rune_rune:(autoPrg Tryz.prog).fn 128 = some LF_slices_Clip_rune_rune:=by kernel_rfl
def LF_fold_steps:LFunc :=
  .mk 1 [.tmp 2] (.seq (R 1 [1] [.tmp 1 (xbh 1 (.sl 0)),.set 2 (.cv .nilFunc)]) (.seq (R 3 [2] [.set 2 (.op (.p (.mkfn (.func 79) [] [.s 0])) (.sl 1))]) .ret))
theorem fn_fold_steps:(autoPrg Tryz.prog).fn 43 = some LF_fold_steps:=by kernel_rfl
def LF_fold_steps_1:LFunc :=
  .mk 2 [.tmp 3] (.seq (R 2 [1,2] [.tmp 2 (xbh 1 (.sl 0)),.set 3 (.cv .nilFunc)]) (.seq (R 4 [3] [.set 3 (.op (.p (.mkfn (.func 80) [] [.s 0,.s 1])) (.cons (.sl
  1) (.sl 2)))]) .ret))
theorem fn_fold_steps_1:(autoPrg Tryz.prog).fn 79 = some LF_fold_steps_1:=by kernel_rfl
def LF_fold_steps_1_1:LFunc :=
  .mk 3 [] (.seq (R 3 [1,2,3] [.tmp 3 (xbh 1 (.sl 0))]) (.seq (.seq (R 9 [1,2,3,10] [.tmp 10 (.op (.p (.eqk false .ptr (.s 0) (.s 1))) (.cons (xld (.sl 1)) (.cv (.pointer
  none))))]) (.cond (.s 10) .ret .skip)) (.seq (R 4 [1,2,3,4] [.tmp 4 (xnh [.int .i64 0]),.run (xst 1 (.sl 4) (xi 0))]) (.seq (R 11 [1,3,4,12] [.tmp 12 (xc1 55
  (xld (.sl 2)))]) (.block 0 (.rangeF (.s 12) [13,14] (.seq (R 5 [1,3,4,5,14] [.tmp 5 (.va 13)]) (R 6 [1,3,4,5,6] [.tmp 6 (xnl 6 [.int .i32 0,.int .i64 0,.bool false]),
  .run (xst 3 (.sl 6) (.sl 14))])) (.block 1 (.seq (R 16 [3,4,5,6,7,8] [.set 15 (xc2 46 (xld (.sl 1)) (xld (xfa 0 (.sl 6)))),.tmp 20 (xex 0 (.sl 15)),
  .tmp 21 (xex 1 (.sl 15)),.set 7 (.sl 20),.set 8 (.sl 21)]) (.seq (.seq (R 22 [3,4,5,6,7,8,23] [.tmp 23 (xu .not (.va 8))]) (.cond (.s 23) (R 24 [3,4,5,6,7,8] [.set 7
  (.op (.e (.litH 1 1 [.int .i32 0] [(0,1,.s 0)])) (xld (xfa 0 (.sl 6))))]) .skip)) (.seq (.seq (R 27 [4,41] [.tmp 41 (xu .not (xv1 (xld (.sl 3)) (.op (.p (.build [.int .i64 0,
  .int .i64 0,.slice none 0 0,.bool false] [(0,2,.s 0),(2,1,.s 1),(3,1,.s 2)])) (.cons (.op (.p (.build [.int .i64 0,.int .i64 0] [(0,1,.s 0),(1,1,.s 1)])) (.cons
  (.va 5) (xld (.sl 4)))) (.cons (.va 7) (.and (xu .not (xld (xfa 2 (.sl 6)))) (xu .not (.va 8))))))))]) (.cond (.s 41) .ret .skip)) (R 42 [] [.run (xst 1 (.sl 4) (xb .add (xld (.sl
  4)) (xi 1)))])))))))))))
theorem fn_fold_steps_1_1:(autoPrg Tryz.prog).fn 80 = some LF_fold_steps_1_1:=by kernel_rfl
def LF_fold_Fold:LFunc :=
  .mk 2 [.tmp 4] (.seq (R 999 [0,1,4] [.set 4 (.cv (.string ⟨#[]⟩))]) (.seq (R 5 [0,1,4,5] [.tmp 5 (.op (.e (.newT 173 [.pointer none,.slice none 0 0]))
  .nil)]) (.seq (.seq (R 7 [4,5,10] [.tmp 10 (xv1 (xc1 43 (.va 0)) (.va 1))]) (.block 0 (.rangeF (.s 10) [11] (R 6 [5,6] [.tmp 6 (xnl 6 [.int .i64 0,.int .i64 0,
  .slice none 0 0,.bool false]),.run (xst 4 (.sl 6) (.sl 11))]) (.block 1 (R 12 [] [.tmp 15 (xc2 44 (.sl 5) (.op (.r (.r2s (.s 0))) (xld (xfa 2
  (.sl 6)))))]))))) (.seq (R 16 [4] [.set 4 (xc1 45 (.sl 5))]) .ret))))
theorem fn_fold_Fold:(autoPrg Tryz.prog).fn 14 = some LF_fold_Fold:=by kernel_rfl
end Go.Proofs.YtakmapoompffgaaGreatDoor.AM
namespace Go.Proofs.YtakmapoompffgaaGreatDoor.AM
open Go
def pairI (T:Tab) (r:Int):Option (Int × Int):=(wholeO T r).map fun j=>(T.pairs.getD j (0,0,0)).2
def opI (T:Tab):Nat→Int→List Int
  | 0,r=>[r]
  | f + 1,r=>match pairI T r with
    | none=>[r]
    | some (b,m)=>opI T f b ++ [m]
inductive Op (T:Tab):Int→List Int→Prop
  | one {r:Int}:pairI T r = none→Op T r [r]
  | more {r b m:Int} {L:List Int}:pairI T r = some (b,m)→Op T b L→Op T r (L ++ [m])
theorem opI_none {T:Tab} {r:Int} (h:pairI T r = none) (k:Nat):opI T k r = [r]:=by
  cases k with
  | zero=>rfl
  | succ k=>simp only [opI,h]
theorem chain_ge {T:Tab}:∀ (f n:Nat) (b:Int),0≤chainN T f n b→(n:Int)≤chainN T f n b
  | 0,n,b,h=>by simp only [chainN] at h; omega
  | f + 1,n,b,h=>by
    simp only [chainN] at h ⊢
    split at h
    · omega
    · have:=chain_ge f _ _ h
      omega
theorem op_chain {T:Tab}:∀ (f n:Nat) (b:Int) (k:Nat),0≤chainN T f n b→chainN T f n b≤(n:Int) + k→Op T b (opI T k b)
  | 0,n,b,k,h,_=>by simp only [chainN] at h; omega
  | f + 1,n,b,k,h,hk=>by
    simp only [chainN] at h hk
    cases hw:wholeO T b with
    | none =>
      have hp:pairI T b = none:=by unfold pairI; rw [hw]; rfl
      rw [opI_none hp]
      exact .one hp
    | some j =>
      rw [hw] at h hk
      simp only at h hk
      have h2:=chain_ge _ _ _ h
      have hp:pairI T b = some (T.pairs.getD j (0,0,0)).2:=by unfold pairI; rw [hw]; rfl
      cases k with
      | zero=>omega
      | succ k =>
        have ih:=op_chain f (n + 1) _ k h (by omega)
        simp only [opI,hp]
        exact .more hp ih
theorem good_chain {T:Tab} (h:goodB T = true):∀ x∈T.pairs,0≤chainN T T.pairs.length 1 x.2.1∧chainN T T.pairs.length 1 x.2.1≤4:=by
  intro x hx
  have hf:=(checkW_none (good_check h)).2.2.2.2.1
  unfold chainsW at hf
  obtain ⟨i,hi,rfl⟩:=List.mem_iff_getElem.1 hx
  have:=scanL_none hf i hi
  split at this
  · cases this
  · split at this
    · cases this
    · omega
theorem good_pairs {T:Tab} (h:goodB T = true):∀ x∈T.pairs,isMark T x.1 = false∧isMark T x.2.1 = false∧isMark T x.2.2 = true∧runeI x.1 = true∧runeI x.2.1 = true∧runeI x.2.2 = true:=by
  intro x hx
  have hn:=checkW_none (good_check h)
  have hp:=hn.2.2.2.1
  have hf:=hn.2.1
  unfold pairsW at hp
  unfold formsW at hf
  simp only [Option.or_eq_none_iff] at hf
  obtain ⟨i,hi,rfl⟩:=List.mem_iff_getElem.1 hx
  have h1:=scanL_none hp i hi
  have h2:=scanL_none hf.2.2.2.1 i hi
  split at h1
  · cases h1
  · rename_i g1
    split at h2
    · cases h2
    · rename_i g2
      simp only [not_or,Bool.not_eq_true,Bool.not_eq_false] at g1 g2
      exact ⟨g1.1,g1.2.1,g1.2.2,g2.1,g2.2.1,g2.2.2⟩
theorem whole_mem {T:Tab} {r:Int} {j:Nat} (h:wholeO T r = some j):∃ hj:j < T.pairs.length,(T.pairs[j]).1 = r:=by
  obtain ⟨i,hi,e⟩:=scanL_some h
  split at e
  · injection e with e
    subst e
    exact ⟨hi,by assumption⟩
  · cases e
theorem pair_mem {T:Tab} {r b m:Int} (h:pairI T r = some (b,m)):(r,b,m)∈T.pairs:=by
  unfold pairI at h
  cases hw:wholeO T r with
  | none=>rw [hw] at h; cases h
  | some j =>
    rw [hw] at h
    obtain ⟨hj,e⟩:=whole_mem hw
    have h1:T.pairs.getD j (0,0,0) = T.pairs[j]:=by simp [List.getD_eq_getElem?_getD,List.getElem?_eq_getElem hj]
    simp only [Option.map_some,h1,Option.some.injEq] at h
    have h2:T.pairs[j] = (r,b,m):=Prod.ext e h
    rw [← h2]
    exact List.getElem_mem hj
theorem op_all {T:Tab} (h:goodB T = true) (r:Int):Op T r (opI T 5 r):=by
  cases hp:pairI T r with
  | none=>rw [opI_none hp]; exact .one hp
  | some bm =>
    obtain ⟨b,m⟩:=bm
    have hm:=good_chain h _ (pair_mem hp)
    simp only [opI,hp]
    have h2:chainN T T.pairs.length 1 b≤4:=hm.2
    exact .more hp (op_chain _ 1 b 4 hm.1 (by omega))
theorem Op.eq {T:Tab} {r:Int} {L:List Int} (h:Op T r L):∀ {M:List Int},Op T r M→L = M:=by
  induction h with
  | one h =>
    intro M hM
    cases hM with
    | one _=>rfl
    | more h2 _=>rw [h] at h2; cases h2
  | more h _ ih =>
    intro M hM
    cases hM with
    | one h2=>rw [h] at h2; cases h2
    | more h2 h3 =>
      rw [h] at h2
      injection h2 with h2
      injection h2 with h2 h4
      subst h2 h4
      rw [ih h3]
theorem op_len {T:Tab}:∀ (k:Nat) (r:Int),(opI T k r).length≤k + 1
  | 0,r=>by simp [opI]
  | k + 1,r=>by
    simp only [opI]
    split
    · simp
    · have:=op_len (T:=T) k
      rw [List.length_append,List.length_singleton]
      rename_i b m _
      have:=this b
      omega
theorem mark_whole {T:Tab} (h:goodB T = true) {c:Int} (hm:isMark T c = true):pairI T c = none:=by
  cases hp:pairI T c with
  | none=>rfl
  | some bm =>
    have:=(good_pairs h _ (pair_mem (b:=bm.1) (m:=bm.2) hp)).1
    simp only at this
    rw [hm] at this
    cases this
theorem Op.facts {T:Tab} (h:goodB T = true) {r:Int} {L:List Int} (o:Op T r L):∃ b ms,L = b :: ms∧pairI T b = none∧(∀ c∈ms,isMark T c = true)∧isMark T b = isMark T r∧(runeI r = true→runeI b = true)∧∀ c∈ms,runeI c = true:=by
  induction o with
  | @one r hp=>exact ⟨r,[],rfl,hp,by simp,rfl,id,by simp⟩
  | @more r b m L hp _ ih =>
    obtain ⟨b0,ms,rfl,h1,h2,h3,h4,h5⟩:=ih
    obtain ⟨g1,g2,g3,g4,g5,g6⟩:=good_pairs h _ (pair_mem hp)
    simp only at g1 g2 g3 g4 g5 g6
    refine ⟨b0,ms ++ [m],rfl,h1,fun c hc=>?_,by rw [h3,g1,g2],fun _=>h4 g5,fun c hc=>?_⟩
    · rcases List.mem_append.1 hc with hc | hc
      · exact h2 c hc
      · rw [List.mem_singleton.1 hc]; exact g3
    · rcases List.mem_append.1 hc with hc | hc
      · exact h5 c hc
      · rw [List.mem_singleton.1 hc]; exact g6
theorem class_mark {T:Tab} (h:goodB T = true) (r:Int):0 < classI T r↔isMark T r = true:=by
  unfold classI isMark
  constructor
  · intro hp
    cases hs:scanL T.marks fun _ x=>if x.1 = r then some x.2 else none with
    | none=>rw [hs] at hp; simp at hp
    | some w =>
      obtain ⟨i,hi,e⟩:=scanL_some hs
      split at e
      · rename_i hr
        exact List.any_eq_true.2 ⟨_,List.getElem_mem hi,by simpa using hr⟩
      · cases e
  · intro hm
    obtain ⟨x,hx,e⟩:=List.any_eq_true.1 hm
    cases hs:scanL T.marks fun _ x=>if x.1 = r then some x.2 else none with
    | none =>
      obtain ⟨i,hi,rfl⟩:=List.mem_iff_getElem.1 hx
      have:=scanL_none hs i hi
      rw [if_pos (by simpa using e)] at this
      cases this
    | some w =>
      obtain ⟨i,hi,e⟩:=scanL_some hs
      split at e
      · injection e with e
        have:=good_marks h _ (List.getElem_mem hi)
        simp only [Option.getD_some]
        omega
      · cases e
def opN (T:Tab) (c:Nat):List Nat:=(opI T 5 c).map Int.toNat
theorem rune_iff {r:Int}:runeI r = true↔0≤r∧RuneN r.toNat:=by
  rw [← decide_eq_true_iff (p:=RuneN r.toNat),← runeI_nat]
  unfold runeI
  simp only [decide_eq_true_eq]
  omega
theorem opN_cast {T:Tab} (h:goodB T = true) {c:Nat} (hc:RuneN c):(opN T c).map (fun n:Nat=>(n:Int)) = opI T 5 c∧∀ x∈opI T 5 c,runeI x = true:=by
  obtain ⟨b,ms,e,h1,h2,h3,h4,h5⟩:=(op_all h (c:Int)).facts h
  have hr:∀ x∈opI T 5 c,runeI x = true:=fun x hx=>by
    rw [e] at hx
    rcases List.mem_cons.1 hx with rfl | hx
    · exact h4 (rune_iff.2 ⟨by omega,by simpa using hc⟩)
    · exact h5 x hx
  refine ⟨?_,hr⟩
  unfold opN
  rw [List.map_map]
  conv=>rhs; rw [← List.map_id (opI T 5 c)]
  refine List.map_congr_left fun x hx=>?_
  have:=(rune_iff.1 (hr x hx)).1
  simp only [Function.comp,id]
  omega
theorem opN_facts {T:Tab} (h:goodB T = true) {c:Nat} (hc:RuneN c):∃ b ms,opN T c = b :: ms∧(0 < clT T b↔0 < clT T c)∧(∀ x∈ms,0 < clT T x)∧(∀ x∈b :: ms,RuneN x∧pairI T x = none)∧ms.length≤5∧(0 < clT T c→ms = []∧b = c):=by
  obtain ⟨b,ms,e,h1,h2,h3,h4,h5⟩:=(op_all h (c:Int)).facts h
  obtain ⟨g1,g2⟩:=opN_cast h hc
  have hb:=rune_iff.1 (g2 b (by rw [e]; simp))
  have hx:∀ x∈ms,((x.toNat:Nat):Int) = x∧RuneN x.toNat:=fun x hx=>by
    have:=rune_iff.1 (h5 x hx)
    exact ⟨by omega,this.2⟩
  have hbb:((b.toNat:Nat):Int) = b:=by omega
  refine ⟨b.toNat,ms.map Int.toNat,by unfold opN; rw [e]; rfl, ?_,fun x hx'=>?_,fun x hx'=>?_, ?_,fun hp=>?_⟩
  · show 0 < classI T ((b.toNat:Nat):Int)↔0 < classI T (c:Int)
    rw [hbb,class_mark h,class_mark h,h3]
  · obtain ⟨y,hy,rfl⟩:=List.mem_map.1 hx'
    show 0 < classI T ((y.toNat:Nat):Int)
    rw [(hx y hy).1,class_mark h]
    exact h2 y hy
  · rcases List.mem_cons.1 hx' with rfl | hx'
    · exact ⟨hb.2,by rw [hbb]; exact h1⟩
    · obtain ⟨y,hy,rfl⟩:=List.mem_map.1 hx'
      exact ⟨(hx y hy).2,by rw [(hx y hy).1]; exact mark_whole h (h2 y hy)⟩
  · have:=op_len (T:=T) 5 (c:Int)
    rw [e,List.length_cons] at this
    rw [List.length_map]
    omega
  · have hm:=mark_whole h ((class_mark h _).1 hp)
    rw [opI_none hm] at e
    injection e with e1 e2
    subst e1 e2
    exact ⟨rfl,by simp⟩
def isOp (T:Tab) (c:Nat):Prop:=pairI T c = none
def openF (T:Tab) (B:List Nat):List Nat:=B.flatMap (opN T)
def openL (T:Tab) (B:List Nat):List Nat:=ord (clT T) (openF T B)
def openB (T:Tab) (l:Bytes):Bytes:=encs (openL T (runesB l))
theorem openF_all {T:Tab} (h:goodB T = true) {B:List Nat} (hB:∀ c∈B,RuneN c):∀ x∈openF T B,RuneN x∧isOp T x:=by
  intro x hx
  obtain ⟨c,hc,hx⟩:=List.mem_flatMap.1 hx
  obtain ⟨b,ms,e,_,_,h3,_⟩:=opN_facts h (hB c hc)
  rw [e] at hx
  exact h3 x hx
theorem openL_all {T:Tab} (h:goodB T = true) {B:List Nat} (hB:∀ c∈B,RuneN c):∀ x∈openL T B,RuneN x∧isOp T x:=fun x hx=>openF_all h hB x (ord_mem.1 hx)
theorem openF_len {T:Tab} (h:goodB T = true):∀ {B:List Nat},(∀ c∈B,RuneN c)→B.length≤(openF T B).length∧(openF T B).length≤6 * B.length
  | [],_=>by simp [openF]
  | c :: B,hB=>by
    have ih:=openF_len (T:=T) h (B:=B) fun x hx=>hB x (by simp [hx])
    obtain ⟨b,ms,e,_,_,_,h4,_⟩:=opN_facts h (hB c (by simp))
    unfold openF at ih ⊢
    rw [List.flatMap_cons,e]
    simp only [List.length_append,List.length_cons]
    omega
theorem openF_append {T:Tab} (A B:List Nat):openF T (A ++ B) = openF T A ++ openF T B:=by simp [openF]
def badP (x:Nat × Nat):Prop:=x.1 = 65533∧x.2 = 1
instance (x:Nat × Nat):Decidable (badP x):=by unfold badP; infer_instance
theorem runesB_get {l:Bytes} {i:Nat} (hi:i < (spots l).length):(runesB l)[i]'(by rw [runesB_len]; exact hi) = ((spots l)[i]).1:=by simp [runesB]
end Go.Proofs.YtakmapoompffgaaGreatDoor.AM
namespace Go.Proofs.YtakmapoompffgaaGreatDoor.AM
open Go
end Go.Proofs.YtakmapoompffgaaGreatDoor.AM
namespace Go.Proofs.YtakmapoompffgaaGreatDoor.AM
open Go
variable {D:Nat→Bool}
end Go.Proofs.YtakmapoompffgaaGreatDoor.AM
namespace Go.Proofs.YtakmapoompffgaaGreatDoor.AM
open Go
def mapC (l:List (Int × ByteArray)) (c:Nat):List Nat:=match fromO l (c:Int) with
  | some j=>runesB (l.getD j (0,⟨#[]⟩)).2.data.toList
  | none=>[c]
def mapF (l:List (Int × ByteArray)) (L:List Nat):List Nat:=L.flatMap (mapC l)
theorem from_some {l:List (Int × ByteArray)} {r:Int} {j:Nat} (h:fromO l r = some j):∃ hj:j < l.length,(l[j]).1 = r∧l.getD j (0,⟨#[]⟩) = l[j]:=by
  unfold fromO at h
  obtain ⟨i,hi,e⟩:=scanL_some h
  split at e
  · rename_i hr
    injection e with e
    subst e
    exact ⟨hi,hr,by simp [List.getD_eq_getElem?_getD,hi]⟩
  · cases e
theorem mapC_none {l:List (Int × ByteArray)} {c:Nat} (h:fromO l (c:Int) = none):mapC l c = [c]:=by unfold mapC; rw [h]
theorem mapF_append (l:List (Int × ByteArray)) (A B:List Nat):mapF l (A ++ B) = mapF l A ++ mapF l B:=by simp [mapF]
theorem mapF_cons (l:List (Int × ByteArray)) (c:Nat) (B:List Nat):mapF l (c :: B) = mapC l c ++ mapF l B:=by simp [mapF]
structure MapOk (T:Tab) (l:List (Int × ByteArray)):Prop where
  from':∀ x∈l,runeI x.1 = true∧isMark T x.1 = false∧(wholeO T x.1).isSome = false∧ofI x.1 T.drops = false
  to:∀ x∈l,validB x.2.data.toList = true∧1≤(runesB x.2.data.toList).length∧(runesB x.2.data.toList).length≤4
  plain:∀ x∈l,∀ c∈runesB x.2.data.toList,plainI T (c:Nat) = true
  no:∀ x∈l,∀ c∈runesB x.2.data.toList,fromO l (c:Nat) = none
  bad:fromO l 65533 = none
theorem maps_none {l:List (Int × ByteArray)} {n:Int} (h:mapsW l n = none):∀ x∈l,runeI x.1 = true∧validB x.2.data.toList = true∧1≤(runesB x.2.data.toList).length∧(runesB x.2.data.toList).length≤4:=fun x hx=>by
  obtain ⟨i,hi,rfl⟩:=List.mem_iff_getElem.1 hx
  have:=scanL_none h i hi
  split at this
  · cases this
  · rename_i h1
    split at this
    · cases this
    · rename_i h2
      unfold toBad at h2
      simp only [not_or,Nat.not_lt] at h2
      exact ⟨by simpa using h1,by simpa using h2.1,h2.2.1,h2.2.2⟩
theorem from_lo {l:List (Int × ByteArray)} {r:Int} (h:∀ x∈l,x.1≠r):fromO l r = none:=by
  cases hf:fromO l r with
  | none=>rfl
  | some j =>
    obtain ⟨hj,e,_⟩:=from_some hf
    exact absurd e (h _ (List.getElem_mem hj))
theorem fold_ok {T:Tab} (h:goodB T = true):MapOk T T.folds:=by
  obtain ⟨_,hF,_,_,_,hD,hfr,hto,hH⟩:=checkW_none (good_check h)
  unfold formsW at hF
  unfold dropsW at hD
  unfold fromsW at hfr
  unfold tosW at hto
  unfold houseW rowsW at hH
  simp only [Option.or_eq_none_iff] at hF hD hfr hto hH
  have hm:=maps_none hF.2.2.2.2.1
  have hpl:∀ x∈T.folds,∀ c∈runesB x.2.data.toList,plainI T (c:Nat) = true:=fun x hx c hc=>by
    obtain ⟨i,hi,rfl⟩:=List.mem_iff_getElem.1 hx
    have:=scanL_none hto.1 i hi
    split at this
    · cases this
    · rename_i hq
      have hv:=(hm _ hx).2.1
      unfold rnO at hq
      rw [if_pos hv] at hq
      cases hp:plainI T (c:Nat)
      · exact absurd ⟨c,hc,hp⟩ hq
      · rfl
  refine ⟨fun x hx=>⟨(hm x hx).1, ?_⟩,fun x hx=>(hm x hx).2,hpl,fun x hx c hc=>?_,from_lo fun x hx e=>?_⟩
  · obtain ⟨i,hi,rfl⟩:=List.mem_iff_getElem.1 hx
    have a:=scanL_none hfr.1 i hi
    have b:=scanL_none hD.2.2.1 i hi
    split at a
    · cases a
    · rename_i ha
      split at b
      · cases b
      · rename_i hb
        simp only [not_or] at ha
        exact ⟨by simpa using ha.1,by simpa using ha.2,by simpa using hb⟩
  · have:=hpl x hx c hc
    unfold plainI at this
    simp only [Bool.and_eq_true,Option.isNone_iff_eq_none] at this
    exact this.2
  · obtain ⟨i,hi,rfl⟩:=List.mem_iff_getElem.1 hx
    have:=scanL_none hH.1.2.2.2.1 i hi
    split at this
    · cases this
    · rename_i hq
      exact hq (.inl ⟨by rw [e]; decide,by rw [e]; decide⟩)
theorem plain_facts {T:Tab} (h:goodB T = true) {c:Nat} (hp:plainI T (c:Nat) = true):RuneN c∧isOp T c∧clT T c≤0∧fromO T.folds (c:Nat) = none∧ofI (c:Nat) T.drops = false:=by
  unfold plainI at hp
  simp only [Bool.and_eq_true,Option.isNone_iff_eq_none,Bool.not_eq_true'] at hp
  obtain ⟨⟨⟨⟨h1,h2⟩,h3⟩,h4⟩,h5⟩:=hp
  have hr:=rune_iff.1 h1
  refine ⟨by simpa using hr.2,by unfold isOp pairI; rw [h3]; rfl, ?_,h5,h4⟩
  have:=(class_mark h (c:Int)).1
  unfold clT
  rcases Int.lt_or_le 0 (classI T (c:Int)) with q | q
  · rw [this q] at h2; cases h2
  · exact q
section
variable {T:Tab} {l:List (Int × ByteArray)} (h:goodB T = true) (ok:MapOk T l)
include h ok
theorem mapC_some {c j:Nat} (hf:fromO l (c:Int) = some j):∃ x∈l,x.1 = (c:Int)∧mapC l c = runesB x.2.data.toList:=by
  obtain ⟨hj,e1,e2⟩:=from_some hf
  exact ⟨l[j],List.getElem_mem hj,e1,by unfold mapC; rw [hf]; simp only [e2]⟩
theorem mapC_len (c:Nat):1≤(mapC l c).length∧(mapC l c).length≤4:=by
  cases hf:fromO l (c:Int) with
  | none=>rw [mapC_none hf]; exact ⟨by simp,by simp⟩
  | some j =>
    obtain ⟨x,hx,_,e⟩:=mapC_some h ok hf
    rw [e]; exact (ok.to x hx).2
theorem mapC_to {c j:Nat} (hf:fromO l (c:Int) = some j):∀ d∈mapC l c,plainI T (d:Nat) = true∧fromO l (d:Nat) = none:=fun d hd=>by
  obtain ⟨x,hx,_,e⟩:=mapC_some h ok hf
  rw [e] at hd
  exact ⟨ok.plain x hx d hd,ok.no x hx d hd⟩
theorem mapC_rune {c:Nat} (hc:RuneN c):∀ d∈mapC l c,RuneN d:=fun d hd=>by
  cases hf:fromO l (c:Int) with
  | none=>rw [mapC_none hf,List.mem_singleton] at hd; rw [hd]; exact hc
  | some j=>exact (plain_facts h (mapC_to h ok hf d hd).1).1
theorem mapF_rune {L:List Nat} (hL:∀ c∈L,RuneN c):∀ d∈mapF l L,RuneN d:=fun d hd=>by
  obtain ⟨c,hc,hd⟩:=List.mem_flatMap.1 hd
  exact mapC_rune h ok (hL c hc) d hd
theorem mapF_len:∀ L:List Nat,L.length≤(mapF l L).length∧(mapF l L).length≤4 * L.length
  | []=>⟨Nat.le_refl _,Nat.le_refl _⟩
  | c :: L=>by
    have h1:=mapC_len h ok c
    have h2:=mapF_len L
    rw [mapF_cons,List.length_append,List.length_cons]
    omega
end
end Go.Proofs.YtakmapoompffgaaGreatDoor.AM
namespace Go.Proofs.YtakmapoompffgaaGreatDoor.AM
open Go
end Go.Proofs.YtakmapoompffgaaGreatDoor.AM
namespace Go.Proofs.YtakmapoompffgaaGreatDoor.AM
open Go
theorem ev_newT {c:CallF} {y:YieldF} {fr:Fr} {lc:Lc} {h:AH} {t:Nat} {z:List Value}:(EOp.newT t z).ev c y fr ⟨lc,h⟩ = some (.pointer (some ⟨h.n,0,none⟩),⟨lc,h.push (.tc t z)⟩):=rfl
attribute [push_cast] ev_newT
def bufS (g:Option Nat) (n:Nat):Sl:=match g with
  | none=>.nil
  | some g=>.at g 0 n
def BufAt (h:AH) (g:Option Nat) (X:Bytes):Prop:=match g with
  | none=>X = []
  | some g=>X≠[]∧h.get g = some (.tc 10 (bytesV X))
structure BldAt (h:AH) (b:Nat) (g:Option Nat) (X:Bytes):Prop where
  p:∃ p,h.get b = some (.tc 173 [p,(bufS g X.length).val 1])∧(p = .pointer none∨p = .pointer (some ⟨b,0,none⟩))
  u:BufAt h g X
  ne:g≠some b
structure BFr (h h':AH) (b:Nat) (g g':Option Nat):Prop where
  n:h.n≤h'.n
  keep:∀ c,c < h.n→c≠b→g≠some c→h'.get c = h.get c
  new:g' = g∨∃ x,g' = some x∧h.n≤x
def killO (h:AH):Option Nat→AH
  | none=>h
  | some g=>h.kill g
theorem killO_n (h:AH) (g:Option Nat):(killO h g).n = h.n:=by cases g <;> rfl
theorem killO_get {h:AH} {g:Option Nat} {c:Nat} (hc:g≠some c):(killO h g).get c = h.get c:=by
  cases g with
  | none=>rfl
  | some g=>exact AH.get_kill_ne (fun e=>hc (by rw [e]))
theorem bytesV_app (X Y:Bytes):bytesV (X ++ Y) = bytesV X ++ bytesV Y:=by simp [bytesV]
theorem bytesV_len (X:Bytes):(bytesV X).length = X.length:=by simp [bytesV]
theorem app_buf {h:AH} {lc:Lc} {g:Option Nat} {X Y:Bytes} {y:Value} {k:Nat} (hb:BufAt h g X) (hk:lenV y = some k) (hy:rdSlice ⟨lc,h⟩ 1 y = some (bytesV Y)) (hl:Y.length = k) (h0:0 < k) (hn:X.length + k≤140737488355328) :
    appendG (some 10) 1 1 ⟨lc,h⟩ ((bufS g X.length).val 1) y = some (.slice (some ⟨h.n,0,none⟩) (X.length + k) 1,⟨lc,(killO h g).push (.tc 10 (bytesV (X ++ Y)))⟩):=by
  have hlen:(bytesV Y).length = k * 1:=by rw [bytesV_len,hl,Nat.mul_one]
  cases g with
  | none =>
    have hX:X = []:=hb
    subst hX
    simp only [List.length_nil,Nat.zero_add] at hn
    simp only [bufS,Sl.val,appendG,hk,hy,hlen,if_true,AObj.mk,killO,List.nil_append,List.length_nil,Nat.zero_add]
    rw [if_neg (by omega),if_pos ⟨by omega,by decide,by decide⟩]
  | some g =>
    obtain ⟨hX,hg⟩:=hb
    simp only [bufS,Sl.val,appendG,hk,hy,hlen,if_true,AObj.mk,killO]
    rw [if_neg (by omega)]
    simp only [hg,AObj.own,if_true]
    rw [if_pos ⟨by rw [bytesV_len]; omega,by omega,by decide,by decide,trivial⟩,bytesV_app]
    rfl
section
variable {p:Prg} {lc:Lc} {h:AH} {H:Value→Lc→AH→Prop}
end
theorem copyCheck_spec {h:AH} {b:Nat} {g:Option Nat} {X:Bytes} (bd:BldAt h b g X) :
    ∃ h1,callO PX 81 [.pointer (some ⟨b,0,none⟩)] h = some (.tuple #[],h1)∧h1.n = h.n∧(∀ c,c≠b→h1.get c = h.get c)∧h1.get b = some (.tc 173 [.pointer (some ⟨b,0,none⟩),(bufS g X.length).val 1]):=by
  obtain ⟨p,hp,hor⟩:=bd.p
  rw [callO_ext (g:=cpyX 86) (by unfold PX; rw [withExt_ext]; rfl)]
  unfold cpyX
  rcases hor with rfl | rfl
  · refine ⟨h.set b (.tc 173 [.pointer (some ⟨b,0,none⟩),(bufS g X.length).val 1]), ?_,rfl,fun c hc=>AH.get_set_ne _ hc,AH.get_set_same _ (AH.get_lt hp)⟩
    simp only [hp]
    rfl
  · refine ⟨h, ?_,rfl,fun c _=>rfl,hp⟩
    simp only [hp]
    simp
theorem bldString_spec {h:AH} {b:Nat} {g:Option Nat} {X:Bytes} (bd:BldAt h b g X) (hX:X.length≤140737488355328) :
    callO PX 45 [.pointer (some ⟨b,0,none⟩)] h = some (.string (bs X),killO h g):=by
  obtain ⟨p,hp,hor⟩:=bd.p
  rw [callO_ext (g:=strX 86 5) (by unfold PX; rw [withExt_ext]; rfl)]
  unfold strX
  simp only [hp]
  cases g with
  | none =>
    have:X = []:=bd.u
    subst this
    rfl
  | some g =>
    obtain ⟨h1,h2⟩:=bd.u
    have hpos:0 < X.length:=List.length_pos_iff.2 h1
    simp only [bufS,Sl.val,h2,bytesX_bytesV,if_true]
    rw [if_pos ⟨trivial,trivial,hpos,hX⟩]
    rfl
end Go.Proofs.YtakmapoompffgaaGreatDoor.AM
namespace Go.Proofs.YtakmapoompffgaaGreatDoor.AM
open Go
section
variable {p:Prg} {lc:Lc} {h:AH} {H:Value→Lc→AH→Prop}
theorem wo_appS {g:Option Nat} {X:Bytes} {s:ByteArray} (hb:BufAt h g X) (hn:X.length + s.size≤140737488355328) (h0:s.data.toList = []→H ((bufS g X.length).val 1) lc h)
    (hq:s.data.toList≠[]→H (.slice (some ⟨h.n,0,none⟩) (X.length + s.size) 1) lc ((killO h g).push (.tc 10 (bytesV (X ++ s.data.toList))))):WpO p (.e (.appendT 10 1 1 (.s 0) (.s 1))) [(bufS g X.length).val 1,.string s] lc h H:=by
  have hz:s.size = s.data.toList.length:=rfl
  by_cases he:s.data.toList = []
  · refine wo_e (v:=(bufS g X.length).val 1) (lc':=lc) ?_ (h0 he)
    have hs0:s.size = 0:=by rw [hz,he]; rfl
    simp only [EOp.ev,opd_s,fg0,fg1]
    cases g with
    | none =>
      have hX:X = []:=hb
      subst hX
      simp only [bufS,Sl.val,appendG,lenV,rdSlice,hs0,he,List.map_nil,List.length_nil,Nat.zero_mul,if_true]
    | some g =>
      simp only [bufS,Sl.val,appendG,lenV,rdSlice,hs0,he,List.map_nil,List.length_nil,Nat.zero_mul,if_true,Option.isNone_none,and_self]
  · refine wo_e (v:=.slice (some ⟨h.n,0,none⟩) (X.length + s.size) 1) (lc':=lc) ?_ (hq he)
    have hpos:0 < s.data.toList.length:=List.length_pos_iff.2 he
    simp only [EOp.ev,opd_s,fg0,fg1]
    exact app_buf hb rfl rfl rfl (by omega) hn
end
theorem writeString_spec {s:ByteArray} {h:AH} {b:Nat} {g:Option Nat} {X:Bytes} (bd:BldAt h b g X) (hn:X.length + s.size≤140737488355000) :
    WpC PX 44 [.pointer (some ⟨b,0,none⟩),.string s] h fun v h' => ∃ g',BldAt h' b g' (X ++ s.data.toList)∧BFr h h' b g g':=by
  obtain ⟨h1,e1,n1,k1,q1⟩:=copyCheck_spec bd
  have hz:s.size = s.data.toList.length:=rfl
  have hu:=bd.u
  have hne:=bd.ne
  have hbn:=AH.get_lt q1
  have hb1:BufAt h1 g X:=by
    cases g with
    | none=>exact hu
    | some g=>exact ⟨hu.1,(k1 g (fun e=>hne (by rw [e]))).trans hu.2⟩
  refine wpc_fn (px_ext rfl) (px_fn fn_strings_Builder_WriteString) rfl ?_
  unfold LF_strings_Builder_WriteString
  simp only [argFr]
  (refine W_x (Aj e1 q1) ?_; (repeat' first | apply Cj.mk | exact Nl.nl) <;> intros)
  refine wo_appS hb1 (by omega) (fun he=>?_) fun he=>?_
  · (refine W_x q1 ?_; (repeat' first | apply Cj.mk | exact Nl.nl) <;> intros)
    rw [he,List.append_nil]
    refine ⟨g,⟨⟨_,AH.get_set_same _ hbn,.inr rfl⟩, ?_,hne⟩,by rw [AH.set_n]; omega,fun c hc hcb hg=>by rw [AH.get_set_ne _ hcb]; exact k1 c hcb,.inl rfl⟩
    cases g with
    | none=>exact hb1
    | some g=>exact ⟨hb1.1,by rw [AH.get_set_ne _ (fun e=>hne (by rw [e]))]; exact hb1.2⟩
  · have hk:((killO h1 g).push (.tc 10 (bytesV (X ++ s.data.toList)))).get b = some (.tc 173 [.pointer (some ⟨b,0,none⟩),(bufS g X.length).val 1]):=by
      rw [AH.get_push_ne _ (by rw [killO_n]; omega),killO_get hne]
      exact q1
    have hK:∀ c,c < h.n→c≠b→g≠some c→((killO h1 g).push (.tc 10 (bytesV (X ++ s.data.toList)))).get c = h.get c:=fun c hc hcb hg=>by
      rw [AH.get_push_ne _ (by rw [killO_n]; omega),killO_get hg]
      exact k1 c hcb
    have hN:((killO h1 g).push (.tc 10 (bytesV (X ++ s.data.toList)))).n = h.n + 1:=by rw [AH.push_n,killO_n,n1]
    have hG:((killO h1 g).push (.tc 10 (bytesV (X ++ s.data.toList)))).get h.n = some (.tc 10 (bytesV (X ++ s.data.toList))):=by
      rw [← n1,← killO_n h1 g]; exact AH.get_push_same _ _
    rw [n1]
    generalize (killO h1 g).push (.tc 10 (bytesV (X ++ s.data.toList))) = h2 at *
    have hlx:X.length + s.size = (X ++ s.data.toList).length:=by rw [List.length_append]; omega
    have hpos:0 < s.data.toList.length:=List.length_pos_iff.2 he
    (refine W_x hk ?_; (repeat' first | apply Cj.mk | exact Nl.nl) <;> intros)
    refine ⟨some h.n,⟨⟨_,by rw [AH.get_set_same _ (by omega),hlx]; rfl,.inr rfl⟩,⟨fun e=>he (List.append_eq_nil_iff.1 e).2,by rw [AH.get_set_ne _ (by omega)]; exact hG⟩,fun e=>by injection e with e; omega⟩,by rw [AH.set_n]; omega,fun c hc hcb hg=>by rw [AH.get_set_ne _ hcb]; exact hK c hc hcb hg,.inr ⟨_,rfl,Nat.le_refl _⟩⟩
theorem clipR_eq {h:AH} {sl:Sl} {L:List Nat} (r:Reads h 1 sl (L.map rnV)) (hL:L.length≤1048576):callO PX 128 [sl.val 1] h = some (sl.val 1,h):=by
  have sll:=r.1
  rw [List.length_map] at sll
  apply WpC.eqn
  cases sl with
  | nil =>
    refine wpc_fn (px_ext rfl) (px_fn fn_slices_Clip_rune_rune) rfl ?_
    unfold LF_slices_Clip_rune_rune
    simp only [argFr]
    simp only [Sl.val]
    (refine W_x trivial ?_; (repeat' first | apply Cj.mk | exact Nl.nl) <;> intros)
    exact ⟨rfl,rfl⟩
  | «at» b o n =>
    simp only [Sl.len] at sll
    refine wpc_fn (px_ext rfl) (px_fn fn_slices_Clip_rune_rune) rfl ?_
    unfold LF_slices_Clip_rune_rune
    simp only [argFr]
    simp only [Sl.val]
    (refine W_x trivial ?_; (repeat' first | apply Cj.mk | exact Nl.nl) <;> intros)
    refine wo_p (v:=.slice (some ⟨b,o,none⟩) n 1) (by simp [POp.ev,optInt,asNat,argFr,fget,opd,ptrOff]) ?_
    (refine W_x trivial ?_; (repeat' first | apply Cj.mk | exact Nl.nl) <;> intros)
    exact ⟨rfl,rfl⟩
theorem tablesTo_spec {h:AH} {m:Nat} {l:List (Int × ByteArray)} {c:Nat} (hf:∀ j x,fromO l (c:Int) = some j→l.getD j (0,⟨#[]⟩) = x→x.2.size≤1000∧(runesB x.2.data.toList).length≤4)
    (hl:lookV (.one .int) (.string ⟨#[]⟩) true h (.map (some m)) (.int .i32 c) = some (.tuple (List.toArray [.string (((fromO l (c:Int)).map fun j=>(l.getD j (0,⟨#[]⟩)).2).getD ⟨#[]⟩),.bool (fromO l (c:Int)).isSome]))) :
    WpC PX 82 [.map (some m),.int .i32 c] h fun v h' => ∃ sl,v = .tuple (List.toArray [sl.val 1,.bool (fromO l (c:Int)).isSome])∧FOwn h h' 1 sl ((if (fromO l (c:Int)).isSome then mapC l c else []).map rnV):=by
  cases hc:fromO l (c:Int) with
  | none =>
    rw [hc] at hl
    simp only [Option.map_none,Option.getD_none,Option.isSome_none] at hl
    refine wpc_fn (px_ext rfl) (px_fn fn_tables_to) rfl ?_
    unfold LF_tables_to
    simp only [argFr]
    (refine W_x hl ?_; (repeat' first | apply Cj.mk | exact Nl.nl) <;> intros)
    exact ⟨.nil,rfl,FOwn.nil (Kp.refl h)⟩
  | some j =>
    obtain ⟨h1,h2⟩:=hf j _ hc rfl
    have hm:mapC l c = runesB (l.getD j (0,⟨#[]⟩)).2.data.toList:=by unfold mapC; rw [hc]
    rw [hc] at hl
    simp only [Option.map_some,Option.getD_some,Option.isSome_some] at hl
    generalize (l.getD j (0,⟨#[]⟩)).2 = s at *
    refine wpc_fn (px_ext rfl) (px_fn fn_tables_to) rfl ?_
    unfold LF_tables_to
    simp only [argFr]
    (refine W_x hl ?_; (repeat' first | apply Cj.mk | exact Nl.nl) <;> intros)
    refine wo_s2r (Kp.refl h) (by omega) fun sl h' fo=>?_
    have e:=clipR_eq fo.reads (by omega)
    (refine W_x e ?_; (repeat' first | apply Cj.mk | exact Nl.nl) <;> intros)
    refine ⟨sl,rfl, ?_⟩
    show FOwn h h' 1 sl ((mapC l c).map rnV)
    rw [hm]
    exact fo
theorem valid_size4 {l:Bytes} (hv:validB l = true) (hn:(runesB l).length≤4):l.length≤16:=by
  have h1:=(valid_clean l).1 hv
  have h2:=encs_lenle (runesB l)
  rw [h1] at h2
  omega
theorem MapOk.sz {T:Tab} {l:List (Int × ByteArray)} (ok:MapOk T l) {c:Nat}:∀ j x,fromO l (c:Int) = some j→l.getD j (0,⟨#[]⟩) = x→x.2.size≤1000∧(runesB x.2.data.toList).length≤4:=fun j x hj hx=>by
  obtain ⟨h1,_,h3⟩:=from_some hj
  rw [h3] at hx
  subst hx
  obtain ⟨a,b,d⟩:=ok.to _ (List.getElem_mem h1)
  have:=valid_size4 a d
  exact ⟨by rw [ba_size]; omega,d⟩
theorem bookFold_spec {h:AH} {k B:Nat} {s6:Sl} {T:Tab} (hb:goodB T = true) (bk:BkAt h k B s6 T) (c:Nat) :
    WpC PX 46 [.pointer (some ⟨k,0,none⟩),.int .i32 c] h fun v h' => ∃ sl,v = .tuple (List.toArray [sl.val 1,.bool (fromO T.folds (c:Int)).isSome])∧FOwn h h' 1 sl ((if (fromO T.folds (c:Int)).isSome then mapC T.folds c else []).map rnV):=by
  obtain ⟨x0,x1,x2,x3,x4,x5,x7,eb⟩:=bk.b
  obtain ⟨_,h',e,sl,rfl,fo⟩:=tablesTo_spec (fold_ok hb).sz (m_fold bk.mp (c:Int))
  refine wpc_fn (px_ext rfl) (px_fn fn_tables_Book_Fold) rfl ?_
  unfold LF_tables_Book_Fold
  simp only [argFr]
  (refine W_x (Aj eb e) ?_; (repeat' first | apply Cj.mk | exact Nl.nl) <;> intros)
  exact ⟨sl,rfl,fo⟩
end Go.Proofs.YtakmapoompffgaaGreatDoor.AM
namespace Go.Proofs.YtakmapoompffgaaGreatDoor.AM
open Go
def LF_utf_Spots:LFunc :=
  .mk 1 [.tmp 2] (.seq (R 1 [1] [.tmp 1 (xbh 1 (.sl 0)),.set 2 (.cv .nilFunc)]) (.seq (R 3 [2] [.set 2 (.op (.p (.mkfn (.func 88) [] [.s 0])) (.sl 1))]) .ret))
theorem fn_utf_Spots:(autoPrg Tryz.prog).fn 55 = some LF_utf_Spots:=by kernel_rfl
def LF_utf_Spots_1:LFunc :=
  .mk 2 [] (.seq (R 6 [0,1,7] [.tmp 7 (.op (.e (.rngS 7 (.s 0))) (xld (.sl 1)))]) (.block 0 (.loop (.seq (R 8 [0,1,7,8,9] [.tmp 8 (.op (.e (.nxtS (.s 0))) (.sl 7)),.tmp 9
  (xex 0 (.sl 8))]) (.seq (.cond (.s 9) .skip (.exit 0)) (.block 1 (.seq (R 10 [0,1,3,4,7] [.tmp 10 (xex 1 (.sl 8)),.tmp 11 (xex 2 (.sl 8)),.set 3 (.sl 10),.set 4 (.sl 11)])
  (.seq (R 12 [0,1,3,4,5,7] [.set 5 (xc1 89 (.va 4))]) (.seq (.seq (R 14 [0,1,3,4,5,7,24] [.tmp 24 (.and (xb .eql (.va 4) (xr 65533)) (xu .not (xc2
  90 (.op (.p (.slS (.s 0) (some (.s 1)) none)) (.cons (xld (.sl 1)) (.va 3))) (.op (.p (.i2s (.s 0))) (.va 4)))))]) (.cond (.s 24) (R 999 [0,1,3,4,5,7]
  [.set 5 (xi 1)]) .skip)) (.seq (R 25 [0,1,7,31] [.tmp 31 (xu .not (xv2 (.va 0) (.va 3) (xc2 91 (.va 4) (.va 5))))]) (.cond (.s 31) .ret .skip)))))))))))
theorem fn_utf_Spots_1:(autoPrg Tryz.prog).fn 88 = some LF_utf_Spots_1:=by kernel_rfl
def LF_utf8_RuneLen:LFunc :=
  .mk 1 [.tmp 2] (.seq (R 999 [0] [.set 2 (xi 0)]) (.seq (.block 0 (.seq (R 4 [0,3] [.set 3 (xb .lss (.va 0) (xr 0))]) (.cond (.s 3) (.seq (R 999 [2] [.set 2 (xi (-1))]) .ret)
  (.seq (R 7 [0,6] [.set 6 (xb .leq (.va 0) (xr 127))]) (.cond (.s 6) (.seq (R 999 [2] [.set 2 (xi 1)]) .ret) (.seq (R 10 [0,9] [.set 9 (xb .leq (.va 0) (xr 2047))]) (.cond (.s 9)
  (.seq (R 999 [2] [.set 2 (xi 2)]) .ret) (.seq (R 13 [0,12] [.set 12 (.and (xb .leq (xr 55296) (.va 0)) (xb .leq (.va 0) (xr 57343)))]) (.cond (.s 12) (.seq (R 999 [2] [.set 2 (xi
  (-1))]) .ret) (.seq (R 20 [0,19] [.set 19 (xb .leq (.va 0) (xr 65535))]) (.cond (.s 19) (.seq (R 999 [2] [.set 2 (xi 3)]) .ret) (.seq (R 23 [22] [.set 22 (xb .leq (.va 0) (xr
  1114111))]) (.cond (.s 22) (.seq (R 999 [2] [.set 2 (xi 4)]) .ret) .skip))))))))))))) (.seq (R 999 [2] [.set 2 (xi (-1))]) .ret)))
theorem fn_utf8_RuneLen:(autoPrg Tryz.prog).fn 89 = some LF_utf8_RuneLen:=by kernel_rfl
def LF_strings_HasPrefix:LFunc :=
  .mk 2 [.tmp 4] (.seq (R 999 [0,1] [.set 4 (.cv (.bool false))]) (.seq (R 5 [4] [.set 4 (xc2 132 (.va 0) (.va 1))]) .ret))
theorem fn_strings_HasPrefix:(autoPrg Tryz.prog).fn 90 = some LF_strings_HasPrefix:=by kernel_rfl
def LF_internal_stringslite_HasPrefix:LFunc :=
  .mk 2 [.tmp 4] (.seq (R 999 [0,1] [.set 4 (.cv (.bool false))]) (.seq (R 5 [4] [.set 4 (.and (xb .geq (xsl (.va 0)) (xsl (.va 1))) (xb .eql (.op (.p (.slS (.s 0) none (some (.s
  1)))) (.cons (.va 0) (xsl (.va 1)))) (.va 1)))]) .ret))
theorem fn_internal_stringslite_HasPrefix:(autoPrg Tryz.prog).fn 132 = some LF_internal_stringslite_HasPrefix:=by kernel_rfl
def LF_utf_spot:LFunc :=
  .mk 2 [.cell 4 (some 3)] (.seq (R 4 [0,1,4] [.tmp 4 (xnl 4 [.int .i32 0,.int .i64 0,.bool false])]) (.seq (R 5 [4] [.run (xst 3 (.sl 4) (.op (.p (.build [.int .i32 0,.int
  .i64 0,.bool false] [(0,1,.s 0),(1,1,.s 1),(2,1,.s 2)])) (.cons (.va 0) (.cons (.va 1) (.and (xb .eql (.va 0) (xr 65533)) (xb .eql (.va 1) (xi 1)))))))]) .ret))
theorem fn_utf_spot:(autoPrg Tryz.prog).fn 91 = some LF_utf_spot:=by kernel_rfl
end Go.Proofs.YtakmapoompffgaaGreatDoor.AM
namespace Go.Proofs.YtakmapoompffgaaGreatDoor.AM
open Go
theorem runeLen_eq (c:Nat) (hc:RuneN c) (h:AH):callO PX 89 [.int .i32 c] h = some (.int .i64 (encN c).length,h):=by
  have hle:c≤0x10FFFF:=by unfold RuneN at hc; omega
  have hl:(encN c).length = if c < 0x80 then 1 else if c < 0x800 then 2 else if c < 0x10000 then 3 else 4:=by
    unfold encN
    split
    · rfl
    · split
      · rfl
      · split <;> rfl
  unfold RuneN at hc
  apply WpC.eqn
  refine wpc_fn (px_ext rfl) (px_fn fn_utf8_RuneLen) rfl ?_
  unfold LF_utf8_RuneLen
  simp only [argFr]
  (refine W_x trivial ?_; (repeat' first | apply Cj.mk | exact Nl.nl) <;> intros)
  all_goals
    refine ⟨?_,rfl⟩
    rw [hl]
    congr 1
    repeat' split
    all_goals first | rfl | omega
theorem hasPrefix0_eq (a b:ByteArray) (h:AH):callO PX 132 [.string a,.string b] h = some (.bool (decide (b.size≤a.size∧a.extract 0 b.size = b)),h):=by
  apply WpC.eqn
  refine wpc_fn (px_ext rfl) (px_fn fn_internal_stringslite_HasPrefix) rfl ?_
  unfold LF_internal_stringslite_HasPrefix
  simp only [argFr]
  (refine W_x trivial ?_; (repeat' first | apply Cj.mk | exact Nl.nl) <;> intros)
  all_goals (refine ⟨?_,rfl⟩; congr 1; symm)
  · rename_i g1 g2; exact decide_eq_true ⟨by omega,g2⟩
  · rename_i g1 g2; exact decide_eq_false (fun h=>g2 h.2)
  · rename_i g1; exact decide_eq_false (fun h=>g1 (by omega))
theorem hasPrefix_eq (a b:ByteArray) (h:AH):callO PX 90 [.string a,.string b] h = some (.bool (decide (b.size≤a.size∧a.extract 0 b.size = b)),h):=by
  have e:=hasPrefix0_eq a b
  apply WpC.eqn
  refine wpc_fn (px_ext rfl) (px_fn fn_strings_HasPrefix) rfl ?_
  unfold LF_strings_HasPrefix
  simp only [argFr]
  (refine W_x e ?_; (repeat' first | apply Cj.mk | exact Nl.nl) <;> intros)
  all_goals (refine ⟨?_,rfl⟩; congr 1; symm; first | exact decide_eq_true (by assumption) | exact decide_eq_false (by assumption))
theorem spot_eq (r n:Nat) (h:AH):callO PX 91 [.int .i32 r,.int .i64 n] h = some (spotV (r,n),h):=by
  apply WpC.eqn
  refine wpc_fn (px_ext rfl) (px_fn fn_utf_spot) rfl ?_
  unfold LF_utf_spot
  simp only [argFr]
  (refine W_x trivial ?_; (repeat' first | apply Cj.mk | exact Nl.nl) <;> intros)
  all_goals
    refine ⟨?_,rfl⟩
    have hb:∀ t:Bool,(t = true↔(r = 65533∧n = 1))→isBad2 (r,n) = t:=fun t ht=>by
      unfold isBad2
      rw [Bool.eq_iff_iff,ht]
      simp only [Bool.and_eq_true,beq_iff_eq]
    unfold spotV
    first
    | (have e:r = 65533∧n = 1:=by omega
       rw [hb true (iff_of_true rfl e)]
       done)
    | (have e : ¬ (r = 65533∧n = 1):=by omega
       rw [hb false (iff_of_false (by decide) e)]
       done)
theorem spotsMk_eq (s:ByteArray) (h:AH):callO PX 55 [.string s] h = some (.func (.func 88) #[] #[.pointer (some ⟨h.n,0,none⟩)],h.push (.cells false [.string s])):=by
  apply WpC.eqn
  refine wpc_fn (px_ext rfl) (px_fn fn_utf_Spots) rfl ?_
  unfold LF_utf_Spots
  simp only [argFr]
  (refine W_x trivial ?_; (repeat' first | apply Cj.mk | exact Nl.nl) <;> intros)
  exact ⟨rfl,rfl⟩
theorem spots_seq (s:ByteArray) (bx:Nat) (hsz:s.size≤140737488351232) :
    SeqP PX (.func (.func 88) #[] #[.pointer (some ⟨bx,0,none⟩)]) (spotsL s.data.toList) spotE (fun h=>h.get bx = some (.cells false [.string s])):=by
  intro yv I E h hyv hvs hstep hD h0
  have d1:h.get bx = some (.cells false [.string s]):=hD _ _ h0
  have hset:=hyv.set
  have hlc1:=hyv.lc1
  refine wpV_fn ?_
  refine wpc_fn (px_ext rfl) (px_fn fn_utf_Spots_1) rfl ?_
  unfold LF_utf_Spots_1
  simp only [argFr,List.nil_append,List.cons_append]
  obtain ⟨l,hl⟩:∃ l,l = s.data.toList:=⟨_,rfl⟩
  rw [← hl] at hstep ⊢
  have hll:l.length = s.size:=by rw [hl]; rfl
  (refine W_x (Aj d1 (Aj hset (Aj hlc1 @ev_rngS))) ?_; (repeat' first | apply Cj.mk | exact Nl.nl) <;> intros)
  refine wp_spotsS (fun _ _=>[(0,yv),(1,.pointer (some ⟨bx,0,none⟩)),(7,.pointer (some ⟨14,0,some 1⟩))]) (fun n _=>[(14,.siter s n)]) s l (fun i _ h1=>I i h1) (fun _ _=>(none:Option Unit)) () hl (by repeat' first | exact True.intro | refine And.intro rfl ?_) (fun _ _=>rfl) rfl h0 (fun i hil _ h1 hI hit=>?_) fun _ h1 hI fin=>?_
  · have d1:h1.get bx = some (.cells false [.string s]):=hD _ _ hI
    obtain ⟨p1,p2,p3⟩:=posn_lt hil
    have hst:=hstep i (by rw [spotsL_len]; exact hil) h1 hI
    rw [spotsL_get (by rw [spotsL_len]; exact hil)] at hst
    have hdc:=dec_cases p3
    have hbad:(spots l)[i].1 = 65533→((encN 65533).length≤(l.drop (posn l i)).length∧(l.drop (posn l i)).take (encN 65533).length = encN 65533↔(spots l)[i].2 = 3):=fun e=>by
      rcases hdc with ⟨c,rest,hc,e1,e2⟩ | ⟨e1,e2⟩
      · rw [p2] at e2
        rw [e2] at e
        simp only at e
        subst e
        rw [e2,e1,encN_bad,List.take_left' encN_bad]
        simp [encN_bad]
      · rw [p2] at e1
        rw [e1,encN_bad]
        constructor
        · rintro ⟨h1,h2⟩
          exfalso
          refine e2 65533 ((l.drop (posn l i)).drop 3) rune_bad ?_
          rw [← h2,List.take_append_drop]
        · intro h; simp at h
    have hgood:(spots l)[i].1≠65533→(spots l)[i].2 = (encN (spots l)[i].1).length:=fun e=>by
      rcases hdc with ⟨c,rest,hc,e1,e2⟩ | ⟨e1,e2⟩
      · rw [p2] at e2; rw [e2]
      · rw [p2] at e1; rw [e1] at e; exact absurd rfl e
    have hw3:(spots l)[i].1 = 65533→(spots l)[i].2 = 3∨(spots l)[i].2 = 1:=fun e=>by
      rcases hdc with ⟨c,rest,hc,e1,e2⟩ | ⟨e1,e2⟩
      · rw [p2] at e2
        rw [e2] at e
        simp only at e
        subst e
        rw [e2]; exact .inl encN_bad
      · rw [p2] at e1; rw [e1]; exact .inr rfl
    have hru:RuneN (spots l)[i].1:=runesB_rune l _ (List.mem_map.2 ⟨_,List.getElem_mem hil,rfl⟩)
    (refine W_x (Aj hset hlc1) ?_; (repeat' first | apply Cj.mk | exact Nl.nl) <;> intros)
    refine wo_next hl rfl hil ?_
    generalize (spots l)[i] = x at hst hbad hgood hw3 hru
    have hcast:((Utf8.encode ((65533:Nat):Int))).data.toList = encN 65533:=encode_eq rune_bad
    have hpre:x.1 = 65533→(decide ((Utf8.encode (x.1:Int)).size≤(s.extract (posn l i) s.size).size∧(s.extract (posn l i) s.size).extract 0 (Utf8.encode (x.1:Int)).size = Utf8.encode (x.1:Int))) = decide (x.2 = 3):=fun e=>by
      refine decide_eq_decide.2 ?_
      rw [← hbad e,e]
      have z1:(Utf8.encode ((65533:Nat):Int)).size = (encN 65533).length:=by rw [ba_size,hcast]
      have z2:(s.extract (posn l i) s.size).data.toList = l.drop (posn l i):=by
        rw [ba_extract _ _ _ (Nat.le_refl _),← hl,← hll,← List.length_drop,List.take_length]
      have z3:(s.extract (posn l i) s.size).size = (l.drop (posn l i)).length:=by rw [ba_size,z2]
      rw [z1,z3]
      constructor
      · rintro ⟨a,b⟩
        refine ⟨a, ?_⟩
        have:((s.extract (posn l i) s.size).extract 0 (encN 65533).length).data.toList = (Utf8.encode ((65533:Nat):Int)).data.toList:=by rw [b]
        rw [ba_extract _ _ _ (by omega),z2,hcast] at this
        simpa using this
      · rintro ⟨a,b⟩
        refine ⟨a,ba_ext ?_⟩
        rw [ba_extract _ _ _ (by omega),z2,hcast]
        simpa using b
    have el:=runeLen_eq x.1 hru
    have es:=fun n=>spot_eq x.1 n
    by_cases e:x.1 = 65533
    · have hpre:=hpre e
      have hw4:=hw3 e
      obtain ⟨c,w⟩:=x
      simp only at e hpre hw4 hst
      have hci:(c:Int) = 65533:=by omega
      have el2:∀ h,callO PX 89 [.int .i32 c] h = some (.int .i64 3,h):=fun h=>by
        have:=el h
        simp only at this
        rw [this,e,encN_bad]
        rfl
      have eh2:∀ h,callO PX 90 [.string (s.extract (posn l i) s.size),.string (Utf8.encode c)] h = some (.bool (decide (w = 3)),h):=fun h=>by
        have:=hasPrefix_eq (s.extract (posn l i) s.size) (Utf8.encode (c:Int)) h
        rw [hpre] at this
        exact this
      have es2:∀ h,callO PX 91 [.int .i32 c,.int .i64 3] h = some (spotV (c,3),h):=fun h=>spot_eq c 3 h
      have es3:∀ h,callO PX 91 [.int .i32 c,.int .i64 1] h = some (spotV (c,1),h):=fun h=>spot_eq c 1 h
      have hpl:((posn l i:Nat):Int)≤(s.size:Int):=by omega
      rcases hw4 with rfl | rfl
      all_goals
        simp only [decide_true,show decide (1 = 3) = false from rfl] at eh2
        (refine W_x (Aj hset (Aj hlc1 (Aj d1 (Aj el2 (Aj eh2 (Aj es2 es3)))))) ?_; (repeat' first | apply Cj.mk | exact Nl.nl) <;> intros)
        refine wo_callV (fv:=yv) rfl rfl rfl ?_
        refine hst.mono ?_
        rintro v h2 hor
        rcases hor with ⟨rfl,hI2⟩ | ⟨rfl,hE⟩
        · (refine W_x (Aj hset hlc1) ?_; (repeat' first | apply Cj.mk | exact Nl.nl) <;> intros)
          exact ⟨rfl,(),(by repeat' first | exact True.intro | refine And.intro rfl ?_),rfl,hI2⟩
        · (refine W_x (Aj hset hlc1) ?_; (repeat' first | apply Cj.mk | exact Nl.nl) <;> intros)
          exact .inr hE
    · have hgd:=hgood e
      rw [← hgd] at el
      have es2:=es x.2
      have hne : ¬ (x.1:Int) = 65533:=by omega
      (refine W_x (Aj hset (Aj hlc1 (Aj el es2))) ?_; (repeat' first | apply Cj.mk | exact Nl.nl) <;> intros)
      refine wo_callV (fv:=yv) rfl rfl rfl ?_
      refine hst.mono ?_
      rintro v h2 hor
      rcases hor with ⟨rfl,hI2⟩ | ⟨rfl,hE⟩
      · (refine W_x (Aj hset hlc1) ?_; (repeat' first | apply Cj.mk | exact Nl.nl) <;> intros)
        exact ⟨rfl,(),(by repeat' first | exact True.intro | refine And.intro rfl ?_),rfl,hI2⟩
      · (refine W_x (Aj hset hlc1) ?_; (repeat' first | apply Cj.mk | exact Nl.nl) <;> intros)
        exact .inr hE
  · (refine W_x (Aj hset hlc1) ?_; (repeat' first | apply Cj.mk | exact Nl.nl) <;> intros)
    refine wo_nextE hl rfl ?_
    (refine W_x (Aj hset hlc1) ?_; (repeat' first | apply Cj.mk | exact Nl.nl) <;> intros)
    exact .inl (by rw [spotsL_len]; exact hI)
end Go.Proofs.YtakmapoompffgaaGreatDoor.AM
