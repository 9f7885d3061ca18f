/- Parts of proofs: lemmas, joined. -/
import Derived.Test.YtakmapoompffgaaGreatDoorP1580be45
set_option linter.unusedVariables false
set_option linter.unusedSimpArgs false
set_option linter.unusedSectionVars false
namespace Go.Proofs.YtakmapoompffgaaGreatDoor.AM
open Go
set_option maxRecDepth 10000 in
theorem u8_lows:(∀ m:Fin 256,IntKind.u8.wrap ((BitVec.ofInt 8 ((m.val:Nat):Int) &&& BitVec.ofInt 8 31).toNat:Int) = ((m.val % 32:Nat):Int))∧(∀ m:Fin 256,IntKind.u8.wrap ((BitVec.ofInt 8 ((m.val:Nat):Int) &&& BitVec.ofInt 8 15).toNat:Int) = ((m.val % 16:Nat):Int)) ∧
    (∀ m:Fin 256,IntKind.u8.wrap ((BitVec.ofInt 8 ((m.val:Nat):Int) &&& BitVec.ofInt 8 7).toNat:Int) = ((m.val % 8:Nat):Int)):=by
  decide
theorem andl31 {q:Nat} (h:q < 256):binA .and (.int .u8 q) (.int .u8 31) = some (.int .u8 ((q % 32:Nat):Int)):=congrArg (fun z=>some (Value.int .u8 z)) (u8_lows.1 ⟨q,h⟩)
theorem andl15 {q:Nat} (h:q < 256):binA .and (.int .u8 q) (.int .u8 15) = some (.int .u8 ((q % 16:Nat):Int)):=congrArg (fun z=>some (Value.int .u8 z)) (u8_lows.2.1 ⟨q,h⟩)
theorem andl7 {q:Nat} (h:q < 256):binA .and (.int .u8 q) (.int .u8 7) = some (.int .u8 ((q % 8:Nat):Int)):=congrArg (fun z=>some (Value.int .u8 z)) (u8_lows.2.2 ⟨q,h⟩)
theorem andl63 {q:Nat} (h:q < 256):binA .and (.int .u8 q) (.int .u8 63) = some (.int .u8 ((q % 64:Nat):Int)):=congrArg (fun z=>some (Value.int .u8 z)) (u8_and ⟨q,h⟩)
theorem shls6 {r:Nat} (h:r < 33554432):binA .shl (.int .i32 r) (.int .u64 6) = some (.int .i32 ((r * 64:Nat):Int)):=by
  show (if (6:Int) < 0 then none else some (Value.int .i32 (IntKind.i32.wrap ((r:Int) * 2 ^ (min (6:Int).toNat 32))))) = _
  rw [if_neg (by decide),show (r:Int) * 2 ^ (min (6:Int).toNat 32) = ((r * 64:Nat):Int) by rw [Int.natCast_mul]; rfl]
  have:((r * 64:Nat):Int) < 2147483648:=by omega
  generalize r * 64 = x at *
  congr 2
  rw [IntKind.wrap_i32]
  omega
set_option maxRecDepth 10000 in
theorem orl6 {r m:Nat} (hm:m < 64) (h:r < 33554432):binA .or (.int .i32 ((r * 64:Nat):Int)) (.int .i32 m) = some (.int .i32 ((r * 64 + m:Nat):Int)):=by
  show some (Value.int .i32 (IntKind.i32.wrap (BitVec.ofInt 32 ((r * 64:Nat):Int) ||| BitVec.ofInt 32 (m:Int)).toNat)) = _
  have e:(BitVec.ofInt 32 ((r * 64:Nat):Int) ||| BitVec.ofInt 32 (m:Int)).toNat = r * 64 + m:=by
    rw [BitVec.toNat_or,show BitVec.ofInt 32 ((r * 64:Nat):Int) = BitVec.ofNat 32 (r * 64) from BitVec.ofInt_natCast ..,show BitVec.ofInt 32 (m:Int) = BitVec.ofNat 32 m from BitVec.ofInt_natCast ..,BitVec.toNat_ofNat,BitVec.toNat_ofNat,Nat.mod_eq_of_lt (by omega),Nat.mod_eq_of_lt (by omega)]
    have:=Nat.shiftLeft_add_eq_or_of_lt (show m < 2 ^ 6 from hm) r
    rw [Nat.shiftLeft_eq] at this
    exact this.symm
  rw [e]
  have:((r * 64 + m:Nat):Int) < 2147483648:=by omega
  generalize r * 64 + m = x at *
  congr 2
  rw [IntKind.wrap_i32]
  omega
theorem shor {r b:Nat} (h:r < 33554432) (hb:b < 256):∃ y m z:Nat,binA .shl (.int .i32 r) (.int .u64 6) = some (.int .i32 (y:Int))∧binA .and (.int .u8 b) (.int .u8 63) = some (.int .u8 (m:Int))∧m < 64 ∧
    binA .or (.int .i32 (y:Int)) (.int .i32 (m:Int)) = some (.int .i32 (z:Int))∧z = r * 64 + b % 64 :=
  ⟨_,_,_,shls6 h,andl63 hb,Nat.mod_lt _ (by decide),orl6 (Nat.mod_lt _ (by decide)) h,rfl⟩
set_option maxHeartbeats 1000000 in
theorem seq_eq (t:ByteArray) (hsz:t.size < 100000000) (h0:0 < t.size) (h:AH):callO PX 85 [.string t] h = some (.tuple (List.toArray [.int .i64 (seqN t.data.toList).1,.int .i32 (seqN t.data.toList).2]),h):=by
  obtain ⟨l,hl⟩:∃ l,l = t.data.toList:=⟨_,rfl⟩
  have hll:l.length = t.size:=by rw [hl]; rfl
  rw [← hl]
  unfold seqN
  rw [hll]
  have k0:=bat_lt' l 0
  have k1:=bat_lt' l 1
  have k2:=bat_lt' l 2
  have k3:=bat_lt' l 3
  obtain ⟨b0,q0⟩:∃ x,bat l 0 = x:=⟨_,rfl⟩
  obtain ⟨b1,q1⟩:∃ x,bat l 1 = x:=⟨_,rfl⟩
  obtain ⟨b2,q2⟩:∃ x,bat l 2 = x:=⟨_,rfl⟩
  obtain ⟨b3,q3⟩:∃ x,bat l 3 = x:=⟨_,rfl⟩
  rw [q0,q1,q2,q3]
  rw [q0] at k0
  rw [q1] at k1
  rw [q2] at k2
  rw [q3] at k3
  clear hll
  have es:=second_eq k0
  have hse:(secN b0).1 < 256∧(secN b0).2 < 256:=by rcases secN_cases b0 with h | h | h | h | h | h <;> (rw [h.1]; decide)
  unfold seqC
  by_cases g0:b0 < 128
  · rw [if_pos g0]
    apply WpC.eqn
    refine wpc_fn (px_ext rfl) (px_fn fn_guiseref1_Sequence) rfl ?_
    unfold LF_guiseref1_Sequence
    simp only [argFr]
    (refine W_x (Aj hl.symm q0) ?_; (repeat' first | apply Cj.mk | exact Nl.nl) <;> intros)
    exact ⟨rfl,rfl⟩
  rw [if_neg g0]
  by_cases g1:(secN b0).1 = 0∨t.size < 2∨b1 < (secN b0).1∨(secN b0).2 < b1
  · rw [if_pos g1]
    generalize (secN b0).1 = lo at *
    generalize (secN b0).2 = hi at *
    apply WpC.eqn
    refine wpc_fn (px_ext rfl) (px_fn fn_guiseref1_Sequence) rfl ?_
    unfold LF_guiseref1_Sequence
    simp only [argFr]
    (refine W_x (Aj hl.symm (Aj q0 (Aj q1 es))) ?_; (repeat' first | apply Cj.mk | exact Nl.nl) <;> intros)
    all_goals first | exact ⟨rfl,rfl⟩ | (exfalso; omega)
  rw [if_neg g1]
  have ok1:128≤b1∧b1≤191:=by
    rcases secN_cases b0 with h | h | h | h | h | h
    · exact absurd (.inl (by rw [h.1])) g1
    all_goals (rw [h.1] at g1; simp only at g1; omega)
  have hb0:b0 < 245:=by
    rcases secN_cases b0 with h | h | h | h | h | h
    · exact absurd (.inl (by rw [h.1])) g1
    all_goals omega
  generalize (secN b0).1 = lo at *
  generalize (secN b0).2 = hi at *
  obtain ⟨x31,e31⟩:∃ x,x = b0 % 32:=⟨_,rfl⟩
  obtain ⟨x15,e15⟩:∃ x,x = b0 % 16:=⟨_,rfl⟩
  obtain ⟨x7,e7⟩:∃ x,x = b0 % 8:=⟨_,rfl⟩
  have c31:x31 < 32:=by omega
  have c15:x15 < 16:=by omega
  have c7:x7 < 8:=by omega
  have a31:=andl31 k0
  have a15:=andl15 k0
  have a7:=andl7 k0
  rw [← e31] at a31
  rw [← e15] at a15
  rw [← e7] at a7
  by_cases g2:b0 < 224
  · rw [if_pos g2]
    obtain ⟨y,m,z,s1,s2,s3,s4,s5⟩:=shor (r:=x31) (b:=b1) (by omega) k1
    rw [← e31,← s5]
    clear e31 e15 e7
    apply WpC.eqn
    refine wpc_fn (px_ext rfl) (px_fn fn_guiseref1_Sequence) rfl ?_
    unfold LF_guiseref1_Sequence
    simp only [argFr]
    (refine W_x (Aj hl.symm (Aj q0 (Aj q1 (Aj es a31)))) ?_; (repeat' first | apply Cj.mk | exact Nl.nl) <;> intros)
    refine wp_unroll ?_
    (refine W_x (Aj hl.symm (Aj q1 (Aj s1 (Aj s2 s4)))) ?_; (repeat' first | apply Cj.mk | exact Nl.nl) <;> intros)
    refine wp_unroll ?_
    (refine W_x trivial ?_; (repeat' first | apply Cj.mk | exact Nl.nl) <;> intros)
    exact ⟨rfl,rfl⟩
  rw [if_neg g2]
  by_cases g3:b0 < 240
  · obtain ⟨y,m,z,s1,s2,s3,s4,s5⟩:=shor (r:=x15) (b:=b1) (by omega) k1
    by_cases g4:t.size < 3 ∨ ¬ contN b2
    · rw [if_pos g4]
      unfold contN at g4
      clear e31 e15 e7
      apply WpC.eqn
      refine wpc_fn (px_ext rfl) (px_fn fn_guiseref1_Sequence) rfl ?_
      unfold LF_guiseref1_Sequence
      simp only [argFr]
      (refine W_x (Aj hl.symm (Aj q0 (Aj q1 (Aj es (Aj a31 a15))))) ?_; (repeat' first | apply Cj.mk | exact Nl.nl) <;> intros)
      refine wp_unroll ?_
      (refine W_x (Aj hl.symm (Aj q1 (Aj s1 (Aj s2 s4)))) ?_; (repeat' first | apply Cj.mk | exact Nl.nl) <;> intros)
      refine wp_unroll ?_
      (refine W_x (Aj hl.symm q2) ?_; (repeat' first | apply Cj.mk | exact Nl.nl) <;> intros)
      all_goals first | exact ⟨rfl,rfl⟩ | (exfalso; omega)
    · rw [if_neg g4,if_pos g3]
      unfold contN at g4
      obtain ⟨y',m',z',t1,t2,t3,t4,t5⟩:=shor (r:=z) (b:=b2) (by omega) k2
      rw [← e15,← s5,← t5]
      clear e31 e15 e7
      apply WpC.eqn
      refine wpc_fn (px_ext rfl) (px_fn fn_guiseref1_Sequence) rfl ?_
      unfold LF_guiseref1_Sequence
      simp only [argFr]
      (refine W_x (Aj hl.symm (Aj q0 (Aj q1 (Aj es (Aj a31 a15))))) ?_; (repeat' first | apply Cj.mk | exact Nl.nl) <;> intros)
      refine wp_unroll ?_
      (refine W_x (Aj hl.symm (Aj q1 (Aj s1 (Aj s2 s4)))) ?_; (repeat' first | apply Cj.mk | exact Nl.nl) <;> intros)
      refine wp_unroll ?_
      (refine W_x (Aj hl.symm (Aj q2 (Aj t1 (Aj t2 t4)))) ?_; (repeat' first | apply Cj.mk | exact Nl.nl) <;> intros)
      refine wp_unroll ?_
      (refine W_x trivial ?_; (repeat' first | apply Cj.mk | exact Nl.nl) <;> intros)
      exact ⟨rfl,rfl⟩
  · obtain ⟨y,m,z,s1,s2,s3,s4,s5⟩:=shor (r:=x7) (b:=b1) (by omega) k1
    obtain ⟨y',m',z',t1,t2,t3,t4,t5⟩:=shor (r:=z) (b:=b2) (by omega) k2
    by_cases g4:t.size < 3 ∨ ¬ contN b2
    · rw [if_pos g4]
      unfold contN at g4
      clear e31 e15 e7
      apply WpC.eqn
      refine wpc_fn (px_ext rfl) (px_fn fn_guiseref1_Sequence) rfl ?_
      unfold LF_guiseref1_Sequence
      simp only [argFr]
      (refine W_x (Aj hl.symm (Aj q0 (Aj q1 (Aj es (Aj a31 (Aj a15 a7)))))) ?_; (repeat' first | apply Cj.mk | exact Nl.nl) <;> intros)
      refine wp_unroll ?_
      (refine W_x (Aj hl.symm (Aj q1 (Aj s1 (Aj s2 s4)))) ?_; (repeat' first | apply Cj.mk | exact Nl.nl) <;> intros)
      refine wp_unroll ?_
      (refine W_x (Aj hl.symm q2) ?_; (repeat' first | apply Cj.mk | exact Nl.nl) <;> intros)
      all_goals first | exact ⟨rfl,rfl⟩ | (exfalso; omega)
    · rw [if_neg g4,if_neg g3]
      unfold contN at g4
      by_cases g5:t.size < 4 ∨ ¬ contN b3
      · rw [if_pos g5]
        unfold contN at g5
        clear e31 e15 e7
        apply WpC.eqn
        refine wpc_fn (px_ext rfl) (px_fn fn_guiseref1_Sequence) rfl ?_
        unfold LF_guiseref1_Sequence
        simp only [argFr]
        (refine W_x (Aj hl.symm (Aj q0 (Aj q1 (Aj es (Aj a31 (Aj a15 a7)))))) ?_; (repeat' first | apply Cj.mk | exact Nl.nl) <;> intros)
        refine wp_unroll ?_
        (refine W_x (Aj hl.symm (Aj q1 (Aj s1 (Aj s2 s4)))) ?_; (repeat' first | apply Cj.mk | exact Nl.nl) <;> intros)
        refine wp_unroll ?_
        (refine W_x (Aj hl.symm (Aj q2 (Aj t1 (Aj t2 t4)))) ?_; (repeat' first | apply Cj.mk | exact Nl.nl) <;> intros)
        refine wp_unroll ?_
        (refine W_x (Aj hl.symm q3) ?_; (repeat' first | apply Cj.mk | exact Nl.nl) <;> intros)
        all_goals first | exact ⟨rfl,rfl⟩ | (exfalso; omega)
      · rw [if_neg g5]
        unfold contN at g5
        obtain ⟨y2,m2,z2,u1,u2,u3,u4,u5⟩:=shor (r:=z') (b:=b3) (by omega) k3
        rw [← e7,← s5,← t5,← u5]
        clear e31 e15 e7
        apply WpC.eqn
        refine wpc_fn (px_ext rfl) (px_fn fn_guiseref1_Sequence) rfl ?_
        unfold LF_guiseref1_Sequence
        simp only [argFr]
        (refine W_x (Aj hl.symm (Aj q0 (Aj q1 (Aj es (Aj a31 (Aj a15 a7)))))) ?_; (repeat' first | apply Cj.mk | exact Nl.nl) <;> intros)
        refine wp_unroll ?_
        (refine W_x (Aj hl.symm (Aj q1 (Aj s1 (Aj s2 s4)))) ?_; (repeat' first | apply Cj.mk | exact Nl.nl) <;> intros)
        refine wp_unroll ?_
        (refine W_x (Aj hl.symm (Aj q2 (Aj t1 (Aj t2 t4)))) ?_; (repeat' first | apply Cj.mk | exact Nl.nl) <;> intros)
        refine wp_unroll ?_
        (refine W_x (Aj hl.symm (Aj q3 (Aj u1 (Aj u2 u4)))) ?_; (repeat' first | apply Cj.mk | exact Nl.nl) <;> intros)
        refine wp_unroll ?_
        (refine W_x trivial ?_; (repeat' first | apply Cj.mk | exact Nl.nl) <;> intros)
        exact ⟨rfl,rfl⟩
end Go.Proofs.YtakmapoompffgaaGreatDoor.AM
namespace Go.Proofs.YtakmapoompffgaaGreatDoor.AM
open Go
def spot4 (x:Nat × (Nat × Nat)):List Value:=[.int .i32 x.2.1,.int .i64 x.1,.int .i64 x.2.2,.bool (isBad2 x.2)]
theorem spotsL_take {l:Bytes} {i:Nat} (hi:i < (spots l).length):(spotsL l).take (i + 1) = (spotsL l).take i ++ [(posn l i,(spots l)[i])]:=by
  have h:i < (spotsL l).length:=by rw [spotsL_len]; exact hi
  rw [take_snoc h,spotsL_get h]
theorem ref1Spots_spec (s:ByteArray) (hs:s.size≤1048576) (h:AH):WpC PX 49 [.string s] h fun v h' => ∃ sl,v = sl.val 4∧FOwn h h' 4 sl ((spotsL s.data.toList).map spot4):=by
  obtain ⟨l,hl⟩:∃ l,l = s.data.toList:=⟨_,rfl⟩
  have hz:l.length = s.size:=by rw [hl]; rfl
  have hn:=spots_len l
  rw [← hl]
  refine wpc_fn (px_ext rfl) (px_fn fn_guiseref1_Spots) rfl ?_
  unfold LF_guiseref1_Spots
  simp only [argFr]
  (refine W_x trivial ?_; (repeat' first | apply Cj.mk | exact Nl.nl) <;> intros)
  refine wp_forS (fun i sl=>[(0,.string s),(3,sl.val 4),(4,.int .i64 (posn l i))]) (fun _ _=>[]) (spots l) (fun i sl h'=>FOwn h h' 4 sl (((spotsL l).take i).map spot4)) (fun _ _=>(none:Option Unit)) Sl.nil (by rw [posn_zero]; rfl) rfl (FOwn.nil (Kp.refl h)) (fun i hi sl h1 fo hit=>?_) fun sl h1 fo fin=>?_
  · obtain ⟨p1,p2,p3⟩:=posn_lt hi
    have ht:=spotsL_take hi
    have hp:=posn_succ hi
    have hw:=dec_width p3
    rw [p2,List.length_drop] at hw
    have hx:(s.extract (posn l i) s.size).data.toList = l.drop (posn l i):=by
      rw [ba_extract _ _ _ (Nat.le_refl _),← hl,← hz,← List.length_drop,List.take_length]
    have hxs:(s.extract (posn l i) s.size).size = l.length - posn l i:=by rw [ba_size,hx,List.length_drop]
    have e1:=seq_eq (s.extract (posn l i) s.size) (by omega) (by omega) h1
    rw [hx,seq_dec p3,p2] at e1
    rw [hp]
    have hcap:(((spotsL l).take i).map spot4).length≤1048576:=by rw [List.length_map,List.length_take,spotsL_len]; omega
    have hbd:isBad2 (spots l)[i] = true→(spots l)[i] = (65533,1):=fun e=>by
      simp only [isBad2,Bool.and_eq_true,beq_iff_eq] at e
      exact Prod.ext e.1 e.2
    generalize (spots l)[i] = y at *
    by_cases hb:isBad2 y = true
    · have hy:=hbd hb
      subst hy
      rw [if_pos hb] at e1
      simp only at e1 hw ⊢
      (refine W_x e1 ?_; (repeat' first | apply Cj.mk | exact Nl.nl) <;> intros)
      refine wo_app1 (cs:=spot4 (posn l i,(65533,1))) fo rfl rfl (by decide) (by decide) (by omega) fun s2 h2 f2=>?_
      (refine W_x trivial ?_; (repeat' first | apply Cj.mk | exact Nl.nl) <;> intros)
      refine ⟨trivial,s2,rfl,rfl, ?_⟩
      rw [ht,List.map_append]
      exact f2
    · rw [if_neg hb] at e1
      have hb':isBad2 y = false:=by simpa using hb
      obtain ⟨c,w⟩:=y
      simp only at e1 hw ⊢
      (refine W_x e1 ?_; (repeat' first | apply Cj.mk | exact Nl.nl) <;> intros)
      refine wo_app1 (cs:=spot4 (posn l i,(c,w))) fo (by unfold spot4; simp only [hb']; rfl) rfl (by decide) (by decide) (by omega) fun s2 h2 f2=>?_
      (refine W_x trivial ?_; (repeat' first | apply Cj.mk | exact Nl.nl) <;> intros)
      refine ⟨trivial,s2,rfl,rfl, ?_⟩
      rw [ht,List.map_append]
      exact f2
  · rw [posn_all]
    (refine W_x trivial ?_; (repeat' first | apply Cj.mk | exact Nl.nl) <;> intros)
    rw [← spotsL_len,List.take_length] at fo
    exact ⟨sl,rfl,fo⟩
end Go.Proofs.YtakmapoompffgaaGreatDoor.AM
namespace Go.Proofs.YtakmapoompffgaaGreatDoor.AM
open Go
def LF_guiseref1_Joins:LFunc :=
  .mk 2 [.tmp 4] (.seq (R 999 [0,1] [.set 4 (.cv (.bool false))]) (.seq (R 10 [0,1,5] [.set 5 (xc1 49 (.va 0))]) (.seq (R 12 [0,1,5,6] [.set 6 (xc1
  49 (.va 1))]) (.seq (R 14 [0,5,6,7] [.set 7 (xc1 49 (xb .add (.va 0) (.va 1)))]) (.seq (.seq (R 18 [0,5,6,7,25] [.tmp 25 (xb .neq (xlen
  (.va 7)) (xb .add (xlen (.va 5)) (xlen (.va 6))))]) (.cond (.s 25) (.seq (R 999 [4] [.set 4 (.cv (.bool false))]) .ret) .skip)) (.seq (.seq (R 999 [0,5,6,7,8] [.set 8 (xi 0)])
  (.block 0 (.loop (.seq (.seq (R 26 [0,5,6,7,8,29] [.tmp 29 (xb .lss (.va 8) (xlen (.va 7)))]) (.cond (.s 29) .skip (.exit 0))) (.seq (.block 1 (.seq (R 32 [0,5,6,7,8,9]
  [.tmp 32 (.op (.p (.build [.int .i32 0,.int .i64 0,.int .i64 0,.bool false] [])) .nil),.at 9,.tmp 9 (xnl 9 [.int .i32 0,.int .i64 0,.int .i64 0,.bool false]),.run (xst 4
  (.sl 9) (.sl 32))]) (.seq (.seq (R 33 [0,5,6,7,8,9,36] [.tmp 36 (xb .lss (.va 8) (xlen (.va 5)))]) (.cond (.s 36) (R 37 [0,5,6,7,8,9] [.run (xst 4 (.sl 9) (xln 4 (xia 4
  (.va 5) (.va 8))))]) (.seq (R 41 [0,5,6,7,8,9] [.run (xst 4 (.sl 9) (xln 4 (xia 4 (.va 6) (xb .sub (.va 8) (xlen (.va 5))))))]) (R 48 [0,5,6,7,8,9] [.tmp 52 (xb .add
  (xld (xfa 1 (.sl 9))) (xsl (.va 0))),.tmp 53 (xfa 1 (.sl 9)),.run (xst 1 (.sl 53) (.sl 52))])))) (.seq (R 54 [0,5,6,7,8,59] [.tmp 59 (.op (.p (.eqA true [.int,.int,.int,
  .bool] (.s 0) (.s 1))) (.cons (xln 4 (xia 4 (.va 7) (.va 8))) (xln 4 (.sl 9))))]) (.cond (.s 59) (.seq (R 999 [4] [.set 4 (.cv (.bool false))]) .ret) .skip))))) (R 30 [0,5,6,7,
  8] [.set 8 (xb .add (.va 8) (xi 1))])))))) (.seq (R 999 [4] [.set 4 (.cv (.bool true))]) .ret)))))))
theorem fn_guiseref1_Joins:(autoPrg Tryz.prog).fn 23 = some LF_guiseref1_Joins:=by kernel_rfl
end Go.Proofs.YtakmapoompffgaaGreatDoor.AM
namespace Go.Proofs.YtakmapoompffgaaGreatDoor.AM
open Go
theorem str_addR {x y:ByteArray} (h:x.size + y.size≤9223372036854775807):binA .add (.string x) (.string y) = some (.string (x ++ y)):=if_pos h
theorem ba_appR (x y:ByteArray):(x ++ y).data.toList = x.data.toList ++ y.data.toList:=by rw [ByteArray.data_append,Array.toList_append]
theorem posn_same {a b:Bytes} {i:Nat} (h:(spots a).take i = (spots b).take i):posn a i = posn b i:=by unfold posn; rw [h]
theorem posn_two {a s t:Bytes} {k:Nat} (h:(spots a).take ((spots s).length + k) = spots s ++ (spots t).take k):posn a ((spots s).length + k) = s.length + posn t k:=by
  unfold posn
  rw [h,List.map_append,List.sum_append,spots_sum]
theorem eqS_t (a b c:Int) (d:Bool):eqCells [.int,.int,.int,.bool] [.int .i32 a,.int .i64 b,.int .i64 c,.bool d] [.int .i32 a,.int .i64 b,.int .i64 c,.bool d] = some true:=by simp [eqCells]
theorem eqS_f {a b c a' c':Int} {d d':Bool} (h : ¬ a = a' ∨ ¬ c = c'):eqCells [.int,.int,.int,.bool] [.int .i32 a,.int .i64 b,.int .i64 c,.bool d] [.int .i32 a',.int .i64 b,.int .i64 c',.bool d'] = some false:=by
  by_cases h1:a = a'
  · have h2 : ¬ c = c':=h.resolve_left fun q=>q h1
    simp [eqCells,h1,h2]
  · simp [eqCells,h1]
set_option maxHeartbeats 1000000 in
theorem ref1Joins_spec (s t:ByteArray) (hs:s.size≤500000) (ht:t.size≤500000) (h:AH) :
    WpC PX 23 [.string s,.string t] h fun v h' => ∃ b:Bool,v = .bool b∧(b = true→spots (s.data.toList ++ t.data.toList) = spots s.data.toList ++ spots t.data.toList)∧Kp h h':=by
  have z1:s.data.toList.length = s.size:=rfl
  have z2:t.data.toList.length = t.size:=rfl
  have hst:(s ++ t).size = s.size + t.size:=by rw [ba_size,ba_appR,List.length_append]; rfl
  obtain ⟨_,g1,e1,sa,rfl,fa⟩:=ref1Spots_spec s (by omega) h
  obtain ⟨_,g2,e2,sb,rfl,fb⟩:=ref1Spots_spec t (by omega) g1
  obtain ⟨_,g3,e3,sc,rfl,fc⟩:=ref1Spots_spec (s ++ t) (by omega) g2
  have hadd:=str_addR (x:=s) (y:=t) (by omega)
  rw [ba_appR] at fc
  have n1:=spots_len s.data.toList
  have n2:=spots_len t.data.toList
  have n3:=spots_len (s.data.toList ++ t.data.toList)
  rw [List.length_append] at n3
  have la:=fa.own.1
  have lb:=fb.own.1
  have lc':=fc.own.1
  rw [List.length_map,spotsL_len] at la lb lc'
  have kk:=fa.kp.trans (fb.kp.trans fc.kp)
  have ra:=fa.reads.kp (fb.kp.trans fc.kp)
  have rb:=fb.reads.kp fc.kp
  have rc:=fc.reads
  have hz:(s.size:Int) = (s.data.toList.length:Nat):=by rw [z1]
  generalize hl:s.data.toList = l at *
  generalize hm:t.data.toList = m at *
  refine wpc_fn (px_ext rfl) (px_fn fn_guiseref1_Joins) rfl ?_
  unfold LF_guiseref1_Joins
  simp only [argFr]
  by_cases hlen:(spots (l ++ m)).length = (spots l).length + (spots m).length
  · have hd : ((spots (l ++ m)).length:Int) = ((spots l).length:Int) + ((spots m).length:Int):=by omega
    (refine W_x (Aj e1 (Aj e2 (Aj hadd (Aj e3 (Aj la (Aj lb (Aj lc' hd))))))) ?_; (repeat' first | apply Cj.mk | exact Nl.nl) <;> intros)
    refine wp_forS (fun i (_:Unit)=>[(0,.string s),(5,sa.val 4),(6,sb.val 4),(7,sc.val 4),(8,.int .i64 i)]) (fun _ _=>[]) (spots (l ++ m))
      (fun i _ h'=>h' = g3∧(spots (l ++ m)).take i = (spots l ++ spots m).take i) (fun i x=>if (spots l ++ spots m)[i]? = some x then none else some ()) () rfl rfl ⟨rfl,rfl⟩ (fun i hi _ h2 hh hit=>?_) fun _ h2 hh fin=>?_
    · obtain ⟨rfl,htk⟩:=hh
      have hic:i < (spotsL (l ++ m)).length:=by rw [spotsL_len]; exact hi
      have gc:=fun lc=>rd_map (lc:=lc) rc hic
      rw [spotsL_get hic] at gc
      have htn:∀ x,(spots l ++ spots m)[i]? = some x→(spots (l ++ m))[i] = x→(spots (l ++ m)).take (i + 1) = (spots l ++ spots m).take (i + 1):=fun x hx he=>by
        obtain ⟨hi',rfl⟩:=List.getElem?_eq_some_iff.1 hx
        rw [take_snoc hi,take_snoc hi',htk,he]
      by_cases hil:i < (spots l).length
      · have hi1:i < (spotsL l).length:=by rw [spotsL_len]; exact hil
        have ga:=fun lc=>rd_map (lc:=lc) ra hi1
        rw [spotsL_get hi1] at ga
        have hX:(spots l ++ spots m)[i]? = some (spots l)[i]:=by rw [List.getElem?_append_left hil,List.getElem?_eq_getElem hil]
        rw [List.take_append_of_le_length (by omega)] at htk
        have hp:posn (l ++ m) i = posn l i:=posn_same htk
        rw [hX] at hit ⊢
        have htn:=htn _ hX
        rw [hp] at gc
        generalize (spots (l ++ m))[i] = x at *
        generalize (spots l)[i] = y at *
        generalize posn l i = w at *
        by_cases hxy:x = y
        · subst hxy
          rw [if_pos rfl] at hit ⊢
          unfold spot4 at ga gc
          have q1:=eqS_t x.1 w x.2 (isBad2 x)
          (refine W_x (Aj la (Aj lb (Aj lc' (Aj ga (Aj gc (Aj hd q1)))))) ?_; (repeat' first | apply Cj.mk | exact Nl.nl) <;> intros)
          exact ⟨rfl,(),rfl,rfl,rfl,htn rfl⟩
        · have hh:=hit () (if_neg fun e=>hxy (by injection e with e; exact e.symm))
          obtain ⟨x1,x2⟩:=x
          obtain ⟨y1,y2⟩:=y
          have hne : ¬ ((x1:Int) = (y1:Int)) ∨ ¬ ((x2:Int) = (y2:Int)):=by
            by_cases h1:x1 = y1
            · refine .inr fun h2=>hxy ?_
              rw [h1,show x2 = y2 by omega]
            · exact .inl (by omega)
          unfold spot4 at ga gc
          have q1:=eqS_f (b:=w) (d:=isBad2 (x1,x2)) (d':=isBad2 (y1,y2)) hne
          rw [if_neg fun e=>hxy (by injection e with e; exact e.symm)]
          (refine W_x (Aj la (Aj lb (Aj lc' (Aj ga (Aj gc (Aj hd q1)))))) ?_; (repeat' first | apply Cj.mk | exact Nl.nl) <;> intros)
          exact ⟨false,rfl,fun e=>(by cases e),kk⟩
      · obtain ⟨k,hk⟩:=Nat.exists_eq_add_of_le (Nat.ge_of_not_lt hil)
        have hik:k < (spots m).length:=by omega
        have hi1:k < (spotsL m).length:=by rw [spotsL_len]; exact hik
        have gb:=fun lc=>rd_map (lc:=lc) rb hi1
        rw [spotsL_get hi1] at gb
        have hX:(spots l ++ spots m)[i]? = some (spots m)[k]:=by rw [hk,List.getElem?_append_right (by omega),Nat.add_sub_cancel_left,List.getElem?_eq_getElem hik]
        have hp:posn (l ++ m) i = l.length + posn m k:=by
          rw [hk]
          exact posn_two (by rw [← hk,htk,hk,List.take_length_add_append])
        have hpl:=(posn_lt hik).1
        rw [hX] at hit ⊢
        have htn:=htn _ hX
        rw [hp] at gc
        have hsub:(i:Int) - ((spots l).length:Int) = (k:Int):=by omega
        have hsum:((posn m k:Nat):Int) + (s.size:Int) = ((l.length + posn m k:Nat):Int):=by omega
        have hgl : ¬ ((i:Int) < ((spots l).length:Int)):=by omega
        generalize (spots (l ++ m))[i] = x at *
        generalize (spots m)[k] = y at *
        have hw2:l.length + posn m k≤1000000:=by omega
        generalize l.length + posn m k = w at *
        generalize posn m k = w' at *
        by_cases hxy:x = y
        · subst hxy
          rw [if_pos rfl] at hit ⊢
          unfold spot4 at gb gc
          have q1:=eqS_t x.1 w x.2 (isBad2 x)
          (refine W_x (Aj la (Aj lb (Aj lc' (Aj gb (Aj gc (Aj hsub (Aj hsum (Aj hgl (Aj hd q1))))))))) ?_; (repeat' first | apply Cj.mk | exact Nl.nl) <;> intros)
          exact ⟨rfl,(),rfl,rfl,rfl,htn rfl⟩
        · have hh:=hit () (if_neg fun e=>hxy (by injection e with e; exact e.symm))
          obtain ⟨x1,x2⟩:=x
          obtain ⟨y1,y2⟩:=y
          have hne : ¬ ((x1:Int) = (y1:Int)) ∨ ¬ ((x2:Int) = (y2:Int)):=by
            by_cases h1:x1 = y1
            · refine .inr fun h2=>hxy ?_
              rw [h1,show x2 = y2 by omega]
            · exact .inl (by omega)
          unfold spot4 at gb gc
          have q1:=eqS_f (b:=w) (d:=isBad2 (x1,x2)) (d':=isBad2 (y1,y2)) hne
          rw [if_neg fun e=>hxy (by injection e with e; exact e.symm)]
          (refine W_x (Aj la (Aj lb (Aj lc' (Aj gb (Aj gc (Aj hsub (Aj hsum (Aj hgl (Aj hd q1))))))))) ?_; (repeat' first | apply Cj.mk | exact Nl.nl) <;> intros)
          exact ⟨false,rfl,fun e=>(by cases e),kk⟩
    · obtain ⟨rfl,htk⟩:=hh
      (refine W_x (Aj la (Aj lb (Aj lc' hd))) ?_; (repeat' first | apply Cj.mk | exact Nl.nl) <;> intros)
      refine ⟨true,rfl,fun _=>?_,kk⟩
      rw [List.take_length] at htk
      rw [htk,hlen,← List.length_append,List.take_length]
  · have hd : ¬ (((spots (l ++ m)).length:Int) = ((spots l).length:Int) + ((spots m).length:Int)):=by omega
    (refine W_x (Aj e1 (Aj e2 (Aj hadd (Aj e3 (Aj la (Aj lb (Aj lc' hd))))))) ?_; (repeat' first | apply Cj.mk | exact Nl.nl) <;> intros)
    exact ⟨false,rfl,fun e=>(by cases e),kk⟩
end Go.Proofs.YtakmapoompffgaaGreatDoor.AM
namespace Go.Proofs.YtakmapoompffgaaGreatDoor.AM
open Go
def LF_guiselaw12_FoldJoins:LFunc :=
  .mk 3 [.tmp 6] (.seq (R 3 [1,2,3] [.tmp 3 (xbl 3 8 (.sl 0)),.set 6 (.cv (.bool false))]) (.seq (R 13 [1,2,7,8,9] [.set 12 (xc1 9 (xln 8 (.sl 3))),.tmp 15
  (xex 0 (.sl 12)),.tmp 16 (xex 1 (.sl 12)),.tmp 17 (xex 2 (.sl 12)),.set 7 (.sl 15),.set 8 (.sl 16),.set 9 (.sl 17)]) (.seq (.seq (R 18 [1,2,7,9,19] [.tmp 19 (xu .not (.va
  8))]) (.cond (.s 19) (.seq (R 20 [6] [.set 6 (.and (.va 9) (xc0 10))]) .ret) .skip)) (.seq (R 24 [1,2,7] [.set 1 (xc2 11 (.va 1) (xi 800))])
  (.seq (R 26 [1,2,7] [.set 2 (xc2 11 (.va 2) (xi 800))]) (.seq (R 29 [1,2,7,10,11] [.set 28 (xc2 22 (.va 7) (.va 1)),.tmp 32 (xex 0 (.sl
  28)),.tmp 33 (xex 1 (.sl 28)),.set 10 (.sl 32),.set 11 (.sl 33)]) (.seq (.seq (R 34 [1,2,7,42] [.tmp 42 (.or (xu .not (.va 11)) (xb .neq (.va 10) (xc2 14 (.va 7)
  (.va 1))))]) (.cond (.s 42) (.seq (R 999 [6] [.set 6 (.cv (.bool false))]) .ret) .skip)) (.seq (.seq (R 43 [60] [.tmp 60 (.and (xc2 23 (.va 1) (.va 2)) (xb .neq
  (xc2 14 (.va 7) (xb .add (.va 1) (.va 2))) (xb .add (xc2 14 (.va 7) (.va 1)) (xc2 14 (.va 7) (.va 2)))))]) (.cond (.s 60) (.seq (R 999 [6] [.set 6
  (.cv (.bool false))]) .ret) .skip)) (.seq (R 61 [6] [.set 6 (xc0 10)]) .ret)))))))))
theorem fn_guiselaw12_FoldJoins:(autoPrg Tryz.prog).fn 5 = some LF_guiselaw12_FoldJoins:=by kernel_rfl
def LF_guiselaw12_joined:LFunc :=
  .mk 2 [.cell 4 none,.cell 5 none] (.seq (R 4 [0,1,4,5] [.tmp 4 (xnh [.string ⟨#[]⟩]),.tmp 5 (xnh [.bool false])]) (.seq (R 12 [1,4,5,6] [.set 6 (xc2 32 (.va
  0) (.va 1))]) (.seq (.seq (R 15 [1,4,5,6,16] [.tmp 16 (.op (.p (.eqk false .func (.s 0) (.s 1))) (.cons (.va 6) (.cv .nilFunc)))]) (.cond (.s 16) (.seq (R 999 [4,5] [.run
  (xst 1 (.sl 4) (.cv (.string ⟨#[]⟩))),.run (xst 1 (.sl 5) (.cv (.bool false)))]) .ret) .skip)) (.seq (R 7 [1,4,5,6,7] [.tmp 7 (xnh [.string ⟨#[]⟩]),.run (xst 1 (.sl 7) (.cv
  (.string ⟨#[]⟩)))]) (.seq (R 8 [1,4,5,6,7,8] [.tmp 8 (xnh [.int .i64 0]),.run (xst 1 (.sl 8) (xi 0))]) (.seq (R 9 [1,4,5,6,7,8,9] [.tmp 9 (xnh [.int .i64 0]),.run
  (xst 1 (.sl 9) (xi (-1)))]) (.seq (.seq (R 17 [1,4,5,7,8,9,17] [.tmp 17 (.va 6)]) (.block 0 (.rangeF (.s 17) [18,19] (.seq (R 10 [4,5,7,8,9,10,19] [.tmp 10 (xnl 10
  [.int .i64 0,.int .i64 0]),.run (xst 2 (.sl 10) (.sl 18))]) (R 11 [4,5,7,8,9,10,11] [.tmp 11 (.va 19)])) (.block 1 (.seq (.seq (R 20 [4,5,7,8,9,10,11,42] [.tmp 42
  (.or (.or (.or (xb .neq (xld (xfa 1 (.sl 10))) (xld (.sl 8))) (xb .leq (xld (xfa 0 (.sl 10))) (xld (.sl 9)))) (.and (xb .eql (xld (.sl 8)) (xi 0)) (xb .neq (xld (xfa 0 (.sl 10)))
  (xi 0)))) (xb .eql (.va 11) (.cv (.string ⟨#[]⟩))))]) (.cond (.s 42) (.seq (R 999 [] [.run (xst 1 (.sl 4) (.cv (.string ⟨#[]⟩))),.run (xst 1 (.sl 5) (.cv (.bool false)))]) .ret)
  .skip)) (.seq (R 43 [7,8,11] [.run (xst 1 (.sl 9) (xld (xfa 0 (.sl 10))))]) (.seq (R 45 [7,11] [.run (xst 1 (.sl 8) (xb .add (xld (.sl 8)) (xi 1)))]) (R 47 [] [.run (xst 1 (.sl
  7) (xb .add (xld (.sl 7)) (.va 11)))])))))))) (.seq (.region [.mk (some 50) (.r (.load none (.s 7))) none,.mk (some 51) (.r (.load none (.s 8))) none,.mk (some 52) (.p (.mv (.s
  1))) none,.mk (some 53) (.e (.call 36 [.s 52])) none,.mk (some 54) (.p (.bin .eql (.s 51) (.s 53))) none,.mk none (.e (.store 1 (.s 4) (.s 50))) none,.mk none (.e
  (.store 1 (.s 5) (.s 54))) none] [4,5] [(0,4),(1,4),(1,6)]) .ret))))))))
theorem fn_guiselaw12_joined:(autoPrg Tryz.prog).fn 22 = some LF_guiselaw12_joined:=by kernel_rfl
end Go.Proofs.YtakmapoompffgaaGreatDoor.AM
namespace Go.Proofs.YtakmapoompffgaaGreatDoor.AM
open Go
def LFfew:LFunc :=
  .mk 2 [.tmp 4] (.seq (R 999 [0,1] [.set 4 (.cv (.string ⟨#[]⟩))]) (.seq (.seq (R 5 [0,1,8] [.tmp 8 (xb .gtr (xsl (.va 0)) (.va 1))]) (.cond (.s 8) (.seq (R 9 [4] [.set 4 (.op
  (.p (.slS (.s 0) none (some (.s 1)))) (.cons (.va 0) (.va 1)))]) .ret) .skip)) (.seq (R 12 [4] [.set 4 (.va 0)]) .ret)))
theorem fewG_eq {f:FuncId} (hf:PX.fn f = some LFfew) (hx:PX.ext f = none) (s:ByteArray) (hs:s.size≤1048576) {m:Int} (n:Nat) (hm:m = n) (hn:n≤1048576) (h:AH):callO PX f [.string s,.int .i64 m] h = some (.string (fewB s n),h):=by
  subst hm
  apply WpC.eqn
  refine wpc_fn hx hf rfl ?_
  unfold LFfew
  simp only [argFr]
  unfold fewB
  (refine W_x trivial ?_; (repeat' first | apply Cj.mk | exact Nl.nl) <;> intros)
  · rw [if_pos (by omega)]
    exact ⟨rfl,rfl⟩
  · rw [if_neg (by omega)]
    exact ⟨rfl,rfl⟩
end Go.Proofs.YtakmapoompffgaaGreatDoor.AM
namespace Go.Proofs.YtakmapoompffgaaGreatDoor.AM
open Go
def LF_utf_Count:LFunc :=
  .mk 1 [.tmp 2] (.seq (R 999 [0] [.set 2 (xi 0)]) (.seq (R 999 [0,3] [.set 3 (xi 0)]) (.seq (.seq (R 4 [3,5] [.tmp 5 (.op (.e (.rngS 5 (.s 0))) (.va 0))]) (.block 0 (.loop (.seq
  (R 6 [3,5,7] [.tmp 7 (xex 0 (.op (.e (.nxtS (.s 0))) (.sl 5)))]) (.seq (.cond (.s 7) .skip (.exit 0)) (.block 1 (R 8 [3,5] [.set 3 (xb .add (.va 3) (xi 1))]))))))) (.seq (R 10
  [2] [.set 2 (.va 3)]) .ret))))
theorem fn_utf_Count:(autoPrg Tryz.prog).fn 36 = some LF_utf_Count:=by kernel_rfl
end Go.Proofs.YtakmapoompffgaaGreatDoor.AM
namespace Go.Proofs.YtakmapoompffgaaGreatDoor.AM
open Go
theorem utfCount_eq (s:ByteArray) (hs:s.size≤16777216) (h:AH):callO PX 36 [.string s] h = some (.int .i64 (spots s.data.toList).length,h):=by
  have hz:s.data.toList.length = s.size:=rfl
  have hn:=spots_len s.data.toList
  apply WpC.eqn
  refine wpc_fn (px_ext rfl) (px_fn fn_utf_Count) rfl ?_
  unfold LF_utf_Count
  simp only [argFr]
  (refine W_x @ev_rngS ?_; (repeat' first | apply Cj.mk | exact Nl.nl) <;> intros)
  refine wp_spotsS (fun i _=>[(3,.int .i64 i),(5,.pointer (some ⟨10,0,some 1⟩))]) (fun n _=>[(10,.siter s n)]) s s.data.toList (fun _ _ h'=>h' = h) (fun _ _=>(none:Option Unit)) () rfl (by repeat' first | exact True.intro | refine And.intro rfl ?_) (fun _ _=>rfl) rfl rfl (fun i hi _ h1 hh hit=>?_) fun _ h1 hh fin=>?_
  · subst hh
    (refine W_x trivial ?_; (repeat' first | apply Cj.mk | exact Nl.nl) <;> intros)
    refine wo_next rfl rfl hi ?_
    (refine W_x trivial ?_; (repeat' first | apply Cj.mk | exact Nl.nl) <;> intros)
    exact ⟨rfl,(),(by repeat' first | exact True.intro | refine And.intro rfl ?_),rfl,rfl⟩
  · subst hh
    (refine W_x trivial ?_; (repeat' first | apply Cj.mk | exact Nl.nl) <;> intros)
    refine wo_nextE rfl rfl ?_
    (refine W_x trivial ?_; (repeat' first | apply Cj.mk | exact Nl.nl) <;> intros)
    exact ⟨rfl,rfl⟩
end Go.Proofs.YtakmapoompffgaaGreatDoor.AM
namespace Go.Proofs.YtakmapoompffgaaGreatDoor.AM
open Go
theorem fn12fewJ:PX.fn 11 = some LFfew:=px_fn (by kernel_rfl)
theorem few12J_eq (s:ByteArray) (hs:s.size≤1048576) {m:Int} (n:Nat) (hm:m = n) (hn:n≤1048576) (h:AH):callO PX 11 [.string s,.int .i64 m] h = some (.string (fewB s n),h):=fewG_eq fn12fewJ (px_ext rfl) s hs n hm hn h
def lastP (l:Bytes) (i:Nat):Int:=if i = 0 then -1 else (posn l (i - 1):Nat)
theorem lastP_lt {l:Bytes} {i:Nat} (hi:i < (spots l).length) : -1≤lastP l i∧lastP l i < (posn l i:Nat):=by
  unfold lastP
  by_cases h:i = 0
  · rw [if_pos h]; omega
  · rw [if_neg h]
    obtain ⟨j,rfl⟩:=Nat.exists_eq_succ_of_ne_zero h
    have hj:j < (spots l).length:=by omega
    have h1:=posn_succ hj
    have h2:=(posn_lt hj).2.1
    have h3:=(dec_width (posn_lt hj).2.2).1
    rw [h2] at h3
    rw [Nat.succ_eq_add_one,Nat.add_sub_cancel]
    omega
theorem bs_appJ (X Y:Bytes):bs X ++ bs Y = bs (X ++ Y):=ba_ext (by rw [ByteArray.data_append,Array.toList_append,bs_l,bs_l,bs_l])
theorem bs_nil_iff (X:Bytes):bs X = (⟨#[]⟩:ByteArray)↔X = []:=by
  rw [show (⟨#[]⟩:ByteArray) = bs [] from rfl]
  exact bs_inj
theorem joined_spec {h:AH} {k B:Nat} {s6:Sl} {T:Tab} (hb:goodB T = true) (bk:BkAt h k B s6 T) (s:ByteArray) (hs:s.size≤1048576) :
    WpC PX 22 [.pointer (some ⟨k,0,none⟩),.string s] h fun v h'=>v = .tuple (List.toArray [.string (bs (foldB T s.data.toList)),.bool true])∧Kp h h':=by
  have hz:s.data.toList.length = s.size:=rfl
  have hsn:=spots_len s.data.toList
  have hen:=fun i=>encs_lenle (mapF T.folds ((runesB s.data.toList).take i))
  have hml:=fun i=>(mapF_len hb (fold_ok hb) ((runesB s.data.toList).take i)).2
  have hbd:∀ i,(encs (mapF T.folds ((runesB s.data.toList).take i))).length≤16777216:=fun i=>by
    have h1:=hen i
    have h2:=hml i
    have h3:=runesB_len s.data.toList
    rw [List.length_take] at h2
    omega
  have e1:=fun h=>foldPieces_eq (.pointer (some ⟨k,0,none⟩)) s h ⟨_,rfl,fun a ha=>by injection ha with ha; exact ⟨k,ha.symm⟩⟩
  refine wpc_fn (px_ext rfl) (px_fn fn_guiselaw12_joined) rfl ?_
  unfold LF_guiselaw12_joined
  simp only [argFr]
  (refine W_y e1 ?_; (repeat' first | apply Cj.mk | exact Nl.nl) <;> intros)
  generalize hH0:((((((((((h.push (.cells false [.string ⟨#[]⟩])).push (.cells false [.bool false])).push (.cells false [.pointer (some ⟨k,0,none⟩)])).push (.cells false [.string s])).push (.cells false [.string ⟨#[]⟩])).set (h.n + 1 + 1 + 1 + 1) (.cells false [.string ⟨#[]⟩])).push (.cells false [.int .i64 0])).set (h.n + 1 + 1 + 1 + 1 + 1) (.cells false [.int .i64 0])).push (.cells false [.int .i64 0])).set (h.n + 1 + 1 + 1 + 1 + 1 + 1) (.cells false [.int .i64 (-1)])) = H0
  simp only [Nat.add_assoc,Nat.reduceAdd,AH.push_n,AH.set_n] at hH0 ⊢
  have n0:H0.n = h.n + 7:=by rw [← hH0]; simp only [AH.push_n,AH.set_n]
  have a0:H0.get h.n = some (.cells false [.string ⟨#[]⟩]):=by rw [← hH0]; simp (disch:=first | omega | (simp only [AH.nn_push,AH.nn_set,AH.nn_kill]; omega) | (simp only [AH.nn_push,AH.nn_set,AH.nn_kill]; done) | fail) only [AH.get_push_eq,AH.get_push_ne,AH.get_set_eq,AH.get_set_ne,AH.push_n,AH.set_n]
  have a1:H0.get (h.n + 1) = some (.cells false [.bool false]):=by rw [← hH0]; simp (disch:=first | omega | (simp only [AH.nn_push,AH.nn_set,AH.nn_kill]; omega) | (simp only [AH.nn_push,AH.nn_set,AH.nn_kill]; done) | fail) only [AH.get_push_eq,AH.get_push_ne,AH.get_set_eq,AH.get_set_ne,AH.push_n,AH.set_n]
  have a2:H0.get (h.n + 2) = some (.cells false [.pointer (some ⟨k,0,none⟩)]):=by rw [← hH0]; simp (disch:=first | omega | (simp only [AH.nn_push,AH.nn_set,AH.nn_kill]; omega) | (simp only [AH.nn_push,AH.nn_set,AH.nn_kill]; done) | fail) only [AH.get_push_eq,AH.get_push_ne,AH.get_set_eq,AH.get_set_ne,AH.push_n,AH.set_n]
  have a3:H0.get (h.n + 3) = some (.cells false [.string s]):=by rw [← hH0]; simp (disch:=first | omega | (simp only [AH.nn_push,AH.nn_set,AH.nn_kill]; omega) | (simp only [AH.nn_push,AH.nn_set,AH.nn_kill]; done) | fail) only [AH.get_push_eq,AH.get_push_ne,AH.get_set_eq,AH.get_set_ne,AH.push_n,AH.set_n]
  have a4:H0.get (h.n + 4) = some (.cells false [.string ⟨#[]⟩]):=by rw [← hH0]; simp (disch:=first | omega | (simp only [AH.nn_push,AH.nn_set,AH.nn_kill]; omega) | (simp only [AH.nn_push,AH.nn_set,AH.nn_kill]; done) | fail) only [AH.get_push_eq,AH.get_push_ne,AH.get_set_eq,AH.get_set_ne,AH.push_n,AH.set_n]
  have a5:H0.get (h.n + 5) = some (.cells false [.int .i64 0]):=by rw [← hH0]; simp (disch:=first | omega | (simp only [AH.nn_push,AH.nn_set,AH.nn_kill]; omega) | (simp only [AH.nn_push,AH.nn_set,AH.nn_kill]; done) | fail) only [AH.get_push_eq,AH.get_push_ne,AH.get_set_eq,AH.get_set_ne,AH.push_n,AH.set_n]
  have a6:H0.get (h.n + 6) = some (.cells false [.int .i64 (-1)]):=by rw [← hH0]; simp (disch:=first | omega | (simp only [AH.nn_push,AH.nn_set,AH.nn_kill]; omega) | (simp only [AH.nn_push,AH.nn_set,AH.nn_kill]; done) | fail) only [AH.get_push_eq,AH.get_push_ne,AH.get_set_eq,AH.get_set_ne,AH.push_n,AH.set_n]
  have ak:∀ b,b < h.n→H0.get b = h.get b:=fun b hb=>by rw [← hH0]; simp (disch:=first | omega | (simp only [AH.nn_push,AH.nn_set,AH.nn_kill]; omega) | (simp only [AH.nn_push,AH.nn_set,AH.nn_kill]; done) | fail) only [AH.get_push_eq,AH.get_push_ne,AH.get_set_eq,AH.get_set_ne,AH.push_n,AH.set_n]
  clear hH0
  refine wp_rangeR (V:=PcV2) (xs:=pcs T s.data.toList) (D:=StD (h.n + 2) (h.n + 3) k B s6 T s) rfl (pieces_seq hb s (by omega)) (fun x us P h1 e=>by rw [e]; rfl) (fun x us P h1 o e _=>e)
    (fun i P h1=>H0.n≤h1.n∧(∀ b,b < h.n + 4→h1.get b = H0.get b)∧h1.get (h.n + 4) = some (.cells false [.string (bs (encs (mapF T.folds ((runesB s.data.toList).take i))))])∧h1.get (h.n + 5) = some (.cells false [.int .i64 i])∧h1.get (h.n + 6) = some (.cells false [.int .i64 (lastP s.data.toList i)]))
    (fun _ _ _=>False)
    (fun us=>[(4,.pointer (some ⟨h.n,0,none⟩)),(5,.pointer (some ⟨h.n + 1,0,none⟩)),(7,.pointer (some ⟨h.n + 4,0,none⟩)),(8,.pointer (some ⟨h.n + 5,0,none⟩)),(9,.pointer (some ⟨h.n + 6,0,none⟩)),(10,.pointer (some ⟨20,0,some 1⟩)),(11,us.getD 1 undef)]) (fun us=>[(20,.cells false (cellsU (us.take 1)))]) ?_ ?_ ?_ ?_ ?_ ?_ ?_ ?_
  · rw [n0]
    rintro i P P' h1 h2 ⟨f0,f1,f2,f3,f4⟩ hP fm hP'
    have hn:=fm.n
    have kk:∀ b,b < h.n + 7→h2.get b = h1.get b:=fun b hb=>fm.keep b (by omega) (fun hp=>by have:=hP b hp; omega) (by omega)
    exact ⟨by omega,fun b hb=>(kk b (by omega)).trans (f1 b hb),(kk _ (by omega)).trans f2,(kk _ (by omega)).trans f3,(kk _ (by omega)).trans f4⟩
  · exact fun _ _ _ _ _ q _ _ _=>q
  · rintro i P h1 ⟨f0,f1,_⟩
    exact ⟨(f1 _ (by omega)).trans a2,(f1 _ (by omega)).trans a3,bk.kp ⟨by omega,fun b hb=>(f1 b (by omega)).trans (ak b hb)⟩⟩
  · rintro x us P h1 rfl
    unfold PtV
    simp only [List.zip_cons_cons,List.zip_nil_right,List.reverse_cons,List.reverse_nil,List.nil_append,List.cons_append,okFr_cons,okFr_nil,okV_eq,isLoc_ptr,isLoc_func,Bool.not_false,if_true,cellsU,List.take_succ_cons,List.take_zero,List.getD_cons_succ,List.getD_cons_zero]
    (refine W_x trivial ?_; (repeat' first | apply Cj.mk | exact Nl.nl) <;> intros)
    exact ⟨rfl,rfl,rfl,rfl⟩
  · exact ⟨Nat.le_refl _,fun _ _=>rfl,a4,a5,a6⟩
  · rw [n0]
    rintro i hi us P h1 o ⟨f0,f1,f2,f3,f4⟩ rfl hP hlt ho
    have hil:i < (spots s.data.toList).length:=by rw [← pcs_len T]; exact hi
    have hpt:=pcs_take (T:=T) hil
    have hlp:=lastP_lt hil
    have hl:=mapC_len hb (fold_ok hb) (spots s.data.toList)[i].1
    have hls:lastP s.data.toList (i + 1) = (posn s.data.toList i:Nat):=by unfold lastP; rw [if_neg (by omega),Nat.add_sub_cancel]
    have b2:=hbd (i + 1)
    have hp0:i = 0→posn s.data.toList i = 0:=fun e=>by rw [e,posn_zero]
    have hpl:=(posn_lt hil).1
    rw [hpt,encs_append] at b2
    rw [hpt,encs_append,hls,← bs_appJ]
    rw [List.length_append] at b2
    rw [pcs_get hi]
    generalize (spots s.data.toList)[i] = x at *
    unfold PtV
    simp only [cellsU,List.take_succ_cons,List.take_zero,List.getD_cons_succ,List.getD_cons_zero]
    have hto:encs (mapC T.folds x.1)≠[]:=fun e=>by
      cases hc:mapC T.folds x.1 with
      | nil=>rw [hc] at hl; simp at hl
      | cons c r =>
        rw [hc,encs_cons] at e
        have:=encN_len c
        have h2:=(List.append_eq_nil_iff.1 e).1
        rw [h2] at this
        simp at this
    have hadd:=str_addR (x:=bs (encs (mapF T.folds ((runesB s.data.toList).take i)))) (y:=bs (encs (mapC T.folds x.1))) (by rw [bs_size,bs_size]; omega)
    have hne : ¬ bs (encs (mapC T.folds x.1)) = (⟨#[]⟩:ByteArray):=fun e=>hto ((bs_nil_iff _).1 e)
    have hne2:=decide_eq_false hne
    generalize bs (encs (mapF T.folds ((runesB s.data.toList).take i))) = X at *
    generalize bs (encs (mapC T.folds x.1)) = Y at *
    generalize lastP s.data.toList i = lp at *
    generalize posn s.data.toList i = pi at *
    have g1:=AH.get_lt f2
    have lo:=AH.get_lt ho
    have hset:∀ (a b c:AObj) (h2:AH),h2 = ((h1.set (h.n + 6) a).set (h.n + 5) b).set (h.n + 4) c→h2.get (h.n + 7) = some o∧h1.n≤h2.n∧(∀ b,P b→h2.get b = h1.get b)∧(h.n + 7≤h2.n∧(∀ b,b < h.n + 4→h2.get b = H0.get b)∧h2.get (h.n + 4) = some c∧h2.get (h.n + 5) = some b∧h2.get (h.n + 6) = some a):=by
      rintro a b c h2 rfl
      refine ⟨by rw [AH.get_set_ne _ (by omega),AH.get_set_ne _ (by omega),AH.get_set_ne _ (by omega)]; exact ho,Nat.le_refl _,fun d hd=>?_,f0,fun d hd=>?_,AH.get_set_same _ g1, ?_, ?_⟩
      · have:=hP d hd
        rw [AH.get_set_ne _ (by omega),AH.get_set_ne _ (by omega),AH.get_set_ne _ (by omega)]
      · rw [AH.get_set_ne _ (by omega),AH.get_set_ne _ (by omega),AH.get_set_ne _ (by omega)]
        exact f1 d hd
      · rw [AH.get_set_ne _ (by omega)]
        exact AH.get_set_same _ (by rw [AH.set_n]; omega)
      · rw [AH.get_set_ne _ (by omega),AH.get_set_ne _ (by omega)]
        exact AH.get_set_same _ (by omega)
    by_cases hi0:i = 0
    · have hp1:=hp0 hi0
      subst hp1
      subst hi0
      (refine W_x (Aj f2 (Aj f3 (Aj f4 (Aj hne (Aj hne2 hadd))))) ?_; (repeat' first | apply Cj.mk | exact Nl.nl) <;> intros)
      exact hset _ _ _ _ rfl
    · (refine W_x (Aj f2 (Aj f3 (Aj f4 (Aj hne (Aj hne2 (Aj hadd hi0)))))) ?_; (repeat' first | apply Cj.mk | exact Nl.nl) <;> intros)
      exact hset _ _ _ _ rfl
  · rintro P h1 ⟨f0,f1,f2,f3,f4⟩ hP hlt
    have hall:(mapF T.folds ((runesB s.data.toList).take (pcs T s.data.toList).length)) = mapF T.folds (runesB s.data.toList):=by
      rw [pcs_len,← runesB_len,List.take_length]
    rw [hall] at f2
    rw [pcs_len] at f3
    have c1:=fun h=>utfCount_eq s (by omega) h
    have g0:=(f1 h.n (by omega)).trans a0
    have g1:=(f1 (h.n + 1) (by omega)).trans a1
    have l1:=AH.get_lt g1
    (refine W_y (Aj f2 (Aj f3 (Aj c1 (Aj g0 g1)))) ?_; (repeat' first | apply Cj.mk | exact Nl.nl) <;> intros)
    refine ⟨rfl,by rw [AH.set_n,AH.set_n]; omega,fun b hb=>?_⟩
    rw [AH.get_set_ne _ (by omega),AH.get_set_ne _ (by omega),f1 b (by omega)]
    exact ak b hb
  · exact fun _ _ _ _ q=>q.elim
theorem foldJoins_run {h:AH} (u:U8T h) (hg:2≤h.n) {S:TS} {T:Tab} (t:TabAt h S T) (x:ByteArray) (hx:x.size≤1048576) (y:ByteArray) (hy:y.size≤1048576) :
    WpC PX 5 [.agg S.vs.toArray,.string x,.string y] h fun v _=>v = .bool true:=by
  obtain ⟨_,g1,e1,k1,q⟩:=of_spec t u hg
  by_cases hb:goodB T = true
  · rw [if_pos hb] at q
    obtain ⟨k,B,S1,rfl,bk,_,_⟩:=q
    have f1:=few12J_eq x hx (m:=800) 800 rfl (by decide) g1
    have f2:=few12J_eq y hy (m:=800) 800 rfl (by decide) g1
    have z1:=few_le x 800
    have z2:=few_le y 800
    generalize fewB x 800 = a at f1 z1
    generalize fewB y 800 = c at f2 z2
    have y1:a.data.toList.length = a.size:=rfl
    have y2:c.data.toList.length = c.size:=rfl
    have w1:=fold_size hb a.data.toList
    have w2:=fold_size hb c.data.toList
    have hac:(a ++ c).size = a.size + c.size:=by rw [ba_size,ba_appR,List.length_append]; rfl
    obtain ⟨_,g2,e2,rfl,k2⟩:=joined_spec hb bk.bk a (by omega)
    obtain ⟨_,g3,e3,rfl,k3⟩:=foldFold_spec hb (bk.kp k2).bk a (by omega)
    obtain ⟨_,g4,e4,b,rfl,hj,k4⟩:=ref1Joins_spec a c (by omega) (by omega) g3
    have bk4:=((bk.kp k2).kp k3).kp k4
    have k14:=k1.trans (k2.trans (k3.trans k4))
    have hadd:=str_addR (x:=a) (y:=c) (by omega)
    unfold TS.vs at *
    cases b with
    | false =>
      obtain ⟨_,g8,e9,rfl,k8⟩:=known12_spec (u.kp k14) (Nat.le_trans hg k14.1)
      generalize bs (foldB T a.data.toList) = X at *
      refine wpc_fn (px_ext rfl) (px_fn fn_guiselaw12_FoldJoins) rfl ?_
      unfold LF_guiselaw12_FoldJoins
      simp only [argFr]
      (refine W_x (Aj e1 (Aj f1 (Aj f2 (Aj e2 (Aj e3 (Aj e4 e9)))))) ?_; (repeat' first | apply Cj.mk | exact Nl.nl) <;> intros)
      rfl
    | true =>
      have hsp:=hj rfl
      obtain ⟨_,g5,e5,rfl,k5⟩:=foldFold_spec hb bk4.bk (a ++ c) (by omega)
      obtain ⟨_,g6,e6,rfl,k6⟩:=foldFold_spec hb (bk4.kp k5).bk a (by omega)
      obtain ⟨_,g7,e7,rfl,k7⟩:=foldFold_spec hb ((bk4.kp k5).kp k6).bk c (by omega)
      have kk:=k14.trans (k5.trans (k6.trans k7))
      obtain ⟨_,g8,e9,rfl,k8⟩:=known12_spec (u.kp kk) (Nat.le_trans hg kk.1)
      have hs1:foldB T (a.data.toList ++ c.data.toList) = foldB T a.data.toList ++ foldB T c.data.toList:=by
        unfold foldB runesB
        rw [hsp,List.map_append,mapF_append,encs_append]
      have hadd2:=str_addR (x:=bs (foldB T a.data.toList)) (y:=bs (foldB T c.data.toList)) (by rw [bs_size,bs_size]; omega)
      rw [ba_appR,hs1,← bs_appJ] at e5
      generalize bs (foldB T a.data.toList) = X at *
      generalize bs (foldB T c.data.toList) = Y at *
      refine wpc_fn (px_ext rfl) (px_fn fn_guiselaw12_FoldJoins) rfl ?_
      unfold LF_guiselaw12_FoldJoins
      simp only [argFr]
      (refine W_x (Aj e1 (Aj f1 (Aj f2 (Aj e2 (Aj e3 (Aj e4 (Aj hadd (Aj e5 (Aj e6 (Aj e7 (Aj hadd2 e9))))))))))) ?_; (repeat' first | apply Cj.mk | exact Nl.nl) <;> intros)
      rfl
  · rw [if_neg hb] at q
    subst q
    obtain ⟨_,g4,e7,rfl,k4⟩:=known12_spec (u.kp k1) (Nat.le_trans hg k1.1)
    unfold TS.vs at *
    refine wpc_fn (px_ext rfl) (px_fn fn_guiselaw12_FoldJoins) rfl ?_
    unfold LF_guiselaw12_FoldJoins
    simp only [argFr]
    (refine W_x (Aj e1 e7) ?_; (repeat' first | apply Cj.mk | exact Nl.nl) <;> intros)
    rfl
end Go.Proofs.YtakmapoompffgaaGreatDoor.AM
