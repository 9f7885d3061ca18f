/- Parts of proofs: lemmas, joined. -/
import Derived.Test.YtakmapoompffgaaGreatDoorP75af99f6
import Derived.ProofKit
import Derived.Deep.SlicePairs
import Derived.SizedLaws
set_option linter.unusedVariables false
set_option linter.unusedSimpArgs false
set_option linter.unusedSectionVars false
namespace Go.Proofs.YtakmapoompffgaaGreatDoor.AM
open Go Go.RowKit
theorem calls_of_run {P:Program} (hm:P.follows .mixedOrders = true) {p:Prg} {w:World} (hp:PrgOk P w.heap.size p) {k:Nat} {f:FuncId} {args:List Value} {h:AH} {b:Bool}
    (hx:((runN p k).1 f args h).map (·.1) = some (.bool b)) {ρ:Rho} {argsC:Array Value} (hh:HRel P w.heap.size ρ h w) (ha:VRels ρ args argsC.toList) (hro:∀ b o,h.get b = some o→o.ro = true) :
    Calls P f argsC w fun e w'=>e = .returned (.bool b)∧Below w.heap.size w w':=by
  obtain ⟨⟨v,h'⟩,h1,h2⟩:=Option.map_eq_some_iff.1 hx
  simp only at h2
  subst h2
  refine ((callsIn_wide (n:=0)).1 (run_sound hm hp h1 (Nat.le_refl _) hh ha 0)).mono fun e w' he=>?_
  obtain ⟨u, ρ',rfl,g1,g2,g3⟩:=he
  cases g3
  refine ⟨rfl,g2.os,g2.tape,g2.output,g2.size,fun c hc=>g2.keep c hc fun ⟨b1,o, δ,N,k1,k2,_⟩=>?_⟩
  rw [hro b1 o k1] at k2
  cases k2
theorem autoPrg_ok (P:Program) (B:Nat):PrgOk P B (autoPrg P) where
  fn:=fun f lf h=>by
    obtain ⟨⟨hs,lf'⟩,h1,h2⟩:=Option.map_eq_some_iff.1 h
    simp only at h2
    subst h2
    unfold autoLift at h1
    split at h1
    · rename_i fn hf
      obtain ⟨l,h3,h4⟩:=Option.map_eq_some_iff.1 h1
      injection h4 with h4 h5
      subst h4 h5
      exact ⟨fn,_,hf,h3⟩
    · cases h1
  ext:=fun f g h=>by cases h
end Go.Proofs.YtakmapoompffgaaGreatDoor.AM
namespace Go.Proofs.YtakmapoompffgaaGreatDoor.AM
open Go
def LeC (c c':CallF):Prop:=∀ f args h r,c f args h = some r→c' f args h = some r
def LeF (f f':CodeF):Prop:=∀ fr m r,f fr m = some r→f' fr m = some r
theorem LeF.refl (f:CodeF):LeF f f:=fun _ _ _ h=>h
section
variable {call call':CallF} {yld yld':YieldF}
theorem EOp.ev_mono (hc:LeC call call') (hy:LeC yld yld') {o:EOp} {fr:Fr} {m:Mem} {r:Value × Mem} (h:o.ev call yld fr m = some r):o.ev call' yld' fr m = some r:=by
  cases o
  case call f xs =>
    simp only [EOp.ev] at h ⊢
    split at h
    · rename_i hk
      obtain ⟨x,h1,h2⟩:=Option.map_eq_some_iff.1 h
      rw [if_pos hk,hc _ _ _ _ h1,Option.map_some,h2]
    · cases h
  case callv f xs =>
    simp only [EOp.ev] at h ⊢
    split at h
    · rename_i hk
      rw [if_pos hk]
      split at h
      · rename_i g a b e
        obtain ⟨x,h1,h2⟩:=Option.map_eq_some_iff.1 h
        try simp only [e]
        rw [hc _ _ _ _ h1,Option.map_some,h2]
      · rename_i l a b e
        try simp only [e]
        split at h
        · rename_i hs
          obtain ⟨x,h1,h2⟩:=Option.map_eq_some_iff.1 h
          rw [if_pos hs,hy _ _ _ _ h1,Option.map_some,h2]
        · cases h
      · cases h
    · cases h
  all_goals exact h
theorem LInstr.step_mono (hc:LeC call call') (hy:LeC yld yld') {i:LInstr} {fr:Fr} {m:Mem} {r:Value × Mem} (h:i.step call yld fr m = some r):i.step call' yld' fr m = some r:=by
  unfold LInstr.step at h ⊢
  split at h
  · rename_i hw
    unfold LInstr.ev at h ⊢
    cases hop:i.op with
    | p o=>rw [hop] at h; exact h
    | r o=>rw [hop] at h; exact h
    | e o=>rw [hop] at h; exact EOp.ev_mono hc hy h
  · exact h
  · cases h
theorem runOps_mono (hc:LeC call call') (hy:LeC yld yld'):∀ {ops:List LInstr} {fr:Fr} {m:Mem} {r:Fr × Mem},runOps call yld ops fr m = some r →
    runOps call' yld' ops fr m = some r∧trace call' yld' ops fr m = trace call yld ops fr m
  | [],fr,m,r,h=>⟨h,rfl⟩
  | i :: l,fr,m,r,h=>by
    simp only [runOps] at h ⊢
    cases hs:i.step call yld fr m with
    | none=>rw [hs] at h; cases h
    | some t =>
      obtain ⟨v,m'⟩:=t
      rw [hs] at h
      have hs':=LInstr.step_mono hc hy hs
      obtain ⟨h1,h2⟩:=runOps_mono hc hy h
      rw [hs']
      exact ⟨h1,by simp only [trace,hs,hs',h2]⟩
theorem runRegion_mono (hc:LeC call call') (hy:LeC yld yld') (ops:List LInstr) (keep:List Nat) (chk:List (Nat × Nat)):LeF (runRegion call yld ops keep chk) (runRegion call' yld' ops keep chk):=by
  intro fr m r h
  unfold runRegion at h ⊢
  cases hs:runOps call yld ops fr m with
  | none=>rw [hs] at h; cases h
  | some t =>
    obtain ⟨fr',m'⟩:=t
    rw [hs] at h
    obtain ⟨h1,h2⟩:=runOps_mono hc hy hs
    rw [h1,h2]
    exact h
theorem runRange_mono (hc:LeC call call') (f:Value) (ps:List Nat) (asg body:LCode):LeF (runRange call f ps asg body) (runRange call' f ps asg body):=by
  intro fr m r h
  unfold runRange at h ⊢
  split at h
  · rename_i g first captured
    try simp only
    split at h
    · rename_i v h' hcall
      rw [hc _ _ _ _ hcall]
      exact h
    · cases h
  · cases h
theorem loopN_mono:∀ {k k':Nat} {f f':CodeF},k≤k'→LeF f f'→LeF (loopN k f) (loopN k' f')
  | 0,_,_,_,_,_=>fun fr m r h=>by simp only [loopN] at h; cases h
  | k + 1,0,_,_,hk,_=>by omega
  | k + 1,k' + 1,f,f',hk,hf=>fun fr m r h=>by
    simp only [loopN] at h ⊢
    cases hs:f fr m with
    | none=>rw [hs] at h; cases h
    | some t =>
      obtain ⟨ex,fr',m'⟩:=t
      rw [hs] at h
      rw [hf _ _ _ hs]
      cases ex with
      | norm=>exact loopN_mono (by omega) hf _ _ _ h
      | exit i=>exact h
      | ret=>exact h
theorem execC_mono (hc:LeC call call') (hy:LeC yld yld') {k k':Nat} (hk:k≤k'):∀ c:LCode,LeF (execC call yld k c) (execC call' yld' k' c)
  | .skip=>fun fr m r h=>h
  | .region ops keep chk=>runRegion_mono hc hy ops keep chk
  | .seq a b=>fun fr m r h=>by
    simp only [execC] at h ⊢
    cases hs:execC call yld k a fr m with
    | none=>rw [hs] at h; cases h
    | some t =>
      obtain ⟨ex,fr',m'⟩:=t
      rw [hs] at h
      rw [execC_mono hc hy hk a _ _ _ hs]
      cases ex with
      | norm=>exact execC_mono hc hy hk b _ _ _ h
      | exit i=>exact h
      | ret=>exact h
  | .cond c a b=>fun fr m r h=>by
    simp only [execC] at h ⊢
    split at h
    · rename_i t ht
      cases t with
      | true=>exact execC_mono hc hy hk a _ _ _ h
      | false=>exact execC_mono hc hy hk b _ _ _ h
    · cases h
  | .block id a=>fun fr m r h=>by
    simp only [execC] at h ⊢
    cases hs:execC call yld k a fr m with
    | none=>rw [hs] at h; cases h
    | some t =>
      rw [hs] at h
      rw [execC_mono hc hy hk a _ _ _ hs]
      exact h
  | .loop a=>loopN_mono hk (execC_mono hc hy hk a)
  | .exit id=>fun fr m r h=>h
  | .ret=>fun fr m r h=>h
  | .rangeF f ps asg body=>fun fr m r h=>runRange_mono hc _ ps asg body _ _ _ h
  | .bad=>fun fr m r h=>h
theorem callBody_mono (hc:LeC call call') (hy:LeC yld yld') {k k':Nat} (hk:k≤k') (lf:LFunc) {args:List Value} {h:AH} {r:Value × AH} (hr:callBody call yld k lf args h = some r):callBody call' yld' k' lf args h = some r:=by
  unfold callBody at hr ⊢
  split at hr
  · rename_i hl
    rw [if_pos hl]
    cases hs:execC call yld k lf.body (argFr 0 args) { lc:=[],h } with
    | none=>rw [hs] at hr; cases hr
    | some t =>
      rw [hs] at hr
      rw [execC_mono hc hy hk _ _ _ _ hs]
      exact hr
  · cases hr
theorem yieldBody_mono (hc:LeC call call') (hy:LeC yld yld') {k k':Nat} (hk:k≤k'):LeC (yieldBody call yld k) (yieldBody call' yld' k'):=by
  intro l args h r hr
  unfold yieldBody at hr ⊢
  split at hr
  · rename_i rc hget
    try simp only
    split at hr
    · rename_i hl
      rw [if_pos hl]
      cases hs:execC call yld k rc.assign ((rc.params.zip args).reverse ++ rc.fr) { lc:=[],h } with
      | none=>rw [hs] at hr; cases hr
      | some t =>
        obtain ⟨ex,fr1,m1⟩:=t
        rw [hs] at hr
        rw [execC_mono hc hy hk _ _ _ _ hs]
        cases ex with
        | norm =>
          simp only at hr ⊢
          split at hr
          · rename_i r1 hget1
            split at hr
            · rename_i hst
              try simp only [hst]
              cases hs2:execC call yld k rc.body fr1 { m1 with h:=m1.h.set l (.loop { r1 with state:=.busy }) } with
              | none=>rw [hs2] at hr; cases hr
              | some t2 =>
                rw [hs2] at hr
                rw [execC_mono hc hy hk _ _ _ _ hs2]
                exact hr
            · cases hr
          · cases hr
        | exit i=>exact hr
        | ret=>exact hr
    · cases hr
  · cases hr
end
theorem runN_step (p:Prg):∀ k,LeC (runN p k).1 (runN p (k + 1)).1∧LeC (runN p k).2 (runN p (k + 1)).2
  | 0=>⟨(fun f args h r hr=>by cases hr),(fun f args h r hr=>by cases hr)⟩
  | k + 1=>by
    obtain ⟨h1,h2⟩:=runN_step p k
    refine ⟨fun f args h r hr=>?_,yieldBody_mono h1 h2 (by omega)⟩
    simp only [runN] at hr ⊢
    split at hr
    · exact hr
    · split at hr
      · exact callBody_mono h1 h2 (by omega) _ hr
      · cases hr
theorem runN_mono (p:Prg) {k k':Nat} (hk:k≤k'):LeC (runN p k).1 (runN p k').1∧LeC (runN p k).2 (runN p k').2:=by
  induction hk with
  | refl=>exact ⟨fun _ _ _ _ h=>h,fun _ _ _ _ h=>h⟩
  | step _ ih=>exact ⟨fun f args h r hr=>(runN_step p _).1 _ _ _ _ (ih.1 _ _ _ _ hr),fun f args h r hr=>(runN_step p _).2 _ _ _ _ (ih.2 _ _ _ _ hr)⟩
open Classical in
noncomputable def lim {α:Type} (f:Nat→Option α):Option α:=if h:∃ r k,f k = some r then some (Classical.choose h) else none
def Rising {α:Type} (f:Nat→Option α):Prop:=∀ k k' r,k≤k'→f k = some r→f k' = some r
theorem lim_iff {α:Type} {f:Nat→Option α} (hf:Rising f) {r:α}:lim f = some r↔∃ k,f k = some r:=by
  unfold lim
  constructor
  · intro h
    split at h
    · rename_i he
      injection h with h
      subst h
      exact Classical.choose_spec he
    · cases h
  · rintro ⟨k,hk⟩
    have he:∃ r k,f k = some r:=⟨r,k,hk⟩
    rw [dif_pos he]
    obtain ⟨k',hk'⟩:=Classical.choose_spec he
    have h1:=hf _ _ _ (Nat.le_max_left k k') hk
    have h2:=hf _ _ _ (Nat.le_max_right k k') hk'
    rw [h1] at h2
    injection h2 with h2
    rw [← h2]
noncomputable def callO (p:Prg):CallF:=fun f args h=>lim fun k=>(runN p k).1 f args h
noncomputable def yieldO (p:Prg):YieldF:=fun l args h=>lim fun k=>(runN p k).2 l args h
noncomputable def execO (p:Prg) (c:LCode):CodeF:=fun fr m=>lim fun k=>execC (runN p k).1 (runN p k).2 k c fr m
theorem call_rising (p:Prg) (f:FuncId) (args:List Value) (h:AH):Rising fun k=>(runN p k).1 f args h:=fun k k' r hk hr=>(runN_mono p hk).1 _ _ _ _ hr
theorem yield_rising (p:Prg) (l:Nat) (args:List Value) (h:AH):Rising fun k=>(runN p k).2 l args h:=fun k k' r hk hr=>(runN_mono p hk).2 _ _ _ _ hr
theorem exec_rising (p:Prg) (c:LCode) (fr:Fr) (m:Mem):Rising fun k=>execC (runN p k).1 (runN p k).2 k c fr m:=fun k k' r hk hr=>execC_mono (runN_mono p hk).1 (runN_mono p hk).2 hk c _ _ _ hr
theorem callO_iff {p:Prg} {f:FuncId} {args:List Value} {h:AH} {r:Value × AH}:callO p f args h = some r↔∃ k,(runN p k).1 f args h = some r:=lim_iff (call_rising p f args h)
theorem yieldO_iff {p:Prg} {l:Nat} {args:List Value} {h:AH} {r:Value × AH}:yieldO p l args h = some r↔∃ k,(runN p k).2 l args h = some r:=lim_iff (yield_rising p l args h)
theorem execO_iff {p:Prg} {c:LCode} {fr:Fr} {m:Mem} {r:Ex × Fr × Mem}:execO p c fr m = some r↔∃ k,execC (runN p k).1 (runN p k).2 k c fr m = some r:=lim_iff (exec_rising p c fr m)
theorem le_callO (p:Prg) (k:Nat):LeC (runN p k).1 (callO p):=fun f args h r hr=>callO_iff.2 ⟨k,hr⟩
theorem le_yieldO (p:Prg) (k:Nat):LeC (runN p k).2 (yieldO p):=fun f args h r hr=>yieldO_iff.2 ⟨k,hr⟩
theorem ev_fin {p:Prg} {o:EOp} {fr:Fr} {m:Mem} {r:Value × Mem} (h:o.ev (callO p) (yieldO p) fr m = some r):∃ k,o.ev (runN p k).1 (runN p k).2 fr m = some r:=by
  cases o
  case call f xs =>
    simp only [EOp.ev] at h ⊢
    split at h
    · rename_i hk
      obtain ⟨x,h1,h2⟩:=Option.map_eq_some_iff.1 h
      obtain ⟨k,hk1⟩:=callO_iff.1 h1
      exact ⟨k,by rw [if_pos hk,hk1,Option.map_some,h2]⟩
    · cases h
  case callv f xs =>
    simp only [EOp.ev] at h ⊢
    split at h
    · rename_i hk
      split at h
      · rename_i g a b e
        obtain ⟨x,h1,h2⟩:=Option.map_eq_some_iff.1 h
        obtain ⟨k,hk1⟩:=callO_iff.1 h1
        exact ⟨k,by rw [if_pos hk]; (try simp only [e]); rw [hk1,Option.map_some,h2]⟩
      · rename_i l a b e
        split at h
        · rename_i hs
          obtain ⟨x,h1,h2⟩:=Option.map_eq_some_iff.1 h
          obtain ⟨k,hk1⟩:=yieldO_iff.1 h1
          exact ⟨k,by rw [if_pos hk]; (try simp only [e]); rw [if_pos hs,hk1,Option.map_some,h2]⟩
        · cases h
      · cases h
    · cases h
  all_goals exact ⟨0,h⟩
theorem step_fin {p:Prg} {i:LInstr} {fr:Fr} {m:Mem} {r:Value × Mem} (h:i.step (callO p) (yieldO p) fr m = some r):∃ k,i.step (runN p k).1 (runN p k).2 fr m = some r:=by
  unfold LInstr.step at h ⊢
  split at h
  · rename_i hw
    unfold LInstr.ev at h ⊢
    cases hop:i.op with
    | p o=>rw [hop] at h; exact ⟨0,h⟩
    | r o=>rw [hop] at h; exact ⟨0,h⟩
    | e o=>rw [hop] at h; exact ev_fin h
  · exact ⟨0,h⟩
  · cases h
theorem ops_fin {p:Prg}:∀ {ops:List LInstr} {fr:Fr} {m:Mem} {r:Fr × Mem},runOps (callO p) (yieldO p) ops fr m = some r→∃ k,runOps (runN p k).1 (runN p k).2 ops fr m = some r
  | [],fr,m,r,h=>⟨0,h⟩
  | i :: l,fr,m,r,h=>by
    simp only [runOps] at h
    cases hs:i.step (callO p) (yieldO p) fr m with
    | none=>rw [hs] at h; cases h
    | some t =>
      obtain ⟨v,m'⟩:=t
      rw [hs] at h
      obtain ⟨k1,h1⟩:=step_fin hs
      obtain ⟨k2,h2⟩:=ops_fin h
      refine ⟨max k1 k2, ?_⟩
      have l1:=runN_mono p (Nat.le_max_left k1 k2)
      have l2:=runN_mono p (Nat.le_max_right k1 k2)
      simp only [runOps,LInstr.step_mono l1.1 l1.2 h1]
      exact (runOps_mono l2.1 l2.2 h2).1
theorem region_fin {p:Prg} {ops:List LInstr} {keep:List Nat} {chk:List (Nat × Nat)} {fr:Fr} {m:Mem} {r:Ex × Fr × Mem} (h:runRegion (callO p) (yieldO p) ops keep chk fr m = some r) :
    ∃ k,runRegion (runN p k).1 (runN p k).2 ops keep chk fr m = some r:=by
  unfold runRegion at h ⊢
  cases hs:runOps (callO p) (yieldO p) ops fr m with
  | none=>rw [hs] at h; cases h
  | some t =>
    rw [hs] at h
    obtain ⟨k,hk⟩:=ops_fin hs
    refine ⟨k, ?_⟩
    have:=(runOps_mono (le_callO p k) (le_yieldO p k) hk).2
    rw [this] at h
    rw [hk]
    exact h
theorem range_fin {p:Prg} {f:Value} {ps:List Nat} {asg body:LCode} {fr:Fr} {m:Mem} {r:Ex × Fr × Mem} (h:runRange (callO p) f ps asg body fr m = some r) :
    ∃ k,runRange (runN p k).1 f ps asg body fr m = some r:=by
  unfold runRange at h ⊢
  split at h
  · rename_i g first captured
    try simp only
    split at h
    · rename_i v h' hcall
      obtain ⟨k,hk⟩:=callO_iff.1 hcall
      exact ⟨k,by rw [hk]; exact h⟩
    · cases h
  · cases h
theorem opt_ext {α:Type} {x y:Option α} (h:∀ r,x = some r↔y = some r):x = y:=by
  cases hx:x with
  | none =>
    cases hy:y with
    | none=>rfl
    | some r=>have:=(h r).2 hy; rw [hx] at this; cases this
  | some r=>exact ((h r).1 hx).symm
variable {p:Prg}
theorem execO_skip {fr:Fr} {m:Mem}:execO p .skip fr m = some (.norm,fr,m):=execO_iff.2 ⟨0,rfl⟩
theorem execO_exit {id:Nat} {fr:Fr} {m:Mem}:execO p (.exit id) fr m = some (.exit id,fr,m):=execO_iff.2 ⟨0,rfl⟩
theorem execO_ret {fr:Fr} {m:Mem}:execO p .ret fr m = some (.ret,fr,m):=execO_iff.2 ⟨0,rfl⟩
theorem execO_region {ops:List LInstr} {keep:List Nat} {chk:List (Nat × Nat)} {fr:Fr} {m:Mem}:execO p (.region ops keep chk) fr m = runRegion (callO p) (yieldO p) ops keep chk fr m :=
  opt_ext fun r=>execO_iff.trans ⟨fun ⟨k,hk⟩=>runRegion_mono (le_callO p k) (le_yieldO p k) _ _ _ _ _ _ hk,fun h=>region_fin h⟩
theorem execO_rangeF {f:Opd} {ps:List Nat} {asg body:LCode} {fr:Fr} {m:Mem}:execO p (.rangeF f ps asg body) fr m = runRange (callO p) (opd fr f) ps asg body fr m :=
  opt_ext fun r=>execO_iff.trans ⟨fun ⟨k,hk⟩=>runRange_mono (le_callO p k) _ _ _ _ _ _ _ hk,fun h=>range_fin h⟩
theorem execO_cond {c:Opd} {a b:LCode} {fr:Fr} {m:Mem} {t:Bool} (h:opd fr c = .bool t):execO p (.cond c a b) fr m = if t = true then execO p a fr m else execO p b fr m :=
  opt_ext fun r=>execO_iff.trans (by
    simp only [execC,h]
    cases t
    · simpa using execO_iff.symm
    · simpa using execO_iff.symm)
def andThen (x:Option (Ex × Fr × Mem)) (f:CodeF):Option (Ex × Fr × Mem) :=
  match x with
  | some (.norm,fr,m)=>f fr m
  | r=>r
theorem andThen_norm {fr:Fr} {m:Mem} {f:CodeF}:andThen (some (.norm,fr,m)) f = f fr m:=rfl
theorem andThen_exit {i:Nat} {fr:Fr} {m:Mem} {f:CodeF}:andThen (some (.exit i,fr,m)) f = some (.exit i,fr,m):=rfl
theorem andThen_ret {fr:Fr} {m:Mem} {f:CodeF}:andThen (some (.ret,fr,m)) f = some (.ret,fr,m):=rfl
theorem andThen_iff {x:Option (Ex × Fr × Mem)} {f:CodeF} {r:Ex × Fr × Mem}:andThen x f = some r↔∃ t,x = some t∧andThen (some t) f = some r:=by
  cases x with
  | none=>exact ⟨(fun h=>by cases h),(fun ⟨t,h,_⟩=>by cases h)⟩
  | some t=>exact ⟨fun h=>⟨t,rfl,h⟩,(fun ⟨t',h,h'⟩=>by injection h with h; subst h; exact h')⟩
theorem execO_seq {a b:LCode} {fr:Fr} {m:Mem}:execO p (.seq a b) fr m = andThen (execO p a fr m) (execO p b) :=
  opt_ext fun r=>execO_iff.trans (by
    rw [andThen_iff]
    constructor
    · rintro ⟨k,hk⟩
      simp only [execC] at hk
      cases hs:execC (runN p k).1 (runN p k).2 k a fr m with
      | none=>rw [hs] at hk; cases hk
      | some t =>
        rw [hs] at hk
        refine ⟨t,execO_iff.2 ⟨k,hs⟩, ?_⟩
        obtain ⟨ex,fr',m'⟩:=t
        cases ex with
        | norm=>exact execO_iff.2 ⟨k,hk⟩
        | exit i=>exact hk
        | ret=>exact hk
    · rintro ⟨t,h1,h2⟩
      obtain ⟨k1,hk1⟩:=execO_iff.1 h1
      obtain ⟨ex,fr',m'⟩:=t
      cases ex with
      | norm =>
        obtain ⟨k2,hk2⟩:=execO_iff.1 h2
        refine ⟨max k1 k2, ?_⟩
        simp only [execC,exec_rising p a fr m k1 _ _ (Nat.le_max_left k1 k2) hk1]
        exact exec_rising p b fr' m' k2 _ _ (Nat.le_max_right k1 k2) hk2
      | exit i=>exact ⟨k1,by simp only [execC,hk1]; exact h2⟩
      | ret=>exact ⟨k1,by simp only [execC,hk1]; exact h2⟩)
theorem execO_loop {a:LCode} {fr:Fr} {m:Mem}:execO p (.loop a) fr m = andThen (execO p a fr m) (execO p (.loop a)) :=
  opt_ext fun r=>execO_iff.trans (by
    rw [andThen_iff]
    constructor
    · rintro ⟨k,hk⟩
      simp only [execC] at hk
      cases k with
      | zero=>simp only [loopN] at hk; cases hk
      | succ j =>
        simp only [loopN] at hk
        cases hs:execC (runN p (j + 1)).1 (runN p (j + 1)).2 (j + 1) a fr m with
        | none=>rw [hs] at hk; cases hk
        | some t =>
          rw [hs] at hk
          refine ⟨t,execO_iff.2 ⟨j + 1,hs⟩, ?_⟩
          obtain ⟨ex,fr',m'⟩:=t
          cases ex with
          | norm=>exact execO_iff.2 ⟨j + 1,loopN_mono (by omega) (LeF.refl _) _ _ _ hk⟩
          | exit i=>exact hk
          | ret=>exact hk
    · rintro ⟨t,h1,h2⟩
      obtain ⟨k1,hk1⟩:=execO_iff.1 h1
      obtain ⟨ex,fr',m'⟩:=t
      cases ex with
      | norm =>
        obtain ⟨k2,hk2⟩:=execO_iff.1 h2
        refine ⟨max k1 k2 + 1, ?_⟩
        simp only [execC,loopN,exec_rising p a fr m k1 _ _ (show k1≤max k1 k2 + 1 by omega) hk1]
        have hmono:=runN_mono p (show k2≤max k1 k2 + 1 by omega)
        exact loopN_mono (by omega) (execC_mono hmono.1 hmono.2 (by omega) a) _ _ _ hk2
      | exit i=>exact ⟨k1 + 1,by simp only [execC,loopN,exec_rising p a fr m k1 _ _ (Nat.le_succ k1) hk1]; exact h2⟩
      | ret=>exact ⟨k1 + 1,by simp only [execC,loopN,exec_rising p a fr m k1 _ _ (Nat.le_succ k1) hk1]; exact h2⟩)
def catchEx (id:Nat) (x:Option (Ex × Fr × Mem)):Option (Ex × Fr × Mem) :=
  match x with
  | some (.exit i,fr,m)=>if i = id then some (.norm,fr,m) else some (.exit i,fr,m)
  | r=>r
theorem catchEx_norm {id:Nat} {fr:Fr} {m:Mem}:catchEx id (some (.norm,fr,m)) = some (.norm,fr,m):=rfl
theorem catchEx_ret {id:Nat} {fr:Fr} {m:Mem}:catchEx id (some (.ret,fr,m)) = some (.ret,fr,m):=rfl
theorem catchEx_exit {id i:Nat} {fr:Fr} {m:Mem}:catchEx id (some (.exit i,fr,m)) = if i = id then some (.norm,fr,m) else some (.exit i,fr,m):=rfl
theorem execO_block {id:Nat} {a:LCode} {fr:Fr} {m:Mem}:execO p (.block id a) fr m = catchEx id (execO p a fr m) :=
  opt_ext fun r=>execO_iff.trans (by
    have key:∀ k,execC (runN p k).1 (runN p k).2 k (.block id a) fr m = catchEx id (execC (runN p k).1 (runN p k).2 k a fr m):=fun k=>rfl
    simp only [key]
    constructor
    · rintro ⟨k,hk⟩
      cases hs:execC (runN p k).1 (runN p k).2 k a fr m with
      | none=>rw [hs] at hk; cases hk
      | some t=>rw [hs] at hk; rw [execO_iff.2 ⟨k,hs⟩]; exact hk
    · intro h
      cases hs:execO p a fr m with
      | none=>rw [hs] at h; cases h
      | some t =>
        rw [hs] at h
        obtain ⟨k,hk⟩:=execO_iff.1 hs
        exact ⟨k,by rw [hk]; exact h⟩)
def giveBack (rs:List LRes) (x:Option (Ex × Fr × Mem)):Option (Value × AH) :=
  match x with
  | some (.exit _,_,_)=>none
  | some (_,fr,m)=>(retV fr m rs).map fun v=>(v,m.h)
  | none=>none
theorem giveBack_norm {rs:List LRes} {fr:Fr} {m:Mem}:giveBack rs (some (.norm,fr,m)) = (retV fr m rs).map fun v=>(v,m.h):=rfl
theorem giveBack_ret {rs:List LRes} {fr:Fr} {m:Mem}:giveBack rs (some (.ret,fr,m)) = (retV fr m rs).map fun v=>(v,m.h):=rfl
theorem callO_ext {f:FuncId} {args:List Value} {h:AH} {g:List Value→AH→Option (Value × AH)} (hg:p.ext f = some g):callO p f args h = g args h :=
  opt_ext fun r=>callO_iff.trans ⟨(fun ⟨k,hk⟩=>by
    cases k with
    | zero=>cases hk
    | succ k=>simpa only [runN,hg] using hk),fun hr=>⟨1,by simpa only [runN,hg] using hr⟩⟩
theorem callO_fn {f:FuncId} {args:List Value} {h:AH} {lf:LFunc} (he:p.ext f = none) (hf:p.fn f = some lf) (hn:args.length = lf.nargs) :
    callO p f args h = giveBack lf.results (execO p lf.body (argFr 0 args) { lc:=[],h }) :=
  opt_ext fun r=>callO_iff.trans (by
    have key:∀ k,(runN p (k + 1)).1 f args h = giveBack lf.results (execC (runN p k).1 (runN p k).2 k lf.body (argFr 0 args) { lc:=[],h }):=fun k=>by
      simp only [runN,he,hf,callBody,hn,if_true]
      rfl
    constructor
    · rintro ⟨k,hk⟩
      cases k with
      | zero=>cases hk
      | succ k =>
        rw [key] at hk
        cases hs:execC (runN p k).1 (runN p k).2 k lf.body (argFr 0 args) { lc:=[],h } with
        | none=>rw [hs] at hk; cases hk
        | some t=>rw [hs] at hk; rw [execO_iff.2 ⟨k,hs⟩]; exact hk
    · intro hr
      cases hs:execO p lf.body (argFr 0 args) { lc:=[],h } with
      | none=>rw [hs] at hr; cases hr
      | some t =>
        rw [hs] at hr
        obtain ⟨k,hk⟩:=execO_iff.1 hs
        exact ⟨k + 1,by rw [key,hk]; exact hr⟩)
end Go.Proofs.YtakmapoompffgaaGreatDoor.AM
namespace Go.Proofs.YtakmapoompffgaaGreatDoor.AM
open Go
abbrev Lc:=List (Nat × AObj)
abbrev Post:=Ex→Fr→Lc→AH→Prop
structure Wp (p:Prg) (c:LCode) (fr:Fr) (lc:Lc) (h:AH) (Q:Post):Prop where
  out:∃ ex fr' lc' h',execO p c fr ⟨lc,h⟩ = some (ex,fr',⟨lc',h'⟩)∧Q ex fr' lc' h'
structure WpC (p:Prg) (f:FuncId) (args:List Value) (h:AH) (Q:Value→AH→Prop):Prop where
  out:∃ v h',callO p f args h = some (v,h')∧Q v h'
structure thenQ (p:Prg) (b:LCode) (Q:Post) (ex:Ex) (fr:Fr) (lc:Lc) (h:AH):Prop where
  out:match ex with
    | .norm=>Wp p b fr lc h Q
    | ex=>Q ex fr lc h
structure blockQ (id:Nat) (Q:Post) (ex:Ex) (fr:Fr) (lc:Lc) (h:AH):Prop where
  out:match ex with
    | .exit i=>if i = id then Q .norm fr lc h else Q (.exit i) fr lc h
    | ex=>Q ex fr lc h
structure loopQ (K:Fr→Lc→AH→Prop) (Q:Post) (ex:Ex) (fr:Fr) (lc:Lc) (h:AH):Prop where
  out:match ex with
    | .norm=>K fr lc h
    | ex=>Q ex fr lc h
structure retQ (rs:List LRes) (Q:Value→AH→Prop) (ex:Ex) (fr:Fr) (lc:Lc) (h:AH):Prop where
  out:match ex with
    | .exit _=>False
    | _ => ∃ v,retV fr ⟨lc,h⟩ rs = some v∧Q v h
variable {p:Prg} {fr:Fr} {lc:Lc} {h:AH} {Q:Post}
theorem wp_skip (hq:Q .norm fr lc h):Wp p .skip fr lc h Q:=⟨_,_,_,_,execO_skip,hq⟩
theorem wp_exit {id:Nat} (hq:Q (.exit id) fr lc h):Wp p (.exit id) fr lc h Q:=⟨_,_,_,_,execO_exit,hq⟩
theorem wp_ret (hq:Q .ret fr lc h):Wp p .ret fr lc h Q:=⟨_,_,_,_,execO_ret,hq⟩
theorem wp_seq {a b:LCode} (hq:Wp p a fr lc h (thenQ p b Q)):Wp p (.seq a b) fr lc h Q:=by
  obtain ⟨ex,fr',lc',h',h1,h2⟩:=hq
  cases ex with
  | norm =>
    obtain ⟨ex,fr2,lc2,h2',h3,h4⟩:=h2.out
    exact ⟨ex,fr2,lc2,h2',by rw [execO_seq,h1,andThen_norm,h3],h4⟩
  | exit i=>exact ⟨_,_,_,_,by rw [execO_seq,h1,andThen_exit],h2.out⟩
  | ret=>exact ⟨_,_,_,_,by rw [execO_seq,h1,andThen_ret],h2.out⟩
theorem wp_block {id:Nat} {a:LCode} (hq:Wp p a fr lc h (blockQ id Q)):Wp p (.block id a) fr lc h Q:=by
  obtain ⟨ex,fr',lc',h',h1,h2⟩:=hq
  cases ex with
  | norm=>exact ⟨_,_,_,_,by rw [execO_block,h1,catchEx_norm],h2.out⟩
  | exit i =>
    have h2:=h2.out
    simp only at h2
    by_cases hi:i = id
    · rw [if_pos hi] at h2
      exact ⟨_,_,_,_,by rw [execO_block,h1,catchEx_exit,if_pos hi],h2⟩
    · rw [if_neg hi] at h2
      exact ⟨_,_,_,_,by rw [execO_block,h1,catchEx_exit,if_neg hi],h2⟩
  | ret=>exact ⟨_,_,_,_,by rw [execO_block,h1,catchEx_ret],h2.out⟩
theorem wp_cond_t {c:Opd} {a b:LCode} (hc:opd fr c = .bool true) (hq:Wp p a fr lc h Q):Wp p (.cond c a b) fr lc h Q:=by
  obtain ⟨ex,fr',lc',h',h1,h2⟩:=hq
  exact ⟨_,_,_,_,by rw [execO_cond hc,if_pos rfl,h1],h2⟩
theorem wp_cond_f {c:Opd} {a b:LCode} (hc:opd fr c = .bool false) (hq:Wp p b fr lc h Q):Wp p (.cond c a b) fr lc h Q:=by
  obtain ⟨ex,fr',lc',h',h1,h2⟩:=hq
  exact ⟨_,_,_,_,by rw [execO_cond hc,if_neg (by decide),h1],h2⟩
theorem wp_mono {c:LCode} {Q':Post} (hq:Wp p c fr lc h Q) (hm:∀ ex fr lc h,Q ex fr lc h→Q' ex fr lc h):Wp p c fr lc h Q' :=
  let ⟨ex,fr',lc',h',h1,h2⟩:=hq
  ⟨ex,fr',lc',h',h1,hm _ _ _ _ h2⟩
theorem wp_loop {a:LCode} (I:Nat→Fr→Lc→AH→Prop) (n:Nat) (h0:I n fr lc h)
    (hs:∀ n fr lc h,I n fr lc h→Wp p a fr lc h (loopQ (fun fr lc h => ∃ n',n' < n∧I n' fr lc h) Q)):Wp p (.loop a) fr lc h Q:=by
  induction n using Nat.strongRecOn generalizing fr lc h with
  | ind n ih =>
    obtain ⟨ex,fr',lc',h',h1,h2⟩:=hs n fr lc h h0
    cases ex with
    | norm =>
      obtain ⟨n',hn,hI⟩:=h2.out
      obtain ⟨ex,fr2,lc2,h2',h3,h4⟩:=ih n' hn hI
      exact ⟨_,_,_,_,by rw [execO_loop,h1,andThen_norm,h3],h4⟩
    | exit i=>exact ⟨_,_,_,_,by rw [execO_loop,h1,andThen_exit],h2.out⟩
    | ret=>exact ⟨_,_,_,_,by rw [execO_loop,h1,andThen_ret],h2.out⟩
theorem thenQ_norm {b:LCode} (hq:Wp p b fr lc h Q):thenQ p b Q .norm fr lc h:=⟨hq⟩
theorem thenQ_ret {b:LCode} (hq:Q .ret fr lc h):thenQ p b Q .ret fr lc h:=⟨hq⟩
theorem thenQ_exit {b:LCode} {i:Nat} (hq:Q (.exit i) fr lc h):thenQ p b Q (.exit i) fr lc h:=⟨hq⟩
theorem blockQ_norm {id:Nat} (hq:Q .norm fr lc h):blockQ id Q .norm fr lc h:=⟨hq⟩
theorem blockQ_ret {id:Nat} (hq:Q .ret fr lc h):blockQ id Q .ret fr lc h:=⟨hq⟩
theorem blockQ_same {id:Nat} (hq:Q .norm fr lc h):blockQ id Q (.exit id) fr lc h:=⟨by simpa only [if_true] using hq⟩
theorem blockQ_ne {id i:Nat} (hi:(i == id) = false) (hq:Q (.exit i) fr lc h):blockQ id Q (.exit i) fr lc h:=by
  have : ¬ i = id:=by simpa using hi
  exact ⟨by simpa only [if_neg this] using hq⟩
theorem loopQ_norm {K:Fr→Lc→AH→Prop} (hq:K fr lc h):loopQ K Q .norm fr lc h:=⟨hq⟩
theorem loopQ_ret {K:Fr→Lc→AH→Prop} (hq:Q .ret fr lc h):loopQ K Q .ret fr lc h:=⟨hq⟩
theorem loopQ_exit {K:Fr→Lc→AH→Prop} {i:Nat} (hq:Q (.exit i) fr lc h):loopQ K Q (.exit i) fr lc h:=⟨hq⟩
theorem retQ_ret {rs:List LRes} {C:Value→AH→Prop} {v:Value} (hv:retV fr ⟨lc,h⟩ rs = some v) (hq:C v h):retQ rs C .ret fr lc h:=⟨⟨v,hv,hq⟩⟩
theorem retQ_norm {rs:List LRes} {C:Value→AH→Prop} {v:Value} (hv:retV fr ⟨lc,h⟩ rs = some v) (hq:C v h):retQ rs C .norm fr lc h:=⟨⟨v,hv,hq⟩⟩
theorem WpC.mono {f:FuncId} {args:List Value} {C C':Value→AH→Prop} (hq:WpC p f args h C) (hm:∀ v h',C v h'→C' v h'):WpC p f args h C' :=
  let ⟨v,h',h1,h2⟩:=hq
  ⟨v,h',h1,hm _ _ h2⟩
theorem wpc_of {f:FuncId} {args:List Value} {C:Value→AH→Prop} {v:Value} {h':AH} (hc:callO p f args h = some (v,h')) (hq:C v h'):WpC p f args h C:=⟨v,h',hc,hq⟩
theorem WpC.eqn {f:FuncId} {args:List Value} {v:Value} {h':AH} (hq:WpC p f args h fun v' h1=>v' = v∧h1 = h'):callO p f args h = some (v,h'):=by
  obtain ⟨v',h1,e,rfl,rfl⟩:=hq
  exact e
theorem wpc_fn {f:FuncId} {args:List Value} {C:Value→AH→Prop} {lf:LFunc} (he:p.ext f = none) (hf:p.fn f = some lf) (hn:args.length = lf.nargs)
    (hq:Wp p lf.body (argFr 0 args) [] h (retQ lf.results C)):WpC p f args h C:=by
  obtain ⟨ex,fr',lc',h',h1,h2⟩:=hq
  have hc:=callO_fn (h:=h) he hf hn
  rw [h1] at hc
  cases ex with
  | norm =>
    obtain ⟨v,h3,h4⟩:=h2.out
    exact ⟨v,h',by rw [hc,giveBack_norm,h3]; rfl,h4⟩
  | exit i=>exact h2.out.elim
  | ret =>
    obtain ⟨v,h3,h4⟩:=h2.out
    exact ⟨v,h',by rw [hc,giveBack_ret,h3]; rfl,h4⟩
def chkT (ops:List LInstr) (chk:List (Nat × Nat)) (tr:List (Fr × Mem)):Prop:=chk.all (chk1 ops tr) = true
structure WpR (p:Prg) (T:List (Fr × Mem)→Prop) (keep:List Nat) (rest:List LInstr) (fr:Fr) (lc:Lc) (h:AH) (tr:List (Fr × Mem)) (Q:Fr→Lc→AH→Prop):Prop where
  out:∃ fr1 lc1 h1 fr2,runOps (callO p) (yieldO p) rest fr ⟨lc,h⟩ = some (fr1,⟨lc1,h1⟩)∧T (tr.reverse ++ trace (callO p) (yieldO p) rest fr ⟨lc,h⟩)∧keepFr fr1 keep = some fr2∧Q fr2 (keepLc fr1 lc1 keep) h1
variable {T:List (Fr × Mem)→Prop} {keep:List Nat} {r:List LInstr} {tr:List (Fr × Mem)} {K:Fr→Lc→AH→Prop} {d:Nat} {v:Value}
theorem wp_region {ops:List LInstr} {chk:List (Nat × Nat)} (hq:WpR p (chkT ops chk) keep ops fr lc h [] (Q .norm)):Wp p (.region ops keep chk) fr lc h Q:=by
  obtain ⟨fr1,lc1,h1,fr2,e1,e2,e3,e4⟩:=hq
  refine ⟨_,_,_,_, ?_,e4⟩
  rw [execO_region]
  unfold runRegion
  rw [e1]
  simp only [chkT,List.reverse_nil,List.nil_append] at e2
  simp only [e2,if_true,e3]
def T0:List (Fr × Mem)→Prop:=fun _=>True
theorem wp_region0 {ops:List LInstr} (hq:WpR p T0 keep ops fr lc h [] (Q .norm)):Wp p (.region ops keep []) fr lc h Q:=by
  obtain ⟨fr1,lc1,h1,fr2,e1,e2,e3,e4⟩:=hq
  exact wp_region ⟨fr1,lc1,h1,fr2,e1,rfl,e3,e4⟩
theorem wpr_drop {x:Fr × Mem} (hq:WpR p T0 keep r fr lc h [] K):WpR p T0 keep r fr lc h (x :: tr) K:=by
  obtain ⟨fr1,lc1,h1,fr2,e1,e2,e3,e4⟩:=hq
  exact ⟨fr1,lc1,h1,fr2,e1,trivial,e3,e4⟩
theorem wpr_nil {fr2:Fr} {lc2:Lc} (hT:T ((fr,⟨lc,h⟩) :: tr).reverse) (hk:keepFr fr keep = some fr2) (hl:keepLc fr lc keep = lc2) (hq:K fr2 lc2 h):WpR p T keep [] fr lc h tr K :=
  ⟨fr,lc,h,fr2,rfl,by simpa [trace] using hT,hk,by rw [hl]; exact hq⟩
theorem chkT_nil {ops:List LInstr} {tr:List (Fr × Mem)}:chkT ops [] tr:=rfl
theorem wpr_step {i:LInstr} {lc':Lc} {h':AH} (hv:i.step (callO p) (yieldO p) fr ⟨lc,h⟩ = some (v,⟨lc',h'⟩)) (hq:WpR p T keep r (pushD fr i.dst v) lc' h' ((fr,⟨lc,h⟩) :: tr) K) :
    WpR p T keep (i :: r) fr lc h tr K:=by
  obtain ⟨fr1,lc1,h1,fr2,e1,e2,e3,e4⟩:=hq
  refine ⟨fr1,lc1,h1,fr2,by simp only [runOps,hv,e1], ?_,e3,e4⟩
  simpa only [trace,hv,List.reverse_cons,List.append_assoc,List.singleton_append] using e2
theorem wpr_p {o:POp} (hv:o.ev fr = some v) (hq:WpR p T keep r ((d,v) :: fr) lc h ((fr,⟨lc,h⟩) :: tr) K):WpR p T keep (⟨some d,.p o,none⟩ :: r) fr lc h tr K :=
  wpr_step (v:=v) (by simp only [LInstr.step,wantedA,LInstr.ev,hv,Option.map_some]) hq
theorem wpr_r {o:ROp} (hv:o.ev fr ⟨lc,h⟩ = some v) (hq:WpR p T keep r ((d,v) :: fr) lc h ((fr,⟨lc,h⟩) :: tr) K):WpR p T keep (⟨some d,.r o,none⟩ :: r) fr lc h tr K :=
  wpr_step (v:=v) (by simp only [LInstr.step,wantedA,LInstr.ev,hv,Option.map_some]) hq
theorem wpr_e {o:EOp} {lc':Lc} {h':AH} (hv:o.ev (callO p) (yieldO p) fr ⟨lc,h⟩ = some (v,⟨lc',h'⟩)) (hq:WpR p T keep r ((d,v) :: fr) lc' h' ((fr,⟨lc,h⟩) :: tr) K) :
    WpR p T keep (⟨some d,.e o,none⟩ :: r) fr lc h tr K :=
  wpr_step (v:=v) (by simp only [LInstr.step,wantedA,LInstr.ev,hv]) hq
theorem wpr_e0 {o:EOp} {lc':Lc} {h':AH} (hv:o.ev (callO p) (yieldO p) fr ⟨lc,h⟩ = some (v,⟨lc',h'⟩)) (hq:WpR p T keep r fr lc' h' ((fr,⟨lc,h⟩) :: tr) K) :
    WpR p T keep (⟨none,.e o,none⟩ :: r) fr lc h tr K :=
  wpr_step (v:=v) (by simp only [LInstr.step,wantedA,LInstr.ev,hv]) hq
theorem wpr_call {f:FuncId} {xs:List Opd} {asx:List Value} (ha:opds fr xs = asx) (hok:asx.all okV = true) (hq:WpC p f asx h fun v h'=>WpR p T keep r ((d,v) :: fr) lc h' ((fr,⟨lc,h⟩) :: tr) K) :
    WpR p T keep (⟨some d,.e (.call f xs),none⟩ :: r) fr lc h tr K:=by
  obtain ⟨v,h',h1,h2⟩:=hq
  exact wpr_e (by simp only [EOp.ev,ha,hok,if_true,h1,Option.map_some]) h2
theorem wpr_call0 {f:FuncId} {xs:List Opd} {asx:List Value} (ha:opds fr xs = asx) (hok:asx.all okV = true) (hq:WpC p f asx h fun v h'=>WpR p T keep r fr lc h' ((fr,⟨lc,h⟩) :: tr) K) :
    WpR p T keep (⟨none,.e (.call f xs),none⟩ :: r) fr lc h tr K:=by
  obtain ⟨v,h',h1,h2⟩:=hq
  exact wpr_e0 (by simp only [EOp.ev,ha,hok,if_true,h1,Option.map_some]; rfl) h2
theorem wpr_callv {f:Opd} {g:FuncId} {a b:Array Value} {xs:List Opd} {asx:List Value} (hf:opd fr f = .func (.func g) a b) (ha:opds fr xs = asx) (hok:asx.all okV = true)
    (hq:WpC p g (a.toList ++ asx ++ b.toList) h fun v h'=>WpR p T keep r ((d,v) :: fr) lc h' ((fr,⟨lc,h⟩) :: tr) K) :
    WpR p T keep (⟨some d,.e (.callv f xs),none⟩ :: r) fr lc h tr K:=by
  obtain ⟨v,h',h1,h2⟩:=hq
  exact wpr_e (by simp only [EOp.ev,ha,hok,if_true,hf,h1,Option.map_some]) h2
def argsR (fr:Fr) (xs:List Opd):Option (List Value):=if (opds fr xs).all okV = true then some (opds fr xs) else none
theorem wpr_callA {f:FuncId} {xs:List Opd} {asx:List Value} (ha:argsR fr xs = some asx) (hq:WpC p f asx h fun v h'=>WpR p T keep r ((d,v) :: fr) lc h' ((fr,⟨lc,h⟩) :: tr) K) :
    WpR p T keep (⟨some d,.e (.call f xs),none⟩ :: r) fr lc h tr K:=by
  unfold argsR at ha
  split at ha
  · rename_i hok
    injection ha with ha
    exact wpr_call ha (by rw [← ha]; exact hok) hq
  · cases ha
theorem wpr_callA0 {f:FuncId} {xs:List Opd} {asx:List Value} (ha:argsR fr xs = some asx) (hq:WpC p f asx h fun v h'=>WpR p T keep r fr lc h' ((fr,⟨lc,h⟩) :: tr) K) :
    WpR p T keep (⟨none,.e (.call f xs),none⟩ :: r) fr lc h tr K:=by
  unfold argsR at ha
  split at ha
  · rename_i hok
    injection ha with ha
    exact wpr_call0 ha (by rw [← ha]; exact hok) hq
  · cases ha
def keepR (fr:Fr) (lc:Lc) (keep:List Nat):Option (Fr × Lc):=match keepFr fr keep with
  | some f=>some (f,keepLc fr lc keep)
  | none=>none
theorem wpr_end0 {fr2:Fr} {lc2:Lc} (hk:keepR fr lc keep = some (fr2,lc2)) (hq:K fr2 lc2 h):WpR p T0 keep [] fr lc h tr K:=by
  unfold keepR at hk
  split at hk
  · rename_i f hf
    injection hk with hk
    injection hk with e1 e2
    subst e1 e2
    exact wpr_nil trivial hf rfl hq
  · cases hk
theorem wpr_end {fr2:Fr} {lc2:Lc} (hk:keepR fr lc keep = some (fr2,lc2)) (hT:T ((fr,⟨lc,h⟩) :: tr).reverse) (hq:K fr2 lc2 h):WpR p T keep [] fr lc h tr K:=by
  unfold keepR at hk
  split at hk
  · rename_i f hf
    injection hk with hk
    injection hk with e1 e2
    subst e1 e2
    exact wpr_nil hT hf rfl hq
  · cases hk
theorem wpr_run {dd:Option Nat} {op:LOp} {g:Nat} {b:Bool} (hg:fget fr g = .bool b) (hq:WpR p T keep (⟨dd,op,none⟩ :: r) fr lc h tr K):WpR p T keep (⟨dd,op,some (g,b)⟩ :: r) fr lc h tr K:=by
  obtain ⟨fr1,lc1,h1,fr2,e1,e2,e3,e4⟩:=hq
  have hs:LInstr.step (callO p) (yieldO p) ⟨dd,op,some (g,b)⟩ fr ⟨lc,h⟩ = LInstr.step (callO p) (yieldO p) ⟨dd,op,none⟩ fr ⟨lc,h⟩:=by
    simp only [LInstr.step,wantedA,hg,beq_self_eq_true,LInstr.ev]
  refine ⟨fr1,lc1,h1,fr2, ?_, ?_,e3,e4⟩
  · simp only [runOps,hs] at e1 ⊢; exact e1
  · simp only [trace,hs] at e2 ⊢; exact e2
theorem wpr_pass {op:LOp} {g:Nat} {b t:Bool} (hg:fget fr g = .bool t) (ht:(t == b) = false) (hq:WpR p T keep r ((d,skV) :: fr) lc h ((fr,⟨lc,h⟩) :: tr) K) :
    WpR p T keep (⟨some d,op,some (g,b)⟩ :: r) fr lc h tr K :=
  wpr_step (v:=skV) (by simp only [LInstr.step,wantedA,hg,ht]) hq
theorem wpr_passS {op:LOp} {g:Nat} {b:Bool} (hg:fget fr g = .chan none) (hq:WpR p T keep r ((d,skV) :: fr) lc h ((fr,⟨lc,h⟩) :: tr) K) :
    WpR p T keep (⟨some d,op,some (g,b)⟩ :: r) fr lc h tr K :=
  wpr_step (v:=skV) (by simp only [LInstr.step,wantedA,hg]) hq
theorem wpr_pass0 {op:LOp} {g:Nat} {b t:Bool} (hg:fget fr g = .bool t) (ht:(t == b) = false) (hq:WpR p T keep r fr lc h ((fr,⟨lc,h⟩) :: tr) K) :
    WpR p T keep (⟨none,op,some (g,b)⟩ :: r) fr lc h tr K :=
  wpr_step (v:=skV) (by simp only [LInstr.step,wantedA,hg,ht]) hq
theorem wpr_pass0S {op:LOp} {g:Nat} {b:Bool} (hg:fget fr g = .chan none) (hq:WpR p T keep r fr lc h ((fr,⟨lc,h⟩) :: tr) K) :
    WpR p T keep (⟨none,op,some (g,b)⟩ :: r) fr lc h tr K :=
  wpr_step (v:=skV) (by simp only [LInstr.step,wantedA,hg]) hq
theorem wpr_fork {c:Prop} {hd:Decidable c} (h1:c→WpR p T keep r ((d,.bool true) :: fr) lc h tr K) (h2 : ¬ c→WpR p T keep r ((d,.bool false) :: fr) lc h tr K) :
    WpR p T keep r ((d,.bool (decide c)) :: fr) lc h tr K:=by
  by_cases hc:c
  · simpa [hc] using h1 hc
  · simpa [hc] using h2 hc
theorem wpr_forkN {c:Prop} {hd:Decidable c} (h1:c→WpR p T keep r ((d,.bool false) :: fr) lc h tr K) (h2 : ¬ c→WpR p T keep r ((d,.bool true) :: fr) lc h tr K) :
    WpR p T keep r ((d,.bool (!decide c)) :: fr) lc h tr K:=by
  by_cases hc:c
  · simpa [hc] using h1 hc
  · simpa [hc] using h2 hc
end Go.Proofs.YtakmapoompffgaaGreatDoor.AM
namespace Go.Proofs.YtakmapoompffgaaGreatDoor.AM
open Go
def lenP:Value→Option Value
  | .slice _ n _=>some (.int .i64 n)
  | _=>none
def iaddrP (e:Nat):Value→Value→Option Value
  | .slice (some a) n _,.int _ j=>if 0≤j∧j < n∧a.spot.isNone then some (.pointer (some (ptrOff a (j.toNat * e)))) else none
  | _,_=>none
theorem ev_mv {fr:Fr} {x:Opd}:(POp.mv x).ev fr = some (opd fr x):=rfl
theorem ev_bin {fr:Fr} {o:BinOp} {x y:Opd}:(POp.bin o x y).ev fr = binA o (opd fr x) (opd fr y):=rfl
theorem ev_un {fr:Fr} {o:UnOp} {x:Opd}:(POp.un o x).ev fr = unA o (opd fr x):=rfl
theorem ev_mm {fr:Fr} {b:Bool} {xs:List Opd}:(POp.mm b xs).ev fr = mmA b (opds fr xs):=rfl
theorem ev_len {fr:Fr} {x:Opd}:(POp.len x).ev fr = lenP (opd fr x):=rfl
theorem binA_add {k k':IntKind} {a b:Int}:binA .add (.int k a) (.int k' b) = if k = k' then some (.int k (k.wrap (a + b))) else none:=rfl
theorem binA_sub {k k':IntKind} {a b:Int}:binA .sub (.int k a) (.int k' b) = if k = k' then some (.int k (k.wrap (a - b))) else none:=rfl
theorem binA_mul {k k':IntKind} {a b:Int}:binA .mul (.int k a) (.int k' b) = if k = k' then some (.int k (k.wrap (a * b))) else none:=rfl
theorem binA_lss {k k':IntKind} {a b:Int}:binA .lss (.int k a) (.int k' b) = if k = k' then some (.bool (decide (a < b))) else none:=rfl
theorem binA_leq {k k':IntKind} {a b:Int}:binA .leq (.int k a) (.int k' b) = if k = k' then some (.bool (decide (a≤b))) else none:=rfl
theorem binA_gtr {k k':IntKind} {a b:Int}:binA .gtr (.int k a) (.int k' b) = if k = k' then some (.bool (decide (b < a))) else none:=rfl
theorem binA_geq {k k':IntKind} {a b:Int}:binA .geq (.int k a) (.int k' b) = if k = k' then some (.bool (decide (b≤a))) else none:=rfl
theorem binA_eql {k k':IntKind} {a b:Int}:binA .eql (.int k a) (.int k' b) = if k = k' then some (.bool (decide (a = b))) else none:=by
  have:(a == b) = decide (a = b):=rfl
  simp only [binA,intBin,this]
theorem binA_neq {k k':IntKind} {a b:Int}:binA .neq (.int k a) (.int k' b) = if k = k' then some (.bool (!decide (a = b))) else none:=by
  have:(a != b) = !decide (a = b):=rfl
  simp only [binA,intBin,this]
theorem binA_remB {k:IntKind} {a b:Int} (h:b≠0):binA .rem (.int k a) (.int k b) = some (.int k (a.tmod b)):=by
  simp only [binA,intBin,if_true,if_neg h]
theorem unA_not {b:Bool}:unA .not (.bool b) = some (.bool (!b)):=rfl
theorem unA_neg {k:IntKind} {n:Int}:unA .neg (.int k n) = some (.int k (k.wrap (0 - n))):=rfl
theorem ev_conv {fr:Fr} {k:IntKind} {x:Opd}:(POp.conv k x).ev fr = match opd fr x with | .int _ n=>some (.int k (k.wrap n)) | _=>none:=rfl
theorem ev_pick {fr:Fr} {c a b:Opd}:(POp.pick c a b).ev fr = match opd fr c with | .bool t=>some (if t then opd fr a else opd fr b) | _=>none:=rfl
theorem ev_ext {fr:Fr} {i:Nat} {x:Opd}:(POp.ext i x).ev fr = match opd fr x with | .tuple vs=>vs[i]? | _=>none:=rfl
theorem wrap_i64 {x:Int} (h1 : -9223372036854775808≤x) (h2:x < 9223372036854775808):IntKind.i64.wrap x = x:=by
  show (if (true && decide (x % 18446744073709551616 ≥ 9223372036854775808)) = true then x % 18446744073709551616 - 18446744073709551616 else x % 18446744073709551616) = x
  simp only [Bool.true_and,decide_eq_true_eq]
  split <;> omega
theorem wrap_i32 {x:Int} (h1 : -2147483648≤x) (h2:x < 2147483648):IntKind.i32.wrap x = x:=by
  show (if (true && decide (x % 4294967296 ≥ 2147483648)) = true then x % 4294967296 - 4294967296 else x % 4294967296) = x
  simp only [Bool.true_and,decide_eq_true_eq]
  split <;> omega
theorem mm2_max {k k':IntKind} {x y:Int}:mmA true [.int k x,.int k' y] = some (.int k (max x y)):=by
  simp only [mmA,List.foldlM,mm2,if_true]
  show some _ = _
  congr 2
  by_cases h:y > x
  · rw [if_pos h]; omega
  · rw [if_neg h]; omega
theorem mm2_min {k k':IntKind} {x y:Int}:mmA false [.int k x,.int k' y] = some (.int k (min x y)):=by
  simp only [mmA,List.foldlM,mm2]
  show some _ = _
  congr 2
  by_cases h:y < x
  · rw [if_neg (by decide),if_pos h]; omega
  · rw [if_neg (by decide),if_neg h]; omega
inductive Sl where
  | nil
  | at (b o n:Nat)
def Sl.val (e:Nat):Sl→Value
  | .nil=>.slice none 0 0
  | .at b o n=>.slice (some ⟨b,o,none⟩) n e
def Sl.len:Sl→Nat
  | .nil=>0
  | .at _ _ n=>n
def Sl.blk:Sl→Option Nat
  | .nil=>none
  | .at b _ _=>some b
def Sl.adr (e:Nat):Sl→Nat→Addr
  | .nil,_=>⟨0,0,none⟩
  | .at b o _,i=>⟨b,o + i * e,none⟩
def Sl.take:Sl→Nat→Sl
  | .nil,_=>.nil
  | .at b o _,k=>.at b o k
def Sl.drop (e:Nat):Sl→Nat→Sl
  | .nil,_=>.nil
  | .at b o n,k=>.at b (o + k * e) (n - k)
theorem Sl.isLoc_val {e:Nat} {s:Sl}:isLoc (s.val e) = false:=by cases s <;> rfl
theorem Sl.cellOk_val {e:Nat} {s:Sl}:cellOk (s.val e) = true:=by cases s <;> rfl
theorem Sl.vcells_val {e:Nat} {s:Sl}:vcells (s.val e) = [s.val e]:=by cases s <;> rfl
theorem Sl.settle_val {e:Nat} {s:Sl} {k:Nat}:settle1 k (s.val e) = some (s.val e):=by cases s <;> rfl
theorem Sl.lenP_val {e:Nat} {s:Sl}:lenP (s.val e) = some (.int .i64 s.len):=by cases s <;> rfl
theorem Sl.lenV_val {e:Nat} {s:Sl}:lenV (s.val e) = some s.len:=by cases s <;> rfl
theorem Sl.vsame_val {e:Nat} {s:Sl}:vsame (s.val e) (s.val e) = true:=by cases s <;> simp [Sl.val,vsame,vsame1,vsame0]
theorem Sl.iaddr_val {e:Nat} {s:Sl} {k:IntKind} {j:Int} (h0:0≤j) (h1:j < s.len):iaddrP e (s.val e) (.int k j) = some (.pointer (some (s.adr e j.toNat))):=by
  cases s with
  | nil=>simp [Sl.len] at h1; omega
  | «at» b o n=>simp only [Sl.len] at h1; simp [Sl.val,iaddrP,Sl.adr,ptrOff,h0,h1]
theorem ev_iaddr {fr:Fr} {e:Nat} {x i:Opd}:(POp.iaddr e x i).ev fr = iaddrP e (opd fr x) (opd fr i):=rfl
theorem Sl.spot_adr {e:Nat} {s:Sl} {i:Nat}:(s.adr e i).spot = none:=by cases s <;> rfl
def Reads (h:AH) (e:Nat) (s:Sl) (xss:List (List Value)):Prop :=
  s.len = xss.length∧(∀ x∈xss,x.length = e)∧match s with
  | .nil=>True
  | .at b o n=>n = 0∨∃ ro pre post,h.get b = some (.cells ro (pre ++ xss.flatten ++ post))∧pre.length = o
def Own (h:AH) (e:Nat) (s:Sl) (xss:List (List Value)):Prop :=
  s.len = xss.length∧(∀ x∈xss,x.length = e)∧match s with
  | .nil=>True
  | .at b o _ => ∃ pre,h.get b = some (.cells false (pre ++ xss.flatten))∧pre.length = o
theorem Own.reads {h:AH} {e:Nat} {s:Sl} {xss:List (List Value)} (ho:Own h e s xss):Reads h e s xss:=by
  refine ⟨ho.1,ho.2.1, ?_⟩
  have:=ho.2.2
  cases s with
  | nil=>trivial
  | «at» b o n=>obtain ⟨pre,h1,h2⟩:=this; exact .inr ⟨false,pre,[],by rw [h1,List.append_nil],h2⟩
def Kp (h0 h:AH):Prop:=h0.n≤h.n∧∀ b,b < h0.n→h.get b = h0.get b
theorem Kp.refl (h:AH):Kp h h:=⟨Nat.le_refl _,fun _ _=>rfl⟩
theorem Kp.trans {h0 h1 h2:AH} (a:Kp h0 h1) (b:Kp h1 h2):Kp h0 h2:=⟨Nat.le_trans a.1 b.1,fun i hi=>(b.2 i (Nat.lt_of_lt_of_le hi a.1)).trans (a.2 i hi)⟩
theorem Kp.get {h0 h:AH} (k:Kp h0 h) {b:Nat} {o:AObj} (hb:h0.get b = some o):h.get b = some o:=(k.2 b (AH.get_lt hb)).trans hb
theorem Reads.kp {h0 h:AH} {e:Nat} {s:Sl} {xss:List (List Value)} (r:Reads h0 e s xss) (k:Kp h0 h):Reads h e s xss:=by
  refine ⟨r.1,r.2.1, ?_⟩
  have:=r.2.2
  cases s with
  | nil=>trivial
  | «at» b o n=>exact this.imp id fun ⟨ro,pre,post,h1,h2⟩=>⟨ro,pre,post,k.get h1,h2⟩
theorem flatten_len {e:Nat} {xss:List (List Value)} (h:∀ x∈xss,x.length = e):xss.flatten.length = xss.length * e:=by
  induction xss with
  | nil=>simp
  | cons x r ih =>
    have h1:=h x (by simp)
    have h2:=ih fun y hy=>h y (by simp [hy])
    simp only [List.flatten_cons,List.length_append,List.length_cons,h1,h2]
    rw [Nat.add_mul]; omega
theorem flatten_part {e:Nat}:∀ {xss:List (List Value)},(∀ x∈xss,x.length = e)→∀ (i:Nat) (hi:i < xss.length) (post:List Value),((xss.flatten ++ post).drop (i * e)).take e = xss[i]
  | [],_,i,hi,_=>by simp at hi
  | x :: r,h,0,hi,post=>by
    have h1:=h x (by simp)
    simp only [Nat.zero_mul,List.drop_zero,List.flatten_cons,List.append_assoc,List.getElem_cons_zero]
    rw [← h1,List.take_left]
  | x :: r,h,i + 1,hi,post=>by
    have h1:=h x (by simp)
    have h2:=flatten_part (xss:=r) (e:=e) (fun y hy=>h y (List.mem_cons_of_mem _ hy)) i (by simpa using hi) post
    simp only [List.flatten_cons,List.append_assoc,List.getElem_cons_succ]
    rw [show (i + 1) * e = x.length + i * e by rw [h1,Nat.add_mul]; omega,List.drop_length_add_append,h2]
theorem rd_reads {lc:Lc} {h:AH} {e:Nat} {s:Sl} {xss:List (List Value)} (r:Reads h e s xss) {i:Nat} (hi:i < xss.length):Mem.rd ⟨lc,h⟩ (s.adr e i) e = some xss[i]:=by
  obtain ⟨h1,h2,h3⟩:=r
  cases s with
  | nil=>simp [Sl.len] at h1; omega
  | «at» b o n =>
    simp only [Sl.len] at h1
    obtain ⟨ro,pre,post,h4,h5⟩:=h3.resolve_left (by omega)
    show Mem.rd ⟨lc,h⟩ ⟨b,o + i * e,none⟩ e = _
    simp only [Mem.rd,Mem.obj,h4]
    have hl:=flatten_len h2
    have hie:i * e + e≤xss.length * e:=by
      have:(i + 1) * e≤xss.length * e:=Nat.mul_le_mul_right e hi
      rw [Nat.add_mul] at this; omega
    rw [if_pos (by simp only [List.length_append,hl,h5]; omega)]
    rw [← flatten_part h2 i hi post,← h5,List.append_assoc,List.drop_length_add_append]
theorem rd_cell {lc:Lc} {h:AH} {e:Nat} {s:Sl} {xss:List (List Value)} (r:Reads h e s xss) {i f:Nat} (hi:i < xss.length) (hf:f < (xss[i]).length):Mem.rd ⟨lc,h⟩ (ptrOff (s.adr e i) f) 1 = some [(xss[i])[f]]:=by
  have hr:=rd_reads (lc:=lc) r hi
  have hel:=r.2.1 xss[i] (List.getElem_mem hi)
  have hsp:=Sl.spot_adr (e:=e) (s:=s) (i:=i)
  simp only [Mem.rd,Mem.obj,ptrOff,hsp] at hr ⊢
  have key:∀ xs:List Value,(if (s.adr e i).off + e≤xs.length then some ((xs.drop (s.adr e i).off).take e) else none) = some xss[i] →
      (if (s.adr e i).off + f + 1≤xs.length then some ((xs.drop ((s.adr e i).off + f)).take 1) else none) = some [(xss[i])[f]]:=fun xs hr=>by
    split at hr
    · rename_i hle
      injection hr with hr
      rw [if_pos (by omega)]
      congr 1
      rw [← List.drop_drop]
      have:(xs.drop (s.adr e i).off)[f]? = (xss[i])[f]?:=by rw [← hr,List.getElem?_take_of_lt (by omega)]
      rw [List.getElem?_eq_getElem hf] at this
      obtain ⟨hlt,hge⟩:=List.getElem?_eq_some_iff.1 this
      rw [List.drop_eq_getElem_cons hlt,hge,List.take_succ_cons,List.take_zero]
    · cases hr
  split at hr
  · exact key _ hr
  · exact key _ hr
  · cases hr
theorem ptrOff_mk {b o n:Nat} {sp:Option Nat}:ptrOff ⟨b,o,sp⟩ n = ⟨b,o + n,sp⟩:=rfl
theorem loc_mk {b o:Nat}:loc b o = ⟨b,o,some 1⟩:=rfl
theorem ev_faddr {fr:Fr} {off:Nat} {x:Opd}:(POp.faddr off x).ev fr = match opd fr x with | .pointer (some a)=>some (.pointer (some (ptrOff a off))) | _=>none:=rfl
theorem ev_fld {fr:Fr} {off:Nat} {n:Option Nat} {x:Opd}:(POp.fld off n x).ev fr = match opd fr x with | .agg cs=>partA cs.toList off n | _=>none:=rfl
theorem partA_one {cs:List Value} {off:Nat}:partA cs off none = cs[off]?:=rfl
theorem partA_more {cs:List Value} {off n:Nat}:partA cs off (some n) = if off + n≤cs.length then some (.agg ((cs.drop off).take n).toArray) else none:=rfl
theorem ev_load1 {fr:Fr} {m:Mem} {x:Opd}:(ROp.load none x).ev fr m = match opd fr x with | .pointer (some a)=>(match m.rd a 1 with | some [v]=>some v | _=>none) | _=>none:=rfl
theorem ev_loadn {fr:Fr} {m:Mem} {n:Nat} {x:Opd}:(ROp.load (some n) x).ev fr m = match opd fr x with | .pointer (some a)=>(m.rd a n).map fun l=>.agg l.toArray | _=>none:=rfl
theorem rd_loc {lc:Lc} {h:AH} {b o k n:Nat}:Mem.rd ⟨lc,h⟩ ⟨b,o,some k⟩ n = match lget lc b with | some (.cells _ xs)=>if o + n≤xs.length then some ((xs.drop o).take n) else none | some (.tc _ xs)=>if o + n≤xs.length then some ((xs.drop o).take n) else none | _=>none:=rfl
theorem rd_heap {lc:Lc} {h:AH} {b o n:Nat}:Mem.rd ⟨lc,h⟩ ⟨b,o,none⟩ n = match h.get b with | some (.cells _ xs)=>if o + n≤xs.length then some ((xs.drop o).take n) else none | some (.tc _ xs)=>if o + n≤xs.length then some ((xs.drop o).take n) else none | _=>none:=rfl
theorem wr_loc {lc:Lc} {h:AH} {b o k:Nat} {vs:List Value}:Mem.wr ⟨lc,h⟩ ⟨b,o,some k⟩ vs = match lget lc b with | some (.cells false xs)=>if o + vs.length≤xs.length then some ⟨(b,.cells false (setAll xs o vs)) :: lc,h⟩ else none | some (.tc t xs)=>if o + vs.length≤xs.length then some ⟨(b,.tc t (setAll xs o vs)) :: lc,h⟩ else none | _=>none:=rfl
theorem wr_heap {lc:Lc} {h:AH} {b o:Nat} {vs:List Value}:Mem.wr ⟨lc,h⟩ ⟨b,o,none⟩ vs = match h.get b with | some (.cells false xs)=>if o + vs.length≤xs.length then some ⟨lc,h.set b (.cells false (setAll xs o vs))⟩ else none | some (.tc t xs)=>if o + vs.length≤xs.length then some ⟨lc,h.set b (.tc t (setAll xs o vs))⟩ else none | _=>none:=rfl
theorem vcells_agg {cs:Array Value}:vcells (.agg cs) = cs.toList:=rfl
theorem vcells_int {k:IntKind} {n:Int}:vcells (.int k n) = [.int k n]:=rfl
theorem vcells_bool {b:Bool}:vcells (.bool b) = [.bool b]:=rfl
theorem vcells_str {s:ByteArray}:vcells (.string s) = [.string s]:=rfl
theorem vcells_ptr {a:Option Addr}:vcells (.pointer a) = [.pointer a]:=rfl
theorem vcells_slice {a:Option Addr} {n k:Nat}:vcells (.slice a n k) = [.slice a n k]:=rfl
theorem cellOk_int {k:IntKind} {n:Int}:cellOk (.int k n) = true:=rfl
theorem cellOk_bool {b:Bool}:cellOk (.bool b) = true:=rfl
theorem cellOk_str {s:ByteArray}:cellOk (.string s) = true:=rfl
theorem cellOk_ptr {b o:Nat}:cellOk (.pointer (some ⟨b,o,none⟩)) = true:=rfl
theorem cellOk_ptr0:cellOk (.pointer none) = true:=rfl
theorem cellOk_slice0 {n k:Nat}:cellOk (.slice none n k) = true:=rfl
theorem newLoc_mk {lc:Lc} {h:AH} {t:Nat} {o:AObj}:Mem.newLoc ⟨lc,h⟩ t o = match lget lc (2 * t + 1) with | none=>some ⟨(2 * t + 1,o) :: lc,h⟩ | some _=>none:=rfl
section
variable {c:CallF} {y:YieldF} {fr:Fr} {m:Mem} {lc:Lc} {h:AH}
theorem ev_newL {t:Nat} {z:List Value}:(EOp.newL t z).ev c y fr m = (m.newLoc t (.cells false z)).map fun m'=>(.pointer (some (loc (2 * t + 1) 0)),m'):=rfl
theorem ev_newH {z:List Value}:(EOp.newH z).ev c y fr ⟨lc,h⟩ = some (.pointer (some ⟨h.n,0,none⟩),⟨lc,h.push (.cells false z)⟩):=rfl
theorem ev_boxL {t n:Nat} {x:Opd}:(EOp.boxL t n x).ev c y fr m = if (vcells (opd fr x)).length = n∧(vcells (opd fr x)).all cellOk = true then
      (m.newLoc t (.cells false (vcells (opd fr x)))).map fun m'=>(.pointer (some (loc (2 * t + 1) 0)),m') else none:=rfl
theorem ev_boxH {n:Nat} {x:Opd}:(EOp.boxH n x).ev c y fr ⟨lc,h⟩ = if (vcells (opd fr x)).length = n∧(vcells (opd fr x)).all cellOk = true then
      some (.pointer (some ⟨h.n,0,none⟩),⟨lc,h.push (.cells false (vcells (opd fr x)))⟩) else none:=rfl
theorem ev_litL {t n e:Nat} {z:List Value} {ps:List (Nat × Nat × Opd)}:(EOp.litL t n e z ps).ev c y fr m = match fillA (litCells n z) (evParts fr ps) with
    | some cs=>(m.newLoc t (.cells false cs)).map fun m'=>(.slice (some (loc (2 * t + 1) 0)) n e,m')
    | none=>none:=rfl
theorem ev_litH {n e:Nat} {z:List Value} {ps:List (Nat × Nat × Opd)}:(EOp.litH n e z ps).ev c y fr ⟨lc,h⟩ = match fillA (litCells n z) (evParts fr ps) with
    | some cs=>some (.slice (some ⟨h.n,0,none⟩) n e,⟨lc,h.push (.cells false cs)⟩)
    | none=>none:=rfl
theorem ev_store {n:Nat} {a x:Opd}:(EOp.store n a x).ev c y fr m = match opd fr a with
    | .pointer (some p)=>if (vcells (opd fr x)).length = n∧(vcells (opd fr x)).all cellOk = true then (m.wr p (vcells (opd fr x))).map fun m'=>(undef,m') else none
    | _=>none:=rfl
theorem ev_eqA {neq:Bool} {ks:List FK} {x z:Opd}:(POp.eqA neq ks x z).ev fr = match opd fr x,opd fr z with
    | .agg xs,.agg ys=>(eqCells ks xs.toList ys.toList).map fun b=>.bool (if neq then !b else b)
    | _,_=>none:=rfl
theorem eqCells_two {k:IntKind} {a b a' b':Int}:eqCells [.int,.int] [.int k a,.int k b] [.int k a',.int k b'] = some (decide (a = a'∧b = b')):=by
  simp only [eqCells,if_true]
  by_cases h1:a = a'
  · subst h1
    by_cases h2:b = b'
    · subst h2; simp
    · simp [h2]
  · simp [h1]
theorem beqTT:(true == true) = true:=rfl
theorem beqTF:(true == false) = false:=rfl
theorem beqFT:(false == true) = false:=rfl
theorem beqFF:(false == false) = true:=rfl
theorem ev_eqk {neq:Bool} {k:EqK} {x z:Opd}:(POp.eqk neq k x z).ev fr = (eqNil k (opd fr x) (opd fr z)).map fun b=>.bool (if neq then !b else b):=rfl
theorem ev_nilck {x:Opd}:(POp.nilck x).ev fr = match opd fr x with
    | .pointer (some a)=>some (.pointer (some a))
    | .func f a b=>(match f with | .func _=>some (.func f a b) | .yield _=>some (.func f a b) | _=>none)
    | _=>none:=rfl
theorem ev_build {z:List Value} {ps:List (Nat × Nat × Opd)}:(POp.build z ps).ev fr = (fillA z (evParts fr ps)).map fun cs=>.agg cs.toArray:=rfl
end
theorem evParts_nil {fr:Fr}:evParts fr [] = []:=rfl
theorem evParts_cons {fr:Fr} {a b:Nat} {x:Opd} {r:List (Nat × Nat × Opd)}:evParts fr ((a,b,x) :: r) = (a,b,opd fr x) :: evParts fr r:=rfl
theorem opds_nil {fr:Fr}:opds fr [] = []:=rfl
theorem opds_cons {fr:Fr} {x:Opd} {r:List Opd}:opds fr (x :: r) = opd fr x :: opds fr r:=rfl
theorem opd_s {fr:Fr} {n:Nat}:opd fr (.s n) = fget fr n:=rfl
theorem opd_c {fr:Fr} {v:Value}:opd fr (.c v) = v:=rfl
theorem litCells_mk {n:Nat} {z:List Value}:litCells n z = (List.replicate n z).flatten:=rfl
theorem vsame_int {k:IntKind} {n:Int}:vsame (.int k n) (.int k n) = true:=by simp [vsame,vsame1,vsame0]
theorem vsame_bool {b:Bool}:vsame (.bool b) (.bool b) = true:=by simp [vsame,vsame1,vsame0]
theorem vsame_ptr {a:Option Addr}:vsame (.pointer a) (.pointer a) = true:=by simp [vsame,vsame1,vsame0]
theorem vsame_agg {xs:Array Value} (h:vsameL xs.toList xs.toList = true):vsame (.agg xs) (.agg xs) = true:=h
theorem vsame_tuple {xs:Array Value}:vsame (.tuple xs) (.tuple xs) = vsameT xs.toList xs.toList:=rfl
theorem vsameT_nil:vsameT [] [] = true:=rfl
theorem vsameT_cons {x y:Value} {xs ys:List Value}:vsameT (x :: xs) (y :: ys) = (vsame1 x y && vsameT xs ys):=rfl
theorem vsame1_int {k:IntKind} {n:Int}:vsame1 (.int k n) (.int k n) = true:=by simp [vsame1,vsame0]
theorem vsame1_bool {b:Bool}:vsame1 (.bool b) (.bool b) = true:=by simp [vsame1,vsame0]
theorem vsame1_ptr {a:Option Addr}:vsame1 (.pointer a) (.pointer a) = true:=by simp [vsame1,vsame0]
theorem vsame1_agg {xs ys:Array Value}:vsame1 (.agg xs) (.agg ys) = vsameL xs.toList ys.toList:=rfl
theorem bytes_beq_self (s:ByteArray):(s == s) = true:=by obtain ⟨s⟩:=s; show (s == s) = true; simp
theorem vsame1_str {s:ByteArray}:vsame1 (.string s) (.string s) = true:=by simp [vsame1,vsame0,bytes_beq_self]
theorem vsame_str {s:ByteArray}:vsame (.string s) (.string s) = true:=by simp [vsame,vsame1,vsame0,bytes_beq_self]
theorem Sl.vsame1_val {e:Nat} {s:Sl}:vsame1 (s.val e) (s.val e) = true:=by cases s <;> simp [Sl.val,vsame1,vsame0]
theorem vsameL_int {k:IntKind} {n:Int} {r r':List Value}:vsameL (.int k n :: r) (.int k n :: r') = vsameL r r':=by simp [vsameL,vsame0]
theorem vsameL_nil:vsameL [] [] = true:=rfl
def slHi (e:Nat) (v w:Value):Option Value:=(POp.sl e (.c v) none (some (.c w)) none).ev []
def slLo (e:Nat) (v w:Value):Option Value:=(POp.sl e (.c v) (some (.c w)) none none).ev []
theorem ev_slHi {fr:Fr} {e:Nat} {x c:Opd}:(POp.sl e x none (some c) none).ev fr = slHi e (opd fr x) (opd fr c):=rfl
theorem ev_slLo {fr:Fr} {e:Nat} {x c:Opd}:(POp.sl e x (some c) none none).ev fr = slLo e (opd fr x) (opd fr c):=rfl
theorem Sl.slHi_val {e:Nat} {s:Sl} {k:IntKind} {j:Int} (h0:0≤j) (h1:j≤s.len):slHi e (s.val e) (.int k j) = some ((s.take j.toNat).val e):=by
  cases s with
  | nil =>
    have hj:j = 0:=by simp only [Sl.len] at h1; omega
    subst hj
    rfl
  | «at» b o n =>
    simp only [Sl.len] at h1
    simp only [slHi,POp.ev,opd,Sl.val,optInt,asNat,Sl.take,ptrOff]
    rw [if_pos ⟨by omega,by omega,by omega,by omega,trivial,rfl⟩]
    simp
theorem Sl.slLo_val {e:Nat} {s:Sl} {k:IntKind} {j:Int} (h0:0≤j) (h1:j≤s.len):slLo e (s.val e) (.int k j) = some ((s.drop e j.toNat).val e):=by
  cases s with
  | nil =>
    have hj:j = 0:=by simp only [Sl.len] at h1; omega
    subst hj
    rfl
  | «at» b o n =>
    simp only [Sl.len] at h1
    simp only [slLo,POp.ev,opd,Sl.val,optInt,asNat,Sl.drop,ptrOff]
    rw [if_pos ⟨by omega,by omega,by omega,by omega,trivial,rfl⟩]
    simp
theorem Reads.take {h:AH} {e:Nat} {s:Sl} {xss:List (List Value)} (r:Reads h e s xss) {k:Nat} (hk:k≤xss.length):Reads h e (s.take k) (xss.take k):=by
  obtain ⟨h1,h2,h3⟩:=r
  cases s with
  | nil =>
    have hx:xss = []:=List.eq_nil_of_length_eq_zero (by simpa [Sl.len] using h1.symm)
    subst hx
    simp [Reads,Sl.take,Sl.len]
  | «at» b o n =>
    simp only [Sl.len] at h1
    refine ⟨by simp only [Sl.take,Sl.len,List.length_take]; omega,fun x hx=>h2 x (List.mem_of_mem_take hx), ?_⟩
    rcases Nat.eq_zero_or_pos k with hk0 | hk0
    · exact .inl hk0
    obtain ⟨ro,pre,post,h4,h5⟩:=h3.resolve_left (by omega)
    refine .inr ⟨ro,pre,(xss.drop k).flatten ++ post, ?_,h5⟩
    rw [h4]
    have:=congrArg List.flatten (List.take_append_drop k xss)
    rw [List.flatten_append] at this
    rw [← this]
    simp only [List.append_assoc]
theorem Reads.drop {h:AH} {e:Nat} {s:Sl} {xss:List (List Value)} (r:Reads h e s xss) {k:Nat} (hk:k≤xss.length):Reads h e (s.drop e k) (xss.drop k):=by
  obtain ⟨h1,h2,h3⟩:=r
  cases s with
  | nil =>
    have hx:xss = []:=List.eq_nil_of_length_eq_zero (by simpa [Sl.len] using h1.symm)
    subst hx
    simp [Reads,Sl.drop,Sl.len]
  | «at» b o n =>
    simp only [Sl.len] at h1
    refine ⟨by simp only [Sl.drop,Sl.len,List.length_drop]; omega,fun x hx=>h2 x (List.mem_of_mem_drop hx), ?_⟩
    rcases Nat.eq_zero_or_pos (n - k) with hk0 | hk0
    · exact .inl hk0
    obtain ⟨ro,pre,post,h4,h5⟩:=h3.resolve_left (by omega)
    refine .inr ⟨ro,pre ++ (xss.take k).flatten,post, ?_, ?_⟩
    · rw [h4]
      have:=congrArg List.flatten (List.take_append_drop k xss)
      rw [List.flatten_append] at this
      rw [← this]
      simp only [List.append_assoc]
    · rw [List.length_append,h5,flatten_len (fun x hx=>h2 x (List.mem_of_mem_take hx)),List.length_take,Nat.min_eq_left hk]
theorem rdSlice_reads {lc:Lc} {h:AH} {e:Nat} {s:Sl} {xss:List (List Value)} (r:Reads h e s xss):rdSlice ⟨lc,h⟩ e (s.val e) = some xss.flatten:=by
  obtain ⟨h1,h2,h3⟩:=r
  cases s with
  | nil =>
    have hx:xss = []:=List.eq_nil_of_length_eq_zero (by simpa [Sl.len] using h1.symm)
    subst hx
    rfl
  | «at» b o n =>
    simp only [Sl.len] at h1
    have hl:=flatten_len h2
    show (if n = 0 then some [] else Mem.rd ⟨lc,h⟩ ⟨b,o,none⟩ (n * e)) = _
    rcases Nat.eq_zero_or_pos n with hk0 | hk0
    · have hx:xss = []:=List.eq_nil_of_length_eq_zero (by omega)
      subst hx
      rw [if_pos hk0]; rfl
    obtain ⟨ro,pre,post,h4,h5⟩:=h3.resolve_left (by omega)
    rw [if_neg (by omega),rd_heap,h4]
    simp only [List.length_append,hl,h5,h1]
    rw [if_pos (by omega),← h5,List.append_assoc,List.drop_left,← hl,List.take_left]
theorem isLoc_int {k:IntKind} {n:Int}:isLoc (.int k n) = false:=rfl
theorem settle_int {k:IntKind} {n:Int} {i:Nat}:settle1 i (.int k n) = some (.int k n):=rfl
theorem isLoc_bool {b:Bool}:isLoc (.bool b) = false:=rfl
theorem settle_bool {b:Bool} {i:Nat}:settle1 i (.bool b) = some (.bool b):=rfl
theorem isLoc_str {x:ByteArray}:isLoc (.string x) = false:=rfl
theorem settle_str {x:ByteArray} {i:Nat}:settle1 i (.string x) = some (.string x):=rfl
theorem isLoc_ptr {b o:Nat}:isLoc (.pointer (some ⟨b,o,none⟩)) = false:=rfl
theorem settle_ptr {b o:Nat} {i:Nat}:settle1 i (.pointer (some ⟨b,o,none⟩)) = some (.pointer (some ⟨b,o,none⟩)):=rfl
theorem isLoc_ptr0:isLoc (.pointer none) = false:=rfl
theorem settle_ptr0 {i:Nat}:settle1 i (.pointer none) = some (.pointer none):=rfl
theorem isLoc_slice0 {n k:Nat}:isLoc (.slice none n k) = false:=rfl
theorem settle_slice0 {n k:Nat} {i:Nat}:settle1 i (.slice none n k) = some (.slice none n k):=rfl
theorem isLoc_agg {x:Array Value}:isLoc (.agg x) = false:=rfl
theorem settle_agg {x:Array Value} {i:Nat}:settle1 i (.agg x) = some (.agg x):=rfl
theorem isLoc_tuple {x:Array Value}:isLoc (.tuple x) = false:=rfl
theorem settle_tuple {x:Array Value} {i:Nat}:settle1 i (.tuple x) = some (.tuple x):=rfl
theorem isLoc_func {f:Fn} {x y:Array Value}:isLoc (.func f x y) = false:=rfl
theorem settle_func {f:Fn} {x y:Array Value} {i:Nat}:settle1 i (.func f x y) = some (.func f x y):=rfl
theorem isLoc_nilF:isLoc (.nilFunc) = false:=rfl
theorem settle_nilF {i:Nat}:settle1 i (.nilFunc) = some (.nilFunc):=rfl
theorem isLoc_map {m:Option Nat}:isLoc (.map m) = false:=rfl
theorem settle_map {m:Option Nat} {i:Nat}:settle1 i (.map m) = some (.map m):=rfl
theorem isLoc_iface {t:TypeId} {v:Value}:isLoc (.iface t v) = false:=rfl
theorem settle_iface {t:TypeId} {v:Value} {i:Nat}:settle1 i (.iface t v) = some (.iface t v):=rfl
theorem isLoc_nilI:isLoc (.nilIface) = false:=rfl
theorem settle_nilI {i:Nat}:settle1 i (.nilIface) = some (.nilIface):=rfl
theorem isLoc_chan {m:Option Nat}:isLoc (.chan m) = false:=rfl
theorem settle_chan {m:Option Nat} {i:Nat}:settle1 i (.chan m) = some (.chan m):=rfl
theorem settle_loc {i b o:Nat}:settle1 i (.pointer (some ⟨b,o,some 1⟩)) = if (b = 2 * i + 1∨b = 2 * i)∧o = 0 then some (.pointer (some ⟨2 * i,0,some 1⟩)) else none:=rfl
theorem settle_sl1 {i b o n k:Nat}:settle1 i (.slice (some ⟨b,o,none⟩) n k) = some (.slice (some ⟨b,o,none⟩) n k):=rfl
theorem isLoc_sl1 {b o n k:Nat}:isLoc (.slice (some ⟨b,o,none⟩) n k) = false:=rfl
theorem okV_eq {v:Value}:okV v = !isLoc v:=rfl
attribute [push_cast] isLoc_int settle_int isLoc_bool settle_bool isLoc_str settle_str isLoc_ptr settle_ptr isLoc_ptr0 settle_ptr0 isLoc_slice0 settle_slice0 isLoc_agg settle_agg isLoc_tuple settle_tuple isLoc_func settle_func isLoc_nilF settle_nilF isLoc_map settle_map isLoc_iface settle_iface isLoc_nilI settle_nilI isLoc_chan settle_chan settle_loc settle_sl1 isLoc_sl1 okV_eq
def lc1 (lc:Lc) (i:Nat) (v:Value) (r:Lc):Lc :=
  match v with
  | .pointer (some a)=>match a.spot,lget lc a.block with
    | some _,some o=>(2 * i,o) :: r
    | _,_=>r
  | _=>r
theorem keepLc_cons {fr:Fr} {lc:Lc} {i:Nat} {r:List Nat}:keepLc fr lc (i :: r) = lc1 lc i (fget fr i) (keepLc fr lc r):=rfl
theorem keepLc_nil {fr:Fr} {lc:Lc}:keepLc fr lc [] = []:=rfl
theorem lc1_val {lc:Lc} {i e:Nat} {s:Sl} {r:Lc}:lc1 lc i (s.val e) r = r:=by cases s <;> rfl
theorem lc1_loc {lc:Lc} {i b o k:Nat} {r:Lc}:lc1 lc i (.pointer (some ⟨b,o,some k⟩)) r = match lget lc b with | some x=>(2 * i,x) :: r | none=>r:=by
  simp only [lc1]
  cases lget lc b <;> rfl
theorem lc1_int {k:IntKind} {n:Int} {lc:Lc} {i:Nat} {r:Lc}:lc1 lc i (.int k n) r = r:=rfl
theorem lc1_bool {b:Bool} {lc:Lc} {i:Nat} {r:Lc}:lc1 lc i (.bool b) r = r:=rfl
theorem lc1_str {x:ByteArray} {lc:Lc} {i:Nat} {r:Lc}:lc1 lc i (.string x) r = r:=rfl
theorem lc1_ptr {b o:Nat} {lc:Lc} {i:Nat} {r:Lc}:lc1 lc i (.pointer (some ⟨b,o,none⟩)) r = r:=rfl
theorem lc1_ptr0 {lc:Lc} {i:Nat} {r:Lc}:lc1 lc i (.pointer none) r = r:=rfl
theorem lc1_slice {a:Option Addr} {n k:Nat} {lc:Lc} {i:Nat} {r:Lc}:lc1 lc i (.slice a n k) r = r:=rfl
theorem lc1_agg {x:Array Value} {lc:Lc} {i:Nat} {r:Lc}:lc1 lc i (.agg x) r = r:=rfl
theorem lc1_tuple {x:Array Value} {lc:Lc} {i:Nat} {r:Lc}:lc1 lc i (.tuple x) r = r:=rfl
theorem lc1_func {f:Fn} {x y:Array Value} {lc:Lc} {i:Nat} {r:Lc}:lc1 lc i (.func f x y) r = r:=rfl
theorem lc1_nilF {lc:Lc} {i:Nat} {r:Lc}:lc1 lc i (.nilFunc) r = r:=rfl
theorem lc1_map {m:Option Nat} {lc:Lc} {i:Nat} {r:Lc}:lc1 lc i (.map m) r = r:=rfl
theorem lc1_iface {t:TypeId} {v:Value} {lc:Lc} {i:Nat} {r:Lc}:lc1 lc i (.iface t v) r = r:=rfl
theorem lc1_nilI {lc:Lc} {i:Nat} {r:Lc}:lc1 lc i (.nilIface) r = r:=rfl
theorem lc1_chan {m:Option Nat} {lc:Lc} {i:Nat} {r:Lc}:lc1 lc i (.chan m) r = r:=rfl
attribute [push_cast] argsR keepR keepLc_cons keepLc_nil lc1_val lc1_loc lc1_int lc1_bool lc1_str lc1_ptr lc1_ptr0 lc1_slice lc1_agg lc1_tuple lc1_func lc1_nilF lc1_map lc1_iface lc1_nilI lc1_chan
attribute [push_cast] ev_eqk eqNil Option.isNone_none Option.isNone_some beqTT beqTF beqFT beqFF ev_nilck List.getElem?_toArray List.getElem_toArray List.getElem_cons_zero List.getElem_cons_succ decide_true decide_false ev_slHi ev_slLo Sl.slHi_val Sl.slLo_val ev_iaddr ev_eqA eqCells_two Int.toNat_natCast rdSlice lenV Sl.lenV_val
attribute [push_cast] ev_mv ev_bin ev_un ev_mm ev_len ev_conv ev_pick ev_ext opd_s opd_c opds_nil opds_cons List.map_cons List.map_nil fget Nat.one_ne_zero Nat.zero_ne_one eq_self if_true if_false
  Bool.false_eq_true binA_add binA_sub binA_mul binA_lss binA_leq binA_gtr binA_geq binA_eql binA_neq unA_not unA_neg mm2_max mm2_min wrap_i64 wrap_i32 Sl.lenP_val Bool.not_true
  Bool.not_false Bool.not_not Sl.iaddr_val ptrOff_mk loc_mk ev_faddr ev_fld partA_one partA_more ev_load1 ev_loadn rd_loc rd_heap wr_loc wr_heap vcells_agg vcells_int vcells_bool
  vcells_str vcells_ptr vcells_slice cellOk_int cellOk_bool cellOk_str cellOk_ptr cellOk_ptr0 cellOk_slice0 Sl.vcells_val Sl.cellOk_val newLoc_mk ev_newL ev_newH ev_boxL ev_boxH
  ev_litL ev_litH ev_store ev_build litCells_mk fillA evParts_nil evParts_cons lget setAll Option.map_some List.length_cons List.length_nil List.all_cons List.all_nil Bool.and_true Bool.and_self
  and_self and_true true_and Nat.zero_add Nat.add_zero Nat.le_refl List.drop_succ_cons List.drop_zero List.take_succ_cons List.take_zero List.set_cons_zero List.set_cons_succ
  List.getElem?_cons_zero List.getElem?_cons_succ List.replicate_succ List.replicate_zero List.flatten_cons List.flatten_nil List.append_nil List.nil_append List.cons_append
  List.toList_toArray keepFr Option.isSome_some Option.isSome_none or_true true_or Sl.settle_val Sl.isLoc_val retV resAll resA chkT chk1 wantedA
  List.reverse_cons List.reverse_nil vsame_int vsame_bool vsame_ptr vsame_agg vsameL_int vsameL_nil Sl.vsame_val vsame_tuple vsameT_nil vsameT_cons vsame1_int vsame1_bool vsame1_ptr vsame1_agg vsame1_str vsame_str Sl.vsame1_val
end Go.Proofs.YtakmapoompffgaaGreatDoor.AM
namespace Go.Proofs.YtakmapoompffgaaGreatDoor.AM
open Go
theorem rd_map {α:Type} {f:α→List Value} {l:List α} {lc:Lc} {h:AH} {e:Nat} {s:Sl} (r:Reads h e s (l.map f)) {i:Nat} (hi:i < l.length):Mem.rd ⟨lc,h⟩ (s.adr e i) e = some (f l[i]):=by
  have:=rd_reads (lc:=lc) r (i:=i) (by simpa using hi)
  simpa using this
theorem rd_mapc {α:Type} {f:α→List Value} {l:List α} {lc:Lc} {h:AH} {e:Nat} {s:Sl} (r:Reads h e s (l.map f)) {i k:Nat} (hi:i < l.length) (hk:k < e) :
    Mem.rd ⟨lc,h⟩ (ptrOff (s.adr e i) k) 1 = some (((f l[i]).drop k).take 1):=by
  have hl:(f l[i]).length = e:=r.2.1 _ (List.mem_map.2 ⟨l[i],List.getElem_mem hi,rfl⟩)
  have:=rd_cell (lc:=lc) r (i:=i) (f:=k) (by simpa using hi) (by simpa [hl] using hk)
  rw [this]
  simp only [List.getElem_map]
  rw [List.drop_eq_getElem_cons (by omega),List.take_succ_cons,List.take_zero]
theorem Reads.len {α:Type} {f:α→List Value} {l:List α} {h:AH} {e:Nat} {s:Sl} (r:Reads h e s (l.map f)):s.len = l.length:=by simpa using r.1
theorem setAll_eq:∀ (vs pre old post:List Value),vs.length = old.length→setAll (pre ++ old ++ post) pre.length vs = pre ++ vs ++ post
  | [],pre,[],post,_=>by simp [setAll]
  | v :: vs,pre,o :: old,post,h=>by
    have h':vs.length = old.length:=by simpa using h
    simp only [setAll,List.append_assoc,List.cons_append]
    rw [List.set_append_right _ _ (Nat.le_refl _),Nat.sub_self,List.set_cons_zero]
    have:=setAll_eq vs (pre ++ [v]) old post h'
    simp only [List.length_append,List.length_singleton,List.append_assoc,List.singleton_append] at this
    exact this
  | [],_,_ :: _,_,h=>by simp at h
  | _ :: _,_,[],_,h=>by simp at h
theorem flatten_split {e:Nat} {xss:List (List Value)} (h:∀ x∈xss,x.length = e) {i:Nat} (hi:i < xss.length) :
    xss.flatten = (xss.take i).flatten ++ xss[i] ++ (xss.drop (i + 1)).flatten∧(xss.take i).flatten.length = i * e:=by
  constructor
  · have hx:xss = xss.take i ++ xss[i] :: xss.drop (i + 1):=by rw [← List.drop_eq_getElem_cons hi,List.take_append_drop]
    have:=congrArg List.flatten hx
    simp only [List.flatten_append,List.flatten_cons] at this
    rw [this]
    simp only [List.append_assoc]
  · rw [flatten_len (fun x hx=>h x (List.mem_of_mem_take hx)),List.length_take,Nat.min_eq_left (by omega)]
theorem set_flatten {e:Nat} {xss:List (List Value)} (h:∀ x∈xss,x.length = e) {i:Nat} (hi:i < xss.length) {vs:List Value} :
    (xss.set i vs).flatten = (xss.take i).flatten ++ vs ++ (xss.drop (i + 1)).flatten:=by
  rw [List.set_eq_take_append_cons_drop,if_pos hi]
  simp
theorem own_set {h:AH} {e:Nat} {s:Sl} {xss:List (List Value)} (ho:Own h e s xss) {i:Nat} (hi:i < xss.length) {vs:List Value} (hv:vs.length = e) :
    ∃ h',(∀ lc,Mem.wr ⟨lc,h⟩ (s.adr e i) vs = some ⟨lc,h'⟩)∧Own h' e s (xss.set i vs)∧h'.n = h.n∧∀ b,s.blk≠some b→h'.get b = h.get b:=by
  obtain ⟨h1,h2,h3⟩:=ho
  cases s with
  | nil=>simp [Sl.len] at h1; omega
  | «at» b o n =>
    obtain ⟨pre,h4,h5⟩:=h3
    obtain ⟨f1,f2⟩:=flatten_split h2 hi
    have hl:=flatten_len h2
    have hie:i * e + e≤xss.length * e:=by
      have:(i + 1) * e≤xss.length * e:=Nat.mul_le_mul_right e hi
      rw [Nat.add_mul] at this; omega
    refine ⟨h.set b (.cells false (pre ++ (xss.set i vs).flatten)),fun lc=>?_,⟨by simpa using h1, ?_,pre,AH.get_set_same _ (AH.get_lt h4),h5⟩,rfl,fun b' hb=>AH.get_set_ne _ (fun e=>hb (by rw [e]; rfl))⟩
    · show Mem.wr ⟨lc,h⟩ ⟨b,o + i * e,none⟩ vs = _
      rw [wr_heap,h4]
      simp only [List.length_append,hl,h5]
      rw [if_pos (by omega),set_flatten h2 hi,f1]
      have hel:(xss[i]).length = e:=h2 _ (List.getElem_mem hi)
      have:=setAll_eq vs (pre ++ (xss.take i).flatten) xss[i] (xss.drop (i + 1)).flatten (by omega)
      simp only [List.length_append,f2,h5,List.append_assoc] at this
      simp only [List.append_assoc,this]
    · intro x hx
      rcases List.mem_or_eq_of_mem_set hx with h' | h'
      · exact h2 x h'
      · rw [h',hv]
theorem own_append {h:AH} {e by':Nat} {s:Sl} {xss yss:List (List Value)} (ho:Own h e s xss) {y:Value} {lc:Lc} {k:Nat} (hk:lenV y = some k) (hy:rdSlice ⟨lc,h⟩ e y = some yss.flatten)
    (hyl:yss.length = k) (hye:∀ x∈yss,x.length = e) (k0:0 < k) (he:0 < e) (hb:0 < by') (hn:(xss.length + k) * by'≤140737488355328) :
    ∃ s' h',appendA e by' ⟨lc,h⟩ (s.val e) y = some (s'.val e,⟨lc,h'⟩)∧Own h' e s' (xss ++ yss)∧s'.blk = some h.n∧h'.n = h.n + 1∧∀ b,b < h.n→s.blk≠some b→h'.get b = h.get b:=by
  obtain ⟨h1,h2,h3⟩:=ho
  have hyf:yss.flatten.length = k * e:=by rw [flatten_len hye,hyl]
  have hall:∀ x∈xss ++ yss,x.length = e:=fun x hx=>(List.mem_append.1 hx).elim (h2 x) (hye x)
  cases s with
  | nil =>
    have hx:xss = []:=List.eq_nil_of_length_eq_zero (by simpa [Sl.len] using h1.symm)
    subst hx
    simp only [List.length_nil,Nat.zero_add] at hn
    refine ⟨.at h.n 0 k,h.push (.cells false yss.flatten), ?_,⟨by simp [Sl.len,hyl],hall,[],by simpa using AH.get_push_same h _,rfl⟩,rfl,rfl,fun b hb' _=>AH.get_push_ne _ (by omega)⟩
    simp only [appendA,appendG,hk,hy,hyf,if_true,Sl.val]
    rw [if_neg (by omega),if_pos ⟨hn,hb,he⟩]
    rfl
  | «at» b o n =>
    obtain ⟨pre,h4,h5⟩:=h3
    simp only [Sl.len] at h1
    subst h1
    have hl:=flatten_len h2
    have hbn:=AH.get_lt h4
    refine ⟨.at h.n 0 (xss.length + k),(h.kill b).push (.cells false (xss.flatten ++ yss.flatten)), ?_,⟨by simp [Sl.len,hyl],hall,[],by simpa using AH.get_push_same (h.kill b) _,rfl⟩,rfl,rfl,fun b' hb' hne=>?_⟩
    · simp only [appendA,appendG,hk,hy,hyf,if_true,Sl.val]
      rw [if_neg (by omega)]
      simp only [h4,AObj.own,AObj.mk]
      rw [if_pos ⟨by simp only [List.length_append,hl,h5],hn,hb,he,trivial⟩,← h5,List.drop_left]
    · rw [AH.get_push_ne _ (by simpa using Nat.ne_of_lt hb'),AH.get_kill_ne (fun e=>hne (by rw [e]; rfl))]
structure FOwn (h0 h:AH) (e:Nat) (s:Sl) (xss:List (List Value)):Prop where
  own:Own h e s xss
  kp:Kp h0 h
  new:∀ b,s.blk = some b→h0.n≤b
theorem FOwn.reads {h0 h:AH} {e:Nat} {s:Sl} {xss:List (List Value)} (f:FOwn h0 h e s xss):Reads h e s xss:=f.own.reads
theorem FOwn.nil {h0 h:AH} {e:Nat} (k:Kp h0 h):FOwn h0 h e .nil []:=⟨⟨rfl,by simp,trivial⟩,k,fun b hb=>by cases hb⟩
theorem FOwn.set {h0 h:AH} {e:Nat} {s:Sl} {xss:List (List Value)} (f:FOwn h0 h e s xss) {i:Nat} (hi:i < xss.length) {vs:List Value} (hv:vs.length = e) :
    ∃ h',(∀ lc,Mem.wr ⟨lc,h⟩ (s.adr e i) vs = some ⟨lc,h'⟩)∧FOwn h0 h' e s (xss.set i vs):=by
  obtain ⟨h',a,b,c,d⟩:=own_set f.own hi hv
  exact ⟨h',a,b,⟨by rw [c]; exact f.kp.1,fun b' hb=>(d b' (fun e=>by have:=f.new _ e; omega)).trans (f.kp.2 b' hb)⟩,f.new⟩
theorem FOwn.append {h0 h:AH} {e by':Nat} {s:Sl} {xss yss:List (List Value)} (f:FOwn h0 h e s xss) {y:Value} {lc:Lc} {k:Nat} (hk:lenV y = some k) (hy:rdSlice ⟨lc,h⟩ e y = some yss.flatten)
    (hyl:yss.length = k) (hye:∀ x∈yss,x.length = e) (k0:0 < k) (he:0 < e) (hb:0 < by') (hn:(xss.length + k) * by'≤140737488355328) :
    ∃ s' h',appendA e by' ⟨lc,h⟩ (s.val e) y = some (s'.val e,⟨lc,h'⟩)∧FOwn h0 h' e s' (xss ++ yss):=by
  obtain ⟨s',h',a,b,c,d,g⟩:=own_append f.own hk hy hyl hye k0 he hb hn
  exact ⟨s',h',a,b,⟨by have:=f.kp.1; omega,fun b' hb=>(g b' (by have:=f.kp.1; omega) (fun e=>by have:=f.new _ e; omega)).trans (f.kp.2 b' hb)⟩,fun b' hb=>by
    rw [c] at hb; injection hb with hb; have:=f.kp.1; omega⟩
theorem FOwn.make {h0 h:AH} {e:Nat} (k:Kp h0 h) {n:Nat} {z:List Value} (hz:z.length = e):FOwn h0 (h.push (.cells false (litCells n z))) e (.at h.n 0 n) (List.replicate n z) where
  own:=⟨by rw [List.length_replicate]; rfl,fun x hx=>by rw [(List.mem_replicate.1 hx).2]; exact hz,[],by simpa only [litCells,List.nil_append] using AH.get_push_same h _,rfl⟩
  kp:=⟨by have:=k.1; simp; omega,fun b hb=>(AH.get_push_ne _ (by have:=k.1; omega)).trans (k.2 b hb)⟩
  new:=fun b hb=>by injection hb with hb; have:=k.1; omega
variable {p:Prg} {fr:Fr} {lc:Lc} {h h0:AH}
variable {T:List (Fr × Mem)→Prop} {keep:List Nat} {r:List LInstr} {tr:List (Fr × Mem)} {K:Fr→Lc→AH→Prop} {d:Nat} {v:Value}
theorem own_copy {h:AH} {e:Nat} {s:Sl} {xss yss:List (List Value)} (ho:Own h e s xss) (hy:∀ x∈yss,x.length = e) (hl:yss.length≤xss.length) (h0:0 < yss.length) :
    ∃ h',(∀ lc,∃ b o,s = .at b o xss.length∧Mem.wr ⟨lc,h⟩ ⟨b,o,none⟩ yss.flatten = some ⟨lc,h'⟩)∧Own h' e s (yss ++ xss.drop yss.length)∧h'.n = h.n∧∀ b,s.blk≠some b→h'.get b = h.get b:=by
  obtain ⟨h1,h2,h3⟩:=ho
  cases s with
  | nil=>simp [Sl.len] at h1; omega
  | «at» b o n =>
    obtain ⟨pre,h4,h5⟩:=h3
    simp only [Sl.len] at h1
    subst h1
    have hlx:=flatten_len h2
    have hly:=flatten_len hy
    have hle:yss.length * e≤xss.length * e:=Nat.mul_le_mul_right e hl
    refine ⟨h.set b (.cells false (pre ++ (yss ++ xss.drop yss.length).flatten)),fun lc=>⟨b,o,rfl, ?_⟩,⟨?_, ?_,pre,AH.get_set_same _ (AH.get_lt h4),h5⟩,rfl,fun b' hb=>AH.get_set_ne _ (fun e=>hb (by rw [e]; rfl))⟩
    · rw [wr_heap,h4]
      simp only [List.length_append,hlx,hly,h5]
      rw [if_pos (by omega)]
      have hx:=congrArg List.flatten (List.take_append_drop yss.length xss)
      rw [List.flatten_append] at hx
      have ht:(xss.take yss.length).flatten.length = yss.length * e:=by
        rw [flatten_len (fun x hx=>h2 x (List.mem_of_mem_take hx)),List.length_take,Nat.min_eq_left hl]
      have:=setAll_eq yss.flatten pre (xss.take yss.length).flatten (xss.drop yss.length).flatten (by omega)
      rw [List.append_assoc,hx,h5] at this
      rw [this,List.flatten_append,List.append_assoc]
    · simp only [Sl.len,List.length_append,List.length_drop]; omega
    · intro x hx
      rcases List.mem_append.1 hx with h' | h'
      · exact hy x h'
      · exact h2 x (List.mem_of_mem_drop h')
theorem FOwn.copy {h0 h:AH} {e:Nat} {s:Sl} {xss yss:List (List Value)} (f:FOwn h0 h e s xss) (hy:∀ x∈yss,x.length = e) (hl:yss.length≤xss.length) (hp:0 < yss.length) :
    ∃ h',(∀ lc,∃ b o,s = .at b o xss.length∧Mem.wr ⟨lc,h⟩ ⟨b,o,none⟩ yss.flatten = some ⟨lc,h'⟩)∧FOwn h0 h' e s (yss ++ xss.drop yss.length):=by
  obtain ⟨h',a,b,c,d⟩:=own_copy f.own hy hl hp
  exact ⟨h',a,b,⟨by rw [c]; exact f.kp.1,fun b' hb=>(d b' (fun e=>by have:=f.new _ e; omega)).trans (f.kp.2 b' hb)⟩,f.new⟩
theorem own_set1 {h:AH} {e:Nat} {s:Sl} {xss:List (List Value)} (ho:Own h e s xss) {i k:Nat} (hi:i < xss.length) (hk:k < e) (v:Value) :
    ∃ h',(∀ lc,Mem.wr ⟨lc,h⟩ (ptrOff (s.adr e i) k) [v] = some ⟨lc,h'⟩)∧Own h' e s (xss.set i ((xss[i]).set k v))∧h'.n = h.n∧∀ b,s.blk≠some b→h'.get b = h.get b:=by
  have hel:(xss[i]).length = e:=ho.2.1 _ (List.getElem_mem hi)
  obtain ⟨h',a,b,c,d⟩:=own_set ho hi (vs:=(xss[i]).set k v) (by simpa using hel)
  refine ⟨h',fun lc=>?_,b,c,d⟩
  have ha:=a lc
  obtain ⟨h1,h2,h3⟩:=ho
  cases s with
  | nil=>simp [Sl.len] at h1; omega
  | «at» bb o n =>
    obtain ⟨pre,h4,h5⟩:=h3
    obtain ⟨f1,f2⟩:=flatten_split h2 hi
    have hl:=flatten_len h2
    have hie:i * e + e≤xss.length * e:=by
      have:(i + 1) * e≤xss.length * e:=Nat.mul_le_mul_right e hi
      rw [Nat.add_mul] at this; omega
    have ha':Mem.wr ⟨lc,h⟩ ⟨bb,o + i * e,none⟩ ((xss[i]).set k v) = some ⟨lc,h'⟩:=ha
    show Mem.wr ⟨lc,h⟩ ⟨bb,o + i * e + k,none⟩ [v] = _
    rw [wr_heap,h4] at ha' ⊢
    simp only [List.length_append,hl,h5,List.length_set,hel,List.length_singleton] at ha' ⊢
    rw [if_pos (by omega)] at ha' ⊢
    rw [← ha']
    congr 4
    have hx:(xss[i]).take k ++ ((xss[i])[k] :: (xss[i]).drop (k + 1)) = xss[i]:=by
      rw [← List.drop_eq_getElem_cons (by omega),List.take_append_drop]
    have s1:=setAll_eq [v] (pre ++ (xss.take i).flatten ++ (xss[i]).take k) [(xss[i])[k]] ((xss[i]).drop (k + 1) ++ (xss.drop (i + 1)).flatten) rfl
    have s2:=setAll_eq ((xss[i]).set k v) (pre ++ (xss.take i).flatten) xss[i] (xss.drop (i + 1)).flatten (by simp)
    simp only [List.length_append,f2,h5,List.length_take,hel] at s1 s2
    rw [Nat.min_eq_left (by omega)] at s1
    have e1:pre ++ xss.flatten = pre ++ (xss.take i).flatten ++ (xss[i]).take k ++ [(xss[i])[k]] ++ ((xss[i]).drop (k + 1) ++ (xss.drop (i + 1)).flatten):=by
      rw [f1]
      conv=>lhs; rw [← hx]
      simp only [List.append_assoc,List.cons_append,List.nil_append]
    have e2:pre ++ xss.flatten = pre ++ (xss.take i).flatten ++ xss[i] ++ (xss.drop (i + 1)).flatten:=by
      rw [f1]; simp only [List.append_assoc]
    rw [show o + i * e + k = o + i * e + k from rfl,e1,s1,← e1,e2,s2]
    rw [List.set_eq_take_append_cons_drop,if_pos (by omega)]
    simp only [List.append_assoc,List.cons_append,List.nil_append]
end Go.Proofs.YtakmapoompffgaaGreatDoor.AM
namespace Go.Proofs.YtakmapoompffgaaGreatDoor.AM
open Go Go.RowKit Go.ChangeShapes Go.WideShapes Go.Deep
theorem calls_of_wpc {P:Program} (hm:P.follows .mixedOrders = true) {p:Prg} {w:World} (hp:PrgOk P w.heap.size p) {f:FuncId} {args:List Value} {h:AH} {b:Bool}
    (hx:WpC p f args h fun v _=>v = .bool b) {ρ:Rho} {argsC:Array Value} (hh:HRel P w.heap.size ρ h w) (ha:VRels ρ args argsC.toList) (hro:∀ b o,h.get b = some o→o.ro = true) :
    Calls P f argsC w fun e w'=>e = .returned (.bool b)∧Below w.heap.size w w':=by
  obtain ⟨v,h',h1,rfl⟩:=hx
  obtain ⟨k,hk⟩:=callO_iff.1 h1
  exact calls_of_run hm hp (k:=k) (by rw [hk]; rfl) hh ha hro
theorem HRel.ro {P:Program} {B:Nat} {ρ:Rho} {h:AH} {w:World} (hh:HRel P B ρ h w) {c δ N:Nat} {xs:List Value} {cs:Array Value} {t:TypeId} {fz:Nat × Nat} (hc:w.heap[c]? = some (.cells cs t fz)) (hN:cs.size = N) (hl:δ + xs.length≤N)
    (hx:CellRel ρ cs δ xs) (hB:c < B):HRel P B (ρ ++ [(c, δ,N)]) (h.push (.cells true xs)) w where
  len:=by simp [hh.len]
  live:=fun b o ho=>by
    by_cases hb:b = h.n
    · subst hb
      rw [AH.get_push_same] at ho
      injection ho with ho
      subst ho
      exact ⟨c, δ,N,_,by rw [← hh.len]; simp,hc,⟨hN,hl,(fun h=>by cases h),hx.mono (.snoc _ _)⟩,(fun h=>by cases h),fun _=>hB⟩
    · rw [AH.get_push_ne _ hb] at ho
      obtain ⟨c', δ',N',x,q1,q2,q3,q4⟩:=hh.live b o ho
      exact ⟨c', δ',N',x,Ext.snoc _ _ _ _ q1,q2,q3.mono (.snoc _ _),q4⟩
  glob:=fun g hg=>let ⟨N',hN'⟩:=hh.glob g hg; ⟨N',Ext.snoc _ _ _ _ hN'⟩
  inj := fun b b' o o' c1 δ1 N1 c2 δ2 N2 h1 h2 hne hro e1 e2=>by
    by_cases hb:b = h.n
    · subst hb
      rw [AH.get_push_same] at h1
      injection h1 with h1
      subst h1
      cases hro
    · rw [AH.get_push_ne _ hb] at h1
      have hbl:b < h.n:=AH.get_lt h1
      have e1':ρ[b]? = some (c1, δ1,N1):=by
        rw [List.getElem?_append_left (by rw [hh.len]; exact hbl)] at e1; exact e1
      by_cases hb':b' = h.n
      · subst hb'
        rw [← hh.len] at e2
        simp only [List.getElem?_append_right (Nat.le_refl _),Nat.sub_self,List.getElem?_cons_zero,Option.some.injEq,Prod.mk.injEq] at e2
        obtain ⟨rfl,rfl,rfl⟩:=e2
        obtain ⟨c', δ',N',x,q1,q2,q3,q4,q5⟩:=hh.live b o h1
        rw [e1'] at q1
        injection q1 with q1
        injection q1 with q1 _
        have:=q4 hro
        omega
      · rw [AH.get_push_ne _ hb'] at h2
        have e2':ρ[b']? = some (c2, δ2,N2):=by
          rw [List.getElem?_append_left (by rw [hh.len]; exact AH.get_lt h2)] at e2; exact e2
        exact hh.inj b b' o o' c1 δ1 N1 c2 δ2 N2 h1 h2 hne hro e1' e2'
def pairV (x:Int × Int):List Value:=[.int .i32 x.1,.int .i32 x.2]
theorem has_i32 {n:Int} (h:(Lit.int .i32 n).wf = true) : -2147483648≤n∧n < 2147483648:=by
  simp only [Lit.wf,IntKind.has,IntKind.min,IntKind.max,IntKind.signed,IntKind.bits,Bool.and_eq_true,decide_eq_true_eq,if_true] at h
  omega
end Go.Proofs.YtakmapoompffgaaGreatDoor.AM
namespace Go.Proofs.YtakmapoompffgaaGreatDoor.AM
open Go
variable {p:Prg} {fr:Fr} {lc:Lc} {h:AH} {Q:Post}
variable {T:List (Fr × Mem)→Prop} {keep:List Nat} {r:List LInstr} {tr:List (Fr × Mem)} {K:Fr→Lc→AH→Prop} {d:Nat} {v:Value}
noncomputable def callV (p:Prg) (f:Value) (args:List Value) (h:AH):Option (Value × AH) :=
  match f with
  | .func (.func g) first captured=>callO p g (first.toList ++ args ++ captured.toList) h
  | .func (.yield l) first _=>if first.size = 0 then yieldO p l args h else none
  | _=>none
structure WpV (p:Prg) (f:Value) (args:List Value) (h:AH) (Q:Value→AH→Prop):Prop where
  out:∃ v h',callV p f args h = some (v,h')∧Q v h'
theorem WpV.mono {f:Value} {args:List Value} {C C':Value→AH→Prop} (hq:WpV p f args h C) (hm:∀ v h',C v h'→C' v h'):WpV p f args h C' :=
  let ⟨v,h',h1,h2⟩:=hq
  ⟨v,h',h1,hm _ _ h2⟩
theorem wpV_fn {g:FuncId} {a b:Array Value} {args:List Value} {C:Value→AH→Prop} (hq:WpC p g (a.toList ++ args ++ b.toList) h C):WpV p (.func (.func g) a b) args h C :=
  let ⟨v,h',h1,h2⟩:=hq
  ⟨v,h',h1,h2⟩
theorem WpV.fn {g:FuncId} {a b:Array Value} {args:List Value} {C:Value→AH→Prop} (hq:WpV p (.func (.func g) a b) args h C):WpC p g (a.toList ++ args ++ b.toList) h C :=
  let ⟨v,h',h1,h2⟩:=hq
  ⟨v,h',h1,h2⟩
theorem ev_callV {f:Opd} {xs:List Opd} {fv:Value} {asx:List Value} {v:Value} {h':AH} (hf:opd fr f = fv) (ha:opds fr xs = asx) (hok:asx.all okV = true) (hc:callV p fv asx h = some (v,h')) :
    (EOp.callv f xs).ev (callO p) (yieldO p) fr ⟨lc,h⟩ = some (v,⟨lc,h'⟩):=by
  simp only [EOp.ev,ha,hok,if_true,hf]
  unfold callV at hc
  split at hc
  · simp only [hc,Option.map_some]
  · rename_i l first x
    split at hc
    · rename_i h0; simp only [h0,if_true,hc,Option.map_some]
    · cases hc
  · cases hc
theorem wpr_callV {f:Opd} {xs:List Opd} {fv:Value} {asx:List Value} (hf:opd fr f = fv) (ha:opds fr xs = asx) (hok:asx.all okV = true)
    (hq:WpV p fv asx h fun v h'=>WpR p T keep r ((d,v) :: fr) lc h' ((fr,⟨lc,h⟩) :: tr) K) :
    WpR p T keep (⟨some d,.e (.callv f xs),none⟩ :: r) fr lc h tr K:=by
  obtain ⟨v,h',h1,h2⟩:=hq
  exact wpr_e (ev_callV hf ha hok h1) h2
theorem settle_ok {v:Value} (hv:isLoc v = false) (i:Nat):settle1 i v = some v:=by unfold settle1; rw [if_neg (by rw [hv]; decide)]
theorem lc1_ok {v:Value} (hv:isLoc v = false) (lc:Lc) (i:Nat) (r:Lc):lc1 lc i v r = r:=by
  unfold lc1
  split
  · rename_i a
    simp only [isLoc] at hv
    cases hs:a.spot with
    | none=>rfl
    | some k=>rw [hs] at hv; cases hv
  · rfl
theorem ev_mkfn {g:FuncId} {a b:List Opd}:(POp.mkfn (.func g) a b).ev fr = if ((opds fr a).all okV && (opds fr b).all okV) = true then some (.func (.func g) (opds fr a).toArray (opds fr b).toArray) else none:=rfl
theorem ev_mkif {t:TypeId} {x:Opd}:(POp.mkif t x).ev fr = if okV (opd fr x) = true then some (.iface t (opd fr x)) else none:=rfl
attribute [push_cast] ev_mkfn ev_mkif okV_eq
theorem okFr_nil:okFr [] = []:=rfl
theorem okFr_cons {s:Nat} {v:Value} {r:Fr}:okFr ((s,v) :: r) = (if okV v then (s,v) else (s,undef)) :: okFr r:=rfl
def IsF (v:Value):Prop:=∃ fn a b,v = .func fn a b
theorem IsF.loc {v:Value} (h:IsF v):isLoc v = false:=by obtain ⟨_,_,_,rfl⟩:=h; rfl
theorem IsF.cell {v:Value} (h:IsF v):cellOk v = true:=by obtain ⟨_,_,_,rfl⟩:=h; rfl
theorem IsF.vc {v:Value} (h:IsF v):vcells v = [v]:=by obtain ⟨_,_,_,rfl⟩:=h; rfl
theorem IsF.set {v:Value} (h:IsF v) (i:Nat):settle1 i v = some v:=settle_ok h.loc i
theorem IsF.lc1 {v:Value} (h:IsF v) (lc:Lc) (i:Nat) (r:Lc):lc1 lc i v r = r:=lc1_ok h.loc lc i r
structure PF (T:Nat→Prop) (h h':AH):Prop where
  n:h.n≤h'.n
  keep:∀ b,b < h.n → ¬ T b→h'.get b = h.get b
structure Fm (l:Nat) (T:Nat→Prop) (h h':AH):Prop where
  n:h.n≤h'.n
  keep:∀ b,b < h.n → ¬ T b→b≠l→h'.get b = h.get b
theorem AH.set_n {h:AH} {b:Nat} {o:AObj}:(h.set b o).n = h.n:=rfl
theorem AH.push_n {h:AH} {o:AObj}:(h.push o).n = h.n + 1:=rfl
theorem Fm.set {l:Nat} {T:Nat→Prop} {h:AH} (o:AObj):Fm l T h (h.set l o):=⟨Nat.le_refl _,fun b _ _ hb=>AH.get_set_ne o hb⟩
theorem Fm.kill {l:Nat} {T:Nat→Prop} {h:AH}:Fm l T h (h.kill l):=⟨Nat.le_refl _,fun b _ _ hb=>AH.get_kill_ne hb⟩
theorem Fm.push {l:Nat} {T:Nat→Prop} {h:AH} (o:AObj):Fm l T h (h.push o):=⟨by rw [AH.push_n]; omega,fun b hb _ _=>AH.get_push_ne o (by omega)⟩
theorem PF.fm {l:Nat} {T:Nat→Prop} {h h':AH} (f:PF T h h'):Fm l T h h':=⟨f.n,fun b h1 h2 _=>f.keep b h1 h2⟩
theorem Kp.pf {T:Nat→Prop} {h h':AH} (k:Kp h h'):PF T h h':=⟨k.1,fun b hb _=>k.2 b hb⟩
theorem Kp.fm {l:Nat} {T:Nat→Prop} {h h':AH} (k:Kp h h'):Fm l T h h':=k.pf.fm
theorem Reads.setNe {h:AH} {e:Nat} {s:Sl} {xss:List (List Value)} (r:Reads h e s xss) {c:Nat} (o:AObj) (k:∀ b,s.blk = some b→b≠c):Reads (h.set c o) e s xss:=by
  refine ⟨r.1,r.2.1, ?_⟩
  have:=r.2.2
  cases s with
  | nil=>trivial
  | «at» b o' n=>exact this.imp id fun ⟨ro,pre,post,h1,h2⟩=>⟨ro,pre,post,by rw [AH.get_set_ne o (k b rfl)]; exact h1,h2⟩
theorem Kp.push {h0 h:AH} (k:Kp h0 h) (o:AObj):Kp h0 (h.push o):=⟨by have:=k.1; rw [AH.push_n]; omega,fun b hb=>by have:=k.1; rw [AH.get_push_ne _ (by omega)]; exact k.2 b hb⟩
theorem Kp.setNew {h0 h:AH} (k:Kp h0 h) {c:Nat} (o:AObj) (hc:h0.n≤c):Kp h0 (h.set c o):=⟨k.1,fun b hb=>by rw [AH.get_set_ne _ (by omega)]; exact k.2 b hb⟩
theorem yieldO_run {l:Nat} {args:List Value} {r:LRec} {fr1:Fr} {lc1:Lc} {h1:AH} {r1:LRec} {ex:Ex} {fr2:Fr} {m2:Mem} {r2:LRec} (h0:h.get l = some (.loop r)) (hn:args.length = r.params.length)
    (ha:execO p r.assign ((r.params.zip args).reverse ++ r.fr) { lc:=[],h } = some (.norm,fr1,⟨lc1,h1⟩)) (hr1:h1.get l = some (.loop r1)) (hst:r1.state = .ready)
    (hb:execO p r1.body fr1 ⟨lc1,h1.set l (.loop { r1 with state:=.busy })⟩ = some (ex,fr2,m2)) (hr2:m2.h.get l = some (.loop r2)) (hbody:r1.body = r.body) :
    yieldO p l args h = some ((endRec r2 ex).1,m2.h.set l (.loop (endRec r2 ex).2)):=by
  obtain ⟨k1,e1⟩:=execO_iff.1 ha
  obtain ⟨k2,e2⟩:=execO_iff.1 hb
  have e1':=exec_rising p _ _ _ k1 (max k1 k2) _ (Nat.le_max_left _ _) e1
  have e2':=exec_rising p _ _ _ k2 (max k1 k2) _ (Nat.le_max_right _ _) e2
  refine yieldO_iff.2 ⟨max k1 k2 + 1, ?_⟩
  rw [hbody] at e2'
  show yieldBody (runN p (max k1 k2)).1 (runN p (max k1 k2)).2 (max k1 k2) l args h = _
  unfold yieldBody
  simp only [h0,hn,if_true,e1',hr1,hst]
  cases r1 with
  | mk s pd f ps a b =>
    simp only at hbody hst e2'
    subst hbody hst
    simp only [e2',hr2]
structure Cons {α:Type} (p:Prg) (yv:Value) (xs:List α) (enc:α→List Value) (I:Nat→(Nat→Prop)→AH→Prop) (E:(Nat→Prop)→AH→Prop):Prop where
  step:∀ (i:Nat) (hi:i < xs.length) T h,I i T h→WpV p yv (enc xs[i]) h fun v h'=>((v = .bool true∧I (i + 1) T h')∨(v = .bool false∧E T h'))∧h.n≤h'.n∧∀ b,T b→h'.get b = h.get b
  frI:∀ i T T' h h',I i T h→PF T h h'→(∀ b,T' b→b < h'.n∧(T b∨h.n≤b))→I i T' h'
  frE:∀ T T' h h',E T h→PF T h h'→(∀ b,T' b→b < h'.n∧(T b∨h.n≤b))→E T' h'
end Go.Proofs.YtakmapoompffgaaGreatDoor.AM
