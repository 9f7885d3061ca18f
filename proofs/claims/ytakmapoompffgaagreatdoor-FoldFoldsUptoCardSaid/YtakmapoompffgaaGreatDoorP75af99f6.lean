/- Parts of proofs: lemmas, joined. -/
import Derived.Test.YtakmapoompffgaaGreatDoorP726c02e3
import Derived.ControlIn
import Derived.RangeFuncRecord
import Derived.Scope
set_option linter.unusedVariables false
set_option linter.unusedSimpArgs false
set_option linter.unusedSectionVars false
namespace Go.Proofs.YtakmapoompffgaaGreatDoor.AM
open Go
section
variable {fr fr':Fr}
def Agree (fr fr':Fr) (l:List Nat):Prop:=∀ s∈l,fget fr s = fget fr' s
theorem Agree.left {a b:List Nat} (h:Agree fr fr' (a ++ b)):Agree fr fr' a:=fun s hs=>h s (List.mem_append_left _ hs)
theorem Agree.right {a b:List Nat} (h:Agree fr fr' (a ++ b)):Agree fr fr' b:=fun s hs=>h s (List.mem_append_right _ hs)
theorem opd_congr {x:Opd} (h:Agree fr fr' (opdSlots x)):opd fr x = opd fr' x:=by
  cases x with
  | s n=>exact h n (by simp [opdSlots])
  | c v=>rfl
theorem opds_congr {xs:List Opd} (h:Agree fr fr' (opdsSlots xs)):opds fr xs = opds fr' xs:=by
  unfold opds
  refine List.map_congr_left fun x hx=>opd_congr fun s hs=>h s ?_
  exact List.mem_flatMap.2 ⟨x,hx,hs⟩
theorem evParts_congr {ps:List (Nat × Nat × Opd)} (h:Agree fr fr' (partSlots ps)):evParts fr ps = evParts fr' ps:=by
  unfold evParts
  refine List.map_congr_left fun p hp=>?_
  rw [opd_congr fun s hs=>h s (List.mem_flatMap.2 ⟨p,hp,hs⟩)]
theorem optInt_congr {o:Option Opd} {d:Int} (h:Agree fr fr' (optSlots o)):optInt fr o d = optInt fr' o d:=by
  cases o with
  | none=>rfl
  | some x=>simp only [optInt]; rw [opd_congr (x:=x) h]
theorem POp.ev_congr {o:POp} (h:Agree fr fr' o.slots):o.ev fr = o.ev fr':=by
  cases o <;> simp only [POp.slots] at h
  case mv x=>simp only [POp.ev,opd_congr h]
  case pick c a b=>simp only [POp.ev,opd_congr h.left.left,opd_congr h.left.right,opd_congr h.right]
  case bin op x y=>simp only [POp.ev,opd_congr h.left,opd_congr h.right]
  case un op x=>simp only [POp.ev,opd_congr h]
  case conv k x=>simp only [POp.ev,opd_congr h]
  case i2s x=>simp only [POp.ev,opd_congr h]
  case build z ps=>simp only [POp.ev,evParts_congr h]
  case nilck x=>simp only [POp.ev,opd_congr h]
  case slS x lo hi=>simp only [POp.ev,opd_congr h.left.left,optInt_congr h.left.right,optInt_congr h.right]
  case sl e x lo hi mx=>simp only [POp.ev,opd_congr h.left.left.left,optInt_congr h.left.left.right,optInt_congr h.left.right,optInt_congr h.right]
  case faddr o x=>simp only [POp.ev,opd_congr h]
  case fld o n x=>simp only [POp.ev,opd_congr h]
  case iaddr e x i=>simp only [POp.ev,opd_congr h.left,opd_congr h.right]
  case iaddrA n e x i=>simp only [POp.ev,opd_congr h.left,opd_congr h.right]
  case idxS x i=>simp only [POp.ev,opd_congr h.left,opd_congr h.right]
  case idxA n e k x i=>simp only [POp.ev,opd_congr h.left,opd_congr h.right]
  case ext i x=>simp only [POp.ev,opd_congr h]
  case len x=>simp only [POp.ev,opd_congr h]
  case idxB x c=>simp only [POp.ev,opd_congr h.left,opd_congr h.right]
  case slen x=>simp only [POp.ev,opd_congr h]
  case mm b xs=>simp only [POp.ev,opds_congr h]
  case mkfn f a b=>simp only [POp.ev,opds_congr h.left,opds_congr h.right]
  case mkif t x=>simp only [POp.ev,opd_congr h]
  case eqA n ks x y=>simp only [POp.ev,opd_congr h.left,opd_congr h.right]
  case eqk n k x y=>simp only [POp.ev,opd_congr h.left,opd_congr h.right]
theorem ROp.ev_congr {o:ROp} {m:Mem} (h:Agree fr fr' o.slots):o.ev fr m = o.ev fr' m:=by
  cases o <;> simp only [ROp.slots] at h
  case load n x=>cases n <;> simp only [ROp.ev,opd_congr h]
  case b2s x=>simp only [ROp.ev,opd_congr h]
  case r2s x=>simp only [ROp.ev,opd_congr h]
  case maplen x=>simp only [ROp.ev,opd_congr h]
  case lookup kk z ok x k=>simp only [ROp.ev,opd_congr h.left,opd_congr h.right]
theorem EOp.ev_congr {o:EOp} {call:CallF} {yld:YieldF} {m:Mem} (h:Agree fr fr' o.slots):o.ev call yld fr m = o.ev call yld fr' m:=by
  cases o <;> simp only [EOp.slots] at h
  case newL t z=>rfl
  case newH z=>rfl
  case boxL t n x=>simp only [EOp.ev,opd_congr h]
  case boxH n x=>simp only [EOp.ev,opd_congr h]
  case litL t n e z ps=>simp only [EOp.ev,evParts_congr h]
  case litH n e z ps=>simp only [EOp.ev,evParts_congr h]
  case store n a x=>simp only [EOp.ev,opd_congr h.left,opd_congr h.right]
  case s2b x=>simp only [EOp.ev,opd_congr h]
  case s2r x=>simp only [EOp.ev,opd_congr h]
  case rngS t x=>simp only [EOp.ev,opd_congr h]
  case nxtS x=>simp only [EOp.ev,opd_congr h]
  case call f xs=>simp only [EOp.ev,opds_congr h]
  case callv f xs=>simp only [EOp.ev,opds_congr h.right,opd_congr h.left]
  case append e b x y=>simp only [EOp.ev,opd_congr h.left,opd_congr h.right]
  case newT t z=>rfl
  case appendT t e b x y=>simp only [EOp.ev,opd_congr h.left,opd_congr h.right]
  case copy e x y=>simp only [EOp.ev,opd_congr h.left,opd_congr h.right]
  case mks e b z l c=>simp only [EOp.ev,opd_congr h.left,opd_congr h.right]
  case mkmap=>rfl
  case mapup kk x k v=>simp only [EOp.ev,opd_congr h.left.left,opd_congr h.left.right,opd_congr h.right]
  case mapent kk z x k=>simp only [EOp.ev,opd_congr h.left,opd_congr h.right]
  case mapst x i v=>simp only [EOp.ev,opd_congr h.left.left,opd_congr h.left.right,opd_congr h.right]
theorem LInstr.ev_congr {i:LInstr} {call:CallF} {yld:YieldF} {m:Mem} (h:Agree fr fr' i.slots):i.ev call yld fr m = i.ev call yld fr' m:=by
  obtain ⟨d,op,gd⟩:=i
  unfold LInstr.slots at h
  cases op <;> simp only at h <;> simp only [LInstr.ev]
  · rw [POp.ev_congr h.left]
  · rw [ROp.ev_congr h.left]
  · rw [EOp.ev_congr h.left]
theorem wantedA_congr {i:LInstr} (h:Agree fr fr' i.slots):wantedA fr i.guard = wantedA fr' i.guard:=by
  obtain ⟨d,op,gd⟩:=i
  cases gd with
  | none=>rfl
  | some p =>
    obtain ⟨s,b⟩:=p
    have:fget fr s = fget fr' s:=h s (List.mem_append_right _ (by simp))
    simp only [wantedA,this]
theorem LInstr.step_congr {i:LInstr} {call:CallF} {yld:YieldF} {m:Mem} (h:Agree fr fr' i.slots):i.step call yld fr m = i.step call yld fr' m:=by
  unfold LInstr.step
  rw [wantedA_congr h,LInstr.ev_congr h]
end
theorem vsame0_eq {a b:Value} (h:vsame0 a b = true):a = b:=by
  unfold vsame0 at h
  split at h
  case h_3=>rw [bytes_beq h]
  all_goals simp_all
theorem vsameL_eq:∀ {xs ys:List Value},vsameL xs ys = true→xs = ys
  | [],[],_=>rfl
  | x :: xs,y :: ys,h=>by
    simp only [vsameL,Bool.and_eq_true] at h
    rw [vsame0_eq h.1,vsameL_eq h.2]
  | [],_ :: _,h=>by simp [vsameL] at h
  | _ :: _,[],h=>by simp [vsameL] at h
theorem vsame1_eq {a b:Value} (h:vsame1 a b = true):a = b:=by
  unfold vsame1 at h
  split at h
  · rename_i xs ys
    have:=vsameL_eq h
    simp only [Array.toList_inj] at this
    rw [this]
  · rename_i f x y f' x' y'
    simp only [Bool.and_eq_true,decide_eq_true_eq] at h
    have h1:=vsameL_eq h.1.2
    have h2:=vsameL_eq h.2
    simp only [Array.toList_inj] at h1 h2
    rw [h.1.1,h1,h2]
  · exact vsame0_eq h
theorem vsameT_eq:∀ {xs ys:List Value},vsameT xs ys = true→xs = ys
  | [],[],_=>rfl
  | x :: xs,y :: ys,h=>by
    simp only [vsameT,Bool.and_eq_true] at h
    rw [vsame1_eq h.1,vsameT_eq h.2]
  | [],_ :: _,h=>by simp [vsameT] at h
  | _ :: _,[],h=>by simp [vsameT] at h
theorem vsame_eq {a b:Value} (h:vsame a b = true):a = b:=by
  unfold vsame at h
  split at h
  · rename_i xs ys
    have:=vsameT_eq h
    simp only [Array.toList_inj] at this
    rw [this]
  · exact vsame1_eq h
end Go.Proofs.YtakmapoompffgaaGreatDoor.AM
namespace Go.Proofs.YtakmapoompffgaaGreatDoor.AM
open Go
variable {P:Program} {B nt:Nat} {E:Ent} {D:List Nat} {ρ:Rho} {lm:Nat→Option Nat} {fr:Fr} {m:Mem} {a:Act} {w:World} {g:Nat→Value}
variable {call:CallF} {yld:YieldF}
theorem liftIs_get {lo:List Nat} {ops:Array Oper}:∀ {os:List Oper} {ls:List LInstr},liftIs P nt lo ops os = some ls →
    ls.length = os.length∧∀ (i:Nat) (o:Oper),os[i]? = some o→∃ l,ls[i]? = some l∧liftI P nt lo ops o = some l
  | [],ls,h=>by
    simp only [liftIs] at h
    injection h with h
    subst h
    exact ⟨rfl,fun i o h=>by simp at h⟩
  | o :: r,ls,h=>by
    simp only [liftIs] at h
    split at h
    · rename_i i l hi hl
      injection h with h
      subst h
      obtain ⟨h1,h2⟩:=liftIs_get hl
      refine ⟨by simp [h1],fun k x hx=>?_⟩
      cases k with
      | zero=>simp only [List.getElem?_cons_zero,Option.some.injEq] at hx; subst hx; exact ⟨i,rfl,hi⟩
      | succ k=>simp only [List.getElem?_cons_succ] at hx ⊢; exact h2 k x hx
    · cases h
theorem liftI_spec {lo:List Nat} {ops:Array Oper} {o:Oper} {l:LInstr} (h:liftI P nt lo ops o = some l) :
    l.dst = o.dst∧liftOp P lo o = some l.op∧liftGuard ops o.guard = some l.guard∧∀ d,o.dst = some d→d < nt:=by
  unfold liftI at h
  split at h
  · rename_i op gd h1 h2
    split at h
    · rename_i h3
      injection h with h
      subst h
      refine ⟨rfl,h1,h2,fun d hd=>?_⟩
      rw [hd] at h3
      simpa using h3
    · cases h
  · cases h
theorem wanted_of {ops:Array Oper} {o:Oper} {gd:Option (Nat × Bool)} (hg:liftGuard ops o.guard = some gd) (hv:∀ s,VRelF ρ lm (fget fr s) (a.tmps.getD s undef)) {b:Bool}
    (h:wantedA fr gd = some b):Region.wanted o (yielded ops a.tmps) = b:=by
  unfold Region.wanted
  cases hog:o.guard with
  | none =>
    rw [hog] at hg
    simp only [liftGuard] at hg
    injection hg with hg
    subst hg
    simp only [wantedA] at h
    injection h
  | some p =>
    obtain ⟨j,want⟩:=p
    rw [hog] at hg
    simp only [liftGuard] at hg
    split at hg
    · rename_i s hs
      injection hg with hg
      subst hg
      simp only [wantedA] at h
      split at h
      · rename_i t ht
        injection h with h
        have hsv:=hv s
        rw [ht] at hsv
        have h2:a.tmps.getD s undef = .bool t:=by
          have h3:=hsv.ok (by simp [okV,isLoc])
          generalize hu:a.tmps.getD s undef = u at h3
          cases h3
          rfl
        have h4:a.tmps[s]? = some (.bool t):=by
          cases h5:a.tmps[s]? with
          | none=>simp [Array.getD_eq_getD_getElem?,h5,undef] at h2
          | some x=>simp [Array.getD_eq_getD_getElem?,h5] at h2; rw [h2]
        simp only [yielded,hs,Option.bind_some,h4,← h]
        cases t <;> cases want <;> rfl
      · rename_i hc
        injection h with h
        have hsv:=hv s
        rw [hc] at hsv
        have h3:=hsv.ok (by simp [okV,isLoc])
        have h2:a.tmps.getD s undef = .tuple #[]:=by
          generalize hu:a.tmps.getD s undef = u at h3
          cases h3
          rfl
        subst h
        simp only [yielded,hs,Option.bind_some]
        cases h5:a.tmps[s]? with
        | none=>rfl
        | some x =>
          have:x = .tuple #[]:=by simpa [Array.getD_eq_getD_getElem?,h5] using h2
          subst this
          rfl
      · cases h
    · cases hg
theorem fget_pushD (fr:Fr) (d:Option Nat) (v:Value) (s:Nat):fget (pushD fr d v) s = updG (fget fr) d v s:=by
  cases d with
  | none=>simp [pushD,updG]
  | some d =>
    simp only [pushD,updG,Option.some.injEq,fget]
    by_cases h:s = d
    · subst h; simp
    · have h' : ¬ (d = s):=fun e=>h e.symm
      simp [h,h']
theorem SR.congr (s:SR P B nt E D ρ lm g m a w) {g':Nat→Value} (h:∀ i,g' i = g i):SR P B nt E D ρ lm g' m a w:=s.weaken fun i=>by rw [h i]; exact s.val i
theorem step_sound (hcs:CallSound P B call) (hys:YieldSound P B yld) (s:SR P B nt E D ρ lm (fget fr) m a w) {ops:Array Oper} {lo:List Nat} {i:Nat} {o:Oper} (ho:ops[i]? = some o)
    {l:LInstr} (hl:liftI P nt lo ops o = some l) {v:Value} {m':Mem} (hv:l.step call yld fr m = some (v,m')) {r:Option Nat} {n:Nat} {K:Act→World→Prop} {Q:Exit→Act→World→Prop}
    (hn:∀ ρ' lm' a' w',SR P B nt E D ρ' lm' (fget (pushD fr l.dst v)) m' a' w'→K a' w'):wpOpIn (WF r) n P ops Q i K a w:=by
  obtain ⟨hd,hop,hg,hlt⟩:=liftI_spec hl
  unfold wpOpIn
  rw [ho]
  simp only
  unfold LInstr.step at hv
  split at hv
  · rename_i hw
    rw [wanted_of hg s.val hw]
    simp only [if_true]
    refine sim_op hcs hys s hop (v:=v) (m':=m') (by simpa [LInstr.ev] using hv) fun ρ' lm' u w' s' hu=>?_
    exact hn ρ' lm' _ w' ((s'.put (d:=o.dst) hlt hu).congr fun i=>by rw [fget_pushD,hd])
  · rename_i hw
    rw [wanted_of hg s.val hw]
    injection hv with hv
    injection hv with h1 h2
    subst h1 h2
    simp only [Bool.false_eq_true,if_false]
    refine ⟨fun _ _=>trivial,hn ρ lm _ w ((s.put (d:=o.dst) hlt (v:=skV) (u:=undef) (.inl .skip)).congr fun i=>by rw [fget_pushD,hd])⟩
  · cases hv
structure TextRun (call:CallF) (yld:YieldF) (ls:List LInstr) (fr:Fr) (m:Mem) (T:Nat→Fr × Mem) (V:Nat→Value):Prop where
  zero:T 0 = (fr,m)
  step:∀ (i:Nat) (l:LInstr),ls[i]? = some l→l.step call yld (T i).1 (T i).2 = some (V i,(T (i + 1)).2)∧(T (i + 1)).1 = pushD (T i).1 l.dst (V i)
  tr:∀ i,i≤ls.length→(trace call yld ls fr m)[i]? = some (T i)
theorem textRun:∀ {ls:List LInstr} {fr:Fr} {m:Mem} {fr':Fr} {m':Mem},runOps call yld ls fr m = some (fr',m')→∃ T V,TextRun call yld ls fr m T V∧T ls.length = (fr',m')
  | [],fr,m,fr',m',h=>by
    simp only [runOps] at h
    injection h with h
    refine ⟨fun _=>(fr,m),fun _=>undef,⟨rfl,fun i l h=>by simp at h,fun i hi=>?_⟩,h⟩
    have:i = 0:=by simpa using hi
    subst this
    simp [trace]
  | l :: r,fr,m,fr',m',h=>by
    simp only [runOps] at h
    split at h
    · rename_i v m1 hv
      obtain ⟨T,V,⟨h0,h1,h2⟩,h3⟩:=textRun h
      refine ⟨fun i=>match i with | 0=>(fr,m) | i + 1=>T i,fun i=>match i with | 0=>v | i + 1=>V i,⟨rfl,fun i x hx=>?_,fun i hi=>?_⟩,h3⟩
      · cases i with
        | zero =>
          simp only [List.getElem?_cons_zero,Option.some.injEq] at hx
          subst hx
          simp only [h0]
          exact ⟨hv,trivial⟩
        | succ i=>simp only [List.getElem?_cons_succ] at hx; exact h1 i x hx
      · cases i with
        | zero=>simp [trace]
        | succ i=>simp only [trace,hv,List.getElem?_cons_succ]; exact h2 i (by simpa using hi)
    · cases h
theorem wpOps_text (hcs:CallSound P B call) (hys:YieldSound P B yld) {ops:Array Oper} {lo:List Nat} {ls:List LInstr} (hls:liftIs P nt lo ops ops.toList = some ls)
    {T:Nat→Fr × Mem} {V:Nat→Value} (ht:TextRun call yld ls fr m T V) {r:Option Nat} {n:Nat} {Q:Exit→Act→World→Prop}
    (hn:∀ ρ' lm' a' w',SR P B nt E D ρ' lm' (fget (T ls.length).1) (T ls.length).2 a' w'→Q .normal a' w') :
    ∀ (k j:Nat),k + j = ls.length→∀ ρ lm a w,SR P B nt E D ρ lm (fget (T k).1) (T k).2 a w→wpOpsIn (WF r) n P ops Q (List.range' k j) a w:=by
  obtain ⟨hlen,hget⟩:=liftIs_get hls
  intro k j
  induction j generalizing k with
  | zero =>
    intro hk ρ lm a w s
    simp only [Nat.add_zero] at hk
    subst hk
    exact hn ρ lm a w s
  | succ j ih =>
    intro hk ρ lm a w s
    have hlt:k < ops.size:=by simp at hlen; omega
    have ho:ops[k]? = some ops[k]:=by simp [hlt]
    obtain ⟨l,h1,h2⟩:=hget k ops[k] (by simp [hlt])
    obtain ⟨h3,h4⟩:=ht.step k l h1
    rw [List.range'_succ,wpOpsIn_cons]
    refine step_sound hcs hys s ho h2 h3 fun ρ' lm' a' w' s'=>?_
    exact ih (k + 1) (by omega) ρ' lm' a' w' (by rw [h4]; exact s')
theorem wpIn_text (hcs:CallSound P B call) (hys:YieldSound P B yld) (s:SR P B nt E D ρ lm (fget fr) m a w) {ops:Array Oper} {lo:List Nat} {ls:List LInstr} (hls:liftIs P nt lo ops ops.toList = some ls)
    {fr':Fr} {m':Mem} (hr:runOps call yld ls fr m = some (fr',m')) {r:Option Nat} {n id:Nat} {Q:Exit→Act→World→Prop}
    (hn:∀ ρ' lm' a' w',SR P B nt E D ρ' lm' (fget fr') m' a' w'→Q .normal a' w'):(Code.region id ops false).wpIn (WF r) n P Q a w:=by
  obtain ⟨T,V,ht,hT⟩:=textRun hr
  obtain ⟨hlen,_⟩:=liftIs_get hls
  refine wpIn_region ?_
  rw [List.range_eq_range']
  exact wpOps_text hcs hys hls ht (fun ρ' lm' a' w' s'=>hn ρ' lm' a' w' (by rw [hT] at s'; exact s')) 0 ops.size (by simpa using hlen.symm) ρ lm a w (by rw [ht.zero]; exact s)
end Go.Proofs.YtakmapoompffgaaGreatDoor.AM
namespace Go.Proofs.YtakmapoompffgaaGreatDoor.AM
open Go
variable {P:Program} {B nt:Nat} {E:Ent} {D:List Nat} {ρ:Rho} {lm:Nat→Option Nat} {fr:Fr} {m:Mem} {a:Act} {w:World} {g:Nat→Value}
variable {call:CallF} {yld:YieldF}
def lookFr (fr:Fr) (ls:List LInstr) (V:Nat→Value) (L:Nat→Bool):Nat→Fr
  | 0=>fr
  | k + 1=>match ls[k]? with
    | some l=>if L k = true then pushD (lookFr fr ls V L k) l.dst (V k) else lookFr fr ls V L k
    | none=>lookFr fr ls V L k
def upto (j:Nat):Nat→Bool:=fun i=>decide (i < j)
theorem lookFr_text {ls:List LInstr} {T:Nat→Fr × Mem} {V:Nat→Value} (ht:TextRun call yld ls fr m T V) (j:Nat):∀ k,k≤ls.length→k≤j→(T k).1 = lookFr fr ls V (upto j) k
  | 0,_,_=>by rw [ht.zero]; rfl
  | k + 1,h,hj=>by
    have hl:ls[k]? = some ls[k]:=by simp
    rw [(ht.step k _ hl).2,lookFr_text ht j k (by omega) (by omega)]
    simp only [lookFr,hl]
    simp [upto,show k < j by omega]
theorem lookFr_above {ls:List LInstr} {V:Nat→Value} (j:Nat):∀ n,j≤n→lookFr fr ls V (upto j) n = lookFr fr ls V (upto j) j
  | 0, h => by have:j = 0:=by omega
               subst this; rfl
  | n + 1,h=>by
    by_cases e:j = n + 1
    · rw [e]
    · rw [← lookFr_above j n (by omega)]
      simp only [lookFr]
      cases ls[n]? with
      | none=>rfl
      | some l=>simp [upto,show ¬ n < j by omega]
theorem lookFr_agree {ls:List LInstr} {V:Nat→Value} {L L':Nat→Bool} {s:Nat}:∀ n,(∀ (i:Nat) (l:LInstr),i < n→ls[i]? = some l→l.dst = some s→L i = L' i) →
    fget (lookFr fr ls V L n) s = fget (lookFr fr ls V L' n) s
  | 0,_=>rfl
  | n + 1,h=>by
    have ih:=lookFr_agree (V:=V) n fun i l hi=>h i l (by omega)
    simp only [lookFr]
    cases hl:ls[n]? with
    | none=>exact ih
    | some l =>
      by_cases hd:l.dst = some s
      · rw [h n l (by omega) hl hd]
        cases L' n
        · simpa using ih
        · simp only [if_true,fget_pushD,updG,hd]
      · have key:∀ (b:Bool) (f:Fr),fget (if b = true then pushD f l.dst (V n) else f) s = fget f s:=fun b f=>by
          cases b
          · simp
          · simp only [if_true,fget_pushD,updG,hd,if_false]
        show fget (if L n = true then _ else _) s = fget (if L' n = true then _ else _) s
        rw [key,key]
        exact ih
theorem lookFr_take {ls:List LInstr} {V:Nat→Value} {L L':Nat→Bool} {j:Nat} {l:LInstr} (hj:ls[j]? = some l) (hL:L j = false) (hL':L' j = true) (hne:∀ i,i≠j→L' i = L i) {s:Nat}
    (hab:∀ (i:Nat) (x:LInstr),ls[i]? = some x→j < i→x.dst = l.dst→x.dst.isSome→L i = false):∀ n,j < n →
    fget (lookFr fr ls V L' n) s = updG (fget (lookFr fr ls V L n)) l.dst (V j) s
  | 0,h=>by omega
  | n + 1,h=>by
    by_cases e:n = j
    · subst e
      have hlow:fget (lookFr fr ls V L' n) s = fget (lookFr fr ls V L n) s:=lookFr_agree n fun i _ hi _ _=>hne i (by omega)
      simp only [lookFr,hj,hL',hL,if_true,fget_pushD,updG,hlow,Bool.false_eq_true,if_false]
    · have ih := lookFr_take (V:=V) (s:=s) hj hL hL' hne hab n (by omega)
      simp only [lookFr]
      cases hn:ls[n]? with
      | none=>exact ih
      | some x =>
        simp only [hne n e]
        cases hLn:L n with
        | false=>simpa using ih
        | true =>
          simp only [if_true]
          rw [fget_pushD]
          unfold updG
          by_cases h1:x.dst = some s
          · have h2 : ¬ (l.dst = some s):=fun h2=>by
              have:=hab n x hn (by omega) (by rw [h1,h2]) (by rw [h1]; rfl)
              rw [hLn] at this
              cases this
            simp only [h1,if_true,h2,if_false,fget_pushD,updG]
          · simp only [h1,if_false]
            rw [ih]
            unfold updG
            simp only [fget_pushD,updG,h1,if_false]
theorem LInstr.step_mem {l:LInstr} (hE:l.isE = false) {v:Value} {m':Mem} (h:l.step call yld fr m = some (v,m')):m' = m:=by
  unfold LInstr.step at h
  split at h
  · obtain ⟨d,op,gd⟩:=l
    unfold LInstr.isE at hE
    cases op <;> simp only at hE
    · simp only [LInstr.ev] at h
      obtain ⟨x,_,h2⟩:=Option.map_eq_some_iff.1 h
      injection h2 with _ h2
      exact h2.symm
    · simp only [LInstr.ev] at h
      obtain ⟨x,_,h2⟩:=Option.map_eq_some_iff.1 h
      injection h2 with _ h2
      exact h2.symm
    · cases hE
  · injection h with h
    injection h with _ h
    exact h.symm
  · cases h
theorem mem_const {ls:List LInstr} {T:Nat→Fr × Mem} {V:Nat→Value} (ht:TextRun call yld ls fr m T V) (x:Nat):∀ k,x + k≤ls.length →
    (∀ (i:Nat) (l:LInstr),ls[i]? = some l→l.isE = true→x≤i→i < x + k→False)→(T (x + k)).2 = (T x).2
  | 0,_,_=>rfl
  | k + 1,h,hn=>by
    have hl:ls[x + k]? = some ls[x + k]:=by simp
    have hE:ls[x + k].isE = false:=by
      cases he:ls[x + k].isE with
      | false=>rfl
      | true=>exact (hn (x + k) _ hl he (by omega) (by omega)).elim
    have:=LInstr.step_mem hE (ht.step _ _ hl).1
    rw [show x + (k + 1) = x + k + 1 by omega,this]
    exact mem_const ht x k (by omega) fun i l h1 h2 h3 h4=>hn i l h1 h2 h3 (by omega)
theorem mem_eq {ls:List LInstr} {T:Nat→Fr × Mem} {V:Nat→Value} (ht:TextRun call yld ls fr m T V) {x y:Nat} (hx:x≤ls.length) (hy:y≤ls.length)
    (h:∀ (i:Nat) (l:LInstr),ls[i]? = some l→l.isE = true→(i < x↔i < y)):(T x).2 = (T y).2:=by
  rcases Nat.le_total x y with hxy | hxy
  · have:=mem_const ht x (y - x) (by omega) fun i l h1 h2 h3 h4=>by have:=h i l h1 h2; omega
    rw [show x + (y - x) = y by omega] at this
    exact this.symm
  · have:=mem_const ht y (x - y) (by omega) fun i l h1 h2 h3 h4=>by have:=h i l h1 h2; omega
    rw [show y + (x - y) = x by omega] at this
    exact this
def MGood (os:List Oper) (ms:List Nat):Prop:=∀ j k,(ms.getD j 0).testBit k = true→∃ o,os[j]? = some o∧∃ e∈o.after,Region.binds .any e = true∧(k = e.on∨(ms.getD e.on 0).testBit k = true)
theorem foldMask (acc:List Nat) (k:Nat):∀ (l:List Edge) (s:Nat),(l.foldl (fun s e=>if Region.binds .any e then s ||| 2 ^ e.on ||| acc.getD e.on 0 else s) s).testBit k = true →
    s.testBit k = true∨∃ e∈l,Region.binds .any e = true∧(k = e.on∨(acc.getD e.on 0).testBit k = true)
  | [],s,h=>.inl h
  | e :: r,s,h=>by
    simp only [List.foldl_cons] at h
    rcases foldMask acc k r _ h with h | ⟨e',h1,h2⟩
    · by_cases hb:Region.binds .any e = true
      · simp only [hb,if_true,Nat.testBit_or,Nat.testBit_two_pow,Bool.or_eq_true,decide_eq_true_eq] at h
        rcases h with (h | h) | h
        · exact .inl h
        · exact .inr ⟨e,by simp,hb,.inl h.symm⟩
        · exact .inr ⟨e,by simp,hb,.inr h⟩
      · simp only [hb,Bool.false_eq_true,if_false] at h
        exact .inl h
    · exact .inr ⟨e',by simp [h1],h2⟩
theorem masks_good:∀ (os don:List Oper) (acc:List Nat),acc.length = don.length→MGood don acc→MGood (don ++ os) (masks acc os)
  | [],don,acc,_,h=>by simpa [masks] using h
  | o :: r,don,acc,hlen,h=>by
    simp only [masks]
    have:=masks_good r (don ++ [o]) (acc ++ [edgeMask acc o]) (by simp [hlen]) ?_
    · simpa using this
    · have lift:∀ i k,(acc.getD i 0).testBit k = true→((acc ++ [edgeMask acc o]).getD i 0).testBit k = true:=fun i k hk=>by
        by_cases hi:i < acc.length
        · simpa [List.getD_eq_getElem?_getD,List.getElem?_append_left hi] using hk
        · simp [List.getD_eq_getElem?_getD,List.getElem?_eq_none (Nat.le_of_not_lt hi)] at hk
      intro j k hk
      by_cases hj:j < acc.length
      · have hk':(acc.getD j 0).testBit k = true:=by simpa [List.getD_eq_getElem?_getD,List.getElem?_append_left hj] using hk
        obtain ⟨o',h1,e,h2,h3,h4⟩:=h j k hk'
        exact ⟨o',by rw [List.getElem?_append_left (by omega)]; exact h1,e,h2,h3,h4.imp_right (lift _ _)⟩
      · by_cases hj2:j = acc.length
        · subst hj2
          have hk':(edgeMask acc o).testBit k = true:=by simpa using hk
          rcases foldMask acc k _ 0 hk' with h0 | ⟨e,h1,h2,h3⟩
          · simp at h0
          · exact ⟨o,by rw [hlen]; simp,e,Array.mem_toList_iff.1 h1,h2,h3.imp_right (lift _ _)⟩
        · have:(acc ++ [edgeMask acc o])[j]? = none:=List.getElem?_eq_none (by simp; omega)
          simp [List.getD_eq_getElem?_getD,this] at hk
theorem masks_spec (os:List Oper):MGood os (masks [] os):=masks_good os [] [] rfl fun j k h=>by simp at h
theorem pairsOk_spec {ms:List Nat} {ls:List LInstr} (h:pairsOk ms ls = true) {i j:Nat} {x y:LInstr} (hij:i < j) (hx:ls[i]? = some x) (hy:ls[j]? = some y)
    (hc:clash x y = true∨(x.isE = true∧y.isE = true)):(ms.getD j 0).testBit i = true:=by
  unfold pairsOk at h
  have hj:j < ls.length:=(List.getElem?_eq_some_iff.1 hy).1
  have h1:=List.all_eq_true.1 h j (List.mem_range.2 hj)
  have h2:=List.all_eq_true.1 h1 i (List.mem_range.2 hij)
  simp only [hx,hy,Bool.or_eq_true,Bool.not_eq_true',Bool.or_eq_false_iff] at h2
  rcases h2 with h2 | h2
  · rcases hc with hc | ⟨hc,hc'⟩
    · rw [h2.1] at hc; cases hc
    · simp [hc,hc'] at h2
  · exact h2
theorem backEdges_spec:∀ {os:List Oper} {k:Nat},backEdges k os = true→∀ (i:Nat) (o:Oper),os[i]? = some o→∀ e∈o.after,Region.binds .any e = true→e.on < k + i
  | [],k,_,i,o,h=>by simp at h
  | o' :: r,k,hb,i,o,h=>by
    simp only [backEdges,Bool.and_eq_true] at hb
    cases i with
    | zero =>
      simp only [List.getElem?_cons_zero,Option.some.injEq] at h
      subst h
      intro e he hbd
      have:=Array.all_eq_true_iff_forall_mem.1 hb.1 e he
      simp only [hbd,Bool.not_true,Bool.false_or,decide_eq_true_eq] at this
      omega
    | succ i =>
      simp only [List.getElem?_cons_succ] at h
      intro e he hbd
      have:=backEdges_spec hb.2 i o h e he hbd
      omega
theorem effs_mem {ls:List LInstr} {i:Nat}:i∈effs ls↔∃ l,ls[i]? = some l∧l.isE = true:=by
  unfold effs
  rw [List.mem_filter,List.mem_range]
  constructor
  · rintro ⟨h1,h2⟩
    have hl:ls[i]? = some ls[i]:=by simp [h1]
    rw [hl] at h2
    exact ⟨_,hl,h2⟩
  · rintro ⟨l,h1,h2⟩
    exact ⟨(List.getElem?_eq_some_iff.1 h1).1,by rw [h1]; exact h2⟩
theorem chkOf_mem {ms:List Nat} {ls:List LInstr} {i K:Nat} {l:LInstr} (hl:ls[i]? = some l) (hR:l.isR = true) (hK:K = 0∨∃ x,ls[K - 1]? = some x∧x.isE = true∧0 < K)
    (h1:K = 0∨(ms.getD (K - 1) 0).testBit i = false) (h2:∀ e∈effs ls,e < K∨(ms.getD i 0).testBit e = false)
    (h3 : ¬ ∀ e∈effs ls,(e < K↔e < i)):(i,K)∈chkOf ms ls:=by
  unfold chkOf
  refine List.mem_flatMap.2 ⟨i,List.mem_range.2 (List.getElem?_eq_some_iff.1 hl).1, ?_⟩
  simp only [hl,hR,if_true]
  refine List.mem_filterMap.2 ⟨K, ?_, ?_⟩
  · rcases hK with rfl | ⟨x,hx,he,hp⟩
    · simp
    · refine List.mem_cons_of_mem _ (List.mem_map.2 ⟨K - 1,effs_mem.2 ⟨x,hx,he⟩,by omega⟩)
  · rw [if_pos]
    refine ⟨?_, ?_, ?_⟩
    · rcases h1 with h1 | h1
      · exact .inl h1
      · exact .inr (by rw [h1]; rfl)
    · refine List.all_eq_true.2 fun e he=>?_
      rcases h2 e he with h | h
      · simp [h]
      · rw [h]; simp
    · intro hall
      refine h3 fun e he=>?_
      have:=List.all_eq_true.1 hall e he
      simpa using this
end Go.Proofs.YtakmapoompffgaaGreatDoor.AM
namespace Go.Proofs.YtakmapoompffgaaGreatDoor.AM
open Go
variable {P:Program} {B nt:Nat} {E:Ent} {D:List Nat} {ρ:Rho} {lm:Nat→Option Nat} {fr:Fr} {m:Mem} {a:Act} {w:World} {g:Nat→Value}
variable {call:CallF} {yld:YieldF}
theorem getD_eq {xs:Array Bool} {i:Nat} (h:i < xs.size) (d d':Bool):xs.getD i d = xs.getD i d':=by
  simp [Array.getD,h]
theorem setD {xs:Array Bool} {i j:Nat} (hi:i < xs.size):(xs.setIfInBounds i true).getD j false = if j = i then true else xs.getD j false:=by
  by_cases h:j = i
  · subst h; simp [Array.getD_eq_getD_getElem?,hi]
  · simp [Array.getD_eq_getD_getElem?,h,Array.getElem?_setIfInBounds_ne (Ne.symm h)]
structure AnyInv (P:Program) (B nt:Nat) (E:Ent) (D:List Nat) (ops:Array Oper) (ls:List LInstr) (fr:Fr) (T:Nat→Fr × Mem) (V:Nat→Value) (listed:Array Bool) (K:Nat)
    (ρ:Rho) (lm:Nat→Option Nat) (a:Act) (w:World):Prop where
  size:listed.size = ops.size
  closed:∀ j k,listed.getD j false = true→((masks [] ops.toList).getD j 0).testBit k = true→listed.getD k false = true
  bound:K≤ls.length
  place:K = 0∨∃ x,ls[K - 1]? = some x∧x.isE = true∧0 < K
  effs:∀ (i:Nat) (l:LInstr),ls[i]? = some l→l.isE = true→(listed.getD i false = true↔i < K)
  sr:SR P B nt E D ρ lm (fget (lookFr fr ls V (fun i=>listed.getD i false) ls.length)) (T K).2 a w
theorem clash_fst {x y:LInstr} {d:Nat} (h:x.dst = some d) (hs:d∈y.slots):clash x y = true:=by
  unfold clash
  simp [h,hs]
theorem clash_dst {x y:LInstr} {d:Nat} (h:x.dst = some d) (hs:y.dst = some d):clash x y = true:=by
  unfold clash
  simp [h,hs]
theorem clash_snd {x y:LInstr} {d:Nat} (h:y.dst = some d) (hs:d∈x.slots):clash x y = true:=by
  unfold clash
  simp [h,hs]
theorem any_step (hcs:CallSound P B call) (hys:YieldSound P B yld) {ops:Array Oper} {lo:List Nat} {ls:List LInstr} (hls:liftIs P nt lo ops ops.toList = some ls)
    {T:Nat→Fr × Mem} {V:Nat→Value} (ht:TextRun call yld ls fr m T V) (hp:pairsOk (masks [] ops.toList) ls = true)
    (hchk:(chkOf (masks [] ops.toList) ls).all (chk1 ls (trace call yld ls fr m)) = true)
    {listed:Array Bool} {K:Nat} (I:AnyInv P B nt E D ops ls fr T V listed K ρ lm a w) {j:Nat} (hj:j∈Region.ready .any ops listed)
    {r:Option Nat} {n:Nat} {Kont:Act→World→Prop} {Q:Exit→Act→World→Prop}
    (hn:∀ K' ρ' lm' a' w',AnyInv P B nt E D ops ls fr T V (listed.setIfInBounds j true) K' ρ' lm' a' w'→Kont a' w'):wpOpIn (WF r) n P ops Q j Kont a w:=by
  obtain ⟨hlen,hget⟩:=liftIs_get hls
  obtain ⟨hun,o,ho,haf⟩:=mem_ready.1 hj
  have hlt:j < ops.size:=(Array.getElem?_eq_some_iff.1 ho).1
  have hltl:j < listed.size:=by rw [I.size]; exact hlt
  have hun':listed.getD j false = false:=by rw [getD_eq hltl false true]; exact hun
  have hjl:j < ls.length:=by simp at hlen; omega
  obtain ⟨l,hl,hli⟩:=hget j o (by simpa using ho)
  have hcl:∀ k,((masks [] ops.toList).getD j 0).testBit k = true→listed.getD k false = true:=fun k hk=>by
    obtain ⟨o',h1,e,h2,h3,h4⟩:=masks_spec ops.toList j k hk
    have:o' = o:=by
      have h5:ops[j]? = some o':=by simpa using h1
      rw [ho] at h5
      injection h5 with h5
      exact h5.symm
    subst this
    have h6:=haf e h2 h3
    rcases h4 with rfl | h4
    · exact h6
    · exact I.closed _ _ h6 h4
  have ahead:∀ (i:Nat) (x:LInstr),i < j→ls[i]? = some x→(clash x l = true∨(x.isE = true∧l.isE = true))→listed.getD i false = true:=fun i x hi hx hc=>hcl i (pairsOk_spec hp hi hx hl hc)
  have behind:∀ (i:Nat) (x:LInstr),j < i→ls[i]? = some x→(clash l x = true∨(l.isE = true∧x.isE = true))→listed.getD i false = false:=fun i x hi hx hc=>by
    cases h:listed.getD i false with
    | false=>rfl
    | true =>
      have:=I.closed i j h (pairsOk_spec hp hi hl hx hc)
      rw [hun'] at this
      cases this
  have agree:Agree (lookFr fr ls V (fun i=>listed.getD i false) ls.length) (T j).1 l.slots:=fun s hs=>by
    rw [lookFr_text ht j j (by omega) (Nat.le_refl _),← lookFr_above j ls.length (by omega)]
    refine lookFr_agree _ fun i x hi hx hd=>?_
    rcases Nat.lt_trichotomy i j with h | h | h
    · rw [ahead i x h hx (.inl (clash_fst hd hs))]; simp [upto,h]
    · subst h; rw [hun']; simp [upto]
    · rw [behind i x h hx (.inl (clash_snd hd hs))]; simp [upto]; omega
  obtain ⟨st,_⟩:=ht.step j l hl
  have memE:l.isE = true→(T K).2 = (T j).2:=fun hE=>mem_eq ht I.bound (by omega) fun i x hx hxE=>by
    have:=I.effs i x hx hxE
    rcases Nat.lt_trichotomy i j with h | h | h
    · have:=this.1 (ahead i x h hx (.inr ⟨hxE,hE⟩)); exact ⟨fun _=>h,fun _=>this⟩
    · subst h; rw [hun'] at this; simp at this; omega
    · have h2:=behind i x h hx (.inr ⟨hE,hxE⟩)
      rw [h2] at this
      simp at this
      omega
  have stp:l.step call yld (lookFr fr ls V (fun i=>listed.getD i false) ls.length) (T K).2 = some (V j,if l.isE = true then (T (j + 1)).2 else (T K).2):=by
    rw [LInstr.step_congr agree]
    by_cases hE:l.isE = true
    · rw [if_pos hE,memE hE]; exact st
    · rw [if_neg hE]
      have hE':l.isE = false:=by simpa using hE
      unfold LInstr.step at st ⊢
      split at st
      · rename_i hw
        unfold LInstr.ev at st ⊢
        cases hop:l.op with
        | p po =>
          rw [hop] at st
          obtain ⟨x,h1,h2⟩:=Option.map_eq_some_iff.1 st
          injection h2 with h2 _
          simp only [h1,Option.map_some,h2]
        | r ro =>
          rw [hop] at st
          simp only at st
          obtain ⟨x,h1,h2⟩:=Option.map_eq_some_iff.1 st
          injection h2 with h2 _
          by_cases h3:∀ e∈AM.effs ls,(e < K↔e < j)
          · have:(T K).2 = (T j).2:=mem_eq ht I.bound (by omega) fun i x hx hxE=>h3 i (effs_mem.2 ⟨x,hx,hxE⟩)
            rw [this]
            simp only [h1,Option.map_some,h2]
          · have hR:l.isR = true:=by unfold LInstr.isR; rw [hop]
            have hmem:=chkOf_mem (ms:=masks [] ops.toList) hl hR I.place
              (by
                rcases I.place with h | ⟨x,hx,hxE,hpos⟩
                · exact .inl h
                · refine .inr ?_
                  have hk:listed.getD (K - 1) false = true:=(I.effs _ x hx hxE).2 (by omega)
                  cases hb:((masks [] ops.toList).getD (K - 1) 0).testBit j with
                  | false=>rfl
                  | true=>have:=I.closed _ _ hk hb; rw [hun'] at this; cases this)
              (fun e he=>by
                obtain ⟨x,hx,hxE⟩:=effs_mem.1 he
                cases hb:((masks [] ops.toList).getD j 0).testBit e with
                | false=>exact .inr rfl
                | true=>exact .inl ((I.effs e x hx hxE).1 (hcl e hb))) h3
            have hc:=List.all_eq_true.1 hchk _ hmem
            unfold chk1 at hc
            simp only [hl,ht.tr j (by omega),ht.tr K I.bound,hw,hop,h1] at hc
            split at hc
            · rename_i u v hu hv
              have huv:=vsame_eq hc
              injection hu with hu
              simp only [hv,Option.map_some,← huv,← hu,h2]
            · cases hc
        | e eo=>unfold LInstr.isE at hE; rw [hop] at hE; simp at hE
      · rename_i hw
        injection st with st
        injection st with st _
        rw [st]
      · cases st
  have frm:∀ s,fget (lookFr fr ls V (fun i=>(listed.setIfInBounds j true).getD i false) ls.length) s = fget (pushD (lookFr fr ls V (fun i=>listed.getD i false) ls.length) l.dst (V j)) s:=fun s=>by
    rw [fget_pushD]
    refine lookFr_take hl hun' (by simp only [setD hltl]; simp) (fun i hi=>by simp only [setD hltl]; simp [hi]) (fun i x hx hij hd hs=>?_) _ hjl
    obtain ⟨d,hxd⟩:=Option.isSome_iff_exists.1 hs
    exact behind i x hij hx (.inl (clash_dst (hd ▸ hxd) hxd))
  refine step_sound hcs hys I.sr ho hli stp fun ρ' lm' a' w' s'=>?_
  have s2:=s'.congr frm
  have size':(listed.setIfInBounds j true).size = ops.size:=by simp [I.size]
  have closed':∀ x k,(listed.setIfInBounds j true).getD x false = true→((masks [] ops.toList).getD x 0).testBit k = true→(listed.setIfInBounds j true).getD k false = true:=fun x k hx hk=>by
    rw [setD hltl] at hx ⊢
    have:listed.getD k false = true:=by
      by_cases h:x = j
      · subst h; exact hcl k hk
      · simp only [h,if_false] at hx; exact I.closed x k hx hk
    simp [this]
  by_cases hE:l.isE = true
  · rw [if_pos hE] at s2
    refine hn (j + 1) ρ' lm' a' w' ⟨size',closed',by omega,.inr ⟨l,hl,hE,by omega⟩,fun i x hx hxE=>?_,s2⟩
    rw [setD hltl]
    rcases Nat.lt_trichotomy i j with h | h | h
    · have:=ahead i x h hx (.inr ⟨hxE,hE⟩)
      simp only [this]
      simp; omega
    · subst h; simp
    · have:=behind i x h hx (.inr ⟨hE,hxE⟩)
      rw [this]
      simp only [show ¬ i = j by omega,if_false]
      simp; omega
  · rw [if_neg hE] at s2
    refine hn K ρ' lm' a' w' ⟨size',closed',I.bound,I.place,fun i x hx hxE=>?_,s2⟩
    have hij : ¬ i = j:=fun h=>by
      subst h
      rw [hl] at hx
      injection hx with hx
      subst hx
      exact hE hxE
    rw [setD hltl]
    simp only [hij,if_false]
    exact I.effs i x hx hxE
def undone (listed:Array Bool) (n:Nat):Nat:=(List.range n).countP fun i => !listed.getD i false
theorem undone_set {listed:Array Bool} {j:Nat} (hj:j < listed.size) (hu:listed.getD j false = false):∀ n,undone (listed.setIfInBounds j true) n + (if j < n then 1 else 0) = undone listed n
  | 0=>by simp [undone]
  | n + 1=>by
    have ih:=undone_set hj hu n
    unfold undone at ih ⊢
    rw [List.range_succ,List.countP_append,List.countP_append,List.countP_singleton,List.countP_singleton]
    have e1:=setD (j:=n) hj
    by_cases h:n = j
    · subst h
      simp only [Nat.lt_irrefl,if_false,Nat.add_zero] at ih
      rw [ih,e1,hu]
      simp
    · have:(if j < n + 1 then 1 else 0) = (if j < n then 1 else 0):=by
        by_cases h2:j < n
        · rw [if_pos h2,if_pos (by omega)]
        · rw [if_neg h2,if_neg (by omega)]
      rw [this,e1,if_neg h]
      omega
theorem undone_zero {listed:Array Bool} {n:Nat} (h:undone listed n = 0):∀ i,i < n→listed.getD i false = true:=fun i hi=>by
  have:=(List.countP_eq_zero.1 h) i (List.mem_range.2 hi)
  simpa using this
theorem done_of_ready {ops:Array Oper} {listed:Array Bool} (hs:listed.size = ops.size) (hb:backEdges 0 ops.toList = true) (hr:Region.ready .any ops listed = []):∀ i,i < ops.size→listed.getD i false = true:=by
  intro i
  induction i using Nat.strongRecOn with
  | ind i ih =>
    intro hi
    cases h:listed.getD i false with
    | true=>rfl
    | false =>
      exfalso
      have:i∈Region.ready .any ops listed:=mem_ready.2 ⟨by rw [getD_eq (by omega) true false]; exact h,ops[i],by simp [hi],fun e he hbd=>by
        have:=backEdges_spec hb i ops[i] (by simp [hi]) e he hbd
        exact ih e.on (by omega) (by omega)⟩
      rw [hr] at this
      cases this
theorem any_all (hcs:CallSound P B call) (hys:YieldSound P B yld) {ops:Array Oper} {lo:List Nat} {ls:List LInstr} (hls:liftIs P nt lo ops ops.toList = some ls)
    {T:Nat→Fr × Mem} {V:Nat→Value} (ht:TextRun call yld ls fr m T V) (hp:pairsOk (masks [] ops.toList) ls = true) (hb:backEdges 0 ops.toList = true)
    (hchk:(chkOf (masks [] ops.toList) ls).all (chk1 ls (trace call yld ls fr m)) = true) {r:Option Nat} {n:Nat} {Q:Exit→Act→World→Prop}
    (hn:∀ ρ' lm' a' w',SR P B nt E D ρ' lm' (fget (T ls.length).1) (T ls.length).2 a' w'→Q .normal a' w') :
    ∀ (fuel:Nat) (listed:Array Bool) (K:Nat) (ρ:Rho) (lm:Nat→Option Nat) (a:Act) (w:World),undone listed ops.size≤fuel→AnyInv P B nt E D ops ls fr T V listed K ρ lm a w →
      wpAnyIn (WF r) n P .any ops Q fuel listed a w:=by
  obtain ⟨hlen,hget⟩:=liftIs_get hls
  have fin:∀ (listed:Array Bool) (K:Nat) (ρ:Rho) (lm:Nat→Option Nat) (a:Act) (w:World),AnyInv P B nt E D ops ls fr T V listed K ρ lm a w→(∀ i,i < ops.size→listed.getD i false = true)→Q .normal a w:=by
    intro listed K ρ lm a w I hall
    have hall':∀ i,i < ls.length→listed.getD i false = true:=fun i hi=>hall i (by simp at hlen; omega)
    have hm:(T K).2 = (T ls.length).2:=mem_eq ht I.bound (Nat.le_refl _) fun i x hx hxE=>by
      have hi:=(List.getElem?_eq_some_iff.1 hx).1
      have:=(I.effs i x hx hxE).1 (hall' i hi)
      exact ⟨fun _=>hi,fun _=>this⟩
    have s:=I.sr
    rw [hm] at s
    refine hn ρ lm a w (s.congr fun i=>?_)
    rw [lookFr_text ht ls.length ls.length (Nat.le_refl _) (Nat.le_refl _)]
    exact lookFr_agree _ fun i x hi hx hd=>by simp only [hall' i hi]; simp [upto,hi]
  intro fuel
  induction fuel with
  | zero =>
    intro listed K ρ lm a w hu I
    have hall:=undone_zero (Nat.le_zero.1 hu)
    refine ⟨?_,fin listed K ρ lm a w I hall⟩
    refine List.eq_nil_iff_forall_not_mem.2 fun i hi=>?_
    obtain ⟨h1,o,ho,_⟩:=mem_ready.1 hi
    have hlt:=(Array.getElem?_eq_some_iff.1 ho).1
    have:=hall i hlt
    rw [getD_eq (by rw [I.size]; exact hlt) false true,h1] at this
    cases this
  | succ fuel ih =>
    intro listed K ρ lm a w hu I
    refine ⟨fun hr=>fin listed K ρ lm a w I (done_of_ready I.size hb hr),fun j hj=>?_⟩
    refine any_step hcs hys hls ht hp hchk I hj fun K' ρ' lm' a' w' I'=>ih _ K' ρ' lm' a' w' ?_ I'
    obtain ⟨h1,o,ho,_⟩:=mem_ready.1 hj
    have hlt:=(Array.getElem?_eq_some_iff.1 ho).1
    have hls':j < listed.size:=by rw [I.size]; exact hlt
    have:=undone_set hls' (by rw [getD_eq hls' false true]; exact h1) ops.size
    rw [if_pos hlt] at this
    omega
theorem wpIn_anyOrder (hm:P.follows .mixedOrders = true) (hcs:CallSound P B call) (hys:YieldSound P B yld) (s:SR P B nt E D ρ lm (fget fr) m a w) {ops:Array Oper} {lo:List Nat} {ls:List LInstr} (hls:liftIs P nt lo ops ops.toList = some ls)
    (hp:pairsOk (masks [] ops.toList) ls = true) (hb:backEdges 0 ops.toList = true)
    {fr':Fr} {m':Mem} (hr:runOps call yld ls fr m = some (fr',m')) (hchk:(chkOf (masks [] ops.toList) ls).all (chk1 ls (trace call yld ls fr m)) = true)
    {r:Option Nat} {n id:Nat} {Q:Exit→Act→World→Prop}
    (hn:∀ ρ' lm' a' w',SR P B nt E D ρ' lm' (fget fr') m' a' w'→Q .normal a' w'):(Code.region id ops true).wpIn (WF r) n P Q a w:=by
  obtain ⟨T,V,ht,hT⟩:=textRun hr
  have fls:∀ i,(Array.replicate ops.size false).getD i false = false:=fun i=>by
    simp only [Array.getD_eq_getD_getElem?,Array.getElem?_replicate]
    split <;> rfl
  have hlook0:∀ (L:Nat→Bool),(∀ i,L i = false)→∀ k,lookFr fr ls V L k = fr:=fun L hL k=>by
    induction k with
    | zero=>rfl
    | succ k ih=>simp only [lookFr,hL,Bool.false_eq_true,if_false,ih]; split <;> rfl
  have hlook:∀ k,lookFr fr ls V (fun i=>(Array.replicate ops.size false).getD i false) k = fr:=hlook0 _ fls
  refine wpIn_region_any hm (any_all hcs hys hls ht hp hb hchk (fun ρ' lm' a' w' s'=>hn ρ' lm' a' w' (by rw [hT] at s'; exact s')) ops.size _ 0 ρ lm a _ ?_ ⟨by simp,(fun j k h=>by rw [fls] at h; cases h),Nat.zero_le _,.inl rfl,(fun i l _ _=>by rw [fls]; simp), ?_⟩)
  · exact Nat.le_trans (List.countP_le_length) (by simp)
  · rw [hlook,ht.zero]
    exact s.world rfl ⟨rfl,rfl,rfl,by first | exact Nat.le_refl _ | exact Nat.le_add_right _ _⟩
theorem keepFr_get:∀ {keep:List Nat} {l:Fr},keepFr fr keep = some l→∀ s,(s∈keep→settle1 s (fget fr s) = some (fget l s))∧(s ∉ keep→fget l s = undef)
  | [],l,h,s=>by
    simp only [keepFr] at h
    injection h with h
    subst h
    exact ⟨fun h=>by simp at h,fun _=>rfl⟩
  | t :: r,l,h,s=>by
    simp only [keepFr] at h
    split at h
    · rename_i v l' hv hl
      injection h with h
      subst h
      obtain ⟨h1,h2⟩:=keepFr_get hl s
      by_cases e:s = t
      · subst e
        exact ⟨fun _=>by simp [fget,hv],fun h=>by simp at h⟩
      · exact ⟨fun h=>by simp only [fget,e,if_false]; exact h1 (by simpa [e] using h),fun h=>by simp only [fget,e,if_false]; exact h2 fun h'=>h (by simp [h'])⟩
    · cases h
def nameOf (fr:Fr) (lc:List (Nat × AObj)) (s:Nat):Option (Nat × AObj) :=
  match fget fr s with
  | .pointer (some a)=>match a.spot,lget lc a.block with
    | some _,some o=>some (a.block,o)
    | _,_=>none
  | _=>none
theorem keepLc_get (fr:Fr) (lc:List (Nat × AObj)):∀ (keep:List Nat) (nm:Nat),
    lget (keepLc fr lc keep) nm = if nm % 2 = 0∧nm / 2∈keep then (nameOf fr lc (nm / 2)).map (·.2) else none
  | [],nm=>by simp [keepLc,lget]
  | s :: r,nm=>by
    have ih:=keepLc_get fr lc r nm
    have hk:keepLc fr lc (s :: r) = match nameOf fr lc s with
        | some p=>(2 * s,p.2) :: keepLc fr lc r
        | none=>keepLc fr lc r:=by
      simp only [keepLc,nameOf]
      cases hv:fget fr s <;> try rfl
      rename_i p
      cases p with
      | none=>rfl
      | some a =>
        cases h1:a.spot <;> cases h2:lget lc a.block <;> simp only [h1,h2]
    rw [hk]
    by_cases e:nm = 2 * s
    · subst e
      cases hn:nameOf fr lc s with
      | none =>
        simp only [ih]
        simp [hn]
      | some p=>simp [lget,hn]
    · have e2 : ¬ (nm % 2 = 0∧nm / 2 = s):=by omega
      have e3:(nm % 2 = 0∧nm / 2∈s :: r)↔(nm % 2 = 0∧nm / 2∈r):=by
        simp only [List.mem_cons]
        constructor
        · rintro ⟨h1,h2 | h2⟩
          · exact (e2 ⟨h1,h2⟩).elim
          · exact ⟨h1,h2⟩
        · exact fun h=>⟨h.1,.inr h.2⟩
      simp only [e3]
      cases hn:nameOf fr lc s with
      | none=>exact ih
      | some p=>simp only [lget,e,if_false]; exact ih
theorem SR.keep (s:SR P B nt E D ρ lm (fget fr) m a w) {keep:List Nat} {fr':Fr} (hk:keepFr fr keep = some fr') :
    ∃ lm',SR P B nt E D ρ lm' (fget fr') { m with lc:=keepLc fr m.lc keep } a w:=by
  have hset:∀ t,t∈keep→∀ a',fget fr t = .pointer (some a')→a'.spot.isSome = true→(a'.block = 2 * t + 1∨a'.block = 2 * t)∧a'.off = 0∧fget fr' t = .pointer (some (loc (2 * t) 0)):=fun t ht a' h1 h2=>by
    have:=(keepFr_get hk t).1 ht
    rw [h1] at this
    unfold settle1 at this
    have hloc:isLoc (.pointer (some a')) = true:=by
      cases a' with | mk b of sp=>cases sp with
        | none=>cases h2
        | some x=>simp [isLoc]
    rw [if_pos hloc] at this
    simp only at this
    split at this
    · rename_i h3
      injection this with this
      exact ⟨h3.1,h3.2,this.symm⟩
    · cases this
  let lm':Nat→Option Nat:=fun nm=>if nm % 2 = 0∧nm / 2∈keep then (nameOf fr m.lc (nm / 2)).bind fun p=>lm p.1 else none
  refine ⟨lm',s.base,s.heap,s.tr,fun t=>?_,fun nm=>?_,fun n1 n2 c h1 h2=>?_,s.dfs,fun r hr=>?_,s.dnd,s.room⟩
  · by_cases ht : t∈keep
    · have h1 := (keepFr_get hk t).1 ht
      have hv:=s.val t
      unfold settle1 at h1
      split at h1
      · split at h1
        · rename_i hloc v a' hv'
          split at h1
          · rename_i hc
            injection h1 with h1
            rw [hv'] at hv hloc
            rcases hv with hv | ⟨nm,of,c,e1,e2,e3⟩ | ⟨_,_,_,_,e1,_⟩
            · generalize hu:a.tmps.getD t undef = u at hv
              cases hv <;> simp [isLoc,undef] at hloc
            · injection e1 with e1
              injection e1 with e1
              subst e1
              have hnm:nameOf fr m.lc t = (lget m.lc nm).map fun o=>(nm,o):=by
                unfold nameOf
                rw [hv']
                simp only [loc]
                cases lget m.lc nm <;> rfl
              have hl:=s.lcs nm
              cases hg:lget m.lc nm with
              | none=>rw [hg] at hl; simp only at hl; rw [hl] at e2; cases e2
              | some o =>
                refine .inr (.inl ⟨2 * t,0,c,h1.symm, ?_, ?_⟩)
                · have h9:(2 * t) % 2 = 0∧(2 * t) / 2∈keep:=⟨by omega,by rw [show 2 * t / 2 = t by omega]; exact ht⟩
                  refine (if_pos h9).trans ?_
                  rw [show 2 * t / 2 = t by omega,hnm,hg]
                  exact e2
                · rw [e3]
                  have:of = 0:=hc.2
                  rw [this]
            · cases e1
          · cases h1
        · cases h1
      · rename_i hloc
        injection h1 with h1
        rw [← h1]
        exact .inl (hv.ok (by simpa [okV] using hloc))
    · rw [(keepFr_get hk t).2 ht]
      exact VRelF.undef _
  · have hgl:=keepLc_get fr m.lc keep nm
    by_cases hc:nm % 2 = 0∧nm / 2∈keep
    · rw [if_pos hc] at hgl
      have hlmv:lm' nm = (nameOf fr m.lc (nm / 2)).bind fun p=>lm p.1:=if_pos hc
      cases hn:nameOf fr m.lc (nm / 2) with
      | none =>
        rw [hn] at hgl hlmv
        simp only [Option.map_none] at hgl
        simp only [hgl]
        exact hlmv
      | some p =>
        rw [hn] at hgl hlmv
        simp only [Option.map_some] at hgl
        simp only [hgl]
        have hp:lget m.lc p.1 = some p.2:=by
          unfold nameOf at hn
          split at hn
          · split at hn
            · rename_i h1 h2
              injection hn with hn
              rw [← hn]
              exact h2
            · cases hn
          · cases hn
        have hl:=s.lcs p.1
        rw [hp] at hl
        obtain ⟨c,x,k1,k2⟩:=hl
        exact ⟨c,x,hlmv.trans k1,k2⟩
    · rw [if_neg hc] at hgl
      simp only [hgl]
      exact if_neg hc
  · have key:∀ nm,lm' nm = some c→nm % 2 = 0∧∃ b,lm b = some c∧(b = 2 * (nm / 2) + 1∨b = 2 * (nm / 2)):=fun nm hnm=>by
      have hnm:(if nm % 2 = 0∧nm / 2∈keep then (nameOf fr m.lc (nm / 2)).bind fun p=>lm p.1 else none) = some c:=hnm
      split at hnm
      · rename_i hc
        obtain ⟨p,hp,hlm⟩:=Option.bind_eq_some_iff.1 hnm
        refine ⟨hc.1,p.1,hlm, ?_⟩
        unfold nameOf at hp
        split at hp
        · rename_i a' ha'
          split at hp
          · rename_i h1 h2
            injection hp with hp
            rw [← hp]
            exact (hset _ hc.2 a' ha' (by rw [h1]; rfl)).1
          · cases hp
        · cases hp
      · cases hnm
    obtain ⟨g1,b1,g2,g3⟩:=key n1 h1
    obtain ⟨g4,b2,g5,g6⟩:=key n2 h2
    have:=s.linj b1 b2 c g2 g5
    omega
  · obtain ⟨k1,k2,k3,k4⟩:=s.marks r hr
    refine ⟨k1,k2,k3,fun nm hnm=>?_⟩
    have hnm:(if nm % 2 = 0∧nm / 2∈keep then (nameOf fr m.lc (nm / 2)).bind fun p=>lm p.1 else none) = some r:=hnm
    split at hnm
    · obtain ⟨p,hp,hlm⟩:=Option.bind_eq_some_iff.1 hnm
      exact k4 _ hlm
    · cases hnm
end Go.Proofs.YtakmapoompffgaaGreatDoor.AM
namespace Go.Proofs.YtakmapoompffgaaGreatDoor.AM
open Go
variable {P:Program} {B nt:Nat} {E:Ent} {D:List Nat} {ρ:Rho} {lm:Nat→Option Nat} {fr:Fr} {m:Mem} {a:Act} {w:World} {g:Nat→Value}
variable {call:CallF} {yld:YieldF}
theorem least (I:Nat→Prop) (h:∃ j,I j):∃ j,I j∧∀ k,I k→j≤k:=by
  obtain ⟨j,hj⟩:=h
  induction j using Nat.strongRecOn with
  | ind j ih =>
    by_cases hk:∃ k,k < j∧I k
    · obtain ⟨k,h1,h2⟩:=hk
      exact ih k h1 h2
    · exact ⟨j,hj,fun k h=>Nat.le_of_not_lt fun hlt=>hk ⟨k,hlt,h⟩⟩
open Classical in
noncomputable def leastOf (I:Nat→Prop):Nat:=if h:∃ j,I j then Classical.choose (least I h) else 0
theorem leastOf_spec {I:Nat→Prop} (h:∃ j,I j):I (leastOf I)∧∀ k,I k→leastOf I≤k:=by
  unfold leastOf
  rw [dif_pos h]
  exact Classical.choose_spec (least I h)
theorem wpIn_loop_fuel {F:Fence} {n:Nat} {c:Code} {Q:Exit→Act→World→Prop} (I:Nat→Act→World→Prop) (no0:∀ a w, ¬ I 0 a w)
    (round:∀ j a w,I (j + 1) a w→c.wpIn F n P (Exit.then (I j) Q) a w) {j:Nat} (h:I j a w):(Code.loop c).wpIn F n P Q a w:=by
  refine wpIn_loop (fun a w => ∃ j,I j a w) (fun a w=>leastOf fun j=>I j a w) ⟨j,h⟩ fun a w hI=>?_
  obtain ⟨h1,h2⟩:=leastOf_spec hI
  generalize leastOf (fun j=>I j a w) = l at h1 h2
  cases l with
  | zero=>exact (no0 a w h1).elim
  | succ l =>
    refine wpIn_mono (round l a w h1) fun e a' w' he=>?_
    cases e <;> simp only [Exit.then] at he ⊢ <;> try exact he
    exact ⟨⟨l,he⟩,Nat.lt_succ_of_le ((leastOf_spec (I:=fun j=>I j a' w') ⟨l,he⟩).2 l he)⟩
theorem stepR_scopeA {b:Frame} {k:List Item} {cs:List Frame} {c:Code}:step P (lone (b.atR a (.code (.scope c) :: k)) cs w) = .next (lone (b.atR a (.code c :: .inScope c :: k)) cs w) :=
  step_lone_go (by simp [stepG,stepG.exec,Frame.atR])
theorem stepR_inScopeA {b:Frame} {k:List Item} {cs:List Frame} {c:Code}:step P (lone (b.atR a (.inScope c :: k)) cs w) = .next (lone (b.atR a k) cs w) :=
  step_lone_go (by simp [stepG,stepG.exec,Frame.atR])
theorem wpIn_scopeA {F:Fence} {n:Nat} {Q:Exit→Act→World→Prop} {c:Code} (h:c.wpIn F n P (Exit.noGoto Q) a w):(Code.scope c).wpIn F n P Q a w:=by
  intro b k cs hro hb hr
  have h0:(lone (b.atR a (.code (.scope c) :: k)) cs w).fenced P F:=fenced_calm hb hr rfl
  obtain ⟨e,a₁,w₁,hq,harr⟩:=h b (.inScope c :: k) cs hro hb hr
  cases e with
  | normal=>exact ⟨.normal,a₁,w₁,hq,.head h0 stepR_scopeA (StepsIn.trans harr (.one (fenced_calm hb hr rfl) stepR_inScopeA))⟩
  | exit id =>
    have hx:exitTo id (.inScope c :: k) = exitTo id k:=by simp [exitTo]
    exact ⟨.exit id,a₁,w₁,hq,fun k' hk=>.head h0 stepR_scopeA (harr.1 k' (by rw [hx]; exact hk)),
      fun hr' hk=>let ⟨k₁,h1,h2⟩:=harr.2 hr' (by rw [hx]; exact hk); ⟨k₁,h1,.head h0 stepR_scopeA h2⟩⟩
  | goto l=>exact hq.elim
  | ret=>exact ⟨_,a₁,w₁,hq,.of_steps (.one h0 stepR_scopeA) harr⟩
  | panic ch=>exact ⟨_,a₁,w₁,hq,.of_steps (.one h0 stepR_scopeA) harr⟩
  | outgrown=>exact ⟨_,a₁,w₁,hq,.of_steps (.one h0 stepR_scopeA) harr⟩
theorem SR.mark (s:SR P B nt E D ρ lm g m a w) {w':World} (e:w'.heap = w.heap.push (.deferred (some []))) (so:SameOut w w') :
    SR P B nt E (w.heap.size :: D) ρ lm g m { a with defers:={ target:=.collected w.heap.size,args := #[] } :: a.defers } w':=by
  have hget:∀ c',c' < w.heap.size→w'.heap[c']? = w.heap[c']?:=fun c' hlt=>by
    rw [e,Array.getElem?_push]; simp [show ¬ (c' = w.heap.size) by omega]
  have hlive:∀ b1 o1 c2 δ2 N2,m.h.get b1 = some o1→ρ[b1]? = some (c2, δ2,N2)→c2 < w.heap.size:=fun b1 o1 c2 δ2 N2 h1 h2=>by
    obtain ⟨c3, δ3,N3,x3,f1,f2,_⟩:=s.heap.live b1 o1 h1
    rw [h2] at f1
    injection f1 with f1
    injection f1 with f1 _
    subst f1
    exact (Array.getElem?_eq_some_iff.1 f2).1
  have hlmlt:∀ nm' c,lm nm' = some c→c < w.heap.size:=fun nm' c hc=>by
    have hl:=s.lcs nm'
    cases hlg:lget m.lc nm' with
    | none=>rw [hlg] at hl; simp only at hl; rw [hl] at hc; cases hc
    | some o1 =>
      rw [hlg] at hl
      obtain ⟨c1,x1,k1,_,_,k4,_⟩:=hl
      rw [hc] at k1
      injection k1 with k1
      subst k1
      exact (Array.getElem?_eq_some_iff.1 k4).1
  refine ⟨s.base,⟨s.heap.len,fun b1 o1 h1=>?_,s.heap.glob,s.heap.inj⟩,
    ⟨s.tr.ext,Nat.le_trans s.tr.size (by rw [e]; simp),so.os.trans s.tr.os,so.tape.trans s.tr.tape,so.output.trans s.tr.output,Nat.le_trans s.tr.drawn so.drawn,fun c1 hc hm=>by rw [hget c1 (Nat.lt_of_lt_of_le hc s.tr.size)]; exact s.tr.keep c1 hc hm,s.tr.img⟩,
    s.val,fun nm'=>?_,s.linj, ?_,fun r hr=>?_, ?_,s.room⟩
  · obtain ⟨c2, δ2,N2,x2,e1,e2,e3,e4⟩:=s.heap.live b1 o1 h1
    exact ⟨c2, δ2,N2,x2,e1,by rw [hget c2 (hlive b1 o1 c2 δ2 N2 h1 e1)]; exact e2,e3,e4⟩
  · have hl:=s.lcs nm'
    revert hl
    cases lget m.lc nm' with
    | none=>exact id
    | some o1 =>
      rintro ⟨c1,x1,f1,f2,f3,f4,f5,f6⟩
      exact ⟨c1,x1,f1,f2,f3,by rw [hget c1 (Array.getElem?_eq_some_iff.1 f4).1]; exact f4,f5,f6⟩
  · simp [s.dfs]
  · rcases List.mem_cons.1 hr with rfl | hr
    · exact ⟨by rw [e]; simp,s.tr.size,fun ⟨b1,o1, δ1,N1,h1,_,h3⟩=>absurd (hlive b1 o1 _ δ1 N1 h1 h3) (Nat.lt_irrefl _),fun nm hn=>absurd (hlmlt nm _ hn) (Nat.lt_irrefl _)⟩
    · obtain ⟨f1,f2,f3,f4⟩:=s.marks r hr
      exact ⟨by rw [hget r (Array.getElem?_eq_some_iff.1 f1).1]; exact f1,f2,f3,f4⟩
  · refine List.nodup_cons.2 ⟨fun hd=>?_,s.dnd⟩
    exact absurd (Array.getElem?_eq_some_iff.1 (s.marks _ hd).1).1 (Nat.lt_irrefl _)
theorem SR.unmark {r:Nat} (s:SR P B nt E (r :: D) ρ lm g m a w) {w':World} {x:Obj} (e:w'.heap = w.heap.setIfInBounds r x) (so:SameOut w w') :
    SR P B nt E D ρ lm g m { a with defers:=D.map fun r=>{ target:=.collected r,args := #[] } } w':=by
  obtain ⟨k1,k2,k3,k4⟩:=s.marks r (by simp)
  have hlt:=(Array.getElem?_eq_some_iff.1 k1).1
  have hget:∀ c,c≠r→w'.heap[c]? = w.heap[c]?:=fun c hc=>by rw [e,getElem?_setIfInBounds_cases _ _ _ _ hlt]; simp [hc]
  have hlive:∀ b1 o1 c2 δ2 N2,m.h.get b1 = some o1→ρ[b1]? = some (c2, δ2,N2)→c2≠r:=fun b1 o1 c2 δ2 N2 e1 e2 hc=>by
    subst hc
    cases hro:o1.ro with
    | false=>exact k3 ⟨b1,o1, δ2,N2,e1,hro,e2⟩
    | true =>
      obtain ⟨c3, δ3,N3,x3,f1,_,_,_,f2⟩:=s.heap.live b1 o1 e1
      rw [e2] at f1
      injection f1 with f1
      injection f1 with f3 _
      have:=f2 hro
      have:=s.base
      omega
  have hnd:=List.nodup_cons.1 s.dnd
  refine ⟨s.base,⟨s.heap.len,fun b1 o1 h1=>?_,s.heap.glob,s.heap.inj⟩,
    ⟨s.tr.ext,Nat.le_trans s.tr.size (by rw [e]; simp),so.os.trans s.tr.os,so.tape.trans s.tr.tape,so.output.trans s.tr.output,Nat.le_trans s.tr.drawn so.drawn,fun c1 hc hm=>by rw [hget c1 (by omega)]; exact s.tr.keep c1 hc hm,s.tr.img⟩,
    s.val,fun nm'=>?_,s.linj,rfl,fun r' hr=>?_,hnd.2,s.room⟩
  · obtain ⟨c2, δ2,N2,x2,e1,e2,e3,e4⟩:=s.heap.live b1 o1 h1
    exact ⟨c2, δ2,N2,x2,e1,by rw [hget c2 (hlive b1 o1 c2 δ2 N2 h1 e1)]; exact e2,e3,e4⟩
  · have hl:=s.lcs nm'
    revert hl
    cases lget m.lc nm' with
    | none=>exact id
    | some o1 =>
      rintro ⟨c1,x1,f1,f2,f3,f4,f5,f6⟩
      exact ⟨c1,x1,f1,f2,f3,by rw [hget c1 (fun hc=>k4 nm' (hc ▸ f1))]; exact f4,f5,f6⟩
  · obtain ⟨f1,f2,f3,f4⟩:=s.marks r' (by simp [hr])
    exact ⟨by rw [hget r' (fun hc=>hnd.1 (hc ▸ hr))]; exact f1,f2,f3,f4⟩
theorem okFr_get (fr:Fr) (s:Nat):fget (okFr fr) s = if okV (fget fr s) = true then fget fr s else undef:=by
  induction fr with
  | nil=>exact (ite_self _).symm
  | cons p r ih =>
    obtain ⟨k,v⟩:=p
    simp only [okFr,List.map_cons] at ih ⊢
    by_cases hv:okV v = true
    · simp only [hv,if_true,fget]
      by_cases h:s = k
      · simp [h,hv]
      · simp only [h,if_false]; exact ih
    · simp only [hv,Bool.false_eq_true,if_false,fget]
      by_cases h:s = k
      · simp [h,hv]
      · simp only [h,if_false]; exact ih
def exitOf:Ex→Exit
  | .norm=>.normal
  | .exit id=>.exit id
  | .ret=>.ret
def jumpE:Option Jump→Ex
  | none=>.norm
  | some .ret=>.ret
  | some (.exit id)=>.exit id
end Go.Proofs.YtakmapoompffgaaGreatDoor.AM
namespace Go.Proofs.YtakmapoompffgaaGreatDoor.AM
open Go
variable {P:Program} {B nt:Nat} {E:Ent} {D:List Nat} {ρ:Rho} {lm:Nat→Option Nat} {fr:Fr} {m:Mem} {a:Act} {w:World} {g:Nat→Value}
variable {call:CallF} {yld:YieldF}
def ExecOk (P:Program) (B nt:Nat) (E:Ent) (call:CallF) (yld:YieldF) (r:Option Nat) (f:CodeF) (c:Code):Prop :=
  ∀ (D:List Nat) (ρ:Rho) (lm:Nat→Option Nat) (fr:Fr) (m:Mem) (a:Act) (w:World) (ex:Ex) (fr':Fr) (m':Mem),f fr m = some (ex,fr',m') →
    SR P B nt E D ρ lm (fget fr) m a w→∀ (n:Nat) (Q:Exit→Act→World→Prop),
      (∀ D' ρ' lm' a' w',SR P B nt E D' ρ' lm' (fget fr') m' a' w'→(r.isSome = true→D' = D)→Q (exitOf ex) a' w')→c.wpIn (WF r) n P Q a w
theorem exec_region (hm:P.follows .mixedOrders = true) (hcs:CallSound P B call) (hys:YieldSound P B yld) {r:Option Nat} {hs:Hints} {id:Nat} {ops:Array Oper} {draw:Bool} {lc:LCode} {k:Nat}
    (hl:liftRegion P nt hs id ops draw = some lc):ExecOk P B nt E call yld r (execC call yld k lc) (.region id ops draw):=by
  intro D ρ lm fr m a w ex fr' m' hx s n Q hq
  unfold liftRegion at hl
  split at hl
  · rename_i ls keep hls hkeep
    have key:∀ chk,execC call yld k (.region ls keep chk) fr m = some (ex,fr',m')→∃ fr1 m1,runOps call yld ls fr m = some (fr1,m1)∧chk.all (chk1 ls (trace call yld ls fr m)) = true∧ex = .norm ∧
        ∀ D ρ lm a w,SR P B nt E D ρ lm (fget fr1) m1 a w→∃ lm',SR P B nt E D ρ lm' (fget fr') m' a w:=fun chk hx=>by
      simp only [execC,runRegion] at hx
      split at hx
      · rename_i fr1 m1 hrun
        split at hx
        · rename_i hchk
          split at hx
          · rename_i fr2 hk
            injection hx with hx
            injection hx with h1 hx
            injection hx with h2 h3
            subst h1 h2 h3
            exact ⟨fr1,m1,hrun,hchk,rfl,fun D ρ lm a w s=>s.keep hk⟩
          · cases hx
        · cases hx
      · cases hx
    split at hl
    · rename_i hd
      split at hl
      · rename_i hb
        injection hl with hl
        subst hl
        subst hd
        simp only [Bool.and_eq_true] at hb
        obtain ⟨fr1,m1,hrun,hchk,rfl,hkp⟩:=key _ hx
        refine wpIn_anyOrder hm hcs hys s hls hb.2 hb.1 hrun hchk fun ρ' lm' a' w' s'=>?_
        obtain ⟨lm2,s2⟩:=hkp _ _ _ _ _ s'
        exact hq D ρ' lm2 a' w' s2 fun _=>rfl
      · cases hl
    · rename_i hd
      injection hl with hl
      subst hl
      have hd':draw = false:=by simpa using hd
      subst hd'
      obtain ⟨fr1,m1,hrun,hchk,rfl,hkp⟩:=key _ hx
      refine wpIn_text hcs hys s hls hrun fun ρ' lm' a' w' s'=>?_
      obtain ⟨lm2,s2⟩:=hkp _ _ _ _ _ s'
      exact hq D ρ' lm2 a' w' s2 fun _=>rfl
  · cases hl
theorem exec_range (hcs:CallSound P B call) {f:Operand} {f':Opd} {ps:Array Tmp} {asx body:Code} {asx' body':LCode} {hs:Hints} {k:Nat}
    (hf:liftOpd P f = some f') (has:liftC P nt hs asx = some asx') (hbody:liftC P nt hs body = some body') (hps:∀ s∈ps.toList,s < nt) (hn1:asx'.noR = true) (hn2:body'.noR = true) :
    ExecOk P B nt E call yld none (execC call yld k (.rangeF f' ps.toList asx' body')) (.rangeFunc f ps asx body):=by
  intro D ρ lm fr m a w ex fr' m' hx s n Q hq
  simp only [execC,runRange] at hx
  split at hx
  · rename_i gf first captured hfv
    split at hx
    · rename_i vr h2 hcall
      split at hx
      · rename_i r2 hget2
        have hout:r2.state ≠ .busy∧ex = jumpE r2.pend∧fr' = fr∧m' = { m with h:=h2.kill m.h.n }:=by
          split at hx
          · cases hx
          · rename_i hb
            refine ⟨hb, ?_⟩
            split at hx <;> rename_i hp <;> injection hx with hx <;> injection hx with e1 hx <;> injection hx with e2 e3 <;> subst e1 e2 e3 <;> simp [hp,jumpE]
        obtain ⟨hbusy,rfl,rfl,rfl⟩:=hout
        clear hx
        refine wpIn_rangeFunc fun fn _=>?_
        have s1:=s.mark (w':=w.alloc (.deferred (some []))) rfl ⟨rfl,rfl,rfl,by first | exact Nat.le_refl _ | exact Nat.le_add_right _ _⟩
        have hsz:(w.alloc (.deferred (some []))).heap.size = w.heap.size + 1:=Array.size_push _
        have s2:=s1.push (o:=.loop { state:=.ready,pend:=none,fr:=okFr fr',params:=ps.toList,assign:=asx',body:=body' }) rfl (N:=0)
          (x:=.loop { state:=.ready,pending:=none,fn,tmps:=a.tmps,params:=ps,assign:=asx,body,defers:=w.heap.size })
          (w':=(w.alloc (.deferred (some []))).alloc (.loop { state:=.ready,pending:=none,fn,tmps:=a.tmps,params:=ps,assign:=asx,body,defers:=w.heap.size })) rfl
          ⟨rfl,rfl,rfl,fun t=>by
            rw [okFr_get]
            by_cases hv:okV (fget fr' t) = true
            · rw [if_pos hv]; exact ((s.val t).ok hv).mono (Ext.snoc _ _)
            · rw [if_neg hv]; exact .undef _,nt,hs,s.room,hps,has,hbody,hn1,hn2⟩ ⟨rfl,rfl,rfl,by first | exact Nat.le_refl _ | exact Nat.le_add_right _ _⟩
        rw [hsz] at s2
        generalize hw2:(w.alloc (.deferred (some []))).alloc (.loop { state:=.ready,pending:=none,fn,tmps:=a.tmps,params:=ps,assign:=asx,body,defers:=w.heap.size }) = w2 at s2
        generalize hρ2:ρ ++ [(w.heap.size + 1,0,0)] = ρ2 at s2
        have hρl:ρ2[m.h.n]? = some (w.heap.size + 1,0,0):=by rw [← hρ2,← s.heap.len]; exact get_snoc_eq _ _
        have hext:Ext ρ ρ2:=by rw [← hρ2]; exact Ext.snoc _ _
        have hfrel:=(opdRel_act s) f f' hf
        rw [hfv] at hfrel
        obtain ⟨hfn,hcon⟩:=hcs gf _ _ _ _ hcall
        have hfrel2:=hfrel.vrel (by simp) (by simp)
        generalize hax:a.eval f = ax at hfrel2
        cases hfrel2 with
        | func _ _ _ fi ca q1 q2 q3 q4 =>
          have r1:VRels ρ2 first.toList fi.toList:=All2.of_get (by simpa using q1) fun i x y hx hy=>(q3 i x y (by simpa using hx) (by simpa using hy)).mono hext
          have r2':VRels ρ2 captured.toList ca.toList:=All2.of_get (by simpa using q2) fun i x y hx hy=>(q4 i x y (by simpa using hx) (by simpa using hy)).mono hext
          have hall:VRels ρ2 (first.toList ++ [Value.func (.yield m.h.n) #[] #[]] ++ captured.toList) (fi ++ #[Value.func (.yield (w.heap.size + 1)) #[] #[]] ++ ca).toList:=by
            simp only [Array.toList_append]
            exact All2.append (All2.append r1 (.cons (.yield _ _ 0 0 hρl) .nil)) r2'
          have hB2:B≤w2.heap.size:=Nat.le_trans s2.base s2.tr.size
          refine ⟨w.heap.size + 1,[{ target:=.collected w.heap.size,args := #[] }],w2,⟨.fn (.func gf) ca,fi ++ #[Value.func (.yield (w.heap.size + 1)) #[] #[]]⟩,w2,gf,fi ++ #[Value.func (.yield (w.heap.size + 1)) #[] #[]] ++ ca,w2, ?_, ?_,fun _ _=>trivial, ?_,fun h=>by simp [WF,Fence.wide] at h, ?_⟩
          · rw [← hw2]; exact run_enterLoop_outer fn a.tmps ps asx body
          · simp only [resolve,hax,Deferred.ofValue,Sem.run_pure]
            simp [Act.eval]
          · simp only [invoke]
            exact run_callFunc hfn _ w2
          · refine callsIn_wf ((hcon ρ2 w2 _ (n - 1) hB2 s2.heap hall).mono fun e w3 he=>?_)
            obtain ⟨u, ρ3,rfl,g1,g2,g3⟩:=he
            have s3:=s2.called g1 g2
            obtain ⟨c, δ,N,x,k1,k2,k3,_⟩:=s3.heap.live m.h.n _ hget2
            have hc:=g2.ext _ _ hρl
            rw [k1] at hc
            injection hc with hc
            injection hc with hc1 hc2
            injection hc2 with hc2 hc3
            subst hc1 hc2 hc3
            cases x with
            | loop R =>
              have hst:R.state = r2.state:=k3.1
              have hpend:R.pending = r2.pend.map jumpC:=k3.2.1
              refine ⟨R.pending,w3.putObj (w.heap.size + 1) (.loop { R with state:=.exhausted }),run_endLoop k2 (by rw [hst]; exact hbusy), ?_⟩
              have s4:=s3.putObj (p:=⟨m.h.n,0,none⟩) (p':=⟨w.heap.size + 1,0,none⟩) (.inl (.ptr m.h.n 0 _ 0 0 k1)) (o:=.loop r2) (o':=.loop { r2 with state:=.exhausted }) hget2 rfl rfl (x:=.loop R)
                (x':=.loop { R with state:=.exhausted }) k2 k3 (fun δ' N' _ hh=>⟨rfl,hh.2⟩) (w':=w3.putObj (w.heap.size + 1) (.loop { R with state:=.exhausted })) rfl ⟨rfl,rfl,rfl,by first | exact Nat.le_refl _ | exact Nat.le_add_right _ _⟩
              have s5:=(s4.kill m.h.n).hcongr (h':=h2.kill m.h.n) rfl (fun b=>by
                show (h2.kill m.h.n).get b = ((h2.set m.h.n (.loop { r2 with state:=.exhausted })).kill m.h.n).get b
                by_cases hb:b = m.h.n
                · subst hb; rw [AH.get_kill_same,AH.get_kill_same]
                · rw [AH.get_kill_ne hb,AH.get_kill_ne hb,AH.get_set_ne _ hb])
              have hq':=hq _ _ _ _ _ s5 (fun h=>by cases h)
              rw [hpend] at hq' ⊢
              cases hp:r2.pend with
              | none=>rw [hp] at hq'; exact hq'
              | some j =>
                rw [hp] at hq'
                cases j with
                | ret=>exact wpIn_ret hq'
                | exit id=>exact wpIn_exit hq'
            | _=>exact k3.elim
      · cases hx
    · cases hx
  · cases hx
end Go.Proofs.YtakmapoompffgaaGreatDoor.AM
namespace Go.Proofs.YtakmapoompffgaaGreatDoor.AM
open Go
variable {P:Program} {B nt:Nat} {E:Ent} {D:List Nat} {ρ:Rho} {lm:Nat→Option Nat} {fr:Fr} {m:Mem} {a:Act} {w:World} {g:Nat→Value}
variable {call:CallF} {yld:YieldF}
theorem exec_bad {r:Option Nat} {k:Nat} {c:Code}:ExecOk P B nt E call yld r (execC call yld k .bad) c:=by
  intro D ρ lm fr m a w ex fr' m' hx
  simp only [execC] at hx
  cases hx
theorem exec_sound (hm:P.follows .mixedOrders = true) (hcs:CallSound P B call) (hys:YieldSound P B yld) (k:Nat) (hs:Hints) (r:Option Nat) :
    ∀ (c:Code) (lc:LCode),liftC P nt hs c = some lc→(r = none∨lc.noR = true)→ExecOk P B nt E call yld r (execC call yld k lc) c:=by
  intro c
  induction c with
  | skip =>
    intro lc hl _
    simp only [liftC] at hl
    injection hl with hl
    subst hl
    intro D ρ lm fr m a w ex fr' m' hx s n Q hq
    simp only [execC] at hx
    injection hx with hx
    injection hx with h1 hx
    injection hx with h2 h3
    subst h1 h2 h3
    exact wpIn_skip (hq D ρ lm a w s fun _=>rfl)
  | region id ops draw =>
    intro lc hl _
    simp only [liftC] at hl
    split at hl
    · rename_i c hc
      injection hl with hl
      subst hl
      exact exec_region hm hcs hys hc
    · injection hl with hl
      subst hl
      exact exec_bad
  | seq x y ihx ihy =>
    intro lc hl hr
    simp only [liftC] at hl
    split at hl
    · rename_i lx ly hlx hly
      injection hl with hl
      subst hl
      have hrx:r = none∨lx.noR = true:=hr.imp_right fun h=>(by simp only [LCode.noR,Bool.and_eq_true] at h; exact h.1)
      have hry:r = none∨ly.noR = true:=hr.imp_right fun h=>(by simp only [LCode.noR,Bool.and_eq_true] at h; exact h.2)
      intro D ρ lm fr m a w ex fr' m' hx s n Q hq
      simp only [execC] at hx
      refine wpIn_seq ?_
      cases hfx:execC call yld k lx fr m with
      | none=>rw [hfx] at hx; cases hx
      | some t =>
        obtain ⟨ex1,fr1,m1⟩:=t
        rw [hfx] at hx
        refine ihx lx hlx hrx D ρ lm fr m a w ex1 fr1 m1 hfx s n _ fun D' ρ' lm' a' w' s' hD=>?_
        cases ex1 with
        | norm=>exact ihy ly hly hry D' ρ' lm' fr1 m1 a' w' ex fr' m' hx s' n Q fun D2 ρ2 lm2 a2 w2 s2 hD2=>hq D2 ρ2 lm2 a2 w2 s2 fun h=>(hD2 h).trans (hD h)
        | exit id =>
          injection hx with hx
          injection hx with h1 hx
          injection hx with h2 h3
          subst h1 h2 h3
          exact hq D' ρ' lm' a' w' s' hD
        | ret =>
          injection hx with hx
          injection hx with h1 hx
          injection hx with h2 h3
          subst h1 h2 h3
          exact hq D' ρ' lm' a' w' s' hD
    · cases hl
  | cond c x y ihx ihy =>
    intro lc hl hr
    simp only [liftC] at hl
    split at hl
    · rename_i c' lx ly hc hlx hly
      injection hl with hl
      subst hl
      have hrx:r = none∨lx.noR = true:=hr.imp_right fun h=>(by simp only [LCode.noR,Bool.and_eq_true] at h; exact h.1)
      have hry:r = none∨ly.noR = true:=hr.imp_right fun h=>(by simp only [LCode.noR,Bool.and_eq_true] at h; exact h.2)
      intro D ρ lm fr m a w ex fr' m' hx s n Q hq
      simp only [execC] at hx
      split at hx
      · rename_i t ht
        have hv:=(opdRel_act s) c c' hc
        rw [ht] at hv
        have hv2:=hv.vrel (by simp) (by simp)
        have hev:a.eval c = .bool t:=by
          generalize hu:a.eval c = u at hv2
          cases hv2
          rfl
        refine wpIn_cond hev ?_
        cases t with
        | true=>exact ihx lx hlx hrx D ρ lm fr m a w ex fr' m' (by simpa using hx) s n Q hq
        | false=>exact ihy ly hly hry D ρ lm fr m a w ex fr' m' (by simpa using hx) s n Q hq
      · cases hx
    · injection hl with hl
      subst hl
      exact exec_bad
  | block id x ih =>
    intro lc hl hr
    simp only [liftC] at hl
    obtain ⟨lx,hlx,hl⟩:=Option.map_eq_some_iff.1 hl
    subst hl
    have hrx:r = none∨lx.noR = true:=hr.imp_right fun h=>(by simpa only [LCode.noR] using h)
    intro D ρ lm fr m a w ex fr' m' hx s n Q hq
    simp only [execC] at hx
    refine wpIn_block ?_
    cases hfx:execC call yld k lx fr m with
    | none=>rw [hfx] at hx; cases hx
    | some t =>
      obtain ⟨ex1,fr1,m1⟩:=t
      rw [hfx] at hx
      refine ih lx hlx hrx D ρ lm fr m a w ex1 fr1 m1 hfx s n _ fun D' ρ' lm' a' w' s' hD=>?_
      cases ex1 with
      | norm =>
        injection hx with hx
        injection hx with h1 hx
        injection hx with h2 h3
        subst h1 h2 h3
        exact hq D' ρ' lm' a' w' s' hD
      | exit i =>
        simp only at hx
        by_cases hi:i = id
        · rw [if_pos hi] at hx
          injection hx with hx
          injection hx with h1 hx
          injection hx with h2 h3
          subst h1 h2 h3
          show (if i = id then _ else _)
          rw [if_pos hi]
          exact hq D' ρ' lm' a' w' s' hD
        · rw [if_neg hi] at hx
          injection hx with hx
          injection hx with h1 hx
          injection hx with h2 h3
          subst h1 h2 h3
          show (if i = id then _ else _)
          rw [if_neg hi]
          exact hq D' ρ' lm' a' w' s' hD
      | ret =>
        injection hx with hx
        injection hx with h1 hx
        injection hx with h2 h3
        subst h1 h2 h3
        exact hq D' ρ' lm' a' w' s' hD
  | loop x ih =>
    intro lc hl hr
    simp only [liftC] at hl
    obtain ⟨lx,hlx,hl⟩:=Option.map_eq_some_iff.1 hl
    subst hl
    have hrx:r = none∨lx.noR = true:=hr.imp_right fun h=>(by simpa only [LCode.noR] using h)
    intro D ρ lm fr m a w ex fr' m' hx s n Q hq
    simp only [execC] at hx
    refine wpIn_loop_fuel (j:=k) (fun j a w => ∃ D1 ρ1 lm1 fr1 m1,loopN j (execC call yld k lx) fr1 m1 = some (ex,fr',m')∧SR P B nt E D1 ρ1 lm1 (fget fr1) m1 a w∧(r.isSome = true→D1 = D)) ?_ ?_ ⟨D, ρ,lm,fr,m,hx,s,fun _=>rfl⟩
    · rintro a w ⟨D1, ρ1,lm1,fr1,m1,h,_⟩
      simp only [loopN] at h
      cases h
    · rintro j a w ⟨D1, ρ1,lm1,fr1,m1,h,s1,hD1⟩
      simp only [loopN] at h
      cases hfx:execC call yld k lx fr1 m1 with
      | none=>rw [hfx] at h; cases h
      | some t =>
        obtain ⟨ex2,fr2,m2⟩:=t
        rw [hfx] at h
        refine ih lx hlx hrx D1 ρ1 lm1 fr1 m1 a w ex2 fr2 m2 hfx s1 n _ fun D' ρ' lm' a' w' s' hD=>?_
        cases ex2 with
        | norm=>exact ⟨D', ρ',lm',fr2,m2,h,s',fun hh=>(hD hh).trans (hD1 hh)⟩
        | exit i =>
          injection h with h
          injection h with h1 h
          injection h with h2 h3
          subst h1 h2 h3
          exact hq D' ρ' lm' a' w' s' fun hh=>(hD hh).trans (hD1 hh)
        | ret =>
          injection h with h
          injection h with h1 h
          injection h with h2 h3
          subst h1 h2 h3
          exact hq D' ρ' lm' a' w' s' fun hh=>(hD hh).trans (hD1 hh)
  | exit id =>
    intro lc hl _
    simp only [liftC] at hl
    injection hl with hl
    subst hl
    intro D ρ lm fr m a w ex fr' m' hx s n Q hq
    simp only [execC] at hx
    injection hx with hx
    injection hx with h1 hx
    injection hx with h2 h3
    subst h1 h2 h3
    exact wpIn_exit (hq D ρ lm a w s fun _=>rfl)
  | ret =>
    intro lc hl _
    simp only [liftC] at hl
    injection hl with hl
    subst hl
    intro D ρ lm fr m a w ex fr' m' hx s n Q hq
    simp only [execC] at hx
    injection hx with hx
    injection hx with h1 hx
    injection hx with h2 h3
    subst h1 h2 h3
    exact wpIn_ret (hq D ρ lm a w s fun _=>rfl)
  | rangeFunc f ps asx body ih1 ih2 =>
    intro lc hl hr
    simp only [liftC] at hl
    split at hl
    · rename_i f' asx' body' hf has hbody
      split at hl
      · rename_i hc
        injection hl with hl
        subst hl
        simp only [Bool.and_eq_true] at hc
        have hr':r = none:=hr.resolve_right (by simp [LCode.noR])
        subst hr'
        refine exec_range hcs hf has hbody (fun s hs=>?_) hc.1.2 hc.2
        have:=Array.all_eq_true_iff_forall_mem.1 hc.1.1 s (Array.mem_toList_iff.1 hs)
        simpa using this
      · injection hl with hl
        subst hl
        exact exec_bad
    · injection hl with hl
      subst hl
      exact exec_bad
  | label l =>
    intro lc hl _
    simp only [liftC] at hl
    injection hl with hl
    subst hl
    intro D ρ lm fr m a w ex fr' m' hx s n Q hq
    simp only [execC] at hx
    injection hx with hx
    injection hx with h1 hx
    injection hx with h2 h3
    subst h1 h2 h3
    exact wpIn_label (hq D ρ lm a w s fun _=>rfl)
  | scope x ih =>
    intro lc hl hr
    simp only [liftC] at hl
    intro D ρ lm fr m a w ex fr' m' hx s n Q hq
    refine wpIn_scopeA (ih lc hl hr D ρ lm fr m a w ex fr' m' hx s n _ fun D' ρ' lm' a' w' s' hD=>?_)
    have:=hq D' ρ' lm' a' w' s' hD
    cases ex <;> exact this
  | _ =>
    intro lc hl _
    simp only [liftC] at hl
    injection hl with hl
    subst hl
    exact exec_bad
end Go.Proofs.YtakmapoompffgaaGreatDoor.AM
namespace Go.Proofs.YtakmapoompffgaaGreatDoor.AM
open Go
variable {P:Program} {B nt:Nat} {E:Ent} {D:List Nat} {ρ:Rho} {lm:Nat→Option Nat} {fr:Fr} {m:Mem} {a:Act} {w:World} {g:Nat→Value}
variable {call:CallF} {yld:YieldF}
def resSem (tmps:Array Value):ResultVar→Sem Value
  | .tmp t=>pure (tmps.getD t undef)
  | .cell a t=>do loadVar t (← asAddr (tmps.getD a undef))
theorem results_eq (fn:Func) (tmps:Array Value):results fn tmps = (do
    let vs ← fn.results.mapM (resSem tmps)
    pure (if h:vs.size = 1 then vs[0] else .tuple vs)):=by
  unfold results
  congr 1
theorem resA_sound (s:SR P B nt E D ρ lm (fget fr) m a w) {rv:ResultVar} {lr:LRes} (hl:liftRes P rv = some lr) {v:Value} (hv:resA fr m lr = some v) :
    ∃ u,(resSem a.tmps rv).run P w = .ok u w∧VRel ρ v u:=by
  cases rv with
  | tmp t =>
    simp only [liftRes] at hl
    injection hl with hl
    subst hl
    simp only [resA] at hv
    split at hv
    · rename_i hok
      injection hv with hv
      subst hv
      exact ⟨_,rfl,(s.val t).ok hok⟩
    · cases hv
  | cell x t =>
    simp only [liftRes] at hl
    obtain ⟨n,hn,hl⟩:=Option.map_eq_some_iff.1 hl
    subst hl
    simp only [resA] at hv
    have h1:VRelF ρ lm (opd fr (.s x)) (a.tmps.getD x undef):=s.val x
    obtain ⟨ha,k,hk,hj⟩:=run_isAgg hn w
    cases n with
    | none =>
      simp only [ROp.ev] at hv
      split at hv
      · rename_i p e
        rw [e] at h1
        obtain ⟨p',e2,hsp⟩:=h1.psome
        split at hv
        · rename_i v' hrd
          injection hv with hv; subst hv
          rw [e2] at h1
          obtain ⟨us,g1,g2,_,_,g5⟩:=s.rd h1 hrd
          cases g2 with
          | @cons _ u _ us' k1 k2 =>
            cases k2
            have hc:=g5 0 u rfl
            have hp0:p'.add 0 = p':=by simp [Addr.add]
            rw [hp0] at hc
            refine ⟨u, ?_,k1⟩
            simp only [Option.isSome_none] at ha
            have hld:(load p').run P w = .ok u w:=by rw [run_load]; simp [hc]
            simp only [resSem,e2,asAddr,loadVar,Sem.run_bind,Sem.run_pure,Result.andThen_ok,ha,Bool.false_eq_true,if_false]
            exact hld
        · cases hv
      · cases hv
    | some n =>
      simp only [ROp.ev] at hv
      split at hv
      · rename_i p e
        rw [e] at h1
        obtain ⟨p',e2,hsp⟩:=h1.psome
        obtain ⟨l,hrd,rfl⟩:=Option.map_eq_some_iff.1 hv
        rw [e2] at h1
        obtain ⟨us,g1,g2,_,g4,_⟩:=s.rd h1 hrd
        obtain rfl:=hj n rfl
        simp only [Option.isSome_some] at ha
        refine ⟨.agg us.toArray, ?_,.agg _ _ (by simpa using g2.length) fun i x y hx hy=>?_⟩
        · simp only [resSem,e2,asAddr,loadVar,Sem.run_bind,Sem.run_pure,Result.andThen_ok,ha,if_true,run_szOf hk,g4]
        · obtain ⟨y',hy',hrel⟩:=All2.get g2 i x (by simpa using hx)
          have:y = y':=by
            have h3:us.toArray[i]? = some y':=by simpa using hy'
            rw [hy] at h3; injection h3
          subst this
          exact hrel
      · cases hv
theorem resAll_sound (s:SR P B nt E D ρ lm (fget fr) m a w):∀ {rvs:List ResultVar} {rs:List LRes},rvs.mapM (liftRes P) = some rs→∀ {vs:List Value},resAll fr m rs = some vs →
    ∃ us,(rvs.mapM (resSem a.tmps)).run P w = .ok us w∧VRels ρ vs us
  | [],rs,hl,vs,hv=>by
    simp at hl
    subst hl
    simp only [resAll] at hv
    injection hv with hv
    subst hv
    exact ⟨[],rfl,.nil⟩
  | rv :: r,rs,hl,vs,hv=>by
    rw [List.mapM_cons] at hl
    obtain ⟨lr,h1,hl⟩:=Option.bind_eq_some_iff.1 hl
    obtain ⟨lrs,h2,hl⟩:=Option.bind_eq_some_iff.1 hl
    injection hl with hl
    subst hl
    simp only [resAll] at hv
    split at hv
    · rename_i v vs' hv1 hv2
      injection hv with hv
      subst hv
      obtain ⟨u,g1,g2⟩:=resA_sound s h1 hv1
      obtain ⟨us,g3,g4⟩:=resAll_sound s h2 hv2
      refine ⟨u :: us, ?_,.cons g2 g4⟩
      rw [List.mapM_cons]
      simp only [Sem.run_bind,g1,Result.andThen_ok,g3,Sem.run_pure]
    · cases hv
theorem retV_sound (s:SR P B nt E D ρ lm (fget fr) m a w) {fn:Func} {rs:List LRes} (hl:fn.results.toList.mapM (liftRes P) = some rs) {v:Value} (hv:retV fr m rs = some v) :
    ∃ u,(results fn a.tmps).run P w = .ok u w∧VRel ρ v u:=by
  unfold retV at hv
  have key:∃ vs,resAll fr m rs = some vs∧((∃ x,vs = [x]∧v = x)∨((∀ x,vs≠[x])∧v = .tuple vs.toArray)):=by
    split at hv
    · rename_i x hx
      injection hv with hv
      exact ⟨_,hx,.inl ⟨x,rfl,hv.symm⟩⟩
    · rename_i vs hne hx
      injection hv with hv
      exact ⟨vs,hx,.inr ⟨fun x hh=>hne x (by rw [hh]),hv.symm⟩⟩
    · cases hv
  obtain ⟨vs,h1,h2⟩:=key
  obtain ⟨us,g1,g2⟩:=resAll_sound s hl h1
  have hrun:(fn.results.mapM (resSem a.tmps)).run P w = .ok us.toArray w:=by
    rw [Array.mapM_eq_mapM_toList,map_eq_pure_bind]
    simp only [Sem.run_bind,g1,Result.andThen_ok,Sem.run_pure]
  rw [results_eq]
  simp only [Sem.run_bind,hrun,Result.andThen_ok,Sem.run_pure]
  rcases h2 with ⟨x,rfl,rfl⟩ | ⟨hne,rfl⟩
  · cases g2 with
    | @cons _ u _ us' k1 k2 =>
      cases k2
      exact ⟨u,by simp,k1⟩
  · have hsz:us.toArray.size≠1:=fun h=>by
      have hl:=g2.length
      have h3:vs.length = 1:=by rw [hl]; simpa using h
      match vs,h3 with
      | [x],_=>exact hne x rfl
    refine ⟨.tuple us.toArray,by rw [dif_neg hsz],.tuple _ _ (by simpa using g2.length) fun i x y hx hy=>?_⟩
    obtain ⟨y',hy',hrel⟩:=All2.get g2 i x (by simpa using hx)
    have:y = y':=by
      have h3:us.toArray[i]? = some y':=by simpa using hy'
      rw [hy] at h3; injection h3
    subst this
    exact hrel
theorem leaves_sound {fn:Func} {rs:List LRes} (hl:fn.results.toList.mapM (liftRes P) = some rs) {v:Value} (hv:retV fr m rs = some v) {n:Nat} :
    ∀ (D:List Nat) (a:Act) (w:World),SR P B nt E D ρ lm (fget fr) m a w→LeavesInM Fence.wide n P fn a.tmps (CallPost P B E.ρ E.h E.w v m.h) a.defers .returning w
  | [],a,w,s=>by
    have hd:=s.dfs
    simp only [List.map_nil] at hd
    rw [hd]
    obtain ⟨u,h1,h2⟩:=retV_sound s hl hv
    exact ⟨u,h1,u, ρ,rfl,s.heap,s.tr,h2⟩
  | r :: D,a,w,s=>by
    have hd:=s.dfs
    simp only [List.map_cons] at hd
    rw [hd]
    refine ⟨by simp,.inl ⟨r,w.putObj r (.deferred none),rfl,run_takeDeferred (s.marks r (by simp)).1, ?_⟩⟩
    have s':=s.unmark (w':=w.putObj r (.deferred none)) rfl ⟨rfl,rfl,rfl,by first | exact Nat.le_refl _ | exact Nat.le_add_right _ _⟩
    exact leaves_sound hl hv D _ _ s'
theorem argFr_get (s:Nat):∀ (args:List Value) (i:Nat),fget (argFr i args) s = if i≤s then args.getD (s - i) undef else undef
  | [],i=>by simp [argFr,fget]
  | v :: r,i=>by
    simp only [argFr,fget]
    by_cases h:s = i
    · subst h; simp
    · rw [if_neg h,argFr_get s r (i + 1)]
      by_cases h2:i + 1≤s
      · rw [if_pos h2,if_pos (by omega),show s - i = (s - (i + 1)) + 1 by omega]
        simp
      · rw [if_neg h2,if_neg (by omega)]
theorem start_sound {h:AH} (hB:B≤w.heap.size) (hh:HRel P B ρ h w) {fr:Fr} {a:Act} (hv:∀ s,VRel ρ (fget fr s) (a.tmps.getD s undef)) (hd:a.defers = []) (hnt:nt≤a.tmps.size) :
    SR P B nt ⟨ρ,h,w⟩ [] ρ (fun _=>none) (fget fr) { lc:=[],h } a w where
  base:=hB
  heap:=hh
  tr:=.refl ρ h w
  val:=fun s=>.inl (hv s)
  lcs:=fun nm=>rfl
  linj:=fun _ _ _ h=>by cases h
  dfs:=hd
  marks:=fun r hr=>by cases hr
  dnd:=.nil
  room:=hnt
theorem callBody_sound (hm:P.follows .mixedOrders = true) (hcs:CallSound P B call) (hys:YieldSound P B yld) {k:Nat} {f:FuncId} {fn:Func} {hs:Hints} {lf:LFunc} (hf:P.funcs[f]? = some fn) (hl:liftF P hs fn = some lf)
    {args:List Value} {h:AH} {v:Value} {h':AH} (hx:callBody call yld k lf args h = some (v,h')) :
    FnOk P f∧∀ ρ w argsC n,B≤w.heap.size→HRel P B ρ h w→VRels ρ args argsC.toList→CallsIn Fence.wide n P f argsC w (CallPost P B ρ h w v h'):=by
  unfold liftF at hl
  split at hl
  · rename_i c hbody
    split at hl
    · rename_i b rs hb hrs
      split at hl
      · cases hl
      · rename_i hname
        injection hl with hl
        subst hl
        refine ⟨⟨fn,hf,by simpa using hname,by rw [hbody]; rfl⟩,fun ρ w argsC n hB hh hargs=>?_⟩
        unfold callBody at hx
        simp only at hx
        split at hx
        · refine callsIn_of_wp_marks hf hbody trivial ?_
          have s0:SR P B fn.ntmps ⟨ρ,h,w⟩ [] ρ (fun _=>none) (fget (argFr 0 args)) { lc:=[],h } { tmps:=argsC ++ Array.replicate (fn.ntmps - argsC.size) undef,defers:=[] } w:=by
            refine start_sound hB hh (fun s=>?_) rfl (by simp; omega)
            rw [argFr_get]
            simp only [Nat.zero_le,if_true,Nat.sub_zero]
            by_cases hlt:s < args.length
            · have hlen:=hargs.length
              simp only [Array.length_toList] at hlen
              obtain ⟨u,hu,hrel⟩:=All2.get hargs s args[s] (by simp [hlt])
              have:(argsC ++ Array.replicate (fn.ntmps - argsC.size) undef).getD s undef = u:=by
                have hlt2:s < argsC.size:=by omega
                have hu':argsC[s]? = some u:=by simpa using hu
                simp [Array.getD_eq_getD_getElem?,Array.getElem?_append,hlt2,hu']
                simpa [hlt2] using hu'
              rw [this]
              simpa [List.getD_eq_getElem?_getD,hlt] using hrel
            · rw [List.getD_eq_getElem?_getD,List.getElem?_eq_none (by omega)]
              exact .undef _
          cases hex:execC call yld k b (argFr 0 args) { lc:=[],h } with
          | none=>rw [hex] at hx; cases hx
          | some t =>
            obtain ⟨ex,fr',m'⟩:=t
            rw [hex] at hx
            refine exec_sound hm hcs hys k hs none c b hb (.inl rfl) [] ρ _ _ _ _ w ex fr' m' hex s0 n _ fun D' ρ' lm' a' w' s' _=>?_
            have fin:(retV fr' m' rs).map (fun v=>(v,m'.h)) = some (v,h')→LeavesInM Fence.wide n P fn a'.tmps (CallPost P B ρ h w v h') a'.defers .returning w':=fun hx=>by
              obtain ⟨v',hv,hx⟩:=Option.map_eq_some_iff.1 hx
              injection hx with h1 h2
              subst h1 h2
              exact leaves_sound hrs hv D' a' w' s'
            cases ex with
            | norm=>exact fin hx
            | ret=>exact fin hx
            | exit id=>cases hx
        · cases hx
    · cases hl
  · cases hl
end Go.Proofs.YtakmapoompffgaaGreatDoor.AM
namespace Go.Proofs.YtakmapoompffgaaGreatDoor.AM
open Go
variable {P:Program} {B nt:Nat} {E:Ent} {D:List Nat} {ρ:Rho} {lm:Nat→Option Nat} {fr:Fr} {m:Mem} {a:Act} {w:World} {g:Nat→Value}
variable {call:CallF} {yld:YieldF}
theorem params_rel {r:Fr}:∀ {ps:List Nat} {args us:List Value},VRels ρ args us→ps.length = args.length→(∀ s∈ps,s < nt)→∀ {tmps:Array Value},nt≤tmps.size →
    ∀ (l:Fr),(∀ s,VRel ρ (fget (l ++ r) s) (tmps.getD s undef)) →
    nt≤((ps.zip us).foldl (fun tmps (t,a)=>tmps.setIfInBounds t a) tmps).size ∧
    ∀ s,VRel ρ (fget ((ps.zip args).reverse ++ (l ++ r)) s) (((ps.zip us).foldl (fun tmps (t,a)=>tmps.setIfInBounds t a) tmps).getD s undef)
  | [],args,us,hr,hlen,hps,tmps,hnt,l,h=>by
    simp only [List.zip_nil_left,List.foldl_nil,List.reverse_nil,List.nil_append]
    exact ⟨hnt,h⟩
  | p :: ps,[],us,hr,hlen,_,_,_,_,_=>by simp at hlen
  | p :: ps,x :: args,us,hr,hlen,hps,tmps,hnt,l,h=>by
    cases hr with
    | @cons _ u _ us' h1 h2 =>
      simp only [List.zip_cons_cons,List.foldl_cons,List.reverse_cons,List.append_assoc,List.singleton_append]
      have:=params_rel (r:=r) h2 (by simpa using hlen) (fun s hs=>hps s (by simp [hs])) (tmps:=tmps.setIfInBounds p u) (by simpa using hnt) ((p,x) :: l) (fun s=>by
        have hlt:p < tmps.size:=Nat.lt_of_lt_of_le (hps p (by simp)) hnt
        simp only [List.cons_append,fget]
        by_cases e:s = p
        · subst e; simp [hlt]; exact h1
        · have e' : ¬ (p = s):=fun h=>e h.symm
          rw [if_neg e]
          have:=h s
          simpa [Array.getElem?_setIfInBounds_ne e'] using this)
      simpa using this
theorem endRec_spec (r2:LRec) (R:Loop) (ex:Ex) {ρ:Rho} {δ N:Nat} (h:ORel P ρ δ N (.loop r2) (.loop R)) :
    ∃ jump:Option Code,(∀ Rr:Ending→World→Prop,∀ (l:Nat) (a:Act) (w:World),(∃ v w',(Instr.endRound l jump).run P w = .ok v w'∧Rr (.returned v) w')→roundPost P l Rr (exitOf ex) a w) ∧
      (endRec r2 ex).1 = .bool jump.isNone∧∀ δ N,ORel P ρ δ N (.loop (endRec r2 ex).2) (.loop { R with state:=if jump.isNone then .ready else .done,pending:=jump }):=by
  obtain ⟨h1,h2,h3⟩:=h
  cases ex with
  | norm=>exact ⟨none,fun _ _ _ _ h=>h,rfl,fun _ _=>⟨rfl,rfl,h3⟩⟩
  | ret=>exact ⟨some .ret,fun _ _ _ _ h=>h,rfl,fun _ _=>⟨rfl,rfl,h3⟩⟩
  | exit id=>exact ⟨some (.exit id),fun _ _ _ _ h=>h,rfl,fun _ _=>⟨rfl,rfl,h3⟩⟩
theorem yieldBody_sound (hm:P.follows .mixedOrders = true) (hcs:CallSound P B call) (hys:YieldSound P B yld) (k:Nat):YieldSound P B (yieldBody call yld k):=by
  intro l args h v h' hx ρ w argsC n c δ N hB hh hargs hρ
  unfold yieldBody at hx
  split at hx
  · rename_i r hget
    split at hx
    · rename_i hlen
      split at hx
      · rename_i fr1 m1 hex1
        split at hx
        · rename_i r1 hget1
          split at hx
          · rename_i hready
            split at hx
            · rename_i ex fr2 m2 hex2
              split at hx
              · rename_i r2 hget2
                injection hx with hx
                injection hx with hv hh'
                subst hv hh'
                obtain ⟨c0, δ0,N0,x,k1,k2,k3,_⟩:=hh.live l _ hget
                rw [hρ] at k1
                injection k1 with k1
                injection k1 with e1 k1
                injection k1 with e2 e3
                subst e1 e2 e3
                cases x with
                | loop R =>
                  obtain ⟨q1,q2,q3,q4,nt,hs,q5,q6,q7,q8,q9,q10⟩:=k3
                  have hsz:argsC.size = R.params.size:=by
                    have h1:=hargs.length
                    have h2:R.params.size = r.params.length:=by rw [← q3]; simp
                    simp only [Array.length_toList] at h1
                    omega
                  refine ⟨R.fn,_,R.assign,R.body,run_yield k2 hsz, ?_⟩
                  have hfold:((R.params.zip argsC).foldl (fun tmps (t,a)=>tmps.setIfInBounds t a) R.tmps) = ((r.params.zip argsC.toList).foldl (fun tmps (t,a)=>tmps.setIfInBounds t a) R.tmps):=by
                    rw [← Array.foldl_toList,Array.toList_zip,q3]
                  rw [hfold]
                  obtain ⟨g1,g2⟩:=params_rel (r:=r.fr) (l:=[]) hargs hlen.symm q6 q5 (fun s=>q4 s)
                  generalize (r.params.zip argsC.toList).foldl (fun tmps (t,a)=>tmps.setIfInBounds t a) R.tmps = tmps at g1 g2
                  refine roundIn_of_wpIn (F:=Fence.wide) trivial ?_
                  have s0:SR P B nt ⟨ρ,h,w⟩ [] ρ (fun _=>none) (fget ((r.params.zip args).reverse ++ r.fr)) { lc:=[],h } { tmps:=tmps,defers:=[] } w :=
                    start_sound hB hh g2 rfl g1
                  refine exec_sound hm hcs hys k hs (some c) R.assign r.assign q7 (.inr q9) [] ρ _ _ _ _ w .norm fr1 m1 hex1 s0 n _ fun D1 ρ1 lm1 a1 w1 s1 hD1=>?_
                  obtain rfl:=hD1 rfl
                  obtain ⟨c1, δ1,N1,x1,p1,p2,p3,_⟩:=s1.heap.live l _ hget1
                  have p4:=s1.tr.ext _ _ hρ
                  rw [p1] at p4
                  injection p4 with p4
                  injection p4 with e1 p4
                  injection p4 with e2 e3
                  subst e1 e2 e3
                  cases x1 with
                  | loop R1 =>
                    refine ⟨_,run_beginRound p2 (p3.1.trans hready), ?_⟩
                    have s2:=s1.putObj (p:=⟨l,0,none⟩) (p':=⟨c1, δ1,none⟩) (.inl (.ptr l 0 _ _ _ p1)) (o:=.loop r1) (o':=.loop { r1 with state:=.busy }) hget1 rfl rfl (x:=.loop R1)
                      (x':=.loop { R1 with state:=.busy }) p2 p3 (fun δ' N' _ hh=>⟨rfl,hh.2⟩) (w':=w1.putObj c1 (.loop { R1 with state:=.busy })) rfl ⟨rfl,rfl,rfl,by first | exact Nat.le_refl _ | exact Nat.le_add_right _ _⟩
                    have hmo:m1.putObj ⟨l,0,none⟩ (.loop { r1 with state:=.busy }) = { m1 with h:=m1.h.set l (.loop { r1 with state:=.busy }) }:=rfl
                    rw [hmo] at s2
                    refine exec_sound hm hcs hys k hs (some c1) R.body r.body q8 (.inr q10) [] ρ1 lm1 fr1 _ a1 _ ex fr2 m2 hex2 s2 n _ fun D2 ρ2 lm2 a2 w2 s3 hD2=>?_
                    obtain ⟨c2, δ2,N2,x2,z1,z2,z3,_⟩:=s3.heap.live l _ hget2
                    have z4:=s3.tr.ext _ _ hρ
                    rw [z1] at z4
                    injection z4 with z4
                    injection z4 with e1 z4
                    injection z4 with e2 e3
                    subst e1 e2 e3
                    cases x2 with
                    | loop R2 =>
                      obtain ⟨jump,y1,y2,y3⟩:=endRec_spec r2 R2 ex z3
                      refine y1 _ _ _ _ ⟨_,_,run_endRound jump z2,.bool jump.isNone, ρ2,rfl, ?_⟩
                      have s4:=s3.putObj (p:=⟨l,0,none⟩) (p':=⟨c2, δ2,none⟩) (.inl (.ptr l 0 _ _ _ z1)) (o:=.loop r2) (o':=.loop (endRec r2 ex).2) hget2 rfl rfl (x:=.loop R2)
                        (x':=.loop { R2 with state:=if jump.isNone then .ready else .done,pending:=jump }) z2 z3 (fun δ' N' _ _=>y3 δ' N') (w':=w2.putObj c2 (.loop { R2 with state:=if jump.isNone then .ready else .done,pending:=jump })) rfl ⟨rfl,rfl,rfl,by first | exact Nat.le_refl _ | exact Nat.le_add_right _ _⟩
                      exact ⟨s4.heap,s4.tr,by rw [y2]; exact .bool _⟩
                    | _=>exact z3.elim
                  | _=>exact p3.elim
                | _=>exact k3.elim
              · cases hx
            · cases hx
          · cases hx
        · cases hx
      · cases hx
    · cases hx
  · cases hx
structure PrgOk (P:Program) (B:Nat) (p:Prg):Prop where
  fn:∀ f lf,p.fn f = some lf→∃ fn hs,P.funcs[f]? = some fn∧liftF P hs fn = some lf
  ext:∀ f g,p.ext f = some g→∀ args h v h',g args h = some (v,h')→FnOk P f ∧
    ∀ ρ w argsC n,B≤w.heap.size→HRel P B ρ h w→VRels ρ args argsC.toList→CallsIn Fence.wide n P f argsC w (CallPost P B ρ h w v h')
theorem runN_sound (hm:P.follows .mixedOrders = true) {p:Prg} (hp:PrgOk P B p):∀ k,CallSound P B (runN p k).1∧YieldSound P B (runN p k).2
  | 0=>⟨(fun f args h v h' hx=>by cases hx),(fun l args h v h' hx=>by cases hx)⟩
  | k + 1=>by
    obtain ⟨h1,h2⟩:=runN_sound hm hp k
    refine ⟨fun f args h v h' hx=>?_,yieldBody_sound hm h1 h2 k⟩
    simp only [runN] at hx
    split at hx
    · rename_i g hg
      exact hp.ext f g hg args h v h' hx
    · split at hx
      · rename_i lf hlf
        obtain ⟨fn,hs,hf,hl⟩:=hp.fn f lf hlf
        exact callBody_sound hm h1 h2 hf hl hx
      · cases hx
theorem run_sound (hm:P.follows .mixedOrders = true) {p:Prg} (hp:PrgOk P B p) {k:Nat} {f:FuncId} {args:List Value} {h h':AH} {v:Value} (hx:(runN p k).1 f args h = some (v,h'))
    {ρ:Rho} {w:World} {argsC:Array Value} (hB:B≤w.heap.size) (hh:HRel P B ρ h w) (ha:VRels ρ args argsC.toList) (n:Nat) :
    CallsIn Fence.wide n P f argsC w (CallPost P B ρ h w v h'):=((runN_sound hm hp k).1 f args h v h' hx).2 ρ w argsC n hB hh ha
end Go.Proofs.YtakmapoompffgaaGreatDoor.AM
