/- Parts of proofs: lemmas, joined. -/
import Derived.Test.YtakmapoompffgaaGreatDoorP014012bc
import Derived.Laws.Externs
import Derived.WideLaws
import Derived.Laws.StructEq
import Derived.Laws.Tables
import Derived.Great.BuildSlice
import Derived.Laws.BytesArg
import Derived.Laws.Cover4
set_option linter.unusedVariables false
set_option linter.unusedSimpArgs false
set_option linter.unusedSectionVars false
namespace Go.Proofs.YtakmapoompffgaaGreatDoor.AM
open Go
variable {P:Program} {ρ:Rho} {lm:Nat→Option Nat} {fr:Fr} {ev:Operand→Value} {w:World}
theorem VRelF.vrel {v u:Value} (h:VRelF ρ lm v u) (h1:∀ a,v ≠ .pointer (some a)) (h2:∀ a n e,v ≠ .slice (some a) n e):VRel ρ v u:=by
  rcases h with h | ⟨nm,o,c,h,_⟩ | ⟨nm,n,e,c,h,_⟩
  · exact h
  · exact absurd h (h1 _)
  · exact absurd h (h2 _ _ _)
theorem VRelF.int {k:IntKind} {n:Int} {u:Value} (h:VRelF ρ lm (.int k n) u):u = .int k n:=by
  have:=h.vrel (by simp) (by simp); cases this; rfl
theorem VRelF.bool {b:Bool} {u:Value} (h:VRelF ρ lm (.bool b) u):u = .bool b:=by
  have:=h.vrel (by simp) (by simp); cases this; rfl
theorem VRelF.string {s:ByteArray} {u:Value} (h:VRelF ρ lm (.string s) u):u = .string s:=by
  have:=h.vrel (by simp) (by simp); cases this; rfl
theorem VRelF.agg {cs:Array Value} {u:Value} (h:VRelF ρ lm (.agg cs) u):∃ ds,u = .agg ds∧cs.size = ds.size∧∀ (i:Nat) x y,cs[i]? = some x→ds[i]? = some y→VRel ρ x y:=by
  have:=h.vrel (by simp) (by simp); cases this with | agg _ ds h1 h2=>exact ⟨ds,rfl,h1,h2⟩
theorem VRelF.pnil {u:Value} (h:VRelF ρ lm (.pointer none) u):u = .pointer none:=by
  have:=h.vrel (by simp) (by simp); cases this; rfl
theorem VRelF.psome {p:Addr} {u:Value} (h:VRelF ρ lm (.pointer (some p)) u):∃ p':Addr,u = .pointer (some p')∧p'.spot = none:=by
  rcases h with h | ⟨nm,o,c,h1,h2,h3⟩ | ⟨nm,n,e,c,h1,_⟩
  · cases h; exact ⟨_,rfl,rfl⟩
  · exact ⟨_,h3,rfl⟩
  · cases h1
theorem VRelF.snil {n e:Nat} {u:Value} (h:VRelF ρ lm (.slice none n e) u):u = .slice none 0 0∧n = 0∧e = 0:=by
  have:=h.vrel (by simp) (by simp); cases this; exact ⟨rfl,rfl,rfl⟩
theorem VRelF.ssome {p:Addr} {n e:Nat} {u:Value} (h:VRelF ρ lm (.slice (some p) n e) u):∃ p' k,u = .slice (some p') n k:=by
  rcases h with h | ⟨nm,o,c,h1,h2,h3⟩ | ⟨nm,n',e',c,h1,h2,h3⟩
  · cases h with
    | sl b o c δ N n e k h h1 h2=>exact ⟨_,_,rfl⟩
    | slZ a a' e=>exact ⟨_,_,rfl⟩
  · cases h1
  · injection h1 with g1 g2 g3; subst g2; exact ⟨_,_,h3⟩
theorem VRelF.mnil {u:Value} (h:VRelF ρ lm (.map none) u):u = .map none:=by
  have:=h.vrel (by simp) (by simp); cases this; rfl
theorem VRelF.msome {b:Nat} {u:Value} (h:VRelF ρ lm (.map (some b)) u):∃ c δ N,u = .map (some c)∧ρ[b]? = some (c, δ,N):=by
  have:=h.vrel (by simp) (by simp); cases this with | map _ c δ N h'=>exact ⟨c, δ,N,rfl,h'⟩
def OpdRel (P:Program) (ρ:Rho) (lm:Nat→Option Nat) (fr:Fr) (ev:Operand→Value):Prop :=
  ∀ x y,liftOpd P x = some y→VRelF ρ lm (opd fr y) (ev x)
theorem opdRel_act {B nt:Nat} {E:Ent} {D:List Nat} {m:Mem} {a:Act} (s:SR P B nt E D ρ lm (fget fr) m a w):OpdRel P ρ lm fr a.eval:=by
  intro x y h
  cases x with
  | tmp t=>simp only [liftOpd,Option.some.injEq] at h; subst h; exact s.val t
  | const v =>
    simp only [liftOpd] at h
    split at h
    · rename_i hf; injection h with h; subst h; exact .inl (VRel.flatV hf)
    · cases h
  | global g =>
    simp only [liftOpd] at h
    split at h
    · rename_i hg
      injection h with h
      subst h
      obtain ⟨N,hN⟩:=s.heap.glob g hg
      exact .inl (.ptr g 0 g 0 N hN)
    · cases h
  | func f=>simp only [liftOpd,Option.some.injEq] at h; subst h; exact .inl (.func _ _ _ _ _ rfl rfl (by simp) (by simp))
theorem liftOpds_rel (hr:OpdRel P ρ lm fr ev):∀ (xs:List Operand) (ys:List Opd),xs.mapM (liftOpd P) = some ys→All2 (VRelF ρ lm) (opds fr ys) (xs.map ev)
  | [],ys,h=>by simp at h; subst h; exact .nil
  | x :: xs,ys,h=>by
    simp only [List.mapM_cons,Option.bind_eq_bind] at h
    obtain ⟨y,hy,h⟩:=Option.bind_eq_some_iff.1 h
    obtain ⟨l,hl,h⟩:=Option.bind_eq_some_iff.1 h
    simp at h
    subst h
    exact .cons (hr x y hy) (liftOpds_rel hr xs l hl)
theorem All2.okVs {xs ys:List Value} (h:All2 (VRelF ρ lm) xs ys) (hk:xs.all okV = true):VRels ρ xs ys:=by
  induction h with
  | nil=>exact .nil
  | cons h _ ih =>
    simp only [List.all_cons,Bool.and_eq_true] at hk
    exact .cons (h.ok hk.1) (ih hk.2)
theorem run_und {t:TypeId} {d:TypeDesc} (h:P.underlying t = some d) (w:World):(underlying t).run P w = .ok d w:=by
  simp [underlying,h]
theorem run_szOf {t:TypeId} {n:Nat} (h:szOf P t = some n) (w:World):(sizeOf t).run P w = .ok n w:=by
  unfold szOf at h
  obtain ⟨i,hi,rfl⟩:=Option.map_eq_some_iff.1 h
  simp [sizeOf,typeInfo,hi]
theorem run_intBin {op:BinOp} {k:IntKind} {x y:Int} {v:Value} (h:intBin op k x y = some v) (t:TypeId):(binOp op t (.int k x) (.int k y)).run P w = .ok v w:=by
  cases op <;> simp only [intBin,Option.some.injEq] at h <;>
    first
      | (subst h; simp [binOp,Op.intArith,Op.intBits,Op.intCmp]; done)
      | (split at h
         · cases h
         · rename_i h0; simp only [Option.some.injEq] at h; subst h; simp [binOp,Op.intDiv,h0])
      | cases h
theorem run_strBin {op:BinOp} {x y:ByteArray} {v:Value} (h:strBin op x y = some v) (t:TypeId):(binOp op t (.string x) (.string y)).run P w = .ok v w:=by
  cases op <;> simp only [strBin,Option.some.injEq] at h <;>
    first
      | (subst h; simp [binOp,Op.stringOp]; done)
      | (split at h
         · rename_i h0
           simp only [Option.some.injEq] at h
           subst h
           have : ¬ (((x.size + y.size:Nat):Int) > IntKind.i64.max):=by
             have e:IntKind.i64.max = 9223372036854775807:=by decide
             rw [e]; omega
           simp [binOp,Op.stringOp]
           omega
         · cases h)
      | cases h
theorem run_shiftBin {op:BinOp} {k k':IntKind} {x y:Int} {v:Value} (ho:op = .shl∨op = .shr) (h:shiftBin op k x y = some v) (t:TypeId) :
    (binOp op t (.int k x) (.int k' y)).run P w = .ok v w:=by
  unfold shiftBin at h
  split at h
  · cases h
  · rename_i h0
    rcases ho with rfl | rfl
    · simp only [Option.some.injEq] at h; subst h; simp [binOp,Op.shift,h0]
    · simp only [Option.some.injEq] at h; subst h; simp [binOp,Op.shift,h0]
def eqKOf:TypeDesc→Option EqK
  | .bool=>some .bool
  | .pointer _=>some .ptr
  | .slice _=>some .sl
  | .map _ _=>some .map
  | .func _ _ _=>some .func
  | _=>none
theorem run_eqNil' (dp:Nat) {k:EqK} {d:TypeDesc} {t:TypeId} (ht:P.underlying t = some d) (hd:eqKOf d = some k) {x y x' y':Value} (hx:VRelF ρ lm x x') (hy:VRelF ρ lm y y') {b:Bool}
    (h:eqNil k x y = some b):(Op.equalIn (dp + 1) t x' y').run P w = .ok b w:=by
  have hu:=run_und ht
  simp only [Op.equalIn,Sem.run_bind,hu,Result.andThen_ok]
  unfold eqNil at h
  split at h
  · obtain rfl:=hx.bool; obtain rfl:=hy.bool
    injection h with h; subst h
    cases d <;> simp [eqKOf] at hd
    simp
  · obtain rfl:=hx.pnil
    injection h with h; subst h
    cases d <;> simp [eqKOf] at hd
    rename_i b _
    cases b with
    | none=>obtain rfl:=hy.pnil; simp
    | some p=>obtain ⟨p',rfl,_⟩:=hy.psome; simp
  · obtain ⟨p',rfl,_⟩:=hx.psome; obtain rfl:=hy.pnil
    injection h with h; subst h
    cases d <;> simp [eqKOf] at hd
    simp
  · obtain ⟨rfl,_,_⟩:=hx.snil
    injection h with h; subst h
    cases d <;> simp [eqKOf] at hd
    rename_i b _ _ _ _ _
    cases b with
    | none=>obtain ⟨rfl,_,_⟩:=hy.snil; simp
    | some p=>obtain ⟨p',k,rfl⟩:=hy.ssome; simp
  · obtain ⟨p',k,rfl⟩:=hx.ssome; obtain ⟨rfl,_,_⟩:=hy.snil
    injection h with h; subst h
    cases d <;> simp [eqKOf] at hd
    simp
  · obtain rfl:=hx.mnil
    injection h with h; subst h
    cases d <;> simp [eqKOf] at hd
    rename_i b _ _
    cases b with
    | none=>obtain rfl:=hy.mnil; simp
    | some p=>obtain ⟨c, δ,N,rfl,_⟩:=hy.msome; simp
  · obtain ⟨c, δ,N,rfl,_⟩:=hx.msome; obtain rfl:=hy.mnil
    injection h with h; subst h
    cases d <;> simp [eqKOf] at hd
    simp
  · have hx:=hx.vrel (by simp) (by simp); have hy:=hy.vrel (by simp) (by simp)
    injection h with h; subst h
    cases d <;> simp [eqKOf] at hd
    cases hx <;> cases hy <;> simp
  · have hx:=hx.vrel (by simp) (by simp); have hy:=hy.vrel (by simp) (by simp)
    injection h with h; subst h
    cases d <;> simp [eqKOf] at hd
    cases hx <;> cases hy <;> simp
  · have hx:=hx.vrel (by simp) (by simp); have hy:=hy.vrel (by simp) (by simp)
    injection h with h; subst h
    cases d <;> simp [eqKOf] at hd
    cases hx; cases hy; simp
  · cases h
theorem run_eqNil {k:EqK} {d:TypeDesc} {t:TypeId} (ht:P.underlying t = some d) (hd:eqKOf d = some k) {x y x' y':Value} (hx:VRelF ρ lm x x') (hy:VRelF ρ lm y y') {b:Bool}
    (h:eqNil k x y = some b):(Op.equal t x' y').run P w = .ok b w:=run_eqNil' 9999 ht hd hx hy h
theorem fk_int {t:TypeId} (h:fkOf P t = some .int):∃ k,P.underlying t = some (.int k):=by
  unfold fkOf at h
  split at h <;> first | (rename_i hu; exact ⟨_,hu⟩) | (injection h with h; cases h; done) | (cases h; done)
theorem fk_bool {t:TypeId} (h:fkOf P t = some .bool):P.underlying t = some .bool:=by
  unfold fkOf at h
  split at h <;> first | assumption | (injection h with h; cases h; done) | (cases h; done)
theorem fk_string {t:TypeId} (h:fkOf P t = some .string):P.underlying t = some .string:=by
  unfold fkOf at h
  split at h <;> first | assumption | (injection h with h; cases h; done) | (cases h; done)
theorem run_part_flat {t:TypeId} {k:FK} (ht:fkOf P t = some k) {cs:Array Value} {i:Nat} {v:Value} (h:cs[i]? = some v) (w:World):(part t cs i).run P w = .ok v w:=by
  unfold fkOf at ht
  unfold part isAgg
  split at ht <;> first | (rename_i hu; have hu':=run_und hu w; simp only [Sem.run_bind,hu',Result.andThen_ok,h]; simp; done) | cases ht
theorem run_eqCell (dp:Nat) {t:TypeId} {k:FK} (ht:fkOf P t = some k) {ks:List FK} {x y x' y':Value} {xs ys:List Value} {b:Bool} (hx:VRel ρ x x') (hy:VRel ρ y y')
    (h:eqCells (k :: ks) (x :: xs) (y :: ys) = some b):∃ r,(Op.equalIn (dp + 1) t x' y').run P w = .ok r w∧(if r = true then eqCells ks xs ys else some false) = some b:=by
  cases k with
  | int =>
    obtain ⟨kk,hu⟩:=fk_int ht
    cases x <;> cases y <;> simp only [eqCells] at h <;> first | cases h | skip
    cases hx; cases hy
    split at h
    · rename_i hk
      subst hk
      exact ⟨_,by simp [Op.equalIn,run_und hu],h⟩
    · cases h
  | bool =>
    have hu:=fk_bool ht
    cases x <;> cases y <;> simp only [eqCells] at h <;> first | cases h | skip
    cases hx; cases hy
    exact ⟨_,by simp [Op.equalIn,run_und hu],h⟩
  | string =>
    have hu:=fk_string ht
    cases x <;> cases y <;> simp only [eqCells] at h <;> first | cases h | skip
    cases hx; cases hy
    exact ⟨_,by simp [Op.equalIn,run_und hu],h⟩
theorem eqCells_cons {k:FK} {ks:List FK} {xs ys:List Value} {b:Bool} (h:eqCells (k :: ks) xs ys = some b):∃ x xs' y ys',xs = x :: xs'∧ys = y :: ys':=by
  cases xs with
  | nil=>cases k <;> simp [eqCells] at h
  | cons x xs =>
    cases ys with
    | nil=>cases k <;> cases x <;> simp [eqCells] at h
    | cons y ys=>exact ⟨x,xs,y,ys,rfl,rfl⟩
theorem run_eqFlat (dp:Nat):∀ (fs:List Field) (i:Nat) (ks:List FK),flatFields P fs i = some ks→∀ (xs ys xs' ys':Array Value),xs.size = xs'.size→ys.size = ys'.size →
    (∀ (i:Nat) x y,xs[i]? = some x→xs'[i]? = some y→VRel ρ x y)→(∀ (i:Nat) x y,ys[i]? = some x→ys'[i]? = some y→VRel ρ x y) →
    ∀ b,eqCells ks (xs.toList.drop i) (ys.toList.drop i) = some b→(Op.eqFields (dp + 1) xs' ys' fs).run P w = .ok b w
  | [],i,ks,hf,xs,ys,xs',ys',hx,hy,rx,ry,b,he=>by
    simp only [flatFields,Option.some.injEq] at hf
    subst hf
    cases h1:xs.toList.drop i <;> cases h2:ys.toList.drop i <;> rw [h1,h2] at he <;> simp [eqCells] at he
    subst he
    simp [Op.eqFields]
  | f :: fs,i,ks,hf,xs,ys,xs',ys',hx,hy,rx,ry,b,he=>by
    simp only [flatFields] at hf
    split at hf
    · rename_i hn
      obtain ⟨hn,ho⟩:=hn
      split at hf
      · rename_i k l hk hl
        injection hf with hf
        subst hf
        obtain ⟨x,xl,y,yl,ex,ey⟩:=eqCells_cons he
        rw [ex,ey] at he
        have gx:xs[i]? = some x:=by
          have:(xs.toList.drop i)[0]? = some x:=by rw [ex]; rfl
          simpa using this
        have gy:ys[i]? = some y:=by
          have:(ys.toList.drop i)[0]? = some y:=by rw [ey]; rfl
          simpa using this
        have ex2:xs.toList.drop (i + 1) = xl:=by rw [← List.drop_drop,ex]; simp
        have ey2:ys.toList.drop (i + 1) = yl:=by rw [← List.drop_drop,ey]; simp
        obtain ⟨px,hpx⟩:∃ p,xs'[i]? = some p:=by
          have:=(Array.getElem?_eq_some_iff.1 gx).1
          exact ⟨xs'[i],by simp [← hx,this]⟩
        obtain ⟨py,hpy⟩:∃ p,ys'[i]? = some p:=by
          have:=(Array.getElem?_eq_some_iff.1 gy).1
          exact ⟨ys'[i],by simp [← hy,this]⟩
        obtain ⟨r,hr,hb⟩:=run_eqCell (w:=w) dp hk (rx i x px gx hpx) (ry i y py gy hpy) he
        have h1:=run_part_flat hk hpx w
        have h2:=run_part_flat hk hpy w
        rw [Op.eqFields]
        simp only [if_pos hn,Sem.run_bind,ho,h1,h2,hr,Result.andThen_ok]
        cases r with
        | false=>simp only [Bool.false_eq_true,if_false,Option.some.injEq] at hb; subst hb; simp
        | true =>
          simp only [if_true] at hb
          have:=run_eqFlat dp fs (i + 1) l hl xs ys xs' ys' hx hy rx ry b (by rw [ex2,ey2]; exact hb)
          simpa using this
      · cases hf
    · cases hf
theorem run_eqStruct (dp:Nat) {t:TypeId} {fs:Array Field} (hu:P.underlying t = some (.struct fs)) (hp:P.stoodInHeld t = false) {ks:List FK} (hf:flatFields P fs.toList 0 = some ks)
    {xs ys xs' ys':Array Value} (hx:xs.size = xs'.size) (hy:ys.size = ys'.size)
    (rx:∀ (i:Nat) x y,xs[i]? = some x→xs'[i]? = some y→VRel ρ x y) (ry:∀ (i:Nat) x y,ys[i]? = some x→ys'[i]? = some y→VRel ρ x y) {b:Bool} (he:eqCells ks xs.toList ys.toList = some b) :
    (Op.equalIn (dp + 2) t (.agg xs') (.agg ys')).run P w = .ok b w:=by
  have hfs:P.fieldsOf t = fs:=by simp [Program.fieldsOf,hu]
  rw [run_equalIn_struct (P:=P) w (dp + 1) t xs' ys' (by rw [hfs]; exact hu) hp,hfs]
  exact run_eqFlat dp fs.toList 0 ks hf xs ys xs' ys' hx hy rx ry b (by simpa using he)
end Go.Proofs.YtakmapoompffgaaGreatDoor.AM
namespace Go.Proofs.YtakmapoompffgaaGreatDoor.AM
open Go
variable {P:Program} {ρ:Rho} {lm:Nat→Option Nat} {fr:Fr} {ev:Operand→Value} {w:World}
theorem runV {s:Sem Value} {u:Value} (h:s.run P w = .ok u w):(do pure (Next.value (← s)):Sem Next).run P w = .ok (.value u) w:=by
  simp only [Sem.run_bind,h,Result.andThen_ok]; rfl
theorem p_pick (hr:OpdRel P ρ lm fr ev) {c a b:Operand} {c' a' b':Opd} (hc:liftOpd P c = some c') (ha:liftOpd P a = some a') (hb:liftOpd P b = some b') {v:Value}
    (hv:(POp.pick c' a' b').ev fr = some v):∃ u,(asBool (ev c)).run P w = .ok u w∧VRelF ρ lm v (if u = true then ev a else ev b):=by
  simp only [POp.ev] at hv
  split at hv
  · rename_i t ht
    have h1:=hr c c' hc
    rw [ht] at h1
    rw [h1.bool]
    simp only [Option.some.injEq] at hv
    subst hv
    refine ⟨t,by simp [asBool], ?_⟩
    cases t
    · exact hr b b' hb
    · exact hr a a' ha
  · cases hv
theorem intBin_flat {op:BinOp} {k:IntKind} {x y:Int} {v:Value} (h:intBin op k x y = some v):flat0 v = true:=by
  cases op <;> simp only [intBin] at h <;> (try split at h) <;> simp at h <;> subst h <;> rfl
theorem strBin_flat {op:BinOp} {x y:ByteArray} {v:Value} (h:strBin op x y = some v):flat0 v = true:=by
  cases op <;> simp only [strBin] at h <;> (try split at h) <;> simp at h <;> subst h <;> rfl
theorem shiftBin_flat {op:BinOp} {k:IntKind} {x y:Int} {v:Value} (h:shiftBin op k x y = some v):flat0 v = true:=by
  unfold shiftBin at h
  split at h
  · cases h
  · cases op <;> simp at h <;> subst h <;> rfl
theorem p_bin (hr:OpdRel P ρ lm fr ev) {op:BinOp} {x y:Operand} {x' y':Opd} (hx:liftOpd P x = some x') (hy:liftOpd P y = some y') (t:TypeId) {v:Value}
    (hv:(POp.bin op x' y').ev fr = some v):∃ u,(do eqGuard op t x y (ev x) (ev y); binOp op t (ev x) (ev y):Sem Value).run P w = .ok u w∧VRelF ρ lm v u:=by
  simp only [POp.ev] at hv
  have h1:=hr x x' hx
  have h2:=hr y y' hy
  unfold binA at hv
  split at hv
  · rename_i k a k' b e1 e2
    rw [e1] at h1; rw [e2] at h2
    rw [h1.int,h2.int]
    have hg:(eqGuard op t x y (.int k a) (.int k' b)).run P w = .ok () w:=by cases op <;> simp [eqGuard]
    split at hv
    · exact ⟨v,by simp only [Sem.run_bind,hg,Result.andThen_ok]; exact run_shiftBin (.inl rfl) hv t,.inl (.flat0 (shiftBin_flat hv))⟩
    · exact ⟨v,by simp only [Sem.run_bind,hg,Result.andThen_ok]; exact run_shiftBin (.inr rfl) hv t,.inl (.flat0 (shiftBin_flat hv))⟩
    · split at hv
      · rename_i hk
        subst hk
        exact ⟨v,by simp only [Sem.run_bind,hg,Result.andThen_ok]; exact run_intBin hv t,.inl (.flat0 (intBin_flat hv))⟩
      · cases hv
  · rename_i a b e1 e2
    rw [e1] at h1; rw [e2] at h2
    rw [h1.string,h2.string]
    have hg:(eqGuard op t x y (.string a) (.string b)).run P w = .ok () w:=by cases op <;> simp [eqGuard]
    exact ⟨v,by simp only [Sem.run_bind,hg,Result.andThen_ok]; exact run_strBin hv t,.inl (.flat0 (strBin_flat hv))⟩
  · cases hv
theorem VRelF.pany {q:Option Addr} {u:Value} (h:VRelF ρ lm (.pointer q) u):∃ a,u = .pointer a:=by
  cases q with
  | none=>exact ⟨_,h.pnil⟩
  | some q=>obtain ⟨_,e,_⟩:=h.psome; exact ⟨_,e⟩
theorem VRelF.sany {q:Option Addr} {n e:Nat} {u:Value} (h:VRelF ρ lm (.slice q n e) u):∃ a n c,u = .slice a n c:=by
  cases q with
  | none=>exact ⟨_,_,_,h.snil.1⟩
  | some q=>obtain ⟨_,_,e⟩:=h.ssome; exact ⟨_,_,_,e⟩
theorem VRelF.many {q:Option Nat} {u:Value} (h:VRelF ρ lm (.map q) u):∃ a,u = .map a:=by
  cases q with
  | none=>exact ⟨_,h.mnil⟩
  | some q=>obtain ⟨_,_,_,e,_⟩:=h.msome; exact ⟨_,e⟩
theorem eqNil_shape {k:EqK} {p q u v:Value} {b:Bool} (hb:eqNil k p q = some b) (h1:VRelF ρ lm p u) (h2:VRelF ρ lm q v) :
    (∃ a b,u = .bool a∧v = .bool b)∨(∃ a b,u = .pointer a∧v = .pointer b)∨(∃ a n c a' n' c',u = .slice a n c∧v = .slice a' n' c')∨(∃ a b,u = .map a∧v = .map b) ∨
      ((u = .nilFunc∨∃ f a b,u = .func f a b)∧(v = .nilFunc∨∃ f a b,v = .func f a b)):=by
  unfold eqNil at hb
  split at hb
  · exact .inl ⟨_,_,h1.bool,h2.bool⟩
  · obtain ⟨_,e⟩:=h2.pany; exact .inr (.inl ⟨_,_,h1.pnil,e⟩)
  · obtain ⟨_,e,_⟩:=h1.psome; exact .inr (.inl ⟨_,_,e,h2.pnil⟩)
  · obtain ⟨_,_,_,e⟩:=h2.sany; exact .inr (.inr (.inl ⟨_,_,_,_,_,_,h1.snil.1,e⟩))
  · obtain ⟨_,_,e⟩:=h1.ssome; exact .inr (.inr (.inl ⟨_,_,_,_,_,_,e,h2.snil.1⟩))
  · obtain ⟨_,e⟩:=h2.many; exact .inr (.inr (.inr (.inl ⟨_,_,h1.mnil,e⟩)))
  · obtain ⟨_,_,_,e,_⟩:=h1.msome; exact .inr (.inr (.inr (.inl ⟨_,_,e,h2.mnil⟩)))
  · have g1:=h1.vrel (by simp) (by simp); have g2:=h2.vrel (by simp) (by simp)
    refine .inr (.inr (.inr (.inr ⟨?_, ?_⟩)))
    · cases g1 <;> exact .inr ⟨_,_,_,rfl⟩
    · cases g2; exact .inl rfl
  · have g1:=h1.vrel (by simp) (by simp); have g2:=h2.vrel (by simp) (by simp)
    refine .inr (.inr (.inr (.inr ⟨?_, ?_⟩)))
    · cases g1; exact .inl rfl
    · cases g2 <;> exact .inr ⟨_,_,_,rfl⟩
  · have g1:=h1.vrel (by simp) (by simp); have g2:=h2.vrel (by simp) (by simp)
    refine .inr (.inr (.inr (.inr ⟨?_, ?_⟩)))
    · cases g1; exact .inl rfl
    · cases g2; exact .inl rfl
  · cases hb
theorem p_eqk (hr:OpdRel P ρ lm fr ev) {neq:Bool} {k:EqK} {x y:Operand} {x' y':Opd} (hx:liftOpd P x = some x') (hy:liftOpd P y = some y') {t:TypeId} {d:TypeDesc}
    (ht:P.underlying t = some d) (hd:eqKOf d = some k) {v:Value} (hv:(POp.eqk neq k x' y').ev fr = some v) :
    ∃ u,(do eqGuard (if neq then .neq else .eql) t x y (ev x) (ev y); binOp (if neq then .neq else .eql) t (ev x) (ev y):Sem Value).run P w = .ok u w∧VRelF ρ lm v u:=by
  simp only [POp.ev] at hv
  obtain ⟨b,hb,rfl⟩:=Option.map_eq_some_iff.1 hv
  have h1:=hr x x' hx
  have h2:=hr y y' hy
  have he:=run_eqNil (w:=w) ht hd h1 h2 hb
  refine ⟨_, ?_,.inl (.bool _)⟩
  have shape:=eqNil_shape hb h1 h2
  clear h1 h2
  rcases shape with ⟨a,c,e1,e2⟩ | ⟨a,c,e1,e2⟩ | ⟨a,n,c,a',n',c',e1,e2⟩ | ⟨a,c,e1,e2⟩ | ⟨h1,h2⟩
  · rw [e1,e2] at he ⊢; cases neq <;> simp [eqGuard,binOp,he]
  · rw [e1,e2] at he ⊢; cases neq <;> simp [eqGuard,binOp,he]
  · rw [e1,e2] at he ⊢; cases neq <;> simp [eqGuard,binOp,he]
  · rw [e1,e2] at he ⊢; cases neq <;> simp [eqGuard,binOp,he]
  · rcases h1 with e1 | ⟨_,_,_,e1⟩ <;> rcases h2 with e2 | ⟨_,_,_,e2⟩ <;> rw [e1,e2] at he ⊢ <;> cases neq <;> simp [eqGuard,binOp,he]
theorem p_eqA (hr:OpdRel P ρ lm fr ev) {neq:Bool} {ks:List FK} {x y:Operand} {x' y':Opd} (hx:liftOpd P x = some x') (hy:liftOpd P y = some y') {t:TypeId} {fs:Array Field}
    (ht:P.underlying t = some (.struct fs)) (hf:flatFields P fs.toList 0 = some ks) (hg:P.eqGuardType P.depth t = false) (hp:P.stoodInHeld t = false) {v:Value}
    (hv:(POp.eqA neq ks x' y').ev fr = some v) :
    ∃ u,(do eqGuard (if neq then .neq else .eql) t x y (ev x) (ev y); binOp (if neq then .neq else .eql) t (ev x) (ev y):Sem Value).run P w = .ok u w∧VRelF ρ lm v u:=by
  simp only [POp.ev] at hv
  have h1:=hr x x' hx
  have h2:=hr y y' hy
  split at hv
  · rename_i xs ys e1 e2
    rw [e1] at h1; rw [e2] at h2
    obtain ⟨b,hb,rfl⟩:=Option.map_eq_some_iff.1 hv
    obtain ⟨xs',e3,s1,r1⟩:=h1.agg
    obtain ⟨ys',e4,s2,r2⟩:=h2.agg
    rw [e3,e4]
    have he:(Op.equal t (.agg xs') (.agg ys')).run P w = .ok b w:=run_eqStruct 9998 ht hp hf s1 s2 r1 r2 hb
    refine ⟨_, ?_,.inl (.bool _)⟩
    cases neq <;> simp [eqGuard,hg,binOp,he]
  · cases hv
end Go.Proofs.YtakmapoompffgaaGreatDoor.AM
namespace Go.Proofs.YtakmapoompffgaaGreatDoor.AM
open Go
variable {P:Program} {ρ:Rho} {lm:Nat→Option Nat} {fr:Fr} {ev:Operand→Value} {w:World}
theorem p_un (hr:OpdRel P ρ lm fr ev) {op:UnOp} {x:Operand} {x':Opd} (hx:liftOpd P x = some x') {v:Value} (hv:(POp.un op x').ev fr = some v) :
    ∃ u,(Op.unary op (ev x)).run P w = .ok u w∧VRelF ρ lm v u:=by
  simp only [POp.ev] at hv
  have h1:=hr x x' hx
  unfold unA at hv
  split at hv
  · rename_i b e
    rw [e] at h1
    rw [h1.bool]
    injection hv with hv; subst hv
    exact ⟨_,by simp [Op.unary],.inl (.bool _)⟩
  · rename_i k n e
    rw [e] at h1
    rw [h1.int]
    injection hv with hv; subst hv
    exact ⟨_,by simp [Op.unary,Op.intArith],.inl (.int _ _)⟩
  · cases hv
theorem p_conv (hr:OpdRel P ρ lm fr ev) {x:Operand} {x':Opd} (hx:liftOpd P x = some x') {src dst:TypeId} {k0 k:IntKind} (hs:P.underlying src = some (.int k0)) (hd:P.underlying dst = some (.int k)) {v:Value}
    (hv:(POp.conv k x').ev fr = some v):∃ u,(convert src dst (ev x)).run P w = .ok u w∧VRelF ρ lm v u:=by
  simp only [POp.ev] at hv
  have h1:=hr x x' hx
  split at hv
  · rename_i k n e
    rw [e] at h1
    rw [h1.int]
    injection hv with hv; subst hv
    exact ⟨_,by simp [convert,run_und hs,run_und hd,Conv.intToInt],.inl (.int _ _)⟩
  · cases hv
theorem p_i2s (hr:OpdRel P ρ lm fr ev) {x:Operand} {x':Opd} (hx:liftOpd P x = some x') {src dst:TypeId} {k0:IntKind} (hs:P.underlying src = some (.int k0)) (hd:P.underlying dst = some .string) {v:Value}
    (hv:(POp.i2s x').ev fr = some v):∃ u,(convert src dst (ev x)).run P w = .ok u w∧VRelF ρ lm v u:=by
  simp only [POp.ev] at hv
  have h1:=hr x x' hx
  split at hv
  · rename_i k n e
    rw [e] at h1
    rw [h1.int]
    injection hv with hv; subst hv
    exact ⟨_,by simp [convert,run_und hs,run_und hd,Conv.intToString],.inl (.string _)⟩
  · cases hv
theorem p_s2s (hr:OpdRel P ρ lm fr ev) {x:Operand} {x':Opd} (hx:liftOpd P x = some x') {src dst:TypeId} (hs:P.underlying src = some .string) (hd:P.underlying dst = some .string) {v:Value}
    (hv:(POp.slS x' none none).ev fr = some v):∃ u,(convert src dst (ev x)).run P w = .ok u w∧VRelF ρ lm v u:=by
  simp only [POp.ev] at hv
  have h1:=hr x x' hx
  split at hv
  · rename_i s e
    rw [e] at h1
    rw [h1.string]
    simp only [optInt,Int.natCast_nonneg,Int.le_refl,true_and,if_true,Int.toNat_natCast,Int.toNat_zero] at hv
    injection hv with hv; subst hv
    refine ⟨.string s,by simp [convert,run_und hs,run_und hd], ?_⟩
    have:s.extract (0:Int).toNat s.size = s:=by simp
    first | (rw [this]; exact .inl (.string _)) | (simp; exact .inl (.string _))
  · cases hv
theorem p_nilck (hr:OpdRel P ρ lm fr ev) {x:Operand} {x':Opd} (hx:liftOpd P x = some x') {v:Value} (hv:(POp.nilck x').ev fr = some v) {o:Oper} (ho:o.op = .nilCheck x) :
    ∃ u,(execOp ev o).run P w = .ok (.value u) w∧VRelF ρ lm v u:=by
  simp only [POp.ev] at hv
  have h1:=hr x x' hx
  simp only [execOp,ho]
  split at hv
  · rename_i a e
    rw [e] at h1
    obtain ⟨p',e2,_⟩:=h1.psome
    injection hv with hv; subst hv
    rw [e2] at h1 ⊢
    exact ⟨_,rfl,h1⟩
  · rename_i fn first captured e
    rw [e] at h1
    have h2:=h1.vrel (by simp) (by simp)
    clear h1
    generalize ev x = u at h2 ⊢
    split at hv
    · injection hv with hv; subst hv
      cases h2 with
      | func f a b a' b' g1 g2 g3 g4=>exact ⟨_,rfl,.inl (.func _ _ _ _ _ g1 g2 g3 g4)⟩
    · injection hv with hv; subst hv
      cases h2 with
      | yield l c δ N g=>exact ⟨_,rfl,.inl (.yield _ _ _ _ g)⟩
    · cases hv
  · cases hv
theorem optInt_rel (hr:OpdRel P ρ lm fr ev) {lo:Option Operand} {lo':Option Opd} (h:liftO P lo = some lo') {d l:Int} (hl:optInt fr lo' d = some l) :
    (lo = none∧lo' = none∧l = d)∨∃ x k,lo = some x∧lo'.isSome = true∧ev x = .int k l:=by
  cases lo with
  | none=>simp only [liftO,Option.some.injEq] at h; subst h; simp only [optInt,Option.some.injEq] at hl; exact .inl ⟨rfl,rfl,hl.symm⟩
  | some x =>
    simp only [liftO] at h
    obtain ⟨y,hy,rfl⟩:=Option.map_eq_some_iff.1 h
    simp only [optInt] at hl
    have h1:=hr x y hy
    unfold asNat at hl
    split at hl
    · rename_i k n e
      rw [e] at h1
      injection hl with hl; subst hl
      exact .inr ⟨x,k,rfl,rfl,h1.int⟩
    · cases hl
theorem run_sliceBound {k:IntKind} {i:Int} {y:Nat} (h0:0≤i) (h1:i≤y) (c:BoundsCode):(Instr.sliceBound (.int k i) y c).run P w = .ok i.toNat w:=by
  simp [Instr.sliceBound,asIntOf,h0,h1]
theorem run_sliceBounds (hr:OpdRel P ρ lm fr ev) (isS:Bool) {len cap:Nat} {lo hi mx:Option Operand} {lo' hi' mx':Option Opd} (h1:liftO P lo = some lo') (h2:liftO P hi = some hi') (h3:liftO P mx = some mx')
    (hm:mx'.isSome = true→hi'.isSome = true) {l h:Int} {m:Int} (e1:optInt fr lo' 0 = some l) (e2:optInt fr hi' len = some h) (e3:optInt fr mx' len = some m)
    (b0:0≤l) (b1:l≤h) (b2:h≤m) (b3:m≤len) (b4:len≤cap) :
    ∃ m':Nat,(Instr.sliceBounds isS len cap (lo.map ev) (hi.map ev) (mx.map ev)).run P w = .ok (l.toNat,h.toNat,m') w∧h.toNat≤m'∧m'≤cap:=by
  unfold Instr.sliceBounds
  rcases optInt_rel hr h3 e3 with ⟨rfl,rfl,rfl⟩ | ⟨x,k,rfl,gm,ex⟩
  · refine ⟨cap, ?_,by omega,Nat.le_refl _⟩
    rcases optInt_rel hr h2 e2 with ⟨rfl,_,rfl⟩ | ⟨x,k,rfl,_,ex⟩
    · simp only [Option.map_none,Sem.run_bind,Sem.run_pure,Result.andThen_ok,Option.isSome_none,Bool.false_eq_true,if_false]
      rcases optInt_rel hr h1 e1 with ⟨rfl,_,rfl⟩ | ⟨xl,kl,rfl,_,exl⟩
      · simp
      · simp only [Option.map_some,exl,Sem.run_bind]
        rw [run_sliceBound b0 (by omega)]
        simp
    · simp only [Option.map_none,Option.map_some,Sem.run_bind,Sem.run_pure,Result.andThen_ok,Option.isSome_none,Bool.false_eq_true,if_false,ex]
      rw [run_sliceBound (by omega) (by omega)]
      simp only [Result.andThen_ok]
      rcases optInt_rel hr h1 e1 with ⟨rfl,_,rfl⟩ | ⟨xl,kl,rfl,_,exl⟩
      · simp
      · simp only [Option.map_some,exl,Sem.run_bind]
        rw [run_sliceBound b0 (by omega)]
        simp
  · obtain ⟨y,hy⟩:=Option.isSome_iff_exists.1 (hm gm)
    rcases optInt_rel hr h2 e2 with ⟨_,g,_⟩ | ⟨x2,k2,rfl,_,ex2⟩
    · rw [hy] at g; cases g
    · refine ⟨m.toNat, ?_,by omega,by omega⟩
      simp only [Option.map_some,Sem.run_bind,Result.andThen_ok,Option.isSome_some,if_true,ex,ex2]
      rw [run_sliceBound (by omega) (by omega)]
      simp only [Result.andThen_ok]
      rw [run_sliceBound (by omega) (by omega)]
      simp only [Result.andThen_ok]
      rcases optInt_rel hr h1 e1 with ⟨rfl,_,rfl⟩ | ⟨xl,kl,rfl,_,exl⟩
      · simp
      · simp only [Option.map_some,exl,Sem.run_bind]
        rw [run_sliceBound b0 (by omega)]
        simp
theorem p_slS (hr:OpdRel P ρ lm fr ev) {x:Operand} {x':Opd} (hx:liftOpd P x = some x') {lo hi:Option Operand} {lo' hi':Option Opd} (h1:liftO P lo = some lo') (h2:liftO P hi = some hi') {t:TypeId}
    (ht:P.underlying t = some .string) {v:Value} (hv:(POp.slS x' lo' hi').ev fr = some v):∃ u,(Instr.sliceAt t (ev x) (lo.map ev) (hi.map ev) none).run P w = .ok u w∧VRelF ρ lm v u:=by
  simp only [POp.ev] at hv
  have hx1:=hr x x' hx
  split at hv
  · rename_i s e
    rw [e] at hx1
    rw [hx1.string]
    split at hv
    · rename_i l h el eh
      split at hv
      · rename_i hb
        injection hv with hv; subst hv
        obtain ⟨m',hm',_⟩:=run_sliceBounds (P:=P) (w:=w) hr false (cap:=s.size) h1 h2 (mx:=none) (mx':=none) rfl (by simp) el eh rfl hb.1 hb.2.1 hb.2.2 (Int.le_refl _) (Nat.le_refl _)
        simp only [Option.map_none] at hm'
        exact ⟨_,by simp [Instr.sliceAt,run_und ht,Instr.slice,hm'],.inl (.string _)⟩
      · cases hv
    · cases hv
  · cases hv
theorem add_off (a:Addr) (h:a.spot = none) (n:Nat):a.add n = ptrOff a n:=by
  unfold Addr.add ptrOff
  cases a with
  | mk b o s=>simp only at h; subst h; split <;> simp_all
theorem p_sl (hr:OpdRel P ρ lm fr ev) {x:Operand} {x':Opd} (hx:liftOpd P x = some x') {lo hi mx:Option Operand} {lo' hi' mx':Option Opd} (h1:liftO P lo = some lo') (h2:liftO P hi = some hi') (h3:liftO P mx = some mx')
    (hm:mx'.isSome = true→hi'.isSome = true) {t e:TypeId} (ht:P.underlying t = some (.slice e)) {esz:Nat} (hs:szOf P e = some esz) {v:Value} (hv:(POp.sl esz x' lo' hi' mx').ev fr = some v) :
    ∃ u,(Instr.sliceAt t (ev x) (lo.map ev) (hi.map ev) (mx.map ev)).run P w = .ok u w∧VRelF ρ lm v u:=by
  simp only [POp.ev] at hv
  have hx1:=hr x x' hx
  split at hv
  · rename_i a n e0 ea
    rw [ea] at hx1
    split at hv
    · rename_i l h m el eh em
      split at hv
      · rename_i hb
        obtain ⟨b0,b1,b2,b3,rfl,hsp⟩:=hb
        injection hv with hv; subst hv
        have hx2:VRel ρ (.slice (some a) n e0) (ev x):=by
          rcases hx1 with g | ⟨_,_,_,g,_⟩ | ⟨nm,n1,e1,c,g,_⟩
          · exact g
          · cases g
          · injection g with g _ _; injection g with g; subst g; simp [loc] at hsp
        have hcase:∃ a' k,ev x = .slice (some a') n k∧n≤k:=by
          generalize ev x = u at hx2
          cases hx2 with
          | sl b o c δ N n e k h h1 h2=>exact ⟨_,k,rfl,h1⟩
          | slZ a a' e=>exact ⟨_,0,rfl,Nat.le_refl _⟩
        obtain ⟨a',k,eu,hnk⟩:=hcase
        rw [eu] at hx2 ⊢
        obtain ⟨m',hm',g1,g2⟩:=run_sliceBounds (P:=P) (w:=w) hr true (cap:=k) h1 h2 h3 hm el eh em b0 b1 b2 b3 hnk
        refine ⟨.slice (if m' = l.toNat then some a' else (some a').map (·.add (l.toNat * e0))) (h.toNat - l.toNat) (m' - l.toNat),by simp [Instr.sliceAt,run_und ht,Instr.slice,hm',run_szOf hs], ?_⟩
        by_cases hz:m' = l.toNat
        · have hl0:h.toNat - l.toNat = 0:=by omega
          have hm0:m' - l.toNat = 0:=by omega
          rw [if_pos hz,hl0,hm0]
          exact .inl (.slZ _ _ _)
        · rw [if_neg hz]
          cases hx2 with
          | sl b o c δ N n e k h' h1' h2' =>
            refine .inl ?_
            have hp:ptrOff ⟨b,o,none⟩ (l.toNat * e0) = ⟨b,o + l.toNat * e0,none⟩:=rfl
            have hp2:(some (⟨c, δ + o,none⟩:Addr)).map (·.add (l.toNat * e0)) = some ⟨c, δ + (o + l.toNat * e0),none⟩:=by
              simp only [Option.map_some,Option.some.injEq]
              rw [add_off _ rfl]
              simp [ptrOff,Nat.add_assoc]
            rw [hp,hp2]
            refine .sl _ _ _ _ _ _ _ _ h' (by omega) ?_
            have:(m' - l.toNat) * e0 + l.toNat * e0 = m' * e0:=by rw [← Nat.add_mul]; congr 1; omega
            have:m' * e0≤k * e0:=Nat.mul_le_mul_right _ g2
            omega
          | slZ a0 a1 e1=>exfalso; omega
      · cases hv
    · cases hv
  · rename_i n e0 ea
    rw [ea] at hx1
    obtain ⟨eu,rfl,_⟩:=hx1.snil
    rw [eu]
    split at hv
    · rename_i l h m el eh em
      split at hv
      · rename_i hb
        obtain ⟨rfl,rfl,rfl⟩:=hb
        injection hv with hv; subst hv
        obtain ⟨m',hm',g1,g2⟩:=run_sliceBounds (P:=P) (w:=w) hr true (len:=0) (cap:=0) h1 h2 h3 hm el eh em (Int.le_refl _) (Int.le_refl _) (Int.le_refl _) (Int.le_refl _) (Nat.le_refl _)
        have:m' = 0:=by omega
        subst this
        exact ⟨.slice none 0 0,by simp [Instr.sliceAt,run_und ht,Instr.slice,hm',run_szOf hs],.inl .slNil⟩
      · cases hv
    · cases hv
  · cases hv
theorem VRelF.off {p p':Addr} (h:VRelF ρ lm (.pointer (some p)) (.pointer (some p'))) (n:Nat):VRelF ρ lm (.pointer (some (ptrOff p n))) (.pointer (some (p'.add n))):=by
  rcases h with h | ⟨nm,o,c,h1,h2,h3⟩ | ⟨nm,n',e,c,h1,_⟩
  · cases h with
    | ptr b o c δ N h =>
      rw [add_off _ rfl]
      have:ptrOff ⟨c, δ + o,none⟩ n = ⟨c, δ + (o + n),none⟩:=by simp [ptrOff,Nat.add_assoc]
      rw [this]
      exact .inl (.ptr b (o + n) c δ N h)
  · injection h1 with h1; injection h1 with h1; injection h3 with h3; injection h3 with h3
    subst h1 h3
    rw [add_off _ rfl]
    exact .inr (.inl ⟨nm,o + n,c,rfl,h2,rfl⟩)
  · cases h1
theorem p_faddr (hr:OpdRel P ρ lm fr ev) {x:Operand} {x':Opd} (hx:liftOpd P x = some x') {t:TypeId} {fs:Array Field} (ht:P.underlying t = some (.struct fs)) {i:Nat} {f:Field} (hf:fs[i]? = some f)
    {n:Nat} (hs:szOf P f.type = some n) (hn:n≠0) {v:Value} (hv:(POp.faddr f.offset x').ev fr = some v):∃ u,(Instr.fieldAt t (ev x) i).run P w = .ok u w∧VRelF ρ lm v u:=by
  simp only [POp.ev] at hv
  have h1:=hr x x' hx
  split at hv
  · rename_i a e
    rw [e] at h1
    obtain ⟨p',e2,hsp⟩:=h1.psome
    rw [e2] at h1 ⊢
    injection hv with hv; subst hv
    exact ⟨_,by simp [Instr.fieldAt,run_und ht,hf,Instr.sureAddr,fieldPlace,run_szOf hs,hn],h1.off _⟩
  · cases hv
theorem run_isAgg {t:TypeId} {n:Option Nat} (h:aggN P t = some n) (w:World):(isAgg t).run P w = .ok n.isSome w∧∃ k,szOf P t = some k∧(∀ j,n = some j→k = j):=by
  unfold aggN at h
  split at h
  · rename_i hu hs; injection h with h; subst h; exact ⟨by simp [isAgg,run_und hu],_,hs,fun j e=>by injection e⟩
  · rename_i hu hs; injection h with h; subst h; exact ⟨by simp [isAgg,run_und hu],_,hs,fun j e=>by injection e⟩
  · rename_i d k h1 h2 hu hs
    injection h with h
    subst h
    refine ⟨?_,_,hs,fun j e=>by cases e⟩
    have hu':=run_und hu w
    unfold isAgg
    simp only [Sem.run_bind,hu',Result.andThen_ok]
    cases d with
    | struct fs=>exact (h1 fs (by first | rfl | assumption)).elim
    | array l e=>exact (h2 l e (by first | rfl | assumption)).elim
    | _=>rfl
  · cases h
theorem run_partA {t:TypeId} {n:Option Nat} (h:aggN P t = some n) {cs ds:Array Value} (hsz:cs.size = ds.size) (hrel:∀ (i:Nat) x y,cs[i]? = some x→ds[i]? = some y→VRel ρ x y) {off:Nat} {v:Value}
    (hv:partA cs.toList off n = some v):∃ u,(part t ds off).run P w = .ok u w∧VRel ρ v u:=by
  obtain ⟨ha,k,hk,hj⟩:=run_isAgg h w
  unfold part
  cases n with
  | none =>
    simp only [Option.isSome_none] at ha
    simp only [Sem.run_bind,ha,Result.andThen_ok,Bool.false_eq_true,if_false]
    simp only [partA] at hv
    have hlt:off < cs.size:=by
      rcases Nat.lt_or_ge off cs.size with h' | h'
      · exact h'
      · rw [List.getElem?_eq_none (by simpa using h')] at hv; cases hv
    have hlt':off < ds.size:=by omega
    have e1:cs[off]? = some v:=by rw [← hv]; simp
    have e2:ds[off]? = some ds[off]:=by simp [hlt']
    exact ⟨ds[off],by rw [e2]; rfl,hrel off v _ e1 e2⟩
  | some n =>
    simp only [Option.isSome_some] at ha
    obtain rfl:=hj n rfl
    simp only [Sem.run_bind,ha,Result.andThen_ok,if_true,run_szOf hk]
    simp only [partA] at hv
    split at hv
    · rename_i hle
      injection hv with hv; subst hv
      have hle:off + k≤cs.size:=by simpa using hle
      refine ⟨_,rfl,.agg _ _ (by simp; omega) fun i x y hx hy=>?_⟩
      have hi:i < k:=by
        have:=(Array.getElem?_eq_some_iff.1 hx).1
        simp at this; omega
      refine hrel (off + i) x y ?_ ?_
      · have:((cs.toList.drop off).take k)[i]? = some x:=by simpa using hx
        rw [List.getElem?_take_of_lt hi,List.getElem?_drop] at this
        simpa using this
      · rw [Array.getElem?_extract] at hy
        split at hy
        · exact hy
        · cases hy
    · cases hv
theorem p_fld (hr:OpdRel P ρ lm fr ev) {x:Operand} {x':Opd} (hx:liftOpd P x = some x') {t:TypeId} {fs:Array Field} (ht:P.underlying t = some (.struct fs)) {i:Nat} {f:Field} (hf:fs[i]? = some f)
    {n:Option Nat} (hs:aggN P f.type = some n) {v:Value} (hv:(POp.fld f.offset n x').ev fr = some v):∃ u,(Instr.field t (ev x) i).run P w = .ok u w∧VRelF ρ lm v u:=by
  simp only [POp.ev] at hv
  have h1:=hr x x' hx
  split at hv
  · rename_i cs e
    rw [e] at h1
    obtain ⟨ds,e2,g1,g2⟩:=h1.agg
    rw [e2]
    obtain ⟨u,hu,hrel⟩:=run_partA (w:=w) hs g1 g2 hv
    exact ⟨u,by simp [Instr.field,run_und ht,hf,asAgg,hu],.inl hrel⟩
  · cases hv
theorem p_iaddr (hr:OpdRel P ρ lm fr ev) {x i:Operand} {x' i':Opd} (hx:liftOpd P x = some x') (hi:liftOpd P i = some i') {t e:TypeId} (ht:P.underlying t = some (.slice e)) {esz:Nat} (hs:szOf P e = some esz) {v:Value}
    (hv:(POp.iaddr esz x' i').ev fr = some v) (he:True):∃ u,(Instr.indexAt t (ev x) (ev i)).run P w = .ok u w∧VRelF ρ lm v u:=by
  simp only [POp.ev] at hv
  have h1:=hr x x' hx
  have h2:=hr i i' hi
  split at hv
  · rename_i a n e0 k j e1 e2
    rw [e1] at h1; rw [e2] at h2
    rw [h2.int]
    split at hv
    · rename_i hb
      obtain ⟨b0,b1,hsp⟩:=hb
      injection hv with hv; subst hv
      have hx2:VRel ρ (.slice (some a) n e0) (ev x):=by
        rcases h1 with g | ⟨_,_,_,g,_⟩ | ⟨nm,n1,e1,c,g,_⟩
        · exact g
        · cases g
        · injection g with g _ _; injection g with g; subst g; simp [loc] at hsp
      generalize ev x = u at hx2
      cases hx2 with
      | sl b o c δ N n e k h h1 h2 =>
        refine ⟨_,by simp [Instr.indexAt,asIntOf,run_und ht,b0,b1,run_szOf hs]; rfl, ?_⟩
        exact VRelF.off (.inl (.ptr b o c δ N h)) _
      | slZ a a' e=>omega
    · cases hv
  · cases hv
theorem p_iaddrA (hr:OpdRel P ρ lm fr ev) {x i:Operand} {x' i':Opd} (hx:liftOpd P x = some x') (hi:liftOpd P i = some i') {t e:TypeId} {len:Nat} (ht:P.underlying t = some (.array len e)) {esz:Nat} (hs:szOf P e = some esz) {v:Value}
    (hv:(POp.iaddrA len esz x' i').ev fr = some v):∃ u,(Instr.indexAt t (ev x) (ev i)).run P w = .ok u w∧VRelF ρ lm v u:=by
  simp only [POp.ev] at hv
  have h1:=hr x x' hx
  have h2:=hr i i' hi
  split at hv
  · rename_i a k j e1 e2
    rw [e1] at h1; rw [e2] at h2
    rw [h2.int]
    obtain ⟨p',e3,hsp⟩:=h1.psome
    rw [e3] at h1 ⊢
    split at hv
    · rename_i hb
      obtain ⟨b0,b1⟩:=hb
      injection hv with hv; subst hv
      exact ⟨_,by simp [Instr.indexAt,asIntOf,run_und ht,b0,b1,run_szOf hs,Instr.sureAddr],h1.off _⟩
    · cases hv
  · cases hv
theorem p_idxS (hr:OpdRel P ρ lm fr ev) {x i:Operand} {x' i':Opd} (hx:liftOpd P x = some x') (hi:liftOpd P i = some i') {t:TypeId} (ht:P.underlying t = some .string) {v:Value}
    (hv:(POp.idxS x' i').ev fr = some v):∃ u,(Instr.index t (ev x) (ev i)).run P w = .ok u w∧VRelF ρ lm v u:=by
  simp only [POp.ev] at hv
  have h1:=hr x x' hx
  have h2:=hr i i' hi
  split at hv
  · rename_i s k j e1 e2
    rw [e1] at h1; rw [e2] at h2
    rw [h1.string,h2.int]
    split at hv
    · rename_i hb
      obtain ⟨b0,b1⟩:=hb
      injection hv with hv; subst hv
      have hg:s[j.toNat]? = some s[j.toNat]:=by simp [b1]
      exact ⟨.int .u8 s[j.toNat].toNat,by simp [Instr.index,asIntOf,run_und ht,b0,hg],.inl (by rw [hg]; exact .int _ _)⟩
    · cases hv
  · cases hv
theorem p_idxA (hr:OpdRel P ρ lm fr ev) {x i:Operand} {x' i':Opd} (hx:liftOpd P x = some x') (hi:liftOpd P i = some i') {t e:TypeId} {len:Nat} (ht:P.underlying t = some (.array len e)) {esz:Nat} (hs:szOf P e = some esz) {n:Option Nat}
    (ha:aggN P e = some n) {v:Value} (hv:(POp.idxA len esz n x' i').ev fr = some v):∃ u,(Instr.index t (ev x) (ev i)).run P w = .ok u w∧VRelF ρ lm v u:=by
  simp only [POp.ev] at hv
  have h1:=hr x x' hx
  have h2:=hr i i' hi
  split at hv
  · rename_i cs k j e1 e2
    rw [e1] at h1; rw [e2] at h2
    rw [h2.int]
    obtain ⟨ds,e3,g1,g2⟩:=h1.agg
    rw [e3]
    split at hv
    · rename_i hb
      obtain ⟨b0,b1⟩:=hb
      obtain ⟨u,hu,hrel⟩:=run_partA (w:=w) ha g1 g2 hv
      exact ⟨u,by simp [Instr.index,asIntOf,run_und ht,b0,b1,run_szOf hs,hu],.inl hrel⟩
    · cases hv
  · cases hv
theorem p_ext (hr:OpdRel P ρ lm fr ev) {x:Operand} {x':Opd} (hx:liftOpd P x = some x') {i:Nat} {v:Value} (hv:(POp.ext i x').ev fr = some v) :
    ∃ u,(Instr.extract (ev x) i).run P w = .ok u w∧VRelF ρ lm v u:=by
  simp only [POp.ev] at hv
  have h1:=hr x x' hx
  split at hv
  · rename_i vs e
    rw [e] at h1
    have h2:=h1.vrel (by simp) (by simp)
    generalize ev x = u at h2
    cases h2 with
    | undef=>simp at hv
    | tuple cs ds g1 g2 =>
      have hlt:=(Array.getElem?_eq_some_iff.1 hv).1
      have e2:ds[i]? = some (ds[i]'(by omega)):=by simp
      exact ⟨_,by simp [Instr.extract,e2],.inl (g2 i v _ hv e2)⟩
  · cases hv
theorem p_len (hr:OpdRel P ρ lm fr ev) {x:Operand} {x':Opd} (hx:liftOpd P x = some x') {t u e:TypeId} (ht:P.underlying t = some (.slice e)) {v:Value} (hv:(POp.len x').ev fr = some v) :
    ∃ y,(Builtin.len_ #[t] u #[ev x]).run P w = .ok y w∧VRelF ρ lm v y:=by
  simp only [POp.ev] at hv
  have h1:=hr x x' hx
  split at hv
  · rename_i a n c e
    rw [e] at h1
    injection hv with hv; subst hv
    cases a with
    | none =>
      obtain ⟨e2,rfl,_⟩:=h1.snil
      rw [e2]
      exact ⟨_,by simp [Builtin.len_,run_und ht,goInt],.inl (.int _ _)⟩
    | some a =>
      obtain ⟨p,k,e2⟩:=h1.ssome
      rw [e2]
      exact ⟨_,by simp [Builtin.len_,run_und ht,goInt],.inl (.int _ _)⟩
  · cases hv
theorem p_slen (hr:OpdRel P ρ lm fr ev) {x:Operand} {x':Opd} (hx:liftOpd P x = some x') {t u:TypeId} (ht:P.underlying t = some .string) {v:Value} (hv:(POp.slen x').ev fr = some v) :
    ∃ y,(Builtin.len_ #[t] u #[ev x]).run P w = .ok y w∧VRelF ρ lm v y:=by
  simp only [POp.ev] at hv
  have h1:=hr x x' hx
  split at hv
  · rename_i s e
    rw [e] at h1
    rw [h1.string]
    injection hv with hv; subst hv
    exact ⟨_,by simp [Builtin.len_,run_und ht,goInt],.inl (.int _ _)⟩
  · cases hv
theorem run_mm2 {big:Bool} {x y v:Value} (h:mm2 big x y = some v):(if big then Builtin.max2 x y else Builtin.min2 x y).run P w = .ok v w∧∃ k n,v = .int k n:=by
  unfold mm2 at h
  split at h
  · injection h with h; subst h
    cases big
    · exact ⟨rfl,_,_,rfl⟩
    · exact ⟨rfl,_,_,rfl⟩
  · cases h
theorem run_mmFold (big:Bool):∀ (xs xs':List Value) (x:Value),(∃ k n,x = .int k n)→All2 (VRelF ρ lm) xs xs'→∀ v,xs.foldlM (mm2 big) x = some v →
    (xs'.foldlM (if big then Builtin.max2 else Builtin.min2) x).run P w = .ok v w∧∃ k n,v = .int k n
  | [],_,x,hx,h,v,hv=>by cases h; simp at hv; subst hv; exact ⟨by simp,hx⟩
  | y :: ys,_,x,hx,h,v,hv=>by
    cases h with
    | @cons _ y' _ ys' hy ht =>
      simp only [List.foldlM_cons,Option.bind_eq_bind] at hv
      obtain ⟨z,hz,hv2⟩:=Option.bind_eq_some_iff.1 hv
      have hyy:y' = y:=by
        unfold mm2 at hz
        split at hz
        · exact hy.int
        · cases hz
      subst hyy
      obtain ⟨h1,h2⟩:=run_mm2 (P:=P) (w:=w) hz
      obtain ⟨h3,h4⟩:=run_mmFold big ys ys' z h2 ht v hv2
      refine ⟨?_,h4⟩
      simp only [List.foldlM_cons,Sem.run_bind]
      have:((if big = true then Builtin.max2 else Builtin.min2) x y').run P w = .ok z w:=by
        cases big <;> simpa using h1
      rw [this]
      exact h3
theorem p_mm (hr:OpdRel P ρ lm fr ev) {big:Bool} {xs:Array Operand} {ys:List Opd} (hx:liftOpds P xs = some ys) {v:Value} (hv:(POp.mm big ys).ev fr = some v) (ats:Array TypeId) (t:TypeId) :
    ∃ u,(if big then Builtin.max_ ats t (xs.map ev) else Builtin.min_ ats t (xs.map ev)).run P w = .ok u w∧VRelF ρ lm v u:=by
  simp only [POp.ev] at hv
  have h:=liftOpds_rel hr _ _ hx
  have e:(xs.map ev).toList = xs.toList.map ev:=by simp
  generalize hl:xs.toList.map ev = l at h
  rw [hl] at e
  unfold mmA at hv
  split at hv
  · rename_i k n r ex
    rw [ex] at h
    cases h with
    | @cons _ x' _ r' hx' ht =>
      obtain rfl:=hx'.int
      obtain ⟨h1,k',n',rfl⟩:=run_mmFold (P:=P) (w:=w) big r r' _ ⟨k,n,rfl⟩ ht v hv
      refine ⟨_, ?_,.inl (.int _ _)⟩
      cases big
      · simp only [Bool.false_eq_true,if_false,Builtin.min_,e] at h1 ⊢; exact h1
      · simp only [if_true,Builtin.max_,e] at h1 ⊢; exact h1
  · cases hv
end Go.Proofs.YtakmapoompffgaaGreatDoor.AM
namespace Go.Proofs.YtakmapoompffgaaGreatDoor.AM
open Go
variable {P:Program} {ρ:Rho} {lm:Nat→Option Nat} {fr:Fr} {ev:Operand→Value} {w:World}
theorem vcells_eq (v:Value):vcells v = v.cells.toList:=by cases v <;> rfl
theorem cellOk_okV {v:Value} (h:cellOk v = true):okV v = true:=by
  cases v <;> first | exact h | cases h
theorem VRel.one {v u:Value} (h:VRel ρ v u) (hk:cellOk v = true):u.oneCell' = true:=by
  cases h <;> first | rfl | simp [cellOk] at hk
theorem VRel.cells1 {v u:Value} (h:VRel ρ v u) (hk:cellOk v = true):u.cells = #[u]:=by
  cases h <;> first | rfl | simp [cellOk] at hk
theorem vcells_scalar {v:Value} (h:∀ cs,v ≠ .agg cs):vcells v = [v]:=by
  cases v <;> first | rfl | exact absurd rfl (h _)
theorem cells_rel {v u:Value} (h:VRelF ρ lm v u) (hk:(vcells v).all cellOk = true):VRels ρ (vcells v) u.cells.toList:=by
  by_cases hv:∃ cs,v = .agg cs
  · obtain ⟨cs,rfl⟩:=hv
    obtain ⟨ds,rfl,h1,h2⟩:=h.agg
    exact All2.of_get (by simpa [vcells,Value.cells] using h1) fun i x y hx hy=>h2 i x y (by simpa [vcells] using hx) (by simpa [Value.cells] using hy)
  · have hv':∀ cs,v ≠ .agg cs:=fun cs e=>hv ⟨cs,e⟩
    rw [vcells_scalar hv'] at hk ⊢
    simp only [List.all_cons,List.all_nil,Bool.and_true] at hk
    have h1:=h.ok (cellOk_okV hk)
    rw [h1.cells1 hk]
    exact .cons h1 .nil
theorem cells_one {v u:Value} (h:VRels ρ (vcells v) u.cells.toList) (hk:(vcells v).all cellOk = true):∀ x∈u.cells.toList,x.oneCell' = true:=by
  generalize vcells v = vs at *
  generalize u.cells.toList = us at *
  induction h with
  | nil=>intro x hx; cases hx
  | cons h _ ih =>
    simp only [List.all_cons,Bool.and_eq_true] at hk
    intro x hx
    rcases List.mem_cons.1 hx with rfl | hx
    · exact h.one hk.1
    · exact ih hk.2 x hx
theorem All2.set {α β:Type} {R:α→β→Prop} {xs:List α} {ys:List β} (h:All2 R xs ys) {x:α} {y:β} (hxy:R x y):∀ i,All2 R (xs.set i x) (ys.set i y):=by
  induction h with
  | nil=>intro i; exact .nil
  | cons h t ih =>
    intro i
    cases i with
    | zero=>exact .cons hxy t
    | succ i=>exact .cons h (ih i)
theorem setAll_rel {xs ys vs us:List Value} (h:VRels ρ xs ys) (hv:VRels ρ vs us):∀ i,VRels ρ (setAll xs i vs) (setAll ys i us):=by
  induction hv generalizing xs ys with
  | nil=>intro i; exact h
  | cons h1 _ ih=>intro i; exact ih (h.set h1 i) (i + 1)
theorem setAll_length:∀ (vs xs:List Value) (i:Nat),(setAll xs i vs).length = xs.length
  | [],_,_=>rfl
  | v :: vs,xs,i=>by rw [setAll,setAll_length vs]; simp
theorem fold_set (off:Nat):∀ (l:List Value) (k:Nat) (cs:Array Value),((l.zipIdx k).foldl (fun cs (p:Value × Nat)=>cs.setIfInBounds (off + p.2) p.1) cs).toList = setAll cs.toList (off + k) l
  | [],k,cs=>rfl
  | v :: l,k,cs=>by
    simp only [List.zipIdx_cons,List.foldl_cons,setAll]
    rw [fold_set off l (k + 1)]
    simp [Nat.add_assoc]
theorem fill_rel (hr:OpdRel P ρ lm fr ev) {place:Nat→Option (Nat × Nat)}:∀ (ps:List (Nat × Operand)) (l:List (Nat × Nat × Opd)),liftParts P place ps = some l→∀ (zs:List Value) (zc:Array Value),VRels ρ zs zc.toList→∀ cs,fillA zs (evParts fr l) = some cs →
    ∃ ds,Instr.fill place zc (ps.map fun p=>(p.1,ev p.2)) = some ds∧VRels ρ cs ds.toList
  | [],l,hl,zs,zc,hz,cs,hf=>by
    simp only [liftParts,Option.some.injEq] at hl
    subst hl
    simp only [evParts,List.map_nil,fillA,Option.some.injEq] at hf
    subst hf
    exact ⟨zc,rfl,hz⟩
  | (i, x) :: r,l,hl,zs,zc,hz,cs,hf=>by
    simp only [liftParts] at hl
    split at hl
    · rename_i off size y l' hp hy hl'
      injection hl with hl
      subst hl
      simp only [evParts,List.map_cons,fillA] at hf
      split at hf
      · rename_i hb
        obtain ⟨b1,b2,b3⟩:=hb
        have hxy:=hr x y hy
        have hc:=cells_rel hxy b3
        have hsz:(ev x).cells.size = size:=by rw [← Array.length_toList,← hc.length]; exact b1
        have hzl:zc.size = zs.length:=by rw [hz.length]; simp
        obtain ⟨ds,h1,h2⟩:=fill_rel hr r l' hl' _ ((ev x).cells.zipIdx.foldl (fun cs (p:Value × Nat)=>cs.setIfInBounds (off + p.2) p.1) zc) (by
          rw [← Array.foldl_toList,Array.toList_zipIdx,fold_set]
          exact setAll_rel hz hc off) cs hf
        refine ⟨ds, ?_,h2⟩
        simp only [List.map_cons,Instr.fill,hp]
        rw [if_neg (by simp [hsz]; omega)]
        exact h1
      · cases hf
    · cases hl
theorem p_build (hr:OpdRel P ρ lm fr ev) {t:TypeId} {parts:Array (Nat × Operand)} {lo:List Nat} {o:Oper} (ho:o.op = .build t parts) {po:POp} (hl:liftOp P lo o = some (.p po)) {v:Value} (hv:po.ev fr = some v) :
    ∃ u,(Instr.build t (parts.map fun (i,x)=>(i,ev x))).run P w = .ok u w∧VRelF ρ lm v u:=by
  have hparts:(parts.map fun (i,x)=>(i,ev x)).toList = parts.toList.map fun p=>(p.1,ev p.2):=by simp
  simp only [liftOp,ho] at hl
  have zz:∀ z,zeroOf P t = some z→∃ it zv,P.info? t = some it∧it.zero = some zv∧VRels ρ z zv.cells.toList:=fun z hz=>by
    unfold zeroOf at hz
    split at hz
    · rename_i zv hzv
      obtain ⟨it,hi,hz2⟩:=Option.bind_eq_some_iff.1 hzv
      split at hz
      · rename_i hall
        injection hz with hz
        subst hz
        refine ⟨it,zv,hi,hz2, ?_⟩
        rw [vcells_eq] at hall ⊢
        refine All2.of_get rfl fun i x y hx hy=>?_
        rw [hx] at hy
        injection hy with hy
        subst hy
        exact .flat0 (List.all_eq_true.1 hall x (List.mem_of_getElem? hx))
      · cases hz
    · cases hz
  split at hl
  · rename_i z fs hz hu
    obtain ⟨it,zv,hi,hzv,hzr⟩:=zz z hz
    split at hl
    · rename_i places hpl
      obtain ⟨l,hll,hl2⟩:=Option.map_eq_some_iff.1 hl
      injection hl2 with hl2
      subst hl2
      simp only [POp.ev] at hv
      obtain ⟨cs,hcs,rfl⟩:=Option.map_eq_some_iff.1 hv
      obtain ⟨ds,h1,h2⟩:=fill_rel hr _ _ hll z zv.cells hzr cs hcs
      refine ⟨.agg ds,run_build w t _ ds ?_,.inl (.agg _ _ (by simpa using h2.length) fun i x y hx hy=>?_)⟩
      · unfold Program.built
        simp only [hi,hu,hzv,hpl]
        rw [hparts]
        simpa using h1
      · obtain ⟨y',hy',hrel⟩:=All2.get h2 i x (by simpa using hx)
        have:y = y':=by
          have h3:ds[i]? = some y':=by simpa using hy'
          rw [hy] at h3; injection h3
        subst this
        exact hrel
    · cases hl
  · rename_i z n e hz hu
    obtain ⟨it,zv,hi,hzv,hzr⟩:=zz z hz
    split at hl
    · rename_i sz hs
      obtain ⟨l,hll,hl2⟩:=Option.map_eq_some_iff.1 hl
      injection hl2 with hl2
      subst hl2
      simp only [POp.ev] at hv
      obtain ⟨cs,hcs,rfl⟩:=Option.map_eq_some_iff.1 hv
      obtain ⟨ds,h1,h2⟩:=fill_rel hr _ _ hll z zv.cells hzr cs hcs
      unfold szOf at hs
      obtain ⟨ie,hie,rfl⟩:=Option.map_eq_some_iff.1 hs
      refine ⟨.agg ds,run_build w t _ ds ?_,.inl (.agg _ _ (by simpa using h2.length) fun i x y hx hy=>?_)⟩
      · unfold Program.built
        simp only [hi,hu,hzv,hie]
        rw [hparts]
        exact h1
      · obtain ⟨y',hy',hrel⟩:=All2.get h2 i x (by simpa using hx)
        have:y = y':=by
          have h3:ds[i]? = some y':=by simpa using hy'
          rw [hy] at h3; injection h3
        subst this
        exact hrel
    · cases hl
  · cases hl
theorem p_mkfn (hr:OpdRel P ρ lm fr ev) {fn:Fn} {xs ys:Array Operand} {xs' ys':List Opd} (hx:liftOpds P xs = some xs') (hy:liftOpds P ys = some ys') {v:Value} (hv:(POp.mkfn fn xs' ys').ev fr = some v) :
    VRelF ρ lm v (.func fn (xs.map ev) (ys.map ev)):=by
  simp only [POp.ev] at hv
  split at hv
  · split at hv
    · rename_i hb
      simp only [Bool.and_eq_true] at hb
      injection hv with hv; subst hv
      have h1:=(liftOpds_rel hr _ _ hx).okVs hb.1
      have h2:=(liftOpds_rel hr _ _ hy).okVs hb.2
      have conv:∀ {ls:List Value} {zs:Array Operand},VRels ρ ls (zs.toList.map ev)→ls.toArray.size = (zs.map ev).size∧∀ (i:Nat) x y,ls.toArray[i]? = some x→(zs.map ev)[i]? = some y→VRel ρ x y:=fun {ls zs} h=>by
        refine ⟨by simpa using h.length,fun i x y hx hy=>?_⟩
        obtain ⟨y',hy',hrel⟩:=All2.get h i x (by simpa using hx)
        have e:(zs.map ev)[i]? = (zs.toList.map ev)[i]?:=by rw [← Array.getElem?_toList]; simp
        rw [e,hy'] at hy
        injection hy with hy
        subst hy
        exact hrel
      exact .inl (.func _ _ _ _ _ (conv h1).1 (conv h2).1 (conv h1).2 (conv h2).2)
    · cases hv
  · cases hv
end Go.Proofs.YtakmapoompffgaaGreatDoor.AM
namespace Go.Proofs.YtakmapoompffgaaGreatDoor.AM
open Go
variable {P:Program} {ρ:Rho} {lm:Nat→Option Nat} {fr:Fr} {ev:Operand→Value} {w:World}
theorem ev_s2v {s:Sem Value} {u:Value} (h:s.run P w = .ok u w) (o:Oper) (he:execOp ev o = (do pure (Next.value (← s)):Sem Next)) {v:Value} (hv:VRelF ρ lm v u) :
    ∃ u,(execOp ev o).run P w = .ok (.value u) w∧VRelF ρ lm v u:=⟨u,by rw [he]; exact runV h,hv⟩
theorem liftOpds_one {xs:Array Operand} {y:Opd} (h:liftOpds P xs = some [y]):∃ x,xs = #[x]∧liftOpd P x = some y:=by
  unfold liftOpds at h
  cases hlist:xs.toList with
  | nil=>rw [hlist] at h; simp at h
  | cons x0 r =>
    rw [hlist] at h
    simp only [List.mapM_cons,Option.bind_eq_bind] at h
    obtain ⟨y,hy,h⟩:=Option.bind_eq_some_iff.1 h
    obtain ⟨l,hl,h⟩:=Option.bind_eq_some_iff.1 h
    simp at h
    obtain ⟨rfl,rfl⟩:=h
    cases r with
    | nil=>exact ⟨x0,by rw [← Array.toList_inj]; simpa using hlist,hy⟩
    | cons a r =>
      simp only [List.mapM_cons,Option.bind_eq_bind] at hl
      obtain ⟨_,_,hl⟩:=Option.bind_eq_some_iff.1 hl
      obtain ⟨_,_,hl⟩:=Option.bind_eq_some_iff.1 hl
      simp at hl
theorem liftOpds_two {xs:Array Operand} {y z:Opd} (h:liftOpds P xs = some [y,z]):∃ x x',xs = #[x,x']∧liftOpd P x = some y∧liftOpd P x' = some z:=by
  unfold liftOpds at h
  cases hlist:xs.toList with
  | nil=>rw [hlist] at h; simp at h
  | cons x0 r =>
    rw [hlist] at h
    simp only [List.mapM_cons,Option.bind_eq_bind] at h
    obtain ⟨y,hy,h⟩:=Option.bind_eq_some_iff.1 h
    obtain ⟨l,hl,h⟩:=Option.bind_eq_some_iff.1 h
    simp at h
    obtain ⟨rfl,rfl⟩:=h
    obtain ⟨x1,e1,e2⟩:=liftOpds_one (xs:=r.toArray) (by simpa [liftOpds] using hl)
    have:r = [x1]:=by simpa using congrArg Array.toList e1
    subst this
    exact ⟨x0,x1,by rw [← Array.toList_inj]; simpa using hlist,hy,e2⟩
theorem run_builtin {o:Oper} {c:Call} (ho:o.op = .call c) {b:Builtin} (hb:c.callee = .builtin b) :
    ∃ consts,(execOp ev o).run P w = (builtin b c.argTypes o.type consts (c.args.map ev)).run P w:=by
  refine ⟨c.args.map fun | .const _=>true | _=>false, ?_⟩
  simp only [execOp,ho,resolve,hb,Sem.run_bind,Sem.run_pure,Result.andThen_ok,invoke]
  rfl
theorem find_idxB {fn : Func} (h : fn.name = "internal/bytealg.IndexByteString") (hn : (Extern.allNextRows.lookup fn.origin).isNone = true) : Extern.findNext fn = none ∧ Extern.find fn = some Extern.BytealgIndexByte.indexByte := by
  have e1 : Extern.allNextRows.lookup "internal/bytealg.IndexByteString" = none := by kernel_rfl
  have e2 : Extern.allGenericRows.lookup "internal/bytealg.IndexByteString" = none := by kernel_rfl
  have e3 : Extern.allTypedRows.lookup "internal/bytealg.IndexByteString" = none := by kernel_rfl
  have e4 : Extern.allRows.lookup "internal/bytealg.IndexByteString" = some Extern.BytealgIndexByte.indexByte := by kernel_rfl
  have e5:Extern.allNextRows.lookup fn.origin = none:=by simpa using hn
  constructor
  · unfold Extern.findNext
    simp only [h,e1,e5,Option.map_none]
    rfl
  · unfold Extern.find
    simp only [h,e2,e3,e4,Option.map_none]
    rfl
theorem p_idxB (hr:OpdRel P ρ lm fr ev) {o:Oper} {c:Call} (ho:o.op = .call c) {f:FuncId} (hcal:c.callee = .value (.func f)) {fn:Func} (hfn:P.funcs[f]? = some fn) (hb:fn.body.isNone = true)
    (hnm : fn.name = "internal/bytealg.IndexByteString" ∧ (Extern.allNextRows.lookup fn.origin).isNone = true) {x y : Opd} (hxs : liftOpds P c.args = some [x, y]) {v : Value} (hv : (POp.idxB x y).ev fr = some v) :
    ∃ u,(execOp ev o).run P w = .ok (.value u) w∧VRelF ρ lm v u:=by
  obtain ⟨x0,y0,ha,hx0,hy0⟩:=liftOpds_two hxs
  have h1:=hr x0 x hx0
  have h2:=hr y0 y hy0
  obtain ⟨hn,he⟩:=find_idxB hnm.1 hnm.2
  simp only [POp.ev] at hv
  split at hv
  · rename_i s n e1 e2
    rw [e1] at h1
    rw [e2] at h2
    injection hv with hv; subst hv
    refine ⟨.int .i64 (firstIdx s n.toNat.toUInt8), ?_,.inl (.int _ _)⟩
    have hci:(callFunc f (c.args.map ev)).run P w = .ok (.value (.int .i64 (firstIdx s n.toNat.toUInt8))) w:=by
      rw [run_callFunc_extern hfn (by rw [hnm.1]; rfl) hb hn he,ha]
      have:(#[x0,y0]:Array Operand).map ev = #[.string s,.int .u8 n]:=by simp [h1.string,h2.int]
      rw [this,run_indexByte_string]
      rfl
    have hfv:ev (.func f) = .func (.func f) #[] #[]:=by
      have h0:=(hr (.func f) (.c (.func (.func f) #[] #[])) rfl).vrel (by simp [opd]) (by simp [opd])
      simp only [opd] at h0
      generalize ev (.func f) = u at h0
      cases h0 with
      | func _ _ _ a b q1 q2 _ _ =>
        have ha:a = #[]:=Array.eq_empty_of_size_eq_zero q1.symm
        have hb:b = #[]:=Array.eq_empty_of_size_eq_zero q2.symm
        rw [ha,hb]
    simp only [execOp,ho,resolve,hcal,hfv,Deferred.ofValue,Sem.run_bind,Sem.run_pure,Result.andThen_ok,invoke,Array.empty_append,Array.append_empty]
    exact hci
  · cases hv
theorem liftOp_call {o:Oper} {c:Call} {lo:List Nat} {op:LOp} (hop:o.op = .call c) (hl:liftOp P lo o = some op) :
    liftCall P c = some op∨∃ n b x y e t r,liftCall P c = some (.e (.append n b x y))∧c.argTypes.toList = t :: r∧P.underlying t = some (.slice e)∧op = .e (.appendT (2 * e) n b x y):=by
  simp only [liftOp,hop] at hl
  split at hl
  · obtain ⟨q,h1,h2⟩:=Option.map_eq_some_iff.1 hl
    subst h2
    unfold typed
    split
    · rename_i n b x y
      split
      · rename_i t r ht
        split
        · rename_i e he
          exact .inr ⟨n,b,x,y,e,t,r,h1,ht,he,rfl⟩
        · exact .inl h1
      · exact .inl h1
    · exact .inl h1
  · exact .inl hl
theorem sim_call (hr:OpdRel P ρ lm fr ev) {o:Oper} {c:Call} (ho:o.op = .call c) {po:POp} (hl:liftCall P c = some (.p po)) {v:Value} (hv:po.ev fr = some v) :
    ∃ u,(execOp ev o).run P w = .ok (.value u) w∧VRelF ρ lm v u:=by
  unfold liftCall at hl
  split at hl
  · rename_i f hcal
    split at hl
    · rename_i fn hfn
      split at hl
      · rename_i hb
        split at hl
        · rename_i x y hxs
          injection hl with hl; injection hl with hl; subst hl
          exact p_idxB (P:=P) (w:=w) hr ho hcal hfn hb.1 hb.2 hxs hv
        · cases hl
      · split at hl
        · injection hl with hl; injection hl
        · cases hl
    · split at hl
      · injection hl with hl; injection hl
      · cases hl
  · split at hl
    · injection hl with hl; injection hl
    · cases hl
  · cases hl
  · rename_i b hb
    obtain ⟨consts,hrun⟩:=run_builtin (P:=P) (w:=w) (ev:=ev) ho hb
    rw [hrun]
    split at hl
    · rename_i x t hx ht
      have hat:c.argTypes = #[t]:=by rw [← Array.toList_inj]; simpa using ht
      obtain ⟨x0,ha,hx0⟩:=liftOpds_one hx
      rw [hat,ha]
      split at hl
      · rename_i hd
        injection hl with hl; injection hl with hl; subst hl
        obtain ⟨u,h1,h2⟩:=p_slen (P:=P) (w:=w) (u:=o.type) hr hx0 hd hv
        exact ⟨u,by simpa [builtin] using runV h1,h2⟩
      · rename_i e hd
        injection hl with hl; injection hl with hl; subst hl
        obtain ⟨u,h1,h2⟩:=p_len (P:=P) (w:=w) (u:=o.type) hr hx0 hd hv
        exact ⟨u,by simpa [builtin] using runV h1,h2⟩
      · injection hl with hl; injection hl
      · cases hl
    · injection hl with hl; injection hl with hl; subst hl
      obtain ⟨u,h1,h2⟩:=p_mm (P:=P) (w:=w) hr (by assumption) hv c.argTypes o.type
      exact ⟨u,by simpa [builtin] using runV h1,h2⟩
    · injection hl with hl; injection hl with hl; subst hl
      obtain ⟨u,h1,h2⟩:=p_mm (P:=P) (w:=w) hr (by assumption) hv c.argTypes o.type
      exact ⟨u,by simpa [builtin] using runV h1,h2⟩
    · (repeat' split at hl) <;> first | (injection hl with hl; injection hl; done) | cases hl
    · split at hl
      · obtain ⟨_,_,h⟩:=Option.map_eq_some_iff.1 hl; injection h
      · cases hl
    · cases hl
theorem sim_p (hr:OpdRel P ρ lm fr ev) {o:Oper} {lo:List Nat} {po:POp} (hl:liftOp P lo o = some (.p po)) {v:Value} (hv:po.ev fr = some v) :
    ∃ u,(execOp ev o).run P w = .ok (.value u) w∧VRelF ρ lm v u:=by
  cases hop:o.op
  case call c=>exact sim_call hr hop ((liftOp_call hop hl).elim id fun ⟨_,_,_,_,_,_,_,_,_,_,h⟩=>by cases h) hv
  case nilCheck x =>
    simp only [liftOp,hop] at hl
    obtain ⟨x',hx,h⟩:=Option.map_eq_some_iff.1 hl
    injection h with h; subst h
    exact p_nilck hr hx hv hop
  case build t parts =>
    obtain ⟨u,h1,h2⟩:=p_build (w:=w) hr hop hl hv
    exact ev_s2v h1 o (by simp only [execOp,hop]) h2
  all_goals simp only [liftOp,hop] at hl
  case move x =>
    obtain ⟨x',hx,h⟩:=Option.map_eq_some_iff.1 hl
    injection h with h; subst h
    simp only [POp.ev,Option.some.injEq] at hv; subst hv
    exact ⟨_,by simp [execOp,hop],hr x x' hx⟩
  case assign x =>
    obtain ⟨x',hx,h⟩:=Option.map_eq_some_iff.1 hl
    injection h with h; subst h
    simp only [POp.ev,Option.some.injEq] at hv; subst hv
    exact ⟨_,by simp [execOp,hop],hr x x' hx⟩
  case pick c a b =>
    split at hl
    · rename_i c' a' b' hc ha hb
      injection hl with hl; injection hl with hl; subst hl
      obtain ⟨u,h1,h2⟩:=p_pick (P:=P) (w:=w) hr hc ha hb hv
      exact ⟨_,by simp only [execOp,hop,Sem.run_bind,h1,Result.andThen_ok]; rfl,h2⟩
    · cases hl
  case alloc t=>(repeat' split at hl) <;> first | (injection hl with hl; injection hl; done) | cases hl
  case box t x=>(repeat' split at hl) <;> first | (injection hl with hl; injection hl; done) | cases hl
  case buildSlice t n ps =>
    split at hl
    · split at hl
      · split at hl
        · obtain ⟨_,_,h⟩:=Option.map_eq_some_iff.1 hl
          split at h <;> injection h
        · split at hl <;> first | (injection hl with hl; injection hl; done) | cases hl
      · cases hl
    · cases hl
  case load t x=>split at hl <;> first | (injection hl with hl; injection hl; done) | cases hl
  case store t x y=>(repeat' split at hl) <;> first | (injection hl with hl; injection hl; done) | cases hl
  case binOp op t x y t2 =>
    split at hl
    · rename_i x' y' hx hy
      split at hl
      · rename_i fs hu
        split at hl
        · rename_i ks hf
          split at hl
          · rename_i hg
            split at hl
            · injection hl with hl; injection hl with hl; subst hl
              obtain ⟨u,h1,h2⟩:=p_eqA (P:=P) (w:=w) hr hx hy hu hf hg.1 hg.2 hv
              exact ev_s2v (s:=do eqGuard .eql t x y (ev x) (ev y); binOp .eql t (ev x) (ev y)) h1 o (by simp only [execOp,hop]) h2
            · injection hl with hl; injection hl with hl; subst hl
              obtain ⟨u,h1,h2⟩:=p_eqA (P:=P) (w:=w) hr hx hy hu hf hg.1 hg.2 hv
              exact ev_s2v (s:=do eqGuard .neq t x y (ev x) (ev y); binOp .neq t (ev x) (ev y)) h1 o (by simp only [execOp,hop]) h2
            · cases hl
          · cases hl
        · cases hl
      · injection hl with hl; injection hl with hl; subst hl
        obtain ⟨u,h1,h2⟩:=p_bin (P:=P) (w:=w) hr hx hy t hv
        exact ev_s2v h1 o (by simp only [execOp,hop]) h2
      · injection hl with hl; injection hl with hl; subst hl
        obtain ⟨u,h1,h2⟩:=p_bin (P:=P) (w:=w) hr hx hy t hv
        exact ev_s2v h1 o (by simp only [execOp,hop]) h2
      · rename_i d _ _ _ hu
        have hk:∀ k,(match d with
          | .bool=>some EqK.bool
          | .pointer _=>some EqK.ptr
          | .slice _=>some EqK.sl
          | .map _ _=>some EqK.map
          | .func _ _ _=>some EqK.func
          | _=>none:Option EqK) = some k→eqKOf d = some k:=fun k h=>by cases d <;> first | exact h | cases h
        split at hl
        · rename_i k hkk
          injection hl with hl; injection hl with hl; subst hl
          obtain ⟨u,h1,h2⟩:=p_eqk (P:=P) (w:=w) hr hx hy hu (hk _ hkk) hv
          exact ev_s2v (s:=do eqGuard .eql t x y (ev x) (ev y); binOp .eql t (ev x) (ev y)) h1 o (by simp only [execOp,hop]) h2
        · rename_i k hkk
          injection hl with hl; injection hl with hl; subst hl
          obtain ⟨u,h1,h2⟩:=p_eqk (P:=P) (w:=w) hr hx hy hu (hk _ hkk) hv
          exact ev_s2v (s:=do eqGuard .neq t x y (ev x) (ev y); binOp .neq t (ev x) (ev y)) h1 o (by simp only [execOp,hop]) h2
        · cases hl
      · cases hl
    · cases hl
  case unOp op t x =>
    obtain ⟨x',hx,h⟩:=Option.map_eq_some_iff.1 hl
    injection h with h; subst h
    obtain ⟨u,h1,h2⟩:=p_un (P:=P) (w:=w) hr hx hv
    exact ev_s2v h1 o (by simp only [execOp,hop]) h2
  case convert src dst x =>
    split at hl
    · rename_i k0 k x' hs hd hx
      injection hl with hl; injection hl with hl; subst hl
      obtain ⟨u,h1,h2⟩:=p_conv (P:=P) (w:=w) hr hx hs hd hv
      exact ev_s2v h1 o (by simp only [execOp,hop]) h2
    · rename_i k0 x' hs hd hx
      injection hl with hl; injection hl with hl; subst hl
      obtain ⟨u,h1,h2⟩:=p_i2s (P:=P) (w:=w) hr hx hs hd hv
      exact ev_s2v h1 o (by simp only [execOp,hop]) h2
    · rename_i x' hs hd hx
      injection hl with hl; injection hl with hl; subst hl
      obtain ⟨u,h1,h2⟩:=p_s2s (P:=P) (w:=w) hr hx hs hd hv
      exact ev_s2v h1 o (by simp only [execOp,hop]) h2
    · split at hl <;> first | (injection hl with hl; injection hl; done) | cases hl
    · split at hl <;> first | (injection hl with hl; injection hl; done) | cases hl
    · cases hl
  case makeInterface t x =>
    split at hl
    · cases hl
    · rename_i d x' hne hu hx
      injection hl with hl; injection hl with hl; subst hl
      simp only [POp.ev] at hv
      split at hv
      · rename_i hk
        injection hv with hv; subst hv
        refine ev_s2v (s:=Instr.makeInterface t (ev x)) (u:=.iface t (ev x)) ?_ o (by simp only [execOp,hop]) (.inl (.iface _ _ _ ((hr x x' hx).ok hk)))
        have hu':=run_und hu w
        unfold Instr.makeInterface
        simp only [Sem.run_bind,hu',Result.andThen_ok]
        cases d with
        | interface ms=>exact (hne ms (by first | rfl | assumption)).elim
        | _=>rfl
      · cases hv
    · cases hl
  case makeFunc fn first captured =>
    split at hl
    · rename_i a b ha hb
      injection hl with hl; injection hl with hl; subst hl
      exact ev_s2v (s:=Instr.makeFunc fn (first.map ev) (captured.map ev)) (u:=.func fn (first.map ev) (captured.map ev)) (by simp [Instr.makeFunc]) o (by simp only [execOp,hop]) (p_mkfn hr ha hb hv)
    · cases hl
  case makeSlice t l c=>(repeat' split at hl) <;> first | (injection hl with hl; injection hl; done) | cases hl
  case slice t x lo hi mx =>
    split at hl
    · rename_i x' lo' hi' hu hx h1 h2 h3
      injection hl with hl; injection hl with hl; subst hl
      have hmx:mx = none:=by cases mx with
        | none=>rfl
        | some m=>simp only [liftO] at h3; obtain ⟨_,_,h3⟩:=Option.map_eq_some_iff.1 h3; cases h3
      subst hmx
      obtain ⟨u,g1,g2⟩:=p_slS (P:=P) (w:=w) hr hx h1 h2 hu hv
      exact ev_s2v g1 o (by simp only [execOp,hop]; rfl) g2
    · rename_i e x' lo' hi' mx' hu hx h1 h2 h3
      split at hl
      · cases hl
      · rename_i hne
        obtain ⟨n,hn,h⟩:=Option.map_eq_some_iff.1 hl
        injection h with h; subst h
        have hm:mx'.isSome = true→hi'.isSome = true:=fun hm=>by
          cases hi' with
          | some _=>rfl
          | none =>
            cases mx' with
            | none=>cases hm
            | some m=>exact (hne m rfl rfl).elim
        obtain ⟨u,g1,g2⟩:=p_sl (P:=P) (w:=w) hr hx h1 h2 h3 hm hu hn hv
        exact ev_s2v g1 o (by simp only [execOp,hop]) g2
    · cases hl
  case fieldAddr t x i =>
    split at hl
    · rename_i fs x' hu hx
      split at hl
      · rename_i f hf
        split at hl
        · rename_i n hn
          split at hl
          · cases hl
          · rename_i h0
            injection hl with hl; injection hl with hl; subst hl
            obtain ⟨u,g1,g2⟩:=p_faddr (P:=P) (w:=w) hr hx hu hf hn h0 hv
            exact ev_s2v g1 o (by simp only [execOp,hop]) g2
        · cases hl
      · cases hl
    · cases hl
  case field t x i =>
    split at hl
    · rename_i fs x' hu hx
      split at hl
      · rename_i f hf
        obtain ⟨n,hn,h⟩:=Option.map_eq_some_iff.1 hl
        injection h with h; subst h
        obtain ⟨u,g1,g2⟩:=p_fld (P:=P) (w:=w) hr hx hu hf hn hv
        exact ev_s2v g1 o (by simp only [execOp,hop]) g2
      · cases hl
    · cases hl
  case indexAddr t x i =>
    split at hl
    · rename_i e x' i' hu hx hi
      obtain ⟨n,hn,h⟩:=Option.map_eq_some_iff.1 hl
      injection h with h; subst h
      obtain ⟨u,g1,g2⟩:=p_iaddr (P:=P) (w:=w) hr hx hi hu hn hv trivial
      exact ev_s2v g1 o (by simp only [execOp,hop]) g2
    · rename_i len e x' i' hu hx hi
      obtain ⟨n,hn,h⟩:=Option.map_eq_some_iff.1 hl
      injection h with h; subst h
      obtain ⟨u,g1,g2⟩:=p_iaddrA (P:=P) (w:=w) hr hx hi hu hn hv
      exact ev_s2v g1 o (by simp only [execOp,hop]) g2
    · cases hl
  case index t x i =>
    split at hl
    · rename_i x' i' hu hx hi
      injection hl with hl; injection hl with hl; subst hl
      obtain ⟨u,g1,g2⟩:=p_idxS (P:=P) (w:=w) hr hx hi hu hv
      exact ev_s2v g1 o (by simp only [execOp,hop]) g2
    · rename_i len e x' i' hu hx hi
      split at hl
      · rename_i n a hn ha
        injection hl with hl; injection hl with hl; subst hl
        obtain ⟨u,g1,g2⟩:=p_idxA (P:=P) (w:=w) hr hx hi hu hn ha hv
        exact ev_s2v g1 o (by simp only [execOp,hop]) g2
      · cases hl
    · cases hl
  case range t x=>(repeat' split at hl) <;> first | (injection hl with hl; injection hl; done) | cases hl
  case next x b =>
    cases b
    · cases hl
    · obtain ⟨_,_,h⟩:=Option.map_eq_some_iff.1 hl; injection h
  case extract x i =>
    obtain ⟨x',hx,h⟩:=Option.map_eq_some_iff.1 hl
    injection h with h; subst h
    obtain ⟨u,g1,g2⟩:=p_ext (P:=P) (w:=w) hr hx hv
    exact ev_s2v g1 o (by simp only [execOp,hop]) g2
  all_goals first | cases hl | ((repeat' split at hl) <;> first | (injection hl with hl; injection hl; done) | cases hl)
end Go.Proofs.YtakmapoompffgaaGreatDoor.AM
namespace Go.Proofs.YtakmapoompffgaaGreatDoor.AM
open Go
variable {P:Program} {ρ:Rho} {lm:Nat→Option Nat} {w:World}
theorem bytes_beq {a b:ByteArray} (h:(a == b) = true):a = b:=by
  obtain ⟨a⟩:=a
  obtain ⟨b⟩:=b
  have:(a == b) = true:=h
  simp at this
  rw [this]
def fkV:FK→Value→Prop
  | .int,v => ∃ k n,v = .int k n
  | .bool,v => ∃ b,v = .bool b
  | .string,v => ∃ s,v = .string s
theorem fkV.flat {k:FK} {v:Value} (h:fkV k v):flat0 v = true:=by
  cases k <;> simp only [fkV] at h
  · obtain ⟨_,_,rfl⟩:=h; rfl
  · obtain ⟨_,rfl⟩:=h; rfl
  · obtain ⟨_,rfl⟩:=h; rfl
theorem fkV.rel {k:FK} {v u:Value} (h:fkV k v) (hr:VRel ρ v u):u = v:=by
  cases k <;> simp only [fkV] at h
  · obtain ⟨_,_,rfl⟩:=h; cases hr; rfl
  · obtain ⟨_,rfl⟩:=h; cases hr; rfl
  · obtain ⟨_,rfl⟩:=h; cases hr; rfl
theorem eqCells_kinds {k:FK} {ks:List FK} {x y:Value} {xs ys:List Value} {b:Bool} (h:eqCells (k :: ks) (x :: xs) (y :: ys) = some b):fkV k x∧fkV k y:=by
  cases k <;> cases x <;> cases y <;> simp only [eqCells] at h <;> first | cases h | skip
  · exact ⟨⟨_,_,rfl⟩,⟨_,_,rfl⟩⟩
  · exact ⟨⟨_,rfl⟩,⟨_,rfl⟩⟩
  · exact ⟨⟨_,rfl⟩,⟨_,rfl⟩⟩
theorem eqCells_same {k:FK} {ks:List FK} {x y:Value} {xs ys:List Value} (h:eqCells (k :: ks) (x :: xs) (y :: ys) = some true):x = y∧eqCells ks xs ys = some true:=by
  cases k <;> cases x <;> cases y <;> simp only [eqCells] at h <;> first | cases h | skip
  · split at h
    · rename_i hk
      split at h
      · rename_i hb; exact ⟨by rw [hk,eq_of_beq hb],h⟩
      · cases h
    · cases h
  · split at h
    · rename_i hb; exact ⟨by rw [eq_of_beq hb],h⟩
    · cases h
  · split at h
    · rename_i hb; exact ⟨by rw [bytes_beq hb],h⟩
    · cases h
def kkV:KK→Value→Prop
  | .one k,v=>fkV k v
  | .agg [k,l],v => ∃ a b,v = .agg #[a,b]∧fkV k a∧fkV l b
  | .agg _,_=>False
theorem agg_two {xs:Array Value} {a b:Value} {l:List Value} (h:xs.toList = a :: b :: l) (hl:l = []):xs = #[a,b]:=by
  subst hl
  rw [← Array.toList_inj]; exact h
theorem eqCells_nil {xs ys:List Value} {b:Bool} (h:eqCells [] xs ys = some b):xs = []∧ys = []∧b = true:=by
  cases xs <;> cases ys <;> simp [eqCells] at h
  exact ⟨rfl,rfl,h⟩
theorem keyEq_kinds {t:TypeId} {kk:KK} (hk:kkOf P t = some kk) {x y:Value} {b:Bool} (h:keyEq kk x y = some b) (hx:keyEq kk x x = some true) (hy:keyEq kk y y = some true):kkV kk x∧kkV kk y:=by
  unfold kkOf at hk
  split at hk
  · injection hk with hk; subst hk
    exact eqCells_kinds h
  · split at hk <;> first | (cases hk; done) | skip
    split at hk <;> first | (cases hk; done) | skip
    rename_i k _ _
    injection hk with hk; subst hk
    have key:∀ v,keyEq (.agg [k,k]) v v = some true→kkV (.agg [k,k]) v:=fun v hv=>by
      cases v <;> simp only [keyEq] at hv <;> first | (cases hv; done) | skip
      rename_i xs
      obtain ⟨a,l,_,_,e1,_⟩:=eqCells_cons hv
      rw [e1] at hv
      obtain ⟨_,h2⟩:=eqCells_same hv
      obtain ⟨b,l2,_,_,e2,_⟩:=eqCells_cons h2
      rw [e2] at h2 hv
      obtain ⟨_,h3⟩:=eqCells_same h2
      obtain ⟨e3,_,_⟩:=eqCells_nil h3
      exact ⟨a,b,congrArg Value.agg (agg_two (by rw [e1,e2]) e3),(eqCells_kinds hv).1,(eqCells_kinds h2).1⟩
    exact ⟨key x hx,key y hy⟩
theorem kkV.flat {kk:KK} {v:Value} (h:kkV kk v):flatV v = true:=by
  unfold kkV at h
  split at h
  · cases h2:v <;> rw [h2] at h <;> first | exact h.flat | skip
    exact absurd h.flat (by simp [flat0])
  · obtain ⟨a,b,rfl,h1,h2⟩:=h
    simp [flatV,h1.flat,h2.flat]
  · exact h.elim
theorem kkV.rel {kk:KK} {v u:Value} (h:kkV kk v) (hr:VRelF ρ lm v u):u = v:=by
  unfold kkV at h
  split at h
  · rename_i k
    cases k <;> simp only [fkV] at h
    · obtain ⟨_,_,rfl⟩:=h; exact hr.int
    · obtain ⟨_,rfl⟩:=h; exact hr.bool
    · obtain ⟨_,rfl⟩:=h; exact hr.string
  · obtain ⟨a,b,rfl,h1,h2⟩:=h
    obtain ⟨ds,rfl,hsz,hel⟩:=hr.agg
    obtain ⟨ds⟩:=ds
    match ds,hsz with
    | [c,d],_=>rw [h1.rel (hel 0 a c rfl rfl),h2.rel (hel 1 b d rfl rfl)]
  · exact h.elim
theorem eqCells_true:∀ {ks:List FK} {xs ys:List Value},eqCells ks xs ys = some true→xs = ys
  | [],xs,ys,h=>by obtain ⟨h1,h2,_⟩:=eqCells_nil h; rw [h1,h2]
  | k :: ks,xs,ys,h=>by
    obtain ⟨x,xs',y,ys',rfl,rfl⟩:=eqCells_cons h
    obtain ⟨h1,h2⟩:=eqCells_same h
    rw [h1,eqCells_true h2]
theorem keyEq_same {kk:KK} {x y:Value} (hx:kkV kk x) (h:keyEq kk x y = some true):x = y:=by
  unfold kkV at hx
  split at hx
  · have:=eqCells_true h
    injection this
  · obtain ⟨a,b,rfl,_,_⟩:=hx
    cases y <;> simp only [keyEq] at h <;> first | (cases h; done) | skip
    have:=eqCells_true h
    rw [← Array.toList_inj.1 this]
  · exact hx.elim
theorem fkV.bits {k:FK} {v:Value} (h:fkV k v) (n:Nat):Instr.sameBits n v v = true:=by
  cases k <;> simp only [fkV] at h
  · obtain ⟨_,_,rfl⟩:=h; cases n <;> simp [Instr.sameBits]
  · obtain ⟨_,rfl⟩:=h; cases n <;> simp [Instr.sameBits]
  · obtain ⟨s,rfl⟩:=h
    obtain ⟨s⟩:=s
    have:((⟨s⟩:ByteArray) == ⟨s⟩) = true:=by show (s == s) = true; simp
    cases n <;> simp [Instr.sameBits,this]
theorem kkV.bits {kk:KK} {v:Value} (h:kkV kk v):Instr.sameBits 10000 v v = true:=by
  unfold kkV at h
  split at h
  · exact h.bits _
  · obtain ⟨a,b,rfl,h1,h2⟩:=h
    show Instr.sameBits (9999 + 1) _ _ = true
    simp [Instr.sameBits,h1.bits,h2.bits]
  · exact h.elim
theorem run_checkCell {t:TypeId} {f:FK} (hf:fkOf P t = some f) {x:Value} (hx:fkV f x) (empty:Bool) (n:Nat):(Instr.checkKey empty (n + 1) t x).run P w = .ok () w:=by
  cases f <;> simp only [fkV] at hx
  · obtain ⟨_,hu⟩:=fk_int hf
    obtain ⟨_,_,rfl⟩:=hx
    simp [Instr.checkKey,run_und hu]
  · have hu:=fk_bool hf
    obtain ⟨_,rfl⟩:=hx
    simp [Instr.checkKey,run_und hu]
  · have hu:=fk_string hf
    obtain ⟨_,rfl⟩:=hx
    simp [Instr.checkKey,run_und hu]
theorem run_checkKeyN {t:TypeId} {kk:KK} (hk:kkOf P t = some kk) {k:Value} (hv:kkV kk k) (empty:Bool) (n:Nat):(Instr.checkKey empty (n + 1 + 1) t k).run P w = .ok () w:=by
  unfold kkOf at hk
  split at hk
  · rename_i f hf
    injection hk with hk; subst hk
    exact run_checkCell hf hv empty _
  · split at hk <;> first | (cases hk; done) | skip
    rename_i e hu
    split at hk <;> first | (cases hk; done) | skip
    rename_i f hf hs
    injection hk with hk; subst hk
    obtain ⟨a,b,rfl,h1,h2⟩:=hv
    have p1:=run_part_flat (w:=w) hf (cs := #[a,b]) (i:=0) rfl
    have p2:=run_part_flat (w:=w) hf (cs := #[a,b]) (i:=1) rfl
    have q1:=run_checkCell (w:=w) hf h1 empty n
    have q2:=run_checkCell (w:=w) hf h2 empty n
    rw [Instr.checkKey]
    generalize n + 1 = n1 at q1 q2 ⊢
    simp [run_und hu,Std.Legacy.Range.forIn_eq_forIn_range',Std.Legacy.Range.size,List.range',run_szOf hs,p1,p2,q1,q2]
theorem run_checkKey {t:TypeId} {kk:KK} (hk:kkOf P t = some kk) {k:Value} (hv:kkV kk k) (empty:Bool):(Instr.checkKey empty 10000 t k).run P w = .ok () w :=
  run_checkKeyN hk hv empty 9998
theorem run_keyEqN {t:TypeId} {kk:KK} (hk:kkOf P t = some kk) {x y:Value} (hx:kkV kk x) {b:Bool} (h:keyEq kk x y = some b) (n:Nat):(Op.equalIn (n + 1 + 1) t x y).run P w = .ok b w:=by
  unfold kkOf at hk
  split at hk
  · rename_i f hf
    injection hk with hk; subst hk
    have r1:VRel ([]:Rho) x x:=.flat0 (fkV.flat hx)
    have r2:VRel ([]:Rho) y y:=.flat0 (eqCells_kinds h).2.flat
    obtain ⟨r,h1,h2⟩:=run_eqCell (w:=w) (n + 1) hf r1 r2 h
    rw [h1]
    cases r
    · simp only [Bool.false_eq_true,if_false] at h2; injection h2 with h2; rw [h2]
    · simp only [if_true,eqCells] at h2; injection h2 with h2; rw [h2]
  · split at hk <;> first | (cases hk; done) | skip
    rename_i e hu
    split at hk <;> first | (cases hk; done) | skip
    rename_i f hf hs
    injection hk with hk; subst hk
    obtain ⟨a,b',rfl,h1,h2⟩:=hx
    cases y <;> simp only [keyEq] at h <;> first | (cases h; done) | skip
    rename_i ys
    obtain ⟨_,_,c,l,_,ey⟩:=eqCells_cons h
    rw [ey] at h
    have h3:=(eqCells_kinds h).2
    have gc:ys[0]? = some c:=by
      have:ys.toList[0]? = some c:=by rw [ey]; rfl
      simpa using this
    have r1:VRel ([]:Rho) a a:=.flat0 h1.flat
    have r2:VRel ([]:Rho) c c:=.flat0 h3.flat
    obtain ⟨q1,e1,e2⟩:=run_eqCell (w:=w) n hf r1 r2 h
    have p1:=run_part_flat (w:=w) hf (cs := #[a,b']) (i:=0) rfl
    have p2:=run_part_flat (w:=w) hf (cs := #[a,b']) (i:=1) rfl
    have p3:=run_part_flat (w:=w) hf (cs:=ys) (i:=0) gc
    rw [Op.equalIn]
    cases q1 with
    | false =>
      simp only [Bool.false_eq_true,if_false] at e2
      injection e2 with e2
      subst e2
      generalize n + 1 = n1 at e1 ⊢
      simp [run_und hu,Std.Legacy.Range.forIn_eq_forIn_range',Std.Legacy.Range.size,List.range',run_szOf hs,p1,p3,e1]
    | true =>
      simp only [if_true] at e2
      obtain ⟨_,_,d,l2,_,el⟩:=eqCells_cons e2
      rw [el] at e2 ey
      have h4:=(eqCells_kinds e2).2
      have gd:ys[1]? = some d:=by
        have:ys.toList[1]? = some d:=by rw [ey]; rfl
        simpa using this
      have r3:VRel ([]:Rho) b' b':=.flat0 h2.flat
      have r4:VRel ([]:Rho) d d:=.flat0 h4.flat
      have p4:=run_part_flat (w:=w) hf (cs:=ys) (i:=1) gd
      obtain ⟨q2,e3,e4⟩:=run_eqCell (w:=w) n hf r3 r4 e2
      generalize n + 1 = n1 at e1 e3 ⊢
      cases q2 with
      | false =>
        simp only [Bool.false_eq_true,if_false] at e4
        injection e4 with e4
        subst e4
        simp [run_und hu,Std.Legacy.Range.forIn_eq_forIn_range',Std.Legacy.Range.size,List.range',run_szOf hs,p1,p2,p3,p4,e1,e3]
      | true =>
        simp only [if_true] at e4
        obtain ⟨_,_,e5⟩:=eqCells_nil e4
        subst e5
        simp [run_und hu,Std.Legacy.Range.forIn_eq_forIn_range',Std.Legacy.Range.size,List.range',run_szOf hs,p1,p2,p3,p4,e1,e3]
theorem run_keyEq {t:TypeId} {kk:KK} (hk:kkOf P t = some kk) {x y:Value} (hx:kkV kk x) {b:Bool} (h:keyEq kk x y = some b):(Op.equal t x y).run P w = .ok b w :=
  run_keyEqN hk hx h 9998
theorem keyEq_self {t:TypeId} {kk:KK} (hk:kkOf P t = some kk) {k:Value} (h:keyEq kk k k = some true):kkV kk k:=(keyEq_kinds hk h h h).1
def ERel (ρ:Rho) (p:Value × Value) (e:MapEntry):Prop:=p.1 = e.key∧flatV p.1 = true∧VRel ρ p.2 e.val
def FoundR (kk:KK) (k:Value) (es:List (Value × Value)) (ms:List MapEntry) (i0:Nat) (r:Option Value) (r':Option (Nat × Value)):Prop :=
  match r with
  | none=>r' = none∧∀ p∈es,keyEq kk k p.1 = some false
  | some v => ∃ j p e,es[j]? = some p∧ms[j]? = some e∧p.2 = v∧keyEq kk k p.1 = some true∧r' = some (i0 + j,e.val)∧∀ q∈es.take j,keyEq kk k q.1 = some false
theorem FoundR.next {kk:KK} {k:Value} {es:List (Value × Value)} {ms:List MapEntry} {i0:Nat} {r:Option Value} {r':Option (Nat × Value)} {p:Value × Value} {e:MapEntry} (h:FoundR kk k es ms (i0 + 1) r r') (hf:keyEq kk k p.1 = some false) :
    FoundR kk k (p :: es) (e :: ms) i0 r r':=by
  cases r with
  | none=>exact ⟨h.1,fun q hq=>(List.mem_cons.1 hq).elim (fun e=>by rw [e]; exact hf) (h.2 q)⟩
  | some v =>
    obtain ⟨j,p',e',h1,h2,h3,h4,h5,h6⟩:=h
    refine ⟨j + 1,p',e',by simpa using h1,by simpa using h2,h3,h4,by rw [h5]; congr 2; omega,fun q hq=>?_⟩
    rw [List.take_succ_cons] at hq
    rcases List.mem_cons.1 hq with rfl | hq
    · exact hf
    · exact h6 q hq
theorem FoundR.here {kk:KK} {k:Value} {es:List (Value × Value)} {ms:List MapEntry} {i0:Nat} {p:Value × Value} {e:MapEntry} (h:keyEq kk k p.1 = some true):FoundR kk k (p :: es) (e :: ms) i0 (some p.2) (some (i0,e.val)) :=
  ⟨0,p,e,rfl,rfl,rfl,h,rfl,fun q hq=>by simp at hq⟩
theorem run_findAsking {t:TypeId} {kk:KK} (hk:kkOf P t = some kk) {k:Value} (hkv:kkV kk k):∀ (es:List (Value × Value)) (ms:List MapEntry),All2 (ERel ρ) es ms→∀ (i0:Nat) r,keyFind kk k es = some r →
    ∃ r',(Instr.findAsking t k ms i0).run P w = .ok r' w∧FoundR kk k es ms i0 r r'
  | [],ms,h,i0,r,hr=>by
    cases h
    simp only [keyFind,Option.some.injEq] at hr
    subst hr
    exact ⟨none,by simp [Instr.findAsking],rfl,by simp⟩
  | p :: es,ms,h,i0,r,hr=>by
    cases h with
    | @cons _ e _ ms' h1 h2 =>
      unfold keyFind at hr
      split at hr
      · rename_i hq
        injection hr with hr; subst hr
        have:=run_keyEq (w:=w) hk hkv hq
        rw [h1.1] at this
        exact ⟨some (i0,e.val),by simp [Instr.findAsking,this],.here hq⟩
      · rename_i hq
        have:=run_keyEq (w:=w) hk hkv hq
        rw [h1.1] at this
        obtain ⟨r',g1,g2⟩:=run_findAsking hk hkv es ms' h2 (i0 + 1) r hr
        exact ⟨r',by simp [Instr.findAsking,this,g1],g2.next hq⟩
      · cases hr
theorem findNow_one {t:TypeId} {f:FK} (hf:fkOf P t = some f) {d:TypeDesc} (hd:P.underlying t = some d) {k:Value}:∀ (es:List (Value × Value)) (ms:List MapEntry),All2 (ERel ρ) es ms→∀ (i0:Nat) r,keyFind (.one f) k es = some r →
    ∃ r',Instr.findNow d k ms i0 = some r'∧FoundR (.one f) k es ms i0 r r'
  | [],ms,h,i0,r,hr=>by
    cases h
    simp only [keyFind,Option.some.injEq] at hr
    subst hr
    exact ⟨none,rfl,rfl,by simp⟩
  | p :: es,ms,h,i0,r,hr=>by
    cases h with
    | @cons _ e _ ms' h1 h2 =>
      have same:∀ b,keyEq (.one f) k p.1 = some b→Instr.sameNow d k e.key = some b:=fun b hq=>by
        rw [h1.1] at hq
        simp only [keyEq] at hq
        generalize e.key = y at hq
        cases f
        · obtain ⟨_,hu⟩:=fk_int hf
          rw [hu] at hd; injection hd with hd; subst hd
          cases k <;> cases y <;> simp only [eqCells] at hq <;> first | (cases hq; done) | skip
          split at hq
          · rename_i hkk
            rw [Instr.sameNow,if_pos hkk]
            split at hq
            · rename_i hb; rw [hb]; exact hq
            · rename_i hb; simp only [Bool.not_eq_true] at hb; rw [hb]; exact hq
          · cases hq
        · rw [fk_bool hf] at hd; injection hd with hd; subst hd
          cases k <;> cases y <;> simp only [eqCells] at hq <;> first | (cases hq; done) | skip
          rw [Instr.sameNow]
          split at hq
          · rename_i hb; rw [hb]; exact hq
          · rename_i hb; simp only [Bool.not_eq_true] at hb; rw [hb]; exact hq
        · rw [fk_string hf] at hd; injection hd with hd; subst hd
          cases k <;> cases y <;> simp only [eqCells] at hq <;> first | (cases hq; done) | skip
          rw [Instr.sameNow]
          split at hq
          · rename_i hb; rw [hb]; exact hq
          · rename_i hb; simp only [Bool.not_eq_true] at hb; rw [hb]; exact hq
      unfold keyFind at hr
      split at hr
      · rename_i hq
        injection hr with hr; subst hr
        exact ⟨some (i0,e.val),by simp [Instr.findNow,same _ hq],.here hq⟩
      · rename_i hq
        obtain ⟨r',g1,g2⟩:=findNow_one hf hd es ms' h2 (i0 + 1) r hr
        exact ⟨r',by simp [Instr.findNow,same _ hq,g1],g2.next hq⟩
      · cases hr
theorem run_findKey {t:TypeId} {kk:KK} (hk:kkOf P t = some kk) {k:Value} (hkv:kkV kk k) {es:List (Value × Value)} {ms:List MapEntry} (h:All2 (ERel ρ) es ms) {r:Option Value} (hr:keyFind kk k es = some r) :
    ∃ r',(Instr.findKey t k ms).run P w = .ok r' w∧FoundR kk k es ms 0 r r':=by
  have hk0:=hk
  unfold kkOf at hk
  split at hk
  · rename_i f hf
    injection hk with hk; subst hk
    obtain ⟨d,hd⟩:∃ d,P.underlying t = some d:=by
      unfold fkOf at hf
      split at hf <;> first | (rename_i hu; exact ⟨_,hu⟩) | cases hf
    obtain ⟨r',g1,g2⟩:=findNow_one hf hd es ms h 0 r hr
    exact ⟨r',by simp [Instr.findKey,run_und hd,g1],g2⟩
  · split at hk <;> first | (cases hk; done) | skip
    rename_i e hu
    obtain ⟨r',g1,g2⟩:=run_findAsking (w:=w) hk0 hkv es ms h 0 r hr
    cases ms with
    | nil =>
      cases h
      simp only [keyFind,Option.some.injEq] at hr
      subst hr
      exact ⟨none,by simp [Instr.findKey,run_und hu,Instr.findNow],rfl,by simp⟩
    | cons m1 ms' =>
      have:Instr.findNow (.array 2 e) k (m1 :: ms') 0 = none:=by simp [Instr.findNow,Instr.sameNow]
      exact ⟨r',by simp [Instr.findKey,run_und hu,this,g1],g2⟩
theorem keySet_none {kk:KK} {k v:Value}:∀ {es:List (Value × Value)},(∀ p∈es,keyEq kk k p.1 = some false)→keySet kk k v es = es ++ [(k,v)]
  | [],_=>rfl
  | p :: es,h=>by
    obtain ⟨x,u⟩:=p
    unfold keySet
    rw [show keyEq kk k x = some false from h (x,u) (by simp)]
    simp only [keySet_none fun q hq=>h q (List.mem_cons_of_mem _ hq),List.cons_append]
theorem keySet_some {kk:KK} {k v:Value}:∀ {es:List (Value × Value)} {j:Nat} {p:Value × Value},es[j]? = some p→keyEq kk k p.1 = some true→(∀ q∈es.take j,keyEq kk k q.1 = some false)→keySet kk k v es = es.set j (p.1,v)
  | [],j,p,h,_,_=>by simp at h
  | (x,u) :: es,0,p,h,h1,_=>by
    simp only [List.getElem?_cons_zero,Option.some.injEq] at h
    subst h
    unfold keySet
    simp only at h1
    simp only [h1,List.set_cons_zero]
  | (x,u) :: es,j + 1,p,h,h1,h2=>by
    unfold keySet
    rw [show keyEq kk k x = some false from h2 (x,u) (by simp)]
    simp only [List.set_cons_succ]
    rw [keySet_some (j:=j) (by simpa using h) h1 fun q hq=>h2 q (by rw [List.take_succ_cons]; exact List.mem_cons_of_mem _ hq)]
end Go.Proofs.YtakmapoompffgaaGreatDoor.AM
namespace Go.Proofs.YtakmapoompffgaaGreatDoor.AM
open Go
variable {P:Program} {B nt:Nat} {E:Ent} {D:List Nat} {ρ:Rho} {lm:Nat→Option Nat} {fr:Fr} {m:Mem} {a:Act} {w:World} {g:Nat→Value}
theorem SR.rd (s:SR P B nt E D ρ lm g m a w) {p p':Addr} (hp:VRelF ρ lm (.pointer (some p)) (.pointer (some p'))) {n:Nat} {l:List Value} (h:m.rd p n = some l) :
    ∃ us:List Value,us.length = n∧VRels ρ l us∧l.all cellOk = true∧(loadCells p' n).run P w = .ok us.toArray w∧∀ j u,us[j]? = some u→w.cell? (p'.add j) = some u:=by
  have key:∃ o xs,m.obj p = some o∧((∃ ro,o = .cells ro xs)∨∃ t,o = .tc t xs)∧p.off + n≤xs.length∧(xs.drop p.off).take n = l:=by
    unfold Mem.rd at h
    split at h
    · rename_i ro xs ho
      split at h
      · rename_i hle
        injection h with h
        exact ⟨_,xs,ho,.inl ⟨ro,rfl⟩,hle,h⟩
      · cases h
    · rename_i t xs ho
      split at h
      · rename_i hle
        injection h with h
        exact ⟨_,xs,ho,.inr ⟨t,rfl⟩,hle,h⟩
      · cases h
    · cases h
  obtain ⟨o,xs,ho,hob,hle,rfl⟩:=key
  obtain ⟨δ,N,x,h1,h2,h3⟩:=s.objAt hp ho
  obtain ⟨cs,t,fz,rfl,e1,e2,e4⟩:∃ cs t fz,x = .cells cs t fz∧cs.size = N∧δ + xs.length≤N∧CellRel ρ cs δ xs:=by
    rcases hob with ⟨ro,rfl⟩ | ⟨t,rfl⟩ <;> cases x <;> simp only [ORel] at h2 <;> first | exact h2.elim | skip
    · exact ⟨_,_,_,rfl,h2.1,h2.2.1,h2.2.2.2⟩
    · exact ⟨_,_,_,rfl,h2.2.1,h2.2.2.1,h2.2.2.2.2⟩
  have hcell:∀ j,j < n→∃ v u,xs[p.off + j]? = some v∧cs[δ + (p.off + j)]? = some u∧VRel ρ v u∧cellOk v = true:=fun j hj=>by
    have hlt:p.off + j < xs.length:=by omega
    obtain ⟨k1,u,k2,k3⟩:=e4 (p.off + j) xs[p.off + j] (by simp [hlt])
    exact ⟨_,u,by simp [hlt],k2,k3,k1⟩
  have hcsl:δ + p.off + n≤cs.size:=by omega
  let us:=((cs.toList.drop (δ + p.off)).take n)
  have hus:us.length = n:=by simp [us]; omega
  have hget:∀ j,j < n→us[j]? = cs[δ + (p.off + j)]?:=fun j hj=>by
    simp only [us]
    rw [List.getElem?_take_of_lt hj,List.getElem?_drop]
    simp [Nat.add_assoc]
  have hrel:VRels ρ ((xs.drop p.off).take n) us:=All2.of_get (by simp; omega) fun i v u hv hu=>by
    have hi:i < n:=by
      have:=(List.getElem?_eq_some_iff.1 hv).1
      simp at this; omega
    obtain ⟨v',u',k1,k2,k3,_⟩:=hcell i hi
    rw [List.getElem?_take_of_lt hi,List.getElem?_drop,k1] at hv
    rw [hget i hi,k2] at hu
    injection hv with hv; injection hu with hu
    subst hv hu
    exact k3
  have hw:∀ j u,us[j]? = some u→w.cell? (p'.add j) = some u:=fun j u hu=>by
    have hj:j < n:=by rw [← hus]; exact (List.getElem?_eq_some_iff.1 hu).1
    rw [h3,add_off _ rfl]
    rw [hget j hj] at hu
    simp only [World.cell?,ptrOff,h1]
    rw [Nat.add_assoc]
    simpa using hu
  refine ⟨us,hus,hrel,List.all_eq_true.2 fun v hv=>?_, ?_,hw⟩
  · obtain ⟨i,hi⟩:=List.getElem?_of_mem hv
    have hin:i < n:=by
      have:=(List.getElem?_eq_some_iff.1 hi).1
      simp at this; omega
    obtain ⟨v',u',k1,_,_,k4⟩:=hcell i hin
    rw [List.getElem?_take_of_lt hin,List.getElem?_drop,k1] at hi
    injection hi with hi
    subst hi
    exact k4
  · have:=run_loadCells_list (P:=P) w p' us hw
    rw [hus] at this
    exact this
theorem mapOf_spec {t:TypeId} {kk:KK} {e:TypeId} (h:mapOf P t = some (kk,e)):∃ k,P.underlying t = some (.map k e)∧kkOf P k = some kk:=by
  unfold mapOf at h
  split at h
  · rename_i k e' hu
    split at h
    · rename_i kk' hk
      injection h with h
      injection h with h1 h2
      subst h1 h2
      exact ⟨k,hu,hk⟩
    · cases h
  · cases h
theorem run_zv {t:TypeId} {z:Value} (h:zvOf P t = some z):(zeroValue t).run P w = .ok z w∧flatV z = true:=by
  unfold zvOf at h
  split at h
  · rename_i zv hzv
    split at h
    · rename_i hfl
      injection h with h; subst h
      obtain ⟨it,hi,hz2⟩:=Option.bind_eq_some_iff.1 hzv
      exact ⟨by simp [zeroValue,typeInfo,hi,hz2],hfl⟩
    · cases h
  · cases h
theorem run_getObjM {c:Nat} {es:Array MapEntry} {cl:Nat} (h:w.heap[c]? = some (.map es cl)):(getObj c).run P w = .ok (.map es cl) w:=by simp [getObj,Sem.run,h]
theorem SR.mapAt (s:SR P B nt E D ρ lm g m a w) {b:Nat} {es:List (Value × Value)} (h:m.h.get b = some (.map es)) {c δ N:Nat} (hc:ρ[b]? = some (c, δ,N)):∃ ms cl,w.heap[c]? = some (.map ms cl)∧All2 (ERel ρ) es ms.toList∧cl = ms.size∧∀ (i:Nat) (e:MapEntry),ms[i]? = some e→e.born = i:=by
  obtain ⟨c', δ',N',x,h1,h2,h3,_⟩:=s.heap.live b _ h
  rw [hc] at h1
  injection h1 with h1
  injection h1 with h1 _
  subst h1
  cases x <;> simp only [ORel] at h3 <;> first | exact h3.elim | skip
  exact ⟨_,_,h2,h3.1,h3.2.1,h3.2.2⟩
theorem SR.maplen (s:SR P B nt E D ρ lm (fget fr) m a w) {x:Operand} {x':Opd} (hx:liftOpd P x = some x') {t kt et u:TypeId} (ht:P.underlying t = some (.map kt et)) {v:Value} (hv:(ROp.maplen x').ev fr m = some v) :
    ∃ r,(Builtin.len_ #[t] u #[a.eval x]).run P w = .ok r w∧VRelF ρ lm v r:=by
  have h1:=opdRel_act s x x' hx
  simp only [ROp.ev] at hv
  split at hv
  · rename_i e0
    rw [e0] at h1
    injection hv with hv; subst hv
    rw [h1.mnil]
    exact ⟨.int .i64 0,by simp [Builtin.len_,run_und ht,goInt],.inl (.int _ _)⟩
  · rename_i b e0
    rw [e0] at h1
    split at hv
    · rename_i es he
      injection hv with hv; subst hv
      obtain ⟨c, δ,N,e2,hc⟩:=h1.msome
      obtain ⟨ms,cl,hh,hr,hcl,hbn⟩:=s.mapAt he hc
      have hl:=hr.length_eq
      rw [e2]
      refine ⟨.int .i64 (es.length:Nat), ?_,.inl (.int _ _)⟩
      rw [hl]
      simp [Builtin.len_,run_und ht,goInt,run_getObjM hh]
    · cases hv
  · cases hv
theorem SR.lookup (s:SR P B nt E D ρ lm (fget fr) m a w) {t:TypeId} {kk:KK} {e:TypeId} (hm:mapOf P t = some (kk,e)) {x i:Operand} {x' i':Opd} (hx:liftOpd P x = some x') (hi:liftOpd P i = some i') {z:Value} (hz:zvOf P e = some z)
    {ok:Bool} {v:Value} (hv:(ROp.lookup kk z ok x' i').ev fr m = some v):∃ r,(Instr.lookup t (a.eval x) (a.eval i) ok).run P w = .ok r w∧VRelF ρ lm v r:=by
  have h1:=opdRel_act s x x' hx
  have h2:=opdRel_act s i i' hi
  obtain ⟨kt,hu,hkt⟩:=mapOf_spec hm
  obtain ⟨hzr,hzf⟩:=run_zv (w:=w) hz
  simp only [ROp.ev] at hv
  have main:∀ (es:List (Value × Value)) (ms:Array MapEntry),All2 (ERel ρ) es ms.toList →
      (if keyEq kk (opd fr i') (opd fr i') = some true then
        match keyFind kk (opd fr i') es with
        | some (some v)=>some (if ok then .tuple #[v,.bool true] else v)
        | some none=>some (if ok then .tuple #[z,.bool false] else z)
        | none=>none
      else none) = some v→(Instr.checkKey ms.isEmpty 10000 kt (a.eval i)).run P w = .ok () w ∧
        ((∃ j u,(Instr.findKey kt (a.eval i) ms.toList).run P w = .ok (some (j,u)) w∧VRelF ρ lm v (if ok then .tuple #[u,.bool true] else u)) ∨
         ((Instr.findKey kt (a.eval i) ms.toList).run P w = .ok none w∧VRelF ρ lm v (if ok then .tuple #[z,.bool false] else z))):=fun es ms hr hv=>by
    split at hv
    · rename_i hself
      have hkv:=keyEq_self hkt hself
      have hui:=hkv.rel h2
      rw [hui]
      refine ⟨run_checkKey (w:=w) hkt hkv ms.isEmpty, ?_⟩
      split at hv
      · rename_i v' hf
        injection hv with hv; subst hv
        obtain ⟨r',g1,j,p,e',q1,q2,q3,q4,q5,q6⟩:=run_findKey (w:=w) hkt hkv hr hf
        subst q5
        have hvr:VRel ρ v' e'.val:=by
          obtain ⟨e2,he2,hrel⟩:=All2.get hr j p q1
          rw [q2] at he2
          injection he2 with he2
          subst he2
          rw [← q3]; exact hrel.2.2
        refine .inl ⟨_,_,g1, ?_⟩
        cases ok with
        | false=>exact .inl hvr
        | true =>
          refine .inl (.tuple _ _ rfl fun n y y' hy hy'=>?_)
          match n with
          | 0=>simp at hy hy'; subst hy hy'; exact hvr
          | 1=>simp at hy hy'; subst hy hy'; exact .bool _
          | n + 2=>simp at hy
      · rename_i hf
        injection hv with hv; subst hv
        obtain ⟨r',g1,q1,q2⟩:=run_findKey (w:=w) hkt hkv hr hf
        subst q1
        refine .inr ⟨g1, ?_⟩
        cases ok with
        | false=>exact .inl (.flatV hzf)
        | true =>
          refine .inl (.tuple _ _ rfl fun n y y' hy hy'=>?_)
          match n with
          | 0=>simp at hy hy'; subst hy hy'; exact .flatV hzf
          | 1=>simp at hy hy'; subst hy hy'; exact .bool _
          | n + 2=>simp at hy
      · cases hv
    · cases hv
  split at hv
  · rename_i es he
    split at he
    · rename_i e0
      injection he with he; subst he
      rw [e0] at h1
      rw [h1.mnil]
      obtain ⟨hck,⟨j,u,g1,g2⟩ | ⟨g1,g2⟩⟩:=main [] #[] .nil hv
      · exact ⟨_,by simp [Instr.lookup,run_und hu] at hck g1 ⊢; simp [hck,g1],g2⟩
      · exact ⟨_,by simp [Instr.lookup,run_und hu] at hck g1 ⊢; simp [hck,g1,hzr],g2⟩
    · rename_i b e0
      rw [e0] at h1
      split at he
      · rename_i es' he'
        injection he with he; subst he
        obtain ⟨c, δ,N,e2,hc⟩:=h1.msome
        obtain ⟨ms,cl,hh,hr,hcl,hbn⟩:=s.mapAt he' hc
        rw [e2]
        obtain ⟨hck,⟨j,u,g1,g2⟩ | ⟨g1,g2⟩⟩:=main _ ms hr hv
        · exact ⟨_,by simp [Instr.lookup,run_und hu,run_getObjM hh,hck,g1],g2⟩
        · exact ⟨_,by simp [Instr.lookup,run_und hu,run_getObjM hh,hck,g1,hzr],g2⟩
      · cases he
    · cases he
  · cases hv
theorem bytesOf_ints:∀ {l us:List Value} {bs:List UInt8},VRels ρ l us→bytesOf l = some bs→∃ ns:List Int,us = ns.map (Value.int .u8)∧bs = ns.map fun n=>UInt8.ofNat n.toNat
  | [],us,bs,h,hb=>by cases h; simp only [bytesOf,Option.some.injEq] at hb; subst hb; exact ⟨[],rfl,rfl⟩
  | x :: l,us,bs,h,hb=>by
    cases h with
    | @cons _ u _ us' h1 h2 =>
      unfold bytesOf at hb
      split at hb
      · rename_i e; cases e
      · rename_i n r e
        injection e with e1 e2
        subst e1 e2
        obtain ⟨bs',hb',rfl⟩:=Option.map_eq_some_iff.1 hb
        obtain ⟨ns,rfl,rfl⟩:=bytesOf_ints h2 hb'
        cases h1
        exact ⟨n :: ns,rfl,rfl⟩
      · cases hb
theorem runesOf_ints:∀ {l us:List Value} {rs:List Int},VRels ρ l us→runesOf l = some rs→us = rs.map (Value.int .i32)
  | [],us,rs,h,hb=>by cases h; simp only [runesOf,Option.some.injEq] at hb; subst hb; rfl
  | x :: l,us,rs,h,hb=>by
    cases h with
    | @cons _ u _ us' h1 h2 =>
      unfold runesOf at hb
      split at hb
      · rename_i e; cases e
      · rename_i n r e
        injection e with e1 e2
        subst e1 e2
        obtain ⟨rs',hb',rfl⟩:=Option.map_eq_some_iff.1 hb
        rw [runesOf_ints h2 hb']
        cases h1
        rfl
      · cases hb
theorem encAll_eq:∀ (rs:List Int) (acc:ByteArray),encAll rs acc = rs.foldl (fun r n=>r ++ Utf8.encode n) acc
  | [],_=>rfl
  | n :: r,acc=>by rw [encAll,encAll_eq r]; rfl
theorem SR.slice (s:SR P B nt E D ρ lm g m a w) {p:Addr} {n e:Nat} {u:Value} (hp:VRelF ρ lm (.slice (some p) n e) u) {k:Nat} {l:List Value} (h:m.rd p k = some l) (hk:n = 0→k = 0) :
    ∃ p' c,u = .slice (some p') n c∧∃ us:List Value,us.length = k∧VRels ρ l us∧l.all cellOk = true∧(loadCells p' k).run P w = .ok us.toArray w∧∀ j u,us[j]? = some u→w.cell? (p'.add j) = some u:=by
  rcases hp with hv | ⟨nm,of,c,h1,_⟩ | ⟨nm,n',e',c,h1,h2,h3⟩
  · cases hv with
    | sl b o c δ N n e k h' h1 h2=>exact ⟨_,k,rfl,s.rd (.inl (.ptr b o c δ N h')) h⟩
    | slZ a0 a' e =>
      obtain rfl:=hk rfl
      refine ⟨a',0,rfl,[],rfl, ?_, ?_,by simp [loadCells,loadCellsFrom],by simp⟩
      all_goals
        unfold Mem.rd at h
        split at h
        · split at h
          · injection h with h; subst h; first | exact .nil | simp
          · cases h
        · split at h
          · injection h with h; subst h; first | exact .nil | simp
          · cases h
        · cases h
  · cases h1
  · injection h1 with g1 g2 g3
    injection g1 with g1
    subst g1 g2 g3
    exact ⟨_,_,h3,s.rd (.inr (.inl ⟨nm,0,c,rfl,h2,rfl⟩)) h⟩
theorem sim_r (s:SR P B nt E D ρ lm (fget fr) m a w) {o:Oper} {lo:List Nat} {ro:ROp} (hl:liftOp P lo o = some (.r ro)) {v:Value} (hv:ro.ev fr m = some v) :
    ∃ u,(execOp a.eval o).run P w = .ok (.value u) w∧VRelF ρ lm v u:=by
  have hr:=opdRel_act s
  cases hop:o.op
  case load t x =>
    simp only [liftOp,hop] at hl
    split at hl
    · rename_i n x' hn hx
      injection hl with hl; injection hl with hl; subst hl
      have h1:=hr x x' hx
      obtain ⟨ha,k,hk,hj⟩:=run_isAgg hn w
      cases n with
      | none =>
        simp only [ROp.ev] at hv
        split at hv
        · rename_i p e
          rw [e] at h1
          obtain ⟨p',e2,hsp⟩:=h1.psome
          split at hv
          · rename_i v' hrd
            injection hv with hv; subst hv
            rw [e2] at h1
            obtain ⟨us,g1,g2,_,_,g5⟩:=s.rd h1 hrd
            cases g2 with
            | @cons _ u _ us' k1 k2 =>
              cases k2
              have hc:=g5 0 u rfl
              have hp0:p'.add 0 = p':=by simp [Addr.add]
              rw [hp0] at hc
              refine ⟨u, ?_,.inl k1⟩
              simp only [Option.isSome_none] at ha
              have hld:(load p').run P w = .ok u w:=by rw [run_load]; simp [hc]
              have:(Instr.loadAt t (a.eval x)).run P w = .ok u w:=by
                simp only [Instr.loadAt,e2,Instr.sureAddr,loadVar,Sem.run_bind,Sem.run_pure,Result.andThen_ok,ha,Bool.false_eq_true,if_false]
                exact hld
              simp only [execOp,hop]
              exact runV this
          · cases hv
        · cases hv
      | some n =>
        simp only [ROp.ev] at hv
        split at hv
        · rename_i p e
          rw [e] at h1
          obtain ⟨p',e2,hsp⟩:=h1.psome
          obtain ⟨l,hrd,rfl⟩:=Option.map_eq_some_iff.1 hv
          rw [e2] at h1
          obtain ⟨us,g1,g2,_,g4,_⟩:=s.rd h1 hrd
          obtain rfl:=hj n rfl
          simp only [Option.isSome_some] at ha
          have:(Instr.loadAt t (a.eval x)).run P w = .ok (.agg us.toArray) w:=by
            simp only [Instr.loadAt,e2,Instr.sureAddr,loadVar,Sem.run_bind,Sem.run_pure,Result.andThen_ok,ha,if_true,run_szOf hk,g4]
          refine ⟨.agg us.toArray,by simp only [execOp,hop]; exact runV this,.inl (.agg _ _ (by simpa using g2.length) fun i x y hx hy=>?_)⟩
          obtain ⟨y',hy',hrel⟩:=All2.get g2 i x (by simpa using hx)
          have:y = y':=by
            have h3:us.toArray[i]? = some y':=by simpa using hy'
            rw [hy] at h3; injection h3
          subst this
          exact hrel
        · cases hv
    · cases hl
  case convert src dst x =>
    simp only [liftOp,hop] at hl
    split at hl
    · injection hl with hl; injection hl
    · injection hl with hl; injection hl
    · injection hl with hl; injection hl
    · split at hl <;> first | (injection hl with hl; injection hl; done) | cases hl
    · rename_i e x' hs hd hx
      have h1:=hr x x' hx
      split at hl
      · rename_i he
        injection hl with hl; injection hl with hl; subst hl
        simp only [ROp.ev] at hv
        split at hv
        · rename_i n c e0
          rw [e0] at h1
          injection hv with hv; subst hv
          obtain ⟨e2,_,_⟩:=h1.snil
          refine ev_s2v (s:=convert src dst (a.eval x)) (u:=.string ⟨#[]⟩) ?_ o (by simp only [execOp,hop]) (.inl (.string _))
          rw [e2,run_convert_bytes_string w src dst e _ _ _ hs he hd]
          first | (simp [Conv.bytesToString,ByteArray.empty,ByteArray.emptyWithCapacity]; done) | (simp [Conv.bytesToString,ByteArray.empty,ByteArray.emptyWithCapacity]; rfl)
        · rename_i p n c e0
          rw [e0] at h1
          split at hv
          · rename_i l hrd
            obtain ⟨bs,hbs,rfl⟩:=Option.map_eq_some_iff.1 hv
            obtain ⟨p',c',e2,us,g1,g2,_,g4,_⟩:=s.slice h1 hrd (fun h=>h)
            obtain ⟨ns,rfl,rfl⟩:=bytesOf_ints g2 hbs
            refine ev_s2v (s:=convert src dst (a.eval x)) (u:=.string ⟨(ns.map fun n=>UInt8.ofNat n.toNat).toArray⟩) ?_ o (by simp only [execOp,hop]) (.inl (.string _))
            rw [e2,run_convert_bytes_string w src dst e _ _ _ hs he hd,run_bytesToString w _ _ _ ns g4,foldl_push_bytes]
            first | (simp [ByteArray.empty,ByteArray.emptyWithCapacity]; done) | (simp [ByteArray.empty,ByteArray.emptyWithCapacity]; rfl)
          · cases hv
        · cases hv
      · rename_i he
        injection hl with hl; injection hl with hl; subst hl
        simp only [ROp.ev] at hv
        split at hv
        · rename_i n c e0
          rw [e0] at h1
          injection hv with hv; subst hv
          obtain ⟨e2,_,_⟩:=h1.snil
          refine ev_s2v (s:=convert src dst (a.eval x)) (u:=.string ⟨#[]⟩) ?_ o (by simp only [execOp,hop]) (.inl (.string _))
          rw [e2,run_convert_runes_string w src dst e _ _ _ hs he hd]
          first | (simp [Conv.runesToString,ByteArray.empty,ByteArray.emptyWithCapacity]; done) | (simp [Conv.runesToString,ByteArray.empty,ByteArray.emptyWithCapacity]; rfl)
        · rename_i p n c e0
          rw [e0] at h1
          split at hv
          · rename_i l hrd
            obtain ⟨rs,hrs,rfl⟩:=Option.map_eq_some_iff.1 hv
            obtain ⟨p',c',e2,us,g1,g2,_,g4,_⟩:=s.slice h1 hrd (fun h=>h)
            obtain rfl:=runesOf_ints g2 hrs
            refine ev_s2v (s:=convert src dst (a.eval x)) (u:=.string (encAll rs ⟨#[]⟩)) ?_ o (by simp only [execOp,hop]) (.inl (.string _))
            rw [e2,run_convert_runes_string w src dst e _ _ _ hs he hd,run_runesToString w _ _ _ rs g4,runesBytes,encAll_eq]
            first | (simp [ByteArray.empty,ByteArray.emptyWithCapacity]; done) | (simp [ByteArray.empty,ByteArray.emptyWithCapacity]; rfl)
          · cases hv
        · cases hv
      · cases hl
    · cases hl
  case call c =>
    replace hl:=(liftOp_call hop hl).elim id fun ⟨_,_,_,_,_,_,_,_,_,_,h⟩=>by cases h
    unfold liftCall at hl
    split at hl
    · (repeat' split at hl) <;> first | (injection hl with hl; injection hl; done) | cases hl
    · split at hl
      · injection hl with hl; injection hl
      · cases hl
    · cases hl
    · rename_i b hb
      split at hl
      · rename_i x t hx ht
        split at hl
        · injection hl with hl; injection hl
        · injection hl with hl; injection hl
        · rename_i kt et hd
          injection hl with hl; injection hl with hl; subst hl
          have hat:c.argTypes = #[t]:=by rw [← Array.toList_inj]; simpa using ht
          obtain ⟨x0,ha,hx0⟩:=liftOpds_one hx
          obtain ⟨consts,hrun⟩:=run_builtin (P:=P) (w:=w) (ev:=a.eval) hop hb
          rw [hrun,hat,ha]
          obtain ⟨u,h1,h2⟩:=s.maplen (u:=o.type) hx0 hd hv
          exact ⟨u,by simpa [builtin] using runV h1,h2⟩
        · cases hl
      · injection hl with hl; injection hl
      · injection hl with hl; injection hl
      · (repeat' split at hl) <;> first | (injection hl with hl; injection hl; done) | cases hl
      · split at hl
        · obtain ⟨_,_,h⟩:=Option.map_eq_some_iff.1 hl; injection h
        · cases hl
      · cases hl
  case lookup t x i ok =>
    simp only [liftOp,hop] at hl
    split at hl
    · rename_i kk e x' i' hm hx hi
      split at hl
      · rename_i z hz
        injection hl with hl; injection hl with hl; subst hl
        obtain ⟨u,h1,h2⟩:=s.lookup hm hx hi hz hv
        exact ev_s2v h1 o (by simp only [execOp,hop]) h2
      · cases hl
    · cases hl
  all_goals simp only [liftOp,hop] at hl
  case move x=>obtain ⟨_,_,h⟩:=Option.map_eq_some_iff.1 hl; injection h
  case assign x=>obtain ⟨_,_,h⟩:=Option.map_eq_some_iff.1 hl; injection h
  case nilCheck x=>obtain ⟨_,_,h⟩:=Option.map_eq_some_iff.1 hl; injection h
  case unOp x=>obtain ⟨_,_,h⟩:=Option.map_eq_some_iff.1 hl; injection h
  case extract x=>obtain ⟨_,_,h⟩:=Option.map_eq_some_iff.1 hl; injection h
  case next x b =>
    cases b
    · cases hl
    · obtain ⟨_,_,h⟩:=Option.map_eq_some_iff.1 hl; injection h
  case build t ps =>
    (repeat' split at hl) <;> first | cases hl | (obtain ⟨_,_,h⟩:=Option.map_eq_some_iff.1 hl; injection h)
  case buildSlice t n ps =>
    (repeat' split at hl) <;> first | cases hl | (obtain ⟨_,_,h⟩:=Option.map_eq_some_iff.1 hl; first | injection h | (split at h <;> injection h))
  case slice t x l h mx =>
    (repeat' split at hl) <;> first | cases hl | (injection hl with hl; injection hl; done) | (obtain ⟨_,_,h⟩:=Option.map_eq_some_iff.1 hl; injection h)
  case field t x i =>
    (repeat' split at hl) <;> first | cases hl | (obtain ⟨_,_,h⟩:=Option.map_eq_some_iff.1 hl; injection h)
  case indexAddr t x i =>
    (repeat' split at hl) <;> first | cases hl | (obtain ⟨_,_,h⟩:=Option.map_eq_some_iff.1 hl; injection h)
  all_goals first | cases hl | ((repeat' split at hl) <;> first | (injection hl with hl; injection hl; done) | cases hl)
end Go.Proofs.YtakmapoompffgaaGreatDoor.AM
