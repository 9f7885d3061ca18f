/- Parts of proofs: lemmas, joined. -/
import Derived.Test.YtakmapoompffgaaGreatDoorPc370dba5
import Derived.Laws.AppendOwn
import Derived.Laws.IdiomStrings
import Derived.Laws.Append
import Derived.OrdersIn
set_option linter.unusedVariables false
set_option linter.unusedSimpArgs false
set_option linter.unusedSectionVars false
namespace Go.Proofs.YtakmapoompffgaaGreatDoor.AM
open Go
variable {P:Program} {B nt:Nat} {E:Ent} {D:List Nat} {ρ:Rho} {lm:Nat→Option Nat} {fr:Fr} {m:Mem} {a:Act} {w:World} {g:Nat→Value}
def EOk (P:Program) (B nt:Nat) (E:Ent) (D:List Nat) (g:Nat→Value) (m':Mem) (a:Act) (v:Value) (r:Result Next):Prop :=
  ∃ x u w' ρ' lm',r = .ok x w'∧(x = .value u∨(x = .skip∧u = undef))∧SR P B nt E D ρ' lm' g m' a w'∧VRelF ρ' lm' v u
theorem EOk.val {m':Mem} {v u:Value} {s:Sem Value} {w':World} {ρ':Rho} {lm':Nat→Option Nat} {ev:Operand→Value} {o:Oper} (he:execOp ev o = (do pure (Next.value (← s)):Sem Next)) (h:s.run P w = .ok u w')
    (hs:SR P B nt E D ρ' lm' g m' a w') (hv:VRelF ρ' lm' v u):EOk P B nt E D g m' a v ((execOp ev o).run P w) :=
  ⟨.value u,u,w', ρ',lm',by rw [he]; simp only [Sem.run_bind,h,Result.andThen_ok]; rfl,.inl rfl,hs,hv⟩
theorem unfrozen0 (N:Nat):∀ i,i < N → ¬ (((0,0):Nat × Nat).1≤i∧i < ((0,0):Nat × Nat).2):=fun i _ h=>by simp at h
theorem mkCells {xs us rest:List Value} (h:VRels ρ xs us) (hk:xs.all cellOk = true) {cs:Array Value} (hc:cs.toList = us ++ rest) {t:TypeId} {fz:Nat × Nat} (hz:∀ i,i < cs.size + frzX → ¬ (fz.1≤i∧i < fz.2)) :
    ORel P ρ 0 cs.size (.cells false xs) (.cells cs t fz):=by
  have hl:=h.length
  have hcl:cs.size = us.length + rest.length:=by rw [← Array.length_toList,hc]; simp
  refine ⟨rfl,by omega,fun _=>hz,fun i v hv=>⟨?_, ?_⟩⟩
  · exact List.all_eq_true.1 hk v (List.mem_of_getElem? hv)
  · obtain ⟨u,hu,hrel⟩:=All2.get h i v hv
    refine ⟨u, ?_,hrel⟩
    have:cs.toList[0 + i]? = some u:=by
      rw [hc,Nat.zero_add,List.getElem?_append_left (List.getElem?_eq_some_iff.1 hu).1]; exact hu
    simpa using this
theorem mkCellsG {ty:Option Nat} {xs us rest:List Value} (h:VRels ρ xs us) (hk:xs.all cellOk = true) {cs:Array Value} (hc:cs.toList = us ++ rest) {t:TypeId} {fz:Nat × Nat} (hz:∀ i,i < cs.size + frzX → ¬ (fz.1≤i∧i < fz.2)) (hT:∀ T,ty = some T→t = T / 2∧(T % 2 = 1→rest = [])) :
    ORel P ρ 0 cs.size (.mk ty xs) (.cells cs t fz):=by
  obtain ⟨h1,h2,h3,h4⟩:=mkCells (P:=P) h hk hc (t:=t) hz
  exact ORel.mk.2 ⟨cs,t,fz,rfl,fun T e=>⟨(hT T e).1,rfl,fun h5=>by rw [← Array.length_toList,hc,(hT T e).2 h5,List.append_nil]; exact h.length⟩,h1,h2,h3 rfl,h4⟩
theorem zero_rel {t:TypeId} {z:List Value} (h:zeroOf P t = some z):∃ it zv,P.info? t = some it∧it.zero = some zv∧z = zv.cells.toList∧z.all flat0 = true:=by
  unfold zeroOf at h
  split at h
  · rename_i zv hzv
    obtain ⟨it,hi,hz2⟩:=Option.bind_eq_some_iff.1 hzv
    split at h
    · rename_i hall
      injection h with h
      subst h
      exact ⟨it,zv,hi,hz2,vcells_eq zv,hall⟩
    · cases h
  · cases h
theorem flat0_cellOk {v:Value} (h:flat0 v = true):cellOk v = true:=by
  unfold flat0 at h
  split at h <;> first | rfl | cases h
theorem all_flat {z:List Value} (h:z.all flat0 = true):VRels ρ z z∧z.all cellOk = true:=by
  refine ⟨All2.of_get rfl fun i x y hx hy=>?_,List.all_eq_true.2 fun v hv=>flat0_cellOk (List.all_eq_true.1 h v hv)⟩
  rw [hx] at hy
  injection hy with hy
  subst hy
  exact .flat0 (List.all_eq_true.1 h x (List.mem_of_getElem? hx))
theorem run_zero {t:TypeId} {it:TypeInfo} {zv:Value} (hi:P.info? t = some it) (hz:it.zero = some zv) (w:World):(zeroValue t).run P w = .ok zv w:=by
  simp [zeroValue,typeInfo,hi,hz]
theorem so_alloc (w:World) (o:Obj):SameOut w (w.alloc o):=⟨rfl,rfl,rfl,by first | exact Nat.le_refl _ | exact Nat.le_add_right _ _⟩
theorem SR.newG (s:SR P B nt E D ρ lm g m a w) {ty:Option Nat} {xs us rest:List Value} (h:VRels ρ xs us) (hk:xs.all cellOk = true) {cs:Array Value} (hc:cs.toList = us ++ rest) {t:TypeId} {fz:Nat × Nat}
    (hz:∀ i,i < cs.size + frzX → ¬ (fz.1≤i∧i < fz.2)) (hT:∀ T,ty = some T→t = T / 2∧(T % 2 = 1→rest = [])) {w':World} (e:w'.heap = w.heap.push (.cells cs t fz)) (so:SameOut w w') :
    SR P B nt E D (ρ ++ [(w.heap.size,0,cs.size)]) lm g { m with h:=m.h.push (.mk ty xs) } a w'∧(ρ ++ [(w.heap.size,0,cs.size)])[m.h.n]? = some (w.heap.size,0,cs.size) :=
  ⟨s.push (AObj.mk_ro _ _) e (mkCellsG (h.mono (.snoc _ _)) hk hc hz hT) so,by rw [← s.heap.len]; exact get_snoc_eq _ _⟩
theorem SR.newH (s:SR P B nt E D ρ lm g m a w) {xs us rest:List Value} (h:VRels ρ xs us) (hk:xs.all cellOk = true) {cs:Array Value} (hc:cs.toList = us ++ rest) {t:TypeId} {fz:Nat × Nat}
    (hz:∀ i,i < cs.size + frzX → ¬ (fz.1≤i∧i < fz.2)) {w':World} (e:w'.heap = w.heap.push (.cells cs t fz)) (so:SameOut w w') :
    SR P B nt E D (ρ ++ [(w.heap.size,0,cs.size)]) lm g { m with h:=m.h.push (.cells false xs) } a w'∧(ρ ++ [(w.heap.size,0,cs.size)])[m.h.n]? = some (w.heap.size,0,cs.size) :=
  ⟨s.push rfl e (mkCells (h.mono (.snoc _ _)) hk hc hz) so,by rw [← s.heap.len]; exact get_snoc_eq _ _⟩
theorem newLoc_inv {t:Nat} {o:AObj} {m':Mem} (h:m.newLoc t o = some m'):lget m.lc (2 * t + 1) = none∧m' = { m with lc:=(2 * t + 1,o) :: m.lc }:=by
  unfold Mem.newLoc at h
  split at h
  · rename_i hn; injection h with h; exact ⟨hn,h.symm⟩
  · cases h
theorem half1 (t:Nat):t = (2 * t + 1) / 2:=by omega
theorem e_new {loH bl:Bool} (s:SR P B nt E D ρ lm (fget fr) m a w) {o:Oper} {t:TypeId} (ho:o.op = .alloc t) {z:List Value} (hz:zeroOf P t = some z) {d:Nat} {call:CallF} {yld:YieldF} {v:Value} {m':Mem}
    (hv:(if loH then EOp.newL d z else if bl then EOp.newT (2 * t + 1) z else EOp.newH z).ev call yld fr m = some (v,m')):EOk P B nt E D (fget fr) m' a v ((execOp a.eval o).run P w):=by
  obtain ⟨it,zv,hi,hzv,rfl,hfl⟩:=zero_rel hz
  obtain ⟨h1,h2⟩:=all_flat (ρ:=ρ) hfl
  have hrun:(Instr.alloc t true (.tuple #[])).run P w = .ok (.pointer (some ⟨w.heap.size,0,none⟩)) (w.alloc (.cells zv.cells t)):=by
    simp [Instr.alloc,run_zero hi hzv,newVar,newRow]
  have he:execOp a.eval o = (do pure (Next.value (← Instr.alloc t true (.tuple #[]))):Sem Next):=by simp only [execOp,ho]
  cases loH with
  | true =>
    simp only [if_true,EOp.ev] at hv
    obtain ⟨m1,hm1,hv⟩:=Option.map_eq_some_iff.1 hv
    injection hv with e1 e2
    subst e1 e2
    obtain ⟨hn,rfl⟩:=newLoc_inv hm1
    have hs:=s.newLoc hn (o:=.cells false zv.cells.toList) rfl (x:=.cells zv.cells t) (w':=w.alloc (.cells zv.cells t)) rfl (mkCells h1 h2 (rest:=[]) (by simp) (unfrozen0 _)) (so_alloc _ _)
    exact .val he hrun hs (.inr (.inl ⟨2 * d + 1,0,w.heap.size,rfl,by simp [setLm],rfl⟩))
  | false =>
    cases bl with
    | true =>
      simp only [Bool.false_eq_true,if_false,if_true,EOp.ev] at hv
      injection hv with hv
      injection hv with e1 e2
      subst e1 e2
      obtain ⟨hs,hg⟩:=s.newG (ty:=some (2 * t + 1)) h1 h2 (rest:=[]) (cs:=zv.cells) (t:=t) (fz:=(0,0)) (by simp) (unfrozen0 _) (fun T e=>by injection e with e; subst e; exact ⟨half1 t,fun _=>rfl⟩) (w':=w.alloc (.cells zv.cells t)) rfl (so_alloc _ _)
      exact .val he hrun hs (.inl (.ptr _ _ _ _ _ hg))
    | false =>
      simp only [Bool.false_eq_true,if_false,EOp.ev] at hv
      injection hv with hv
      injection hv with e1 e2
      subst e1 e2
      obtain ⟨hs,hg⟩:=s.newH h1 h2 (rest:=[]) (cs:=zv.cells) (t:=t) (fz:=(0,0)) (by simp) (unfrozen0 _) (w':=w.alloc (.cells zv.cells t)) rfl (so_alloc _ _)
      exact .val he hrun hs (.inl (.ptr _ _ _ _ _ hg))
theorem e_box {loH:Bool} (s:SR P B nt E D ρ lm (fget fr) m a w) {o:Oper} {t:TypeId} {x:Operand} {x':Opd} (ho:o.op = .box t x) (hx:liftOpd P x = some x') {d n:Nat} {call:CallF} {yld:YieldF} {v:Value} {m':Mem}
    (hv:(if loH then EOp.boxL d n x' else EOp.boxH n x').ev call yld fr m = some (v,m')):EOk P B nt E D (fget fr) m' a v ((execOp a.eval o).run P w):=by
  have hr:=opdRel_act s x x' hx
  have hrun:(Instr.box t (a.eval x)).run P w = .ok (.pointer (some ⟨w.heap.size,0,none⟩)) (w.alloc (.cells (a.eval x).cells t)):=by
    simp [Instr.box,newVar,newRow]
  have he:execOp a.eval o = (do pure (Next.value (← Instr.box t (a.eval x))):Sem Next):=by simp only [execOp,ho]
  cases loH with
  | true =>
    simp only [if_true,EOp.ev] at hv
    split at hv
    · rename_i hb
      have h1:=cells_rel hr hb.2
      obtain ⟨m1,hm1,hv⟩:=Option.map_eq_some_iff.1 hv
      injection hv with e1 e2
      subst e1 e2
      obtain ⟨hn,rfl⟩:=newLoc_inv hm1
      have hs:=s.newLoc hn (o:=.cells false (vcells (opd fr x'))) rfl (x:=.cells (a.eval x).cells t) (w':=w.alloc (.cells (a.eval x).cells t)) rfl (mkCells h1 hb.2 (rest:=[]) (by simp) (unfrozen0 _)) (so_alloc _ _)
      exact .val he hrun hs (.inr (.inl ⟨2 * d + 1,0,w.heap.size,rfl,by simp [setLm],rfl⟩))
    · cases hv
  | false =>
    simp only [Bool.false_eq_true,if_false,EOp.ev] at hv
    split at hv
    · rename_i hb
      have h1:=cells_rel hr hb.2
      injection hv with hv
      injection hv with e1 e2
      subst e1 e2
      obtain ⟨hs,hg⟩:=s.newH h1 hb.2 (rest:=[]) (cs:=(a.eval x).cells) (t:=t) (fz:=(0,0)) (by simp) (unfrozen0 _) (w':=w.alloc (.cells (a.eval x).cells t)) rfl (so_alloc _ _)
      exact .val he hrun hs (.inl (.ptr _ _ _ _ _ hg))
    · cases hv
theorem litCells_eq (len:Nat) (z:Array Value):(((Array.range (len * z.size)).map (z[· % z.size]!))).toList = litCells len z.toList:=by
  apply List.ext_getElem?
  intro i
  unfold litCells
  by_cases h:i < len * z.size
  · have hz:0 < z.size:=by
      rcases Nat.eq_zero_or_pos z.size with h0 | h0
      · rw [h0] at h; simp at h
      · exact h0
    have hm:=Nat.mod_lt i hz
    have h1:(((Array.range (len * z.size)).map (z[· % z.size]!))).toList[i]? = some z[i % z.size]:=by
      simp [h,getElem!_pos z (i % z.size) hm]
    rw [h1]
    symm
    clear h1
    induction len generalizing i with
    | zero=>simp at h
    | succ len ih =>
      rw [List.replicate_succ,List.flatten_cons]
      by_cases hi:i < z.size
      · rw [List.getElem?_append_left (by simpa using hi)]
        simp [Nat.mod_eq_of_lt hi,hi]
      · have hi':z.size≤i:=Nat.le_of_not_lt hi
        rw [List.getElem?_append_right (by simpa using hi')]
        have h2:i - z.size < len * z.size:=by rw [Nat.succ_mul] at h; omega
        have h3:(i - z.size) % z.size = i % z.size:=by rw [Nat.mod_eq_sub_mod hi']
        have:=ih (i - z.size) h2 (Nat.mod_lt _ hz)
        simp only [Array.length_toList]
        rw [this]
        simp [h3]
  · have h1:len * z.size≤i:=Nat.le_of_not_lt h
    rw [List.getElem?_eq_none (by simpa using h1),List.getElem?_eq_none]
    simp [List.length_flatten]
    simpa using h1
theorem litCells_flat {z:List Value} (h:z.all flat0 = true) (n:Nat):(litCells n z).all flat0 = true:=by
  unfold litCells
  refine List.all_eq_true.2 fun v hv=>?_
  obtain ⟨l,hl,hv⟩:=List.mem_flatten.1 hv
  rw [(List.mem_replicate.1 hl).2] at hv
  exact List.all_eq_true.1 h v hv
theorem setAll_all {p:Value→Bool}:∀ (vs xs:List Value) (i:Nat),xs.all p = true→vs.all p = true→(setAll xs i vs).all p = true
  | [],xs,i,h,_=>h
  | v :: vs,xs,i,h,hv=>by
    simp only [List.all_cons,Bool.and_eq_true] at hv
    refine setAll_all vs _ (i + 1) (List.all_eq_true.2 fun x hx=>?_) hv.2
    rcases List.mem_or_eq_of_mem_set hx with h1 | h1
    · exact List.all_eq_true.1 h x h1
    · rw [h1]; exact hv.1
theorem fillA_ok:∀ (ps:List (Nat × Nat × Value)) (zs cs:List Value),fillA zs ps = some cs→zs.all cellOk = true→cs.all cellOk = true∧cs.length = zs.length
  | [],zs,cs,h,hz=>by simp only [fillA,Option.some.injEq] at h; subst h; exact ⟨hz,rfl⟩
  | (off,size,v) :: r,zs,cs,h,hz=>by
    simp only [fillA] at h
    split at h
    · rename_i hb
      obtain ⟨h1,h2⟩:=fillA_ok r _ cs h (setAll_all _ _ _ hz hb.2.2)
      exact ⟨h1,by rw [h2,setAll_length]⟩
    · cases h
theorem e_lit {loH:Bool} (s:SR P B nt E D ρ lm (fget fr) m a w) {o:Oper} {t e:TypeId} {len:Nat} {parts:Array (Nat × Operand)} (ho:o.op = .buildSlice t len parts) (hu:P.underlying t = some (.slice e)) {n:Nat} (hs:szOf P e = some n)
    {z:List Value} (hz:zeroOf P e = some z) (hb:z.length = n∧0 < len * n∧len * n≤16777216) {l:List (Nat × Nat × Opd)} (hl:liftParts P (fun i=>some (i * n,n)) parts.toList = some l) {d:Nat} {call:CallF} {yld:YieldF} {v:Value} {m':Mem}
    (hv:(if loH then EOp.litL d len n z l else EOp.litH len n z l).ev call yld fr m = some (v,m')):EOk P B nt E D (fget fr) m' a v ((execOp a.eval o).run P w):=by
  obtain ⟨it,zv,hi,hzv,rfl,hfl⟩:=zero_rel hz
  have hr:=opdRel_act s
  have hit:it.size = n:=by unfold szOf at hs; rw [hi] at hs; simpa using hs
  have hzs:zv.cells.size = n:=by simpa using hb.1
  have hlf:=litCells_flat hfl len
  obtain ⟨r1,r2⟩:=all_flat (ρ:=ρ) hlf
  have key:∀ cs,fillA (litCells len zv.cells.toList) (evParts fr l) = some cs→∃ ds:Array Value,VRels ρ cs ds.toList∧cs.all cellOk = true ∧
      (Instr.buildSlice t len (parts.map fun (i,x)=>(i,a.eval x))).run P w = .ok (.slice (some ⟨w.heap.size,0,none⟩) len len) (w.alloc (.cells ds e))∧ds.size = len * n:=fun cs hcs=>by
    obtain ⟨ds,h1,h2⟩:=fill_rel hr _ _ hl (litCells len zv.cells.toList) ((Array.range (len * n)).map (zv.cells[· % zv.cells.size]!)) (by rw [← hzs,litCells_eq]; exact r1) cs hcs
    obtain ⟨h3,h4⟩:=fillA_ok _ _ _ hcs r2
    have hds:ds.size = len * n:=by
      have h5:=h2.length
      rw [h4] at h5
      rw [← litCells_eq] at h5
      simpa [hzs] using h5.symm
    have hparts:(parts.map fun (i,x)=>(i,a.eval x)).toList = parts.toList.map fun p=>(p.1,a.eval p.2):=by simp
    refine ⟨ds,h2,h3, ?_,hds⟩
    have h0 : ¬ len * n = 0:=by omega
    have:=run_buildSlice (P:=P) w t e len (parts.map fun (i,x)=>(i,a.eval x)) ds it zv hu hi hzv (by rw [hit]; have:=hb.2.2; omega) (by rw [hit]; exact h0) (by
        rw [hit,hparts]; exact h1)
    exact this
  have he:execOp a.eval o = (do pure (Next.value (← Instr.buildSlice t len (parts.map fun (i,x)=>(i,a.eval x)))):Sem Next):=by simp only [execOp,ho]
  cases loH with
  | true =>
    simp only [if_true,EOp.ev] at hv
    split at hv
    · rename_i cs hcs
      obtain ⟨m1,hm1,hv⟩:=Option.map_eq_some_iff.1 hv
      injection hv with e1 e2
      subst e1 e2
      obtain ⟨hn,rfl⟩:=newLoc_inv hm1
      obtain ⟨ds,k1,k2,k3,k4⟩:=key cs hcs
      have hs:=s.newLoc hn (o:=.cells false cs) rfl (x:=.cells ds e) (w':=w.alloc (.cells ds e)) rfl (mkCells k1 k2 (rest:=[]) (by simp) (unfrozen0 _)) (so_alloc _ _)
      exact .val he k3 hs (.inr (.inr ⟨2 * d + 1,len,n,w.heap.size,rfl,by simp [setLm],rfl⟩))
    · cases hv
  | false =>
    simp only [Bool.false_eq_true,if_false,EOp.ev] at hv
    split at hv
    · rename_i cs hcs
      injection hv with hv
      injection hv with e1 e2
      subst e1 e2
      obtain ⟨ds,k1,k2,k3,k4⟩:=key cs hcs
      obtain ⟨hs,hg⟩:=s.newH k1 k2 (rest:=[]) (cs:=ds) (t:=e) (fz:=(0,0)) (by simp) (unfrozen0 _) (w':=w.alloc (.cells ds e)) rfl (so_alloc _ _)
      have:=VRel.sl (ρ:=ρ ++ [(w.heap.size,0,ds.size)]) m.h.n 0 w.heap.size 0 ds.size len n len hg (Nat.le_refl _) (by rw [k4]; omega)
      exact .val he k3 hs (.inl this)
    · cases hv
end Go.Proofs.YtakmapoompffgaaGreatDoor.AM
namespace Go.Proofs.YtakmapoompffgaaGreatDoor.AM
open Go
variable {P:Program} {B nt:Nat} {E:Ent} {D:List Nat} {ρ:Rho} {lm:Nat→Option Nat} {fr:Fr} {m:Mem} {a:Act} {w:World} {g:Nat→Value}
def setBlk (w:World) (c:Nat) (x:Obj):World:={ w with heap:=w.heap.setIfInBounds c x }
theorem so_setBlk (w:World) (c:Nat) (x:Obj):SameOut w (setBlk w c x):=⟨rfl,rfl,rfl,by first | exact Nat.le_refl _ | exact Nat.le_add_right _ _⟩
theorem setCell_blk {w:World} {c o:Nat} {cur:Array Value} {t:TypeId} {fz:Nat × Nat} (h:w.heap[c]? = some (.cells cur t fz)) (v:Value) :
    w.setCell ⟨c,o,none⟩ v = setBlk w c (.cells (cur.setIfInBounds o v) t fz):=by
  unfold World.setCell setBlk
  congr 1
  apply Array.ext_getElem?
  intro i
  have hlt:=(Array.getElem?_eq_some_iff.1 h).1
  rw [Array.getElem?_modify,getElem?_setIfInBounds_cases _ _ _ _ hlt]
  by_cases e:i = c
  · subst e; simp [h]
  · simp [e,Ne.symm e]
theorem setBlk_get {w:World} {c:Nat} {x y:Obj} (h:w.heap[c]? = some y):(setBlk w c x).heap[c]? = some x:=by
  have hlt:=(Array.getElem?_eq_some_iff.1 h).1
  unfold setBlk
  simp [hlt]
theorem setBlk_set (w:World) (c:Nat) (x y:Obj):setBlk (setBlk w c x) c y = setBlk w c y:=by
  unfold setBlk
  simp
theorem setBlk_self {w:World} {c:Nat} {x:Obj} (h:w.heap[c]? = some x):setBlk w c x = w:=by
  unfold setBlk
  have:w.heap.setIfInBounds c x = w.heap:=by
    apply Array.ext_getElem?
    intro i
    have hlt:=(Array.getElem?_eq_some_iff.1 h).1
    rw [getElem?_setIfInBounds_cases _ _ _ _ hlt]
    by_cases e:i = c
    · subst e; simp [h]
    · simp [e]
  rw [this]
theorem run_storeCells (P:Program) (c o:Nat) (t:TypeId) (fz:Nat × Nat):∀ (vs:List Value) (i:Nat) (cur:Array Value) (w:World),w.heap[c]? = some (.cells cur t fz)→o + i + vs.length≤cur.size →
    (∀ j,j < cur.size → ¬ (fz.1≤j∧j < fz.2))→(∀ v∈vs,v.oneCell' = true)→(storeCells ⟨c,o,none⟩ vs i).run P w = .ok () (setBlk w c (.cells (setAll cur.toList (o + i) vs).toArray t fz))
  | [],i,cur,w,hg,_,_,_=>by
    simp only [storeCells,setAll,Array.toArray_toList]
    rw [setBlk_self hg]
    rfl
  | v :: rest,i,cur,w,hg,hl,hz,h1=>by
    have hi:o + i < cur.size:=by simp at hl; omega
    have hadd:(⟨c,o,none⟩:Addr).add i = ⟨c,o + i,none⟩:=by rw [add_off _ rfl]; rfl
    have hcell:w.cell? ⟨c,o + i,none⟩ = some cur[o + i]:=by simp [World.cell?,hg,hi]
    have hfro:w.frozen? ⟨c,o + i,none⟩ = false:=by
      have:=hz (o + i) hi
      simp only [World.frozen?,hg]
      simp only [Bool.and_eq_false_iff,decide_eq_false_iff_not]
      omega
    have hst:(store ((⟨c,o,none⟩:Addr).add i) v).run P w = .ok () (setBlk w c (.cells (cur.setIfInBounds (o + i) v) t fz)):=by
      rw [hadd,run_store P w _ v _ (h1 v (by simp)),hcell]
      simp only [hfro,Bool.false_eq_true,if_false]
      rw [setCell_blk hg]
    have ih:=run_storeCells P c o t fz rest (i + 1) (cur.setIfInBounds (o + i) v) (setBlk w c (.cells (cur.setIfInBounds (o + i) v) t fz)) (setBlk_get hg) (by simp at hl ⊢; omega) (by simpa using hz) (fun x hx=>h1 x (by simp [hx]))
    simp only [storeCells,Sem.run_bind,hst,Result.andThen_ok,ih,setBlk_set,setAll]
    simp [Nat.add_assoc]
theorem setAll_get:∀ (vs xs:List Value) (i j:Nat),i + vs.length≤xs.length→(setAll xs i vs)[j]? = if i≤j∧j < i + vs.length then vs[j - i]? else xs[j]?
  | [],xs,i,j,_=>by simp only [setAll,List.length_nil,Nat.add_zero]; rw [if_neg (by omega)]
  | v :: vs,xs,i,j,h=>by
    rw [setAll,setAll_get vs _ (i + 1) j (by simp at h ⊢; omega)]
    simp only [List.length_cons] at h ⊢
    by_cases h1:i + 1≤j∧j < i + 1 + vs.length
    · rw [if_pos h1,if_pos (by omega)]
      have:j - i = (j - (i + 1)) + 1:=by omega
      rw [this]; simp
    · rw [if_neg h1]
      by_cases h2:j = i
      · subst h2; rw [if_pos (by omega)]; simp; rw [List.getElem?_set_self (by omega)]
      · rw [if_neg (by omega)]; simp [Ne.symm h2]
theorem cells_wr {cs:Array Value} {δ:Nat} {xs vs us:List Value} (h:CellRel ρ cs δ xs) (hv:VRels ρ vs us) (hk:vs.all cellOk = true) {off:Nat} (hle:off + vs.length≤xs.length) (hN:δ + xs.length≤cs.size) :
    CellRel ρ (setAll cs.toList (δ + off) us).toArray δ (setAll xs off vs):=by
  intro i v hi
  have hl:=hv.length
  rw [setAll_get _ _ _ _ hle] at hi
  have hg:(setAll cs.toList (δ + off) us).toArray[δ + i]? = (setAll cs.toList (δ + off) us)[δ + i]?:=by simp
  rw [hg,setAll_get _ _ _ _ (by simp; omega)]
  by_cases h1:off≤i∧i < off + vs.length
  · rw [if_pos h1] at hi
    rw [if_pos (by omega)]
    obtain ⟨u,hu,hrel⟩:=All2.get hv _ v hi
    have:δ + i - (δ + off) = i - off:=by omega
    rw [this]
    exact ⟨List.all_eq_true.1 hk v (List.mem_of_getElem? hi),u,hu,hrel⟩
  · rw [if_neg h1] at hi
    rw [if_neg (by omega)]
    obtain ⟨k1,u,k2,k3⟩:=h i v hi
    exact ⟨k1,u,by simpa using k2,k3⟩
theorem SR.wr (s:SR P B nt E D ρ lm g m a w) {p p':Addr} (hp:VRelF ρ lm (.pointer (some p)) (.pointer (some p'))) {vs us:List Value} (hv:VRels ρ vs us) (hk:vs.all cellOk = true) (h1:∀ u∈us,u.oneCell' = true) {m':Mem} (h:m.wr p vs = some m') :
    ∃ w',(storeCells p' us).run P w = .ok () w'∧SR P B nt E D ρ lm g m' a w':=by
  have key:∃ ty xs,m.obj p = some (.mk ty xs)∧p.off + vs.length≤xs.length∧m' = m.putObj p (.mk ty (setAll xs p.off vs)):=by
    unfold Mem.wr at h
    split at h
    · rename_i xs ho
      split at h
      · rename_i hle
        injection h with h
        exact ⟨none,xs,ho,hle,h.symm⟩
      · cases h
    · rename_i t xs ho
      split at h
      · rename_i hle
        injection h with h
        exact ⟨some t,xs,ho,hle,h.symm⟩
      · cases h
    · cases h
  obtain ⟨ty,xs,ho,hle,rfl⟩:=key
  obtain ⟨δ,N,x,hx,hrel,hp'⟩:=s.objAt hp ho
  have hrel0:=hrel
  obtain ⟨cs,t,fz,rfl,e0,e1,e2,e3,e4⟩:=ORel.mk.1 hrel
  have hl:=hv.length
  have hst:=run_storeCells P p'.block (δ + p.off) t fz us 0 cs w hx (by omega) (fun j hj=>e3 j (by omega)) h1
  refine ⟨_,by rw [hp']; exact hst,s.putObj hp ho (AObj.mk_ro _ _) (AObj.mk_ro _ _) hx hrel0 (x':=.cells (setAll cs.toList (δ + p.off) us).toArray t fz) (fun δ' N' hd hr=>?_) (by simp [setBlk]) (so_setBlk _ _ _)⟩
  have:δ' = δ:=by rw [hp'] at hd; simp at hd; omega
  subst this
  obtain ⟨cs',t',fz',he,f0,f1,f2,f3,f4⟩:=ORel.mk.1 hr
  injection he with g1 g2 g3
  subst g1 g2 g3
  exact ORel.mk.2 ⟨_,_,_,rfl,(fun T e=>⟨(f0 T e).1,(f0 T e).2.1,fun h2=>by rw [setAll_length]; exact (f0 T e).2.2 h2⟩),by simp [setAll_length]; exact f1,by rw [setAll_length]; exact f2,f3,cells_wr f4 hv hk hle (by omega)⟩
theorem e_store (s:SR P B nt E D ρ lm (fget fr) m a w) {o:Oper} {t:TypeId} {x y:Operand} {x' y':Opd} (ho:o.op = .store t x y) (hx:liftOpd P x = some x') (hy:liftOpd P y = some y') {n:Nat} (hn:szOf P t = some n) {call:CallF} {yld:YieldF} {v:Value} {m':Mem}
    (hv:(EOp.store n x' y').ev call yld fr m = some (v,m')):EOk P B nt E D (fget fr) m' a v ((execOp a.eval o).run P w):=by
  have h1:=opdRel_act s x x' hx
  have h2:=opdRel_act s y y' hy
  simp only [EOp.ev] at hv
  split at hv
  · rename_i p e
    rw [e] at h1
    obtain ⟨p',e2,hsp⟩:=h1.psome
    rw [e2] at h1
    split at hv
    · rename_i hb
      obtain ⟨m1,hm1,hv⟩:=Option.map_eq_some_iff.1 hv
      injection hv with g1 g2
      subst g1 g2
      have hc:=cells_rel h2 hb.2
      have hone:=cells_one hc hb.2
      obtain ⟨w',hrun,hs⟩:=s.wr h1 hc hb.2 hone hm1
      have hsz:(a.eval y).cells.size = n:=by rw [← Array.length_toList,← hc.length]; exact hb.1
      refine ⟨.skip,undef,w', ρ,lm, ?_,.inr ⟨rfl,rfl⟩,hs,.undef _⟩
      simp only [execOp,ho,Instr.storeAt,e2,Instr.sureAddr,storeVar,Sem.run_bind,Sem.run_pure,Result.andThen_ok,run_szOf hn,hsz]
      simp [hrun]
    · cases hv
  · cases hv
theorem bytes_rel (s:ByteArray):VRels ρ (s.data.toList.map fun b=>Value.int .u8 b.toNat) (s.data.toList.map fun b=>Value.int .u8 b.toNat)∧(s.data.toList.map fun b=>Value.int .u8 (b.toNat:Int)).all cellOk = true:=by
  constructor
  · exact All2.of_get rfl fun i x y hx hy=>by
      rw [hx] at hy
      injection hy with hy
      subst hy
      rw [List.getElem?_map] at hx
      obtain ⟨b,_,rfl⟩:=Option.map_eq_some_iff.1 hx
      exact .int _ _
  · refine List.all_eq_true.2 fun v hv=>?_
    obtain ⟨b,_,rfl⟩:=List.mem_map.1 hv
    rfl
theorem run_bytes_of {w:World} {src dst e:TypeId} {s:ByteArray} (hs:P.underlying src = some .string) (hd:P.underlying dst = some (.slice e)) (he:P.underlying e = some (.int .u8)) :
    ∃ (k:Nat) (cs:Array Value) (rest:List Value) (fz:Nat × Nat),s.size≤k∧cs.size = k∧cs.toList = (s.data.toList.map fun b=>Value.int .u8 b.toNat) ++ rest∧(∀ i,i < cs.size → ¬ (fz.1≤i∧i < fz.2)) ∧
      (convert src dst (.string s)).run P w = .ok (.slice (some ⟨w.heap.size,0,none⟩) s.size k) (w.drew.alloc (.cells cs e fz)):=by
  have h:=run_bytes_of_string (P:=P) w src dst e s hs hd he
  have hge:=grownCap_ge w s.size 0 e
  refine ⟨grownCap w s.size 0 e,bytesRow s (grownCap w s.size 0 e),List.replicate (grownCap w s.size 0 e - s.size) (.int .u8 0),_,hge, ?_, ?_, ?_,h⟩
  · simp [bytesRow]; omega
  · simp [bytesRow]
  · intro i hi hh; simp only at hh; omega
theorem e_s2b (s:SR P B nt E D ρ lm (fget fr) m a w) {o:Oper} {src dst e:TypeId} {x:Operand} {x':Opd} (ho:o.op = .convert src dst x) (hx:liftOpd P x = some x') (hs:P.underlying src = some .string) (hd:P.underlying dst = some (.slice e))
    (he:P.underlying e = some (.int .u8)) {call:CallF} {yld:YieldF} {v:Value} {m':Mem} (hv:(EOp.s2b x').ev call yld fr m = some (v,m')):EOk P B nt E D (fget fr) m' a v ((execOp a.eval o).run P w):=by
  have h1:=opdRel_act s x x' hx
  simp only [EOp.ev] at hv
  split at hv
  · rename_i st e1
    rw [e1] at h1
    have h2:=h1.string
    split at hv
    · injection hv with hv
      injection hv with g1 g2
      subst g1 g2
      obtain ⟨k,cs,rest,fz,k1,k2,k3,k4,k5⟩:=run_bytes_of (P:=P) (w:=w) (s:=st) hs hd he
      obtain ⟨r1,r2⟩:=bytes_rel (ρ:=ρ) st
      obtain ⟨hs',hg⟩:=s.newH r1 r2 k3 (t:=e) (fun i hi=>k4 i (Nat.lt_of_lt_of_le hi (Nat.le_of_eq (by rw [(‹frzX = 0∧st.size≤9223372036854775807›).1,Nat.add_zero])))) (w':=w.drew.alloc (.cells cs e fz)) rfl ⟨rfl,rfl,rfl,by first | exact Nat.le_refl _ | exact Nat.le_add_right _ _⟩
      have:=VRel.sl (ρ:=ρ ++ [(w.heap.size,0,cs.size)]) m.h.n 0 w.heap.size 0 cs.size st.size 1 k hg k1 (by omega)
      exact .val (s:=convert src dst (a.eval x)) (by simp only [execOp,ho]) (by rw [h2]; exact k5) hs' (.inl this)
    · cases hv
  · cases hv
theorem runes_ints (s:ByteArray):∀ (n i:Nat) (acc:Array Value),(∀ v∈acc.toList,∃ k,v = .int .i32 k)→∀ v∈(Conv.runesFrom s n i acc).toList,∃ k,v = .int .i32 k
  | 0,i,acc,h=>by simpa [Conv.runesFrom] using h
  | n + 1,i,acc,h=>by
    unfold Conv.runesFrom
    split
    · refine runes_ints s n _ _ ?_
      intro v hv
      simp only [Array.toList_push,List.mem_append,List.mem_singleton] at hv
      rcases hv with hv | hv
      · exact h v hv
      · exact ⟨_,hv⟩
    · exact h
theorem size_runes (s:ByteArray):(Conv.runesFrom s s.size 0 #[]).size≤s.size:=by
  have:=size_runesFrom s s.size 0 #[]
  simpa using this
theorem e_s2r (s:SR P B nt E D ρ lm (fget fr) m a w) {o:Oper} {src dst e:TypeId} {x:Operand} {x':Opd} (ho:o.op = .convert src dst x) (hx:liftOpd P x = some x') (hs:P.underlying src = some .string) (hd:P.underlying dst = some (.slice e))
    (he:P.underlying e = some (.int .i32)) {call:CallF} {yld:YieldF} {v:Value} {m':Mem} (hv:(EOp.s2r x').ev call yld fr m = some (v,m')):EOk P B nt E D (fget fr) m' a v ((execOp a.eval o).run P w):=by
  have h1:=opdRel_act s x x' hx
  simp only [EOp.ev] at hv
  split at hv
  · rename_i st e1
    rw [e1] at h1
    have h2:=h1.string
    split at hv
    · rename_i hle
      injection hv with hv
      injection hv with g1 g2
      subst g1 g2
      have hsz:=size_runes st
      have hint:=runes_ints st st.size 0 #[] (by simp)
      have hrun:=run_runes_of_string (P:=P) w src dst e st hs hd he (by omega)
      generalize hR:Conv.runesFrom st st.size 0 #[] = R at *
      have hge:=grownCap_ge w R.size 0 e
      have r1:VRels ρ R.toList R.toList:=All2.of_get rfl fun i x y hx hy=>by
        rw [hx] at hy
        injection hy with hy
        subst hy
        obtain ⟨k,rfl⟩:=hint x (List.mem_of_getElem? hx)
        exact .int _ _
      have r2:R.toList.all cellOk = true:=List.all_eq_true.2 fun v hv=>by obtain ⟨k,rfl⟩:=hint v hv; rfl
      obtain ⟨hs',hg⟩:=s.newH r1 r2 (cs:=R ++ Array.replicate (grownCap w R.size 0 e - R.size) (.int .i32 0)) (rest:=List.replicate (grownCap w R.size 0 e - R.size) (.int .i32 0)) (by simp) (t:=e) (fz:=(0,0)) (unfrozen0 _)
        (w':=w.drew.alloc (.cells (R ++ Array.replicate (grownCap w R.size 0 e - R.size) (.int .i32 0)) e)) rfl ⟨rfl,rfl,rfl,by first | exact Nat.le_refl _ | exact Nat.le_add_right _ _⟩
      have:=VRel.sl m.h.n 0 w.heap.size 0 _ R.size 1 (grownCap w R.size 0 e) hg hge (by simp; omega)
      exact .val (s:=convert src dst (a.eval x)) (by simp only [execOp,ho]) (by rw [h2]; exact hrun) hs' (.inl this)
    · cases hv
  · cases hv
theorem e_rng (s:SR P B nt E D ρ lm (fget fr) m a w) {o:Oper} {t:TypeId} {x:Operand} {x':Opd} (ho:o.op = .range t x) (hx:liftOpd P x = some x') (ht:P.underlying t = some .string) {d:Nat} {call:CallF} {yld:YieldF} {v:Value} {m':Mem}
    (hv:(EOp.rngS d x').ev call yld fr m = some (v,m')):EOk P B nt E D (fget fr) m' a v ((execOp a.eval o).run P w):=by
  have h1:=opdRel_act s x x' hx
  simp only [EOp.ev] at hv
  split at hv
  · rename_i st e1
    rw [e1] at h1
    have h2:=h1.string
    obtain ⟨m1,hm1,hv⟩:=Option.map_eq_some_iff.1 hv
    injection hv with g1 g2
    subst g1 g2
    obtain ⟨hn,rfl⟩:=newLoc_inv hm1
    have hs:=s.newLoc hn (o:=.siter st 0) rfl (x:=.stringIter st 0) (N:=0) (w':=w.alloc (.stringIter st 0)) rfl ⟨rfl,rfl⟩ (so_alloc _ _)
    refine .val (s:=Instr.range t (a.eval x)) (u:=.pointer (some ⟨w.heap.size,0,none⟩)) (by simp only [execOp,ho]) ?_ hs (.inr (.inl ⟨2 * d + 1,0,w.heap.size,rfl,by simp [setLm],rfl⟩))
    rw [h2]
    simp [Instr.range,run_und ht]
  · cases hv
theorem run_getObj_of {w:World} {c:Nat} {x:Obj} (h:w.heap[c]? = some x) (hx:∀ cs t fz,x ≠ .cells cs t fz):(getObj c).run P w = .ok x w:=by
  cases x <;> first | exact absurd rfl (hx _ _ _) | simp [getObj,Sem.run,h]
theorem run_setObj_of {w:World} {c:Nat} {x:Obj} (y:Obj) (h:w.heap[c]? = some x) (hx:∀ cs t fz,x ≠ .cells cs t fz):(setObj c y).run P w = .ok () (setBlk w c y):=by
  cases x <;> first | exact absurd rfl (hx _ _ _) | simp [setObj,Sem.run,h,setBlk]
theorem e_nxt (s:SR P B nt E D ρ lm (fget fr) m a w) {o:Oper} {x:Operand} {x':Opd} (ho:o.op = .next x true) (hx:liftOpd P x = some x') {call:CallF} {yld:YieldF} {v:Value} {m':Mem}
    (hv:(EOp.nxtS x').ev call yld fr m = some (v,m')):EOk P B nt E D (fget fr) m' a v ((execOp a.eval o).run P w):=by
  have h1:=opdRel_act s x x' hx
  simp only [EOp.ev] at hv
  split at hv
  · rename_i p e1
    rw [e1] at h1
    obtain ⟨p',e2,hsp⟩:=h1.psome
    rw [e2] at h1
    split at hv
    · rename_i hoff
      split at hv
      · rename_i st pos hobj
        obtain ⟨δ,N,ob,k1,k2,k3⟩:=s.objAt h1 hobj
        have k2':=k2
        cases ob <;> simp only [ORel] at k2 <;> first | exact k2.elim | skip
        obtain ⟨rfl,rfl⟩:=k2
        rcases h1 with h | ⟨nm,of,c,g1,g2,g3⟩ | ⟨_,_,_,_,g,_⟩
        · cases h; simp at hoff
        · injection g1 with g1; injection g1 with g1; injection g3 with g3; injection g3 with g3
          subst g1 g3
          have hof:of = 0:=hoff.1
          subst hof
          split at hv
          · rename_i hlt
            injection hv with hv
            injection hv with g1 g4
            subst g1 g4
            have hs:=s.putObj (.inr (.inl ⟨nm,0,c,rfl,g2,rfl⟩)) hobj rfl (o':=.siter st (pos + (Utf8.decode st pos).2)) rfl k1 k2' (x':=.stringIter st (pos + (Utf8.decode st pos).2)) (fun _ _ _ _=>⟨rfl,rfl⟩) (w':=setBlk w c (.stringIter st (pos + (Utf8.decode st pos).2))) rfl (so_setBlk _ _ _)
            refine .val (s:=Instr.next (a.eval x) true o.type) (u:=.tuple #[.bool true,.int .i64 pos,.int .i32 (Utf8.decode st pos).1]) (by simp only [execOp,ho]) ?_ hs (.inl (.tuple _ _ rfl fun i x y hx hy=>?_))
            · rw [e2]
              have hget:=run_getObj_of (P:=P) k1 (by simp)
              have hset:=run_setObj_of (P:=P) (.stringIter st (pos + (Utf8.decode st pos).2)) k1 (by simp)
              simp only [Instr.next,Sem.run_bind,hget,Result.andThen_ok,hlt,if_true,hset]
              rfl
            · rw [hx] at hy
              injection hy with hy
              subst hy
              match i,hx with
              | 0,hx=>simp at hx; subst hx; exact .bool _
              | 1,hx=>simp at hx; subst hx; exact .int _ _
              | 2,hx=>simp at hx; subst hx; exact .int _ _
              | i + 3,hx=>simp at hx
          · rename_i hlt
            injection hv with hv
            injection hv with g1 g4
            subst g1 g4
            refine .val (s:=Instr.next (a.eval x) true o.type) (u:=.tuple #[.bool false]) (by simp only [execOp,ho]) ?_ s (.inl (.tuple _ _ rfl fun i x y hx hy=>?_))
            · rw [e2]
              have hget:=run_getObj_of (P:=P) k1 (by simp)
              simp only [Instr.next,Sem.run_bind,hget,Result.andThen_ok,hlt,if_false]
              rfl
            · rw [hx] at hy
              injection hy with hy
              subst hy
              match i,hx with
              | 0,hx=>simp at hx; subst hx; exact .bool _
              | i + 1,hx=>simp at hx
        · cases g
      · cases hv
    · cases hv
  · cases hv
end Go.Proofs.YtakmapoompffgaaGreatDoor.AM
namespace Go.Proofs.YtakmapoompffgaaGreatDoor.AM
open Go
variable {P:Program} {B nt:Nat} {E:Ent} {D:List Nat} {ρ:Rho} {lm:Nat→Option Nat} {fr:Fr} {m:Mem} {a:Act} {w:World} {g:Nat→Value}
theorem cell_heap {w w2:World} (h:w2.heap = w.heap) (p:Addr):w2.cell? p = w.cell? p:=by unfold World.cell?; rw [h]
theorem SR.source (s:SR P B nt E D ρ lm g m a w) {y u:Value} (h:VRelF ρ lm y u) {esz k:Nat} {ys:List Value} (hk:lenV y = some k) (hy:rdSlice m esz y = some ys) (hl:ys.length = k * esz) :
    (Builtin.lenOf u).run P w = .ok k w∧∀ j,j≤k→∃ us:List Value,us.length = j * esz∧VRels ρ (ys.take (j * esz)) us∧ys.all cellOk = true∧(∀ w2:World,w2.heap = w.heap→(Builtin.firstCells esz j u).run P w2 = .ok us.toArray w2):=by
  cases y <;> try (cases hk; done)
  case string st =>
    simp only [lenV,Option.some.injEq] at hk
    subst hk
    obtain rfl:=h.string
    simp only [rdSlice,Option.some.injEq] at hy
    subst hy
    have hb:st.data.size = st.size:=rfl
    refine ⟨by simp [Builtin.lenOf],fun j hj=>?_⟩
    obtain ⟨r1,r2⟩:=bytes_rel (ρ:=ρ) st
    have hesz:esz = 1∨st.size = 0:=by
      simp [hb] at hl
      rcases Nat.eq_zero_or_pos st.size with h0 | h0
      · exact .inr h0
      · left
        have:st.size * 1 = st.size * esz:=by omega
        exact (Nat.eq_of_mul_eq_mul_left h0 this).symm
    have hje:j * esz = j:=by
      rcases hesz with rfl | h0
      · simp
      · have:j = 0:=by omega
        subst this; simp
    rw [hje]
    have h3:VRels ρ ((st.data.toList.map fun b=>Value.int .u8 (b.toNat:Int)).take j) ((st.data.toList.map fun b=>Value.int .u8 (b.toNat:Int)).take j):=All2.take r1 j
    refine ⟨_,by simp [hb]; omega,h3,r2, ?_⟩
    have e:((st.extract 0 j).data.map fun b=>Value.int .u8 (b.toNat:Int)) = ((st.data.toList.map fun b=>Value.int .u8 (b.toNat:Int)).take j).toArray:=by
      rw [← Array.toList_inj]
      simp [ByteArray.data_extract]
    intro w2 _
    simp only [Builtin.firstCells,e]
    rfl
  case slice p n e =>
    simp only [lenV,Option.some.injEq] at hk
    subst hk
    cases p with
    | none =>
      obtain ⟨rfl,rfl,rfl⟩:=h.snil
      simp only [rdSlice,Option.some.injEq] at hy
      subst hy
      refine ⟨by simp [Builtin.lenOf],fun j hj=>?_⟩
      have:j = 0:=by omega
      subst this
      exact ⟨[],by simp,by simp; exact .nil,rfl,fun w2 _=>by simp [Builtin.firstCells]⟩
    | some p =>
      simp only [rdSlice] at hy
      by_cases hn0:n = 0
      · subst hn0
        simp only [if_true,Option.some.injEq] at hy
        subst hy
        have hu:∃ q kk,u = .slice (some q) 0 kk:=by
          rcases h with h | ⟨nm,o,c,h1,_⟩ | ⟨nm,n',e',c,h1,h2,h3⟩
          · cases h with
            | sl b o c δ N n e k h h1 h2=>exact ⟨_,_,rfl⟩
            | slZ a a' e=>exact ⟨_,_,rfl⟩
          · cases h1
          · injection h1 with h1 h4 h5
            subst h4
            exact ⟨_,_,h3⟩
        obtain ⟨q,kk,rfl⟩:=hu
        refine ⟨by simp [Builtin.lenOf],fun j hj=>?_⟩
        have:j = 0:=by omega
        subst this
        refine ⟨[],by simp,by simp; exact .nil,rfl,fun w2 _=>?_⟩
        have:=run_loadCells_list (P:=P) w2 q [] (fun i v hv=>by simp at hv)
        simpa [Builtin.firstCells] using this
      rw [if_neg hn0] at hy
      obtain ⟨p',c,rfl,us,g1,g2,g3,g4,g5⟩:=s.slice h hy (fun h=>by simp [h])
      refine ⟨by simp [Builtin.lenOf],fun j hj=>?_⟩
      refine ⟨us.take (j * esz), ?_,All2.take g2 _,g3, ?_⟩
      · have:j * esz≤n * esz:=Nat.mul_le_mul_right _ hj
        simp; omega
      · intro w2 hw2
        have:=run_loadCells_list (P:=P) w2 p' (us.take (j * esz)) (fun i v hv=>by
          rw [cell_heap hw2]
          have hi:i < j * esz:=by
            have:=(List.getElem?_eq_some_iff.1 hv).1
            simp at this; omega
          rw [List.getElem?_take_of_lt hi] at hv
          exact g5 i v hv)
        have hlen:(us.take (j * esz)).length = j * esz:=by
          have:j * esz≤n * esz:=Nat.mul_le_mul_right _ hj
          simp; omega
        rw [hlen] at this
        simpa [Builtin.firstCells] using this
theorem run_app_room {w:World} {t u ty e:TypeId} {d:TypeDesc} {i:TypeInfo} (ht:P.underlying t = some (.slice e)) (hu:P.underlying u = some d) (hd:d = .string∨∃ e,d = .slice e) (hi:P.info? e = some i) {base:Option Addr} {n k cap:Nat} {y:Value}
    (hl:(Builtin.lenOf y).run P w = .ok k w) {us:List Value} (hf:(Builtin.firstCells i.size k y).run P w = .ok us.toArray w) (hroom:n + k≤cap) :
    (Builtin.append_ #[t,u] ty #[.slice base n cap,y]).run P w = (match base with
      | some p=>(storeCells (p.add (n * i.size)) us).run P w
      | none=>.ok () w).andThen fun _ w'=>.ok (.slice base (n + k) cap) w':=by
  have hs:=run_szOf (P:=P) (t:=e) (n:=i.size) (by simp [szOf,hi]) w
  unfold Builtin.append_
  rcases hd with rfl | ⟨e',rfl⟩ <;> cases base <;> simp [run_und ht,run_und hu,hs,hl,hf,hroom]
theorem size_zeroCells (z:Array Value) (n:Nat):(Builtin.zeroCells z n).size = n * z.size:=by simp [Builtin.zeroCells]
theorem run_app_grow {w:World} {t u ty e:TypeId} {d:TypeDesc} {i:TypeInfo} {z:Value} (ht:P.underlying t = some (.slice e)) (hu:P.underlying u = some d) (hd:d = .string∨∃ e,d = .slice e) (hi:P.info? e = some i) (hz:i.zero = some z)
    {base:Option Addr} {n k cap:Nat} {y:Value} (hl:(Builtin.lenOf y).run P w = .ok k w) {us olds:List Value} (hf:(Builtin.firstCells i.size k y).run P w.drew = .ok us.toArray w.drew)
    (ho:(Builtin.firstCells i.size n (.slice base n cap)).run P w.drew = .ok olds.toArray w.drew) (hroom : ¬ n + k≤cap) (hb:(n + k) * i.bytes≤140737488355328) (hb0:0 < i.bytes) :
    ∃ (c:Nat) (cs:Array Value) (rest:List Value),n + k≤c∧cs.toList = (olds ++ us) ++ rest∧rest.length = (c - (n + k)) * z.cells.size ∧
      (Builtin.append_ #[t,u] ty #[.slice base n cap,y]).run P w = .ok (.slice (some ⟨w.heap.size,0,none⟩) (n + k) c) (w.drew.alloc (.cells cs e)):=by
  have hs:=run_szOf (P:=P) (t:=e) (n:=i.size) (by simp [szOf,hi]) w
  have hfit:=growslice_fits (need:=n + k) (old:=cap) (bytes:=i.bytes) (by omega) hb
  have hge:=grownCap_ge w (n + k) cap e
  have hti:∀ w:World,(typeInfo e).run P w = .ok i w:=fun w=>by simp [typeInfo,hi]
  refine ⟨grownCap w (n + k) cap e,olds.toArray ++ (us.toArray ++ Builtin.zeroCells z.cells (grownCap w (n + k) cap e - (n + k))),(Builtin.zeroCells z.cells (grownCap w (n + k) cap e - (n + k))).toList,hge,by simp,by simp [size_zeroCells], ?_⟩
  have hzr:∀ w:World,(zeroValue e).run P w = .ok z w:=fun w=>run_zero hi hz w
  have h2 : ¬ (Builtin.nextslicecap (n + k) cap * i.bytes > 2 ^ 48):=by omega
  have hroomRun:∀ (q:Nat) (w:World),(askRoom q).run P w = .ok () w:=fun q w=>by
    unfold askRoom
    split
    · simp [mark,Sem.run]
    · rfl
  unfold Builtin.append_
  rcases hd with rfl | ⟨e',rfl⟩ <;> simp [run_und ht,run_und hu,hs,hl,hroom,hti,hzr,hroomRun,hf,ho,Question.forced,newRow,grownCap,show i.bytes≠0 by omega,show ¬ (281474976710656 < Builtin.nextslicecap (n + k) cap * i.bytes) by omega,Array.append_assoc] <;> simp
theorem SR.source_all (s:SR P B nt E D ρ lm g m a w) {y u:Value} (h:VRelF ρ lm y u) {esz k:Nat} {ys:List Value} (hk:lenV y = some k) (hy:rdSlice m esz y = some ys) (hl:ys.length = k * esz) :
    (Builtin.lenOf u).run P w = .ok k w∧∃ us:List Value,us.length = k * esz∧VRels ρ ys us∧ys.all cellOk = true∧∀ w2:World,w2.heap = w.heap→(Builtin.firstCells esz k u).run P w2 = .ok us.toArray w2:=by
  obtain ⟨h1,h2⟩:=s.source h hk hy hl
  obtain ⟨us,k1,k2,k3,k4⟩:=h2 k (Nat.le_refl _)
  rw [List.take_of_length_le (by omega)] at k2
  exact ⟨h1,us,k1,k2,k3,k4⟩
theorem rels_one {xs us:List Value} (h:VRels ρ xs us) (hk:xs.all cellOk = true):∀ u∈us,u.oneCell' = true:=by
  induction h with
  | nil=>intro x hx; cases hx
  | cons h _ ih =>
    simp only [List.all_cons,Bool.and_eq_true] at hk
    intro x hx
    rcases List.mem_cons.1 hx with rfl | hx
    · exact h.one hk.1
    · exact ih hk.2 x hx
theorem e_append {ty0 : Option Nat} (s:SR P B nt E D ρ lm (fget fr) m a w) {t u e:TypeId} {d:TypeDesc} {i:TypeInfo} (ht:P.underlying t = some (.slice e)) (hu:P.underlying u = some d) (hd:d = .string∨∃ e,d = .slice e) (hi:P.info? e = some i)
    (hz:(i.zero.map fun z=>z.cells.size) = some i.size) {x y:Operand} {x' y':Opd} (hx:liftOpd P x = some x') (hy:liftOpd P y = some y') (ty:TypeId) (hT0:∀ T,ty0 = some T→e = T / 2∧T % 2 = 0) {v:Value} {m':Mem} (hv:appendG ty0 i.size i.bytes m (opd fr x') (opd fr y') = some (v,m')) :
    ∃ r w' ρ',(Builtin.append_ #[t,u] ty #[a.eval x,a.eval y]).run P w = .ok r w'∧SR P B nt E D ρ' lm (fget fr) m' a w'∧VRelF ρ' lm v r:=by
  have h1:=opdRel_act s x x' hx
  have h2:=opdRel_act s y y' hy
  obtain ⟨z,hz1,hz2⟩:=Option.map_eq_some_iff.1 hz
  have hT:∀ (rest:List Value) T,ty0 = some T→e = T / 2∧(T % 2 = 1→rest = []):=fun rest T h=>⟨(hT0 T h).1,fun h2=>by have:=(hT0 T h).2; omega⟩
  unfold appendG at hv
  split at hv
  · rename_i k ys hk hys
    split at hv
    · rename_i hlen
      obtain ⟨hlo,us,u1,u2,u3,u4⟩:=s.source_all h2 hk hys hlen
      have hone:=rels_one u2 u3
      split at hv
      ·
        rename_i n e0 ex
        rw [ex] at h1
        obtain ⟨e1,rfl,_⟩:=h1.snil
        rw [e1]
        simp only [if_true] at hv
        split at hv
        · rename_i hk0
          subst hk0
          injection hv with hv
          injection hv with g1 g2
          subst g1 g2
          refine ⟨.slice none 0 0,w, ρ, ?_,s,.inl .slNil⟩
          rw [run_app_room ht hu hd hi hlo (u4 w rfl) (by omega)]
          simp
        · rename_i hk0
          split at hv
          · rename_i hb
            injection hv with hv
            injection hv with g1 g2
            subst g1 g2
            obtain ⟨c,cs,rest,c1,c2,c3,c4⟩:=run_app_grow (P:=P) (w:=w) (ty:=ty) (base:=none) (n:=0) (cap:=0) ht hu hd hi hz1 hlo (u4 w.drew rfl) (olds:=[]) (by simp [Builtin.firstCells]) (by omega) (by simpa using hb.1) hb.2.1
            obtain ⟨hs',hg⟩:=s.newG (ty:=ty0) u2 u3 (cs:=cs) (rest:=rest) (by simpa using c2) (t:=e) (fz:=(0,0)) (unfrozen0 _) (hT _) (w':=w.drew.alloc (.cells cs e)) rfl ⟨rfl,rfl,rfl,by first | exact Nat.le_refl _ | exact Nat.le_add_right _ _⟩
            have hcs:cs.size = c * i.size:=by
              rw [← Array.length_toList,c2]
              simp only [List.nil_append,List.length_append,u1,c3,hz2]
              rw [← Nat.add_mul]; congr 1; omega
            have:=VRel.sl m.h.n 0 w.heap.size 0 _ k i.size c hg (by omega) (by rw [hcs]; simp)
            refine ⟨_,_,_,c4,hs',.inl ?_⟩
            simpa using this
          · cases hv
      ·
        rename_i p n e0 ex
        rw [ex] at h1
        split at hv
        · rename_i hk0
          obtain ⟨rfl,hsp⟩:=hk0
          injection hv with hv
          injection hv with g1 g2
          subst g1 g2
          have us0:us = []:=List.eq_nil_of_length_eq_zero (by simpa using u1)
          subst us0
          obtain ⟨p',c,e1⟩:=h1.ssome
          have hnc:n≤c:=by
            rw [e1] at h1
            rcases h1 with h | ⟨_,_,_,h,_⟩ | ⟨nm,n',e',c',h,_⟩
            · cases h with
              | sl b o c δ N n e k h h1 h2=>exact h1
              | slZ=>exact Nat.le_refl _
            · cases h
            · injection h with h _ _; injection h with h; subst h; simp [loc] at hsp
          refine ⟨.slice (some p') n c,w, ρ, ?_,s,by rw [← e1]; exact h1⟩
          rw [e1,run_app_room ht hu hd hi hlo (u4 w rfl) (by omega)]
          simp [storeCells]
        · split at hv
          · rename_i hk0 _ _ xs hsp hob0
            obtain ⟨hob,hoff⟩:=AObj.own_eq hob0
            split at hv
            · rename_i hb
              obtain ⟨b1,b2,b3,b4,rfl⟩:=hb
              injection hv with hv
              injection hv with g1 g2
              subst g1 g2
              have hkpos:0 < k:=by
                rcases Nat.eq_zero_or_pos k with h0 | h0
                · exact absurd ⟨h0,by rw [hsp]; rfl⟩ hk0
                · exact h0
              obtain ⟨b,o,sp⟩:=p
              simp only at hsp hob b1 hoff
              subst hsp
              have hrel:VRel ρ (.slice (some ⟨b,o,none⟩) n i.size) (a.eval x):=by
                rcases h1 with h | ⟨_,_,_,h,_⟩ | ⟨nm,n',e',c',h,_⟩
                · exact h
                · cases h
                · injection h with h _ _; injection h with h; cases h
              have skill:=s.kill b
              obtain ⟨c0, δ,N,ob,r1,r2,r3,r4,_⟩:=s.heap.live b _ hob
              obtain ⟨cur,tt,fz,rfl,f0,f1,f2,f3,f4⟩:=ORel.mk.1 r3
              generalize hax:a.eval x = ax at hrel
              cases hrel with
              | sl _ _ c1 δ1 N1 _ _ cap g1 g2 g3 =>
                rw [r1] at g1
                injection g1 with g1
                injection g1 with g1 g4
                injection g4 with g4 g5
                subst g1 g4 g5
                by_cases hroom:n + k≤cap
                ·
                  have hadd:(⟨c0, δ + o,none⟩:Addr).add (n * i.size) = ⟨c0, δ + o + n * i.size,none⟩:=by rw [add_off _ rfl]; rfl
                  have hcap:n * i.size + k * i.size≤cap * i.size:=by rw [← Nat.add_mul]; exact Nat.mul_le_mul_right _ hroom
                  have hst:=run_storeCells P c0 (δ + o + n * i.size) tt fz us 0 cur w r2 (by omega) (by rw [f1]; exact fun j hj=>f3 j (by omega)) hone
                  refine ⟨.slice (some ⟨c0, δ + o,none⟩) (n + k) cap,setBlk w c0 (.cells (setAll cur.toList (δ + o + n * i.size) us).toArray tt fz), ρ ++ [(c0, δ + o,N)], ?_, ?_,.inl ?_⟩
                  · rw [run_app_room ht hu hd hi hlo (u4 w rfl) hroom]
                    simp only [hadd,hst,Result.andThen_ok]
                    rfl
                  · have hmut:Mut ρ m.h c0:=⟨b,_, δ,N,hob,AObj.mk_ro _ _,r1⟩
                    have hlt:=(Array.getElem?_eq_some_iff.1 r2).1
                    refine skill.pushAt (AObj.mk_ro _ _) (by simp [setBlk]) (setBlk_get r2) ?_ (r4 (AObj.mk_ro _ _)) (fun b1 o1 c1 δ1 N1 q1 q2=>?_) (fun hc=>s.tr.img c0 hc hmut) (fun nm hn=>?_) (fun hd'=>(s.marks c0 hd').2.2.1 hmut) (fun c' hne hlt'=>?_) (so_setBlk _ _ _)
                    · have hext:=Ext.snoc ρ (c0, δ + o,N)
                      refine ORel.mk.2 ⟨_,_,_,rfl,fun T e=>⟨(f0 T e).1,by have:=(f0 T e).2.1; have:=hoff (by rw [e]; rfl); omega,fun h2=>by have:=(hT0 T e).2; omega⟩,by simp [setAll_length]; exact f1,by simp [u2.length.trans u1]; omega,f3, ?_⟩
                      have hrels:=u2.mono hext
                      intro j v hj
                      have hj:(xs.drop o ++ ys)[j]? = some v:=hj
                      have hdl:(xs.drop o).length = n * i.size:=by simp; omega
                      have hg:(setAll cur.toList (δ + o + n * i.size) us).toArray[δ + o + j]? = (setAll cur.toList (δ + o + n * i.size) us)[δ + o + j]?:=by simp
                      rw [hg,setAll_get _ _ _ _ (by simp; omega)]
                      by_cases hjn:j < n * i.size
                      · rw [List.getElem?_append_left (by omega),List.getElem?_drop] at hj
                        rw [if_neg (by omega)]
                        obtain ⟨q1,q2,q3,q4⟩:=f4 (o + j) v hj
                        exact ⟨q1,q2,by simpa [Nat.add_assoc] using q3,q4.mono hext⟩
                      · rw [List.getElem?_append_right (by omega),hdl] at hj
                        obtain ⟨uu,q1,q2⟩:=All2.get hrels _ v hj
                        have hlt2:=(List.getElem?_eq_some_iff.1 q1).1
                        rw [if_pos (by omega)]
                        have:δ + o + j - (δ + o + n * i.size) = j - n * i.size:=by omega
                        rw [this]
                        exact ⟨List.all_eq_true.1 u3 v (List.mem_of_getElem? hj),uu,q1,q2⟩
                    · have hne:b1≠b:=fun hh=>by subst hh; rw [AH.get_kill_same] at q1; cases q1
                      rw [AH.get_kill_ne hne] at q1
                      exact fun hc=>s.heap.inj b b1 _ o1 c0 δ N c1 δ1 N1 hob q1 (Ne.symm hne) (AObj.mk_ro _ _) r1 q2 hc.symm
                    · have hl:=s.lcs nm
                      cases hlg:lget m.lc nm with
                      | none=>rw [hlg] at hl; simp only at hl; rw [hl] at hn; cases hn
                      | some o1 =>
                        rw [hlg] at hl
                        obtain ⟨c1,x1,k1,_,k3,_⟩:=hl
                        rw [hn] at k1
                        injection k1 with k1
                        subst k1
                        exact k3 hmut
                    · unfold setBlk
                      simp [Array.getElem?_setIfInBounds_ne (Ne.symm hne)]
                  · have hg:(ρ ++ [(c0, δ + o,N)])[m.h.n]? = some (c0, δ + o,N):=by rw [← s.heap.len]; exact get_snoc_eq _ _
                    have:=VRel.sl m.h.n 0 c0 (δ + o) N (n + k) i.size cap hg hroom (by omega)
                    simpa using this
                ·
                  have hrd:m.rd ⟨b,o,none⟩ (n * i.size) = some (xs.drop o):=by
                    unfold Mem.rd Mem.obj
                    cases ty0 <;> simp only [hob,AObj.mk] <;> rw [if_pos (by omega)]
                    all_goals skip
                    all_goals rw [List.take_of_length_le (by simp; omega)]
                  have s2:SR P B nt E D ρ lm (fget fr) m a w.drew:=s.world rfl ⟨rfl,rfl,rfl,by first | exact Nat.le_refl _ | exact Nat.le_add_right _ _⟩
                  obtain ⟨olds,o1,o2,o3,o4,_⟩:=s2.rd (.inl (.ptr b o c0 δ N r1)) hrd
                  obtain ⟨c,cs,rest,c1,c2,c3,c4⟩:=run_app_grow (P:=P) (w:=w) (ty:=ty) (base:=some ⟨c0, δ + o,none⟩) (n:=n) (cap:=cap) ht hu hd hi hz1 hlo (u4 w.drew rfl) (olds:=olds) (by simpa [Builtin.firstCells] using o4) hroom b2 b3
                  obtain ⟨hs',hg⟩:=skill.newG (ty:=ty0) (All2.append o2 u2) (by rw [List.all_append,o3,u3]; rfl) (cs:=cs) (rest:=rest) c2 (t:=e) (fz:=(0,0)) (unfrozen0 _) (hT _) (w':=w.drew.alloc (.cells cs e)) rfl ⟨rfl,rfl,rfl,by first | exact Nat.le_refl _ | exact Nat.le_add_right _ _⟩
                  have hcs:cs.size = c * i.size:=by
                    rw [← Array.length_toList,c2]
                    simp only [List.length_append,u1,o1,c3,hz2]
                    rw [← Nat.add_mul,← Nat.add_mul]; congr 1; omega
                  have:=VRel.sl m.h.n 0 w.heap.size 0 _ (n + k) i.size c hg (by omega) (by rw [hcs]; simp)
                  refine ⟨_,_,_,c4,hs',.inl ?_⟩
                  simpa using this
              | slZ a0 a1 e1 =>
                obtain ⟨c,cs,rest,c1,c2,c3,c4⟩:=run_app_grow (P:=P) (w:=w) (ty:=ty) (base:=some a1) (n:=0) (cap:=0) ht hu hd hi hz1 hlo (u4 w.drew rfl) (olds:=[]) (by simp [Builtin.firstCells,loadCells,loadCellsFrom]) (by omega) b2 b3
                have hd0:xs.drop o = []:=by
                  apply List.eq_nil_of_length_eq_zero
                  simp; omega
                obtain ⟨hs',hg⟩:=skill.newG (ty:=ty0) u2 u3 (cs:=cs) (rest:=rest) (by simpa using c2) (t:=e) (fz:=(0,0)) (unfrozen0 _) (hT _) (w':=w.drew.alloc (.cells cs e)) rfl ⟨rfl,rfl,rfl,by first | exact Nat.le_refl _ | exact Nat.le_add_right _ _⟩
                have hcs:cs.size = c * i.size:=by
                  rw [← Array.length_toList,c2]
                  simp only [List.nil_append,List.length_append,u1,c3,hz2]
                  rw [← Nat.add_mul]; congr 1; omega
                have:=VRel.sl m.h.n 0 w.heap.size 0 _ k i.size c hg (by omega) (by rw [hcs]; simp)
                refine ⟨_,_,_,c4,by rw [hd0]; exact hs',.inl ?_⟩
                simpa using this
            · cases hv
          · cases hv
      · cases hv
    · cases hv
  · cases hv
theorem e_copy (s:SR P B nt E D ρ lm (fget fr) m a w) {t e:TypeId} {n:Nat} (ht:P.underlying t = some (.slice e)) (hn:szOf P e = some n) {x y:Operand} {x' y':Opd} (hx:liftOpd P x = some x') (hy:liftOpd P y = some y') (ats:Array TypeId) (hat:ats[0]? = some t) (ty:TypeId) {call:CallF} {yld:YieldF} {v:Value} {m':Mem}
    (hv:(EOp.copy n x' y').ev call yld fr m = some (v,m')) :
    ∃ r w',(Builtin.copy_ ats ty #[a.eval x,a.eval y]).run P w = .ok r w'∧SR P B nt E D ρ lm (fget fr) m' a w'∧VRelF ρ lm v r:=by
  have h1:=opdRel_act s x x' hx
  have h2:=opdRel_act s y y' hy
  simp only [EOp.ev] at hv
  split at hv
  · rename_i p dn e0 k ys ex hk hys
    rw [ex] at h1
    split at hv
    · rename_i hlen
      obtain ⟨hlo,hsrc⟩:=s.source h2 hk hys hlen
      obtain ⟨us,u1,u2,u3,u4⟩:=hsrc (min k dn) (Nat.min_le_left _ _)
      have hs:=run_szOf hn w
      have hmin:Nat.min k dn = min k dn:=rfl
      split at hv
      · rename_i h0
        injection hv with hv
        injection hv with g1 g2
        subst g1 g2
        rw [h0] at u1 u4
        have us0:us = []:=List.eq_nil_of_length_eq_zero (by simpa using u1)
        subst us0
        refine ⟨.int .i64 0,w, ?_,s,.inl (.int _ _)⟩
        cases p with
        | none =>
          obtain ⟨e1,_,_⟩:=h1.snil
          obtain ⟨_,rfl,_⟩:=h1.snil
          rw [e1]
          have h00:Nat.min k 0 = 0:=Nat.min_zero k
          simp [Builtin.copy_,hat,run_und ht,hlo,hs,h00,u4 w rfl,goInt]
        | some p =>
          obtain ⟨p',c,e1⟩:=h1.ssome
          rw [e1]
          have h00:Nat.min k dn = 0:=h0
          simp [Builtin.copy_,hat,run_und ht,hlo,hs,h00,u4 w rfl,goInt,storeCells]
      · rename_i h0
        split at hv
        · rename_i p
          obtain ⟨m1,hm1,hv⟩:=Option.map_eq_some_iff.1 hv
          injection hv with g1 g2
          subst g1 g2
          have hadr:∃ p' c,a.eval x = .slice (some p') dn c∧VRelF ρ lm (.pointer (some p)) (.pointer (some p')):=by
            rcases h1 with h | ⟨_,_,_,h,_⟩ | ⟨nm,n',e',c',h,g2,g3⟩
            · generalize a.eval x = ax at h
              cases h with
              | sl b o c δ N n e k h h1 h2=>exact ⟨_,_,rfl,.inl (.ptr b o c δ N h)⟩
              | slZ a0 a1 e1=>simp at h0
            · cases h
            · injection h with q1 q2 q3
              injection q1 with q1
              subst q1 q2 q3
              exact ⟨_,_,g3,.inr (.inl ⟨nm,0,c',rfl,g2,rfl⟩)⟩
          obtain ⟨p',c,e1,hp⟩:=hadr
          have u3':(ys.take (min k dn * n)).all cellOk = true:=List.all_eq_true.2 fun v hv=>List.all_eq_true.1 u3 v (List.mem_of_mem_take hv)
          obtain ⟨w',hst,hs'⟩:=s.wr hp u2 u3' (rels_one u2 u3') hm1
          refine ⟨.int .i64 (min k dn:Nat),w', ?_,hs',.inl (.int _ _)⟩
          rw [e1]
          have hmm:(Builtin.firstCells n (Nat.min k dn) (a.eval y)).run P w = .ok us.toArray w:=u4 w rfl
          simp [Builtin.copy_,hat,run_und ht,hlo,hs,hmm,hst,goInt]
        · cases hv
    · cases hv
  · cases hv
theorem e_mks (s:SR P B nt E D ρ lm (fget fr) m a w) {t e:TypeId} {i:TypeInfo} (ht:P.underlying t = some (.slice e)) (hi:P.info? e = some i) {z:List Value} (hz:zeroOf P e = some z) {x y:Operand} {x' y':Opd} (hx:liftOpd P x = some x') (hy:liftOpd P y = some y') {call:CallF} {yld:YieldF} {v:Value} {m':Mem}
    (hv:(EOp.mks i.size i.bytes z x' y').ev call yld fr m = some (v,m')) :
    ∃ r w' ρ',(Instr.makeSlice t (a.eval x) (a.eval y)).run P w = .ok r w'∧SR P B nt E D ρ' lm (fget fr) m' a w'∧VRelF ρ' lm v r:=by
  have h1:=opdRel_act s x x' hx
  have h2:=opdRel_act s y y' hy
  obtain ⟨it,zv,hi',hzv,rfl,hfl⟩:=zero_rel hz
  rw [hi] at hi'
  injection hi' with hi'
  subst hi'
  simp only [EOp.ev] at hv
  split at hv
  · rename_i l c el ec
    rw [el] at h1; rw [ec] at h2
    split at hv
    · rename_i hb
      obtain ⟨b0,b1,b2,b3,b4,b5⟩:=hb
      injection hv with hv
      injection hv with g1 g2
      subst g1 g2
      have hwl:IntKind.i64.wrap l = l:=by
        unfold IntKind.wrap; simp [IntKind.bits,IntKind.signed]; omega
      have hwc:IntKind.i64.wrap c = c:=by
        unfold IntKind.wrap; simp [IntKind.bits,IntKind.signed]; omega
      have hzs:zv.cells.size = i.size:=by simpa using b4
      have hti:(typeInfo e).run P w = .ok i w:=by simp [typeInfo,hi]
      have hroomRun:∀ (q:Nat) (w:World),(askRoom q).run P w = .ok () w:=fun q w=>by
        unfold askRoom
        split
        · simp [mark,Sem.run]
        · rfl
      have hs:=run_szOf (P:=P) (t:=e) (n:=i.size) (by simp [szOf,hi]) w
      have hf:=litCells_flat hfl c.toNat
      obtain ⟨r1,r2⟩:=all_flat (ρ:=ρ) hf
      have hf2:=litCells_flat hfl l.toNat
      obtain ⟨r3,r4⟩:=all_flat (ρ:=ρ) hf2
      have hsplit:litCells c.toNat zv.cells.toList = litCells l.toNat zv.cells.toList ++ litCells (c.toNat - l.toNat) zv.cells.toList:=by
        unfold litCells
        rw [← List.flatten_append,List.replicate_append_replicate]
        congr 2
        omega
      let cs:Array Value:=(Array.range (c.toNat * i.size)).map (zv.cells[· % zv.cells.size]!)
      have hcs:cs.toList = litCells c.toNat zv.cells.toList:=by simp only [cs,← hzs]; exact litCells_eq _ _
      have hsz:cs.size = c.toNat * i.size:=by simp [cs]
      obtain ⟨hs',hg⟩:=s.newH r3 r4 (cs:=cs) (rest:=litCells (c.toNat - l.toNat) zv.cells.toList) (by rw [hcs,hsplit]) (t:=e) (fz:=(0,0)) (unfrozen0 _) (w':=w.alloc (.cells cs e)) rfl (so_alloc _ _)
      have:=VRel.sl m.h.n 0 w.heap.size 0 _ l.toNat i.size c.toNat hg (by omega) (by rw [hsz]; simp)
      refine ⟨.slice (some ⟨w.heap.size,0,none⟩) l.toNat c.toNat,_,_, ?_,hs',.inl (by simpa using this)⟩
      rw [h1.int,h2.int]
      have hbig : ¬ (281474976710656 < (i.bytes:Int) * c):=by rw [Int.mul_comm]; omega
      have hzr:=run_zero hi hzv w
      by_cases h0:c.toNat * i.size = 0
      · have hc0:c.toNat = 0:=by
          rcases Nat.mul_eq_zero.1 h0 with h | h
          · exact h
          · omega
        have hcs0:cs = #[]:=by rw [← Array.toList_inj,hcs,hc0]; rfl
        rw [hcs0]
        simp [Instr.makeSlice,run_und ht,asInt,asIntOf,hti,hwl,hwc,hroomRun,hs,hc0,newRow,show ¬ (c < 0) by omega,show ¬ (l < 0) by omega,show ¬ (c < l) by omega,hbig]
        congr 2
        exact Array.eq_empty_of_size_eq_zero (by simp)
      · simp [Instr.makeSlice,run_und ht,asInt,asIntOf,hti,hwl,hwc,hroomRun,hs,h0,newRow,show ¬ (c < 0) by omega,show ¬ (l < 0) by omega,show ¬ (c < l) by omega,hbig,hzr,cs]
    · cases hv
  · cases hv
end Go.Proofs.YtakmapoompffgaaGreatDoor.AM
namespace Go.Proofs.YtakmapoompffgaaGreatDoor.AM
open Go
variable {P:Program} {B nt:Nat} {E:Ent} {D:List Nat} {ρ:Rho} {lm:Nat→Option Nat} {fr:Fr} {m:Mem} {a:Act} {w:World} {g:Nat→Value}
def WF (r:Option Nat):Fence:={ Fence.wide with round:=r }
def CallPost (P:Program) (B:Nat) (ρ:Rho) (h:AH) (w:World) (v:Value) (h':AH) (e:Ending) (w':World):Prop :=
  ∃ u ρ',e = .returned u∧HRel P B ρ' h' w'∧Trans ⟨ρ,h,w⟩ ρ' h' w'∧VRel ρ' v u
def FnOk (P : Program) (f : FuncId) : Prop := ∃ fn, P.funcs[f]? = some fn ∧ (fn.name == "runtime.NumGoroutine") = false ∧ fn.body.isSome = true
def CallSound (P:Program) (B:Nat) (call:CallF):Prop:=∀ f args h v h',call f args h = some (v,h')→FnOk P f ∧
  ∀ ρ w argsC n,B≤w.heap.size→HRel P B ρ h w→VRels ρ args argsC.toList→CallsIn Fence.wide n P f argsC w (CallPost P B ρ h w v h')
def YieldSound (P:Program) (B:Nat) (yld:YieldF):Prop:=∀ l args h v h',yld l args h = some (v,h') →
  ∀ ρ w argsC n c δ N,B≤w.heap.size→HRel P B ρ h w→VRels ρ args argsC.toList→ρ[l]? = some (c, δ,N) →
    ∃ f tmps assign body,(Instr.yield c argsC).run P w = .ok (.round c f tmps assign body) w∧RoundIn Fence.wide n P c f tmps assign body w (CallPost P B ρ h w v h')
theorem SR.called (s:SR P B nt E D ρ lm g m a w) {ρ':Rho} {h':AH} {w':World} (hh:HRel P B ρ' h' w') (ht:Trans ⟨ρ,m.h,w⟩ ρ' h' w'):SR P B nt E D ρ' lm g { m with h:=h' } a w' where
  base:=s.base
  heap:=hh
  tr:=s.tr.trans ht
  val:=fun i=>(s.val i).mono ht.ext (fun _ _ h=>h)
  lcs := fun nm=>by
    have hl:=s.lcs nm
    revert hl
    show (match lget m.lc nm with | none=>_ | some o=>_)→(match lget m.lc nm with | none=>_ | some o=>_)
    cases lget m.lc nm with
    | none=>exact id
    | some o1 =>
      rintro ⟨c1,x1,k1,k2,k3,k4,⟨N1,k5⟩,k6⟩
      have hlt:=(Array.getElem?_eq_some_iff.1 k4).1
      exact ⟨c1,x1,k1,k2,fun hm=>k3 (ht.img c1 hlt hm),(ht.keep c1 hlt k3).trans k4,⟨N1,k5.mono ht.ext⟩,k6⟩
  linj:=s.linj
  dfs:=s.dfs
  marks:=fun r hr=>by
    obtain ⟨k1,k2,k3,k4⟩:=s.marks r hr
    have hlt:=(Array.getElem?_eq_some_iff.1 k1).1
    exact ⟨(ht.keep r hlt k3).trans k1,k2,fun hm=>k3 (ht.img r hlt hm),k4⟩
  dnd:=s.dnd
  room:=s.room
theorem wpIn_res {o:Oper} {r:Option Nat} {n:Nat} {next:Act→World→Prop} {Q:Exit→Act→World→Prop} (hd:∀ c,o.op ≠ .defer c) {x:Next} {u:Value} {w':World}
    (h:(execOp a.eval o).run P w = .ok x w') (hx:x = .value u∨(x = .skip∧u = undef)) (hn:next (a.put o.dst u) w'):o.wpIn (WF r) n P a w next Q:=by
  refine ⟨fun _ _=>trivial, ?_⟩
  rw [Oper.semAt_eq _ _ _ hd,h]
  rcases hx with rfl | ⟨rfl,rfl⟩
  · exact hn
  · exact hn
theorem callsIn_wf {r:Option Nat} {n:Nat} {f:FuncId} {args:Array Value} {R:Ending→World→Prop} (h:CallsIn Fence.wide n P f args w R):CallsIn (WF r) n P f args w R:=h
theorem roundIn_wf {r:Option Nat} {n:Nat} {l:Nat} {f:FuncId} {tmps:Array Value} {asx body:Code} {R:Ending→World→Prop} (h:RoundIn Fence.wide n P l f tmps asx body w R):RoundIn (WF r) n P l f tmps asx body w R:=h
theorem wpIn_enter {o:Oper} {r:Option Nat} {n:Nat} {next:Act→World→Prop} {Q:Exit→Act→World→Prop} (hd:∀ c,o.op ≠ .defer c) {f:FuncId} {args:Array Value} {v:Value} {h h':AH} (hrun:(execOp a.eval o).run P w = .ok (.enter f args) w)
    (hc:∀ n,CallsIn Fence.wide n P f args w (CallPost P B ρ h w v h')) (hn:∀ u ρ' w',HRel P B ρ' h' w'→Trans ⟨ρ,h,w⟩ ρ' h' w'→VRel ρ' v u→next (a.put o.dst u) w'):o.wpIn (WF r) n P a w next Q:=by
  refine ⟨fun _ _=>trivial, ?_⟩
  rw [Oper.semAt_eq _ _ _ hd,hrun]
  refine ⟨fun h=>by simp [WF,Fence.wide] at h,callsIn_wf ((hc (n - 1)).mono fun e w' he=>?_)⟩
  obtain ⟨u, ρ',rfl,g1,g2,g3⟩:=he
  exact hn u ρ' w' g1 g2 g3
theorem wpIn_yield {o:Oper} {r:Option Nat} {n:Nat} {next:Act→World→Prop} {Q:Exit→Act→World→Prop} (hd:∀ c,o.op ≠ .defer c) {l f:FuncId} {tmps:Array Value} {asx body:Code} {v:Value} {h h':AH} (hrun:(execOp a.eval o).run P w = .ok (.round l f tmps asx body) w)
    (hc:RoundIn Fence.wide (n - 1) P l f tmps asx body w (CallPost P B ρ h w v h')) (hn:∀ u ρ' w',HRel P B ρ' h' w'→Trans ⟨ρ,h,w⟩ ρ' h' w'→VRel ρ' v u→next (a.put o.dst u) w'):o.wpIn (WF r) n P a w next Q:=by
  refine ⟨fun _ _=>trivial, ?_⟩
  rw [Oper.semAt_eq _ _ _ hd,hrun]
  refine ⟨fun h=>by simp [WF,Fence.wide] at h,roundIn_wf (hc.mono fun e w' he=>?_)⟩
  obtain ⟨u, ρ',rfl,g1,g2,g3⟩:=he
  exact hn u ρ' w' g1 g2 g3
theorem run_newObjM (x:Obj):(newObj x).run P w = .ok w.heap.size (w.alloc x):=rfl
theorem e_mkmap (s:SR P B nt E D ρ lm (fget fr) m a w) {o:Oper} {t:TypeId} {r:Option Operand} (ho:o.op = .makeMap t r) {kt et:TypeId} (hu:P.underlying t = some (.map kt et)) (hr:r = none∨∃ k n,r = some (.const (.int k n))) {call:CallF} {yld:YieldF} {v:Value} {m':Mem}
    (hv:EOp.mkmap.ev call yld fr m = some (v,m')):EOk P B nt E D (fget fr) m' a v ((execOp a.eval o).run P w):=by
  simp only [EOp.ev] at hv
  injection hv with hv
  injection hv with e1 e2
  subst e1 e2
  have hrun:(Instr.makeMap t (r.map a.eval)).run P w = .ok (.map (some w.heap.size)) (w.alloc (.map #[] 0)):=by
    rcases hr with rfl | ⟨k,n,rfl⟩
    · simp only [Option.map_none,Instr.makeMap,Sem.run_bind,run_newObjM,Result.andThen_ok,Sem.run_pure]
    · simp only [Option.map_some,Instr.makeMap,Sem.run_bind,run_und hu,run_newObjM,Result.andThen_ok,Sem.run_pure]
      rfl
  have he:execOp a.eval o = (do pure (Next.value (← Instr.makeMap t (r.map a.eval))):Sem Next):=by simp only [execOp,ho]
  have hs:=s.push (o:=.map []) rfl (N:=0) (x:=.map #[] 0) (w':=w.alloc (.map #[] 0)) rfl (by show All2 _ _ _∧_∧_; exact ⟨.nil,rfl,by simp⟩) (so_alloc _ _)
  exact .val he hrun hs (.inl (.map _ _ 0 0 (by rw [← s.heap.len]; exact get_snoc_eq _ _)))
theorem All2.modify {ρ:Rho} {es:List (Value × Value)} {ms:Array MapEntry} (h:All2 (ERel ρ) es ms.toList) {j:Nat} {e:MapEntry} (he:ms[j]? = some e) {p:Value × Value} {f:MapEntry→MapEntry} (hr:ERel ρ p (f e)) :
    All2 (ERel ρ) (es.set j p) (ms.modify j f).toList:=by
  have:(ms.modify j f).toList = ms.toList.set j (f e):=by
    apply List.ext_getElem?
    intro i
    rw [List.getElem?_set]
    by_cases hij:j = i
    · subst hij
      have hlt:=(Array.getElem?_eq_some_iff.1 he).1
      have hg:=(Array.getElem?_eq_some_iff.1 he).2
      rw [if_pos rfl]
      simp [Array.getElem?_modify,he,hlt,hg]
    · rw [if_neg hij]
      simp [Array.getElem?_modify,hij]
  rw [this]
  exact h.set hr j
theorem born_modify {ms:Array MapEntry} (h:∀ (i:Nat) (e:MapEntry),ms[i]? = some e→e.born = i) {j:Nat} {f:MapEntry→MapEntry} (hf:∀ e,(f e).born = e.born):∀ (i:Nat) (e:MapEntry),(ms.modify j f)[i]? = some e→e.born = i:=fun i e he=>by
  rw [Array.getElem?_modify] at he
  split at he
  · obtain ⟨e',h1,rfl⟩:=Option.map_eq_some_iff.1 he
    rw [hf]; exact h i e' h1
  · exact h i e he
theorem e_mapup (s:SR P B nt E D ρ lm (fget fr) m a w) {o:Oper} {t:TypeId} {x k y:Operand} (ho:o.op = .mapUpdate t x k y) (hd:o.dst.isNone = true) {kk:KK} {e:TypeId} (hm:mapOf P t = some (kk,e)) {x' k' y':Opd} (hx:liftOpd P x = some x') (hk:liftOpd P k = some k') (hy:liftOpd P y = some y')
    {call:CallF} {yld:YieldF} {v:Value} {m':Mem} (hv:(EOp.mapup kk x' k' y').ev call yld fr m = some (v,m')):EOk P B nt E D (fget fr) m' a v ((execOp a.eval o).run P w):=by
  have h1:=opdRel_act s x x' hx
  have h2:=opdRel_act s k k' hk
  have h3:=opdRel_act s y y' hy
  obtain ⟨kt,hu,hkt⟩:=mapOf_spec hm
  simp only [EOp.ev] at hv
  split at hv
  · rename_i b e0
    rw [e0] at h1
    split at hv
    · rename_i es he
      split at hv
      · rename_i r hf
        split at hv
        · rename_i hok
          obtain ⟨hok,hself⟩:=hok
          injection hv with hv
          injection hv with q1 q2
          subst q1 q2
          obtain ⟨c, δ,N,e2,hc⟩:=h1.msome
          obtain ⟨ms,cl,hh,hr,hcl,hbn⟩:=s.mapAt he hc
          have hkv:=keyEq_self hkt hself
          have hui:=hkv.rel h2
          have hck:=run_checkKey (w:=w) hkt hkv false
          obtain ⟨r',g1,g2⟩:=run_findKey (w:=w) hkt hkv hr hf
          have hval:VRel ρ (opd fr y') (a.eval y):=h3.ok hok
          have hp:VRelF ρ lm (.pointer (some ⟨b,0,none⟩)) (.pointer (some ⟨c, δ + 0,none⟩)):=.inl (.ptr b 0 c δ N hc)
          have hgo:m.obj ⟨b,0,none⟩ = some (.map es):=he
          have he':execOp a.eval o = (do Instr.mapUpdate t (a.eval x) (a.eval k) (a.eval y); pure Next.skip:Sem Next):=by simp only [execOp,ho]
          have done:∀ (es':List (Value × Value)) (ms':Array MapEntry) (cl':Nat),(All2 (ERel ρ) es' ms'.toList∧cl' = ms'.size∧∀ (i:Nat) (e:MapEntry),ms'[i]? = some e→e.born = i)→(Instr.mapUpdate t (a.eval x) (a.eval k) (a.eval y)).run P w = .ok () (setBlk w c (.map ms' cl')) →
              EOk P B nt E D (fget fr) { m with h:=m.h.set b (.map es') } a undef ((execOp a.eval o).run P w):=fun es' ms' cl' hr' hrun=>by
            have hs:=s.putObj (o':=.map es') hp hgo rfl rfl (δ:=0) (N:=0) (x:=.map ms cl) (x':=.map ms' cl') hh ⟨hr,hcl,hbn⟩ (fun _ _ _ _=>hr') (w':=setBlk w c (.map ms' cl')) rfl (so_setBlk _ _ _)
            exact ⟨.skip,undef,_, ρ,lm,by rw [he']; simp [hrun],.inr ⟨rfl,rfl⟩,hs,.inl (.undef _)⟩
          have hset:∀ y,(setObj c y).run P w = .ok () (setBlk w c y):=fun y=>by simp [setObj,Sem.run,hh,setBlk]
          cases r with
          | none =>
            obtain ⟨rfl,g3⟩:=g2
            rw [keySet_none g3]
            refine done _ (ms.push { key:=opd fr k',val:=a.eval y,born:=cl }) (cl + 1) ⟨?_,by simp [hcl],fun i e hi=>?_⟩ ?_
            · rw [Array.toList_push]
              exact All2.append hr (.cons ⟨rfl,hkv.flat,hval⟩ .nil)
            · rw [Array.getElem?_push] at hi
              split at hi
              · rename_i hi2; injection hi with hi; subst hi; rw [hi2]; exact hcl
              · exact hbn i e hi
            · rw [e2,hui]
              simp [Instr.mapUpdate,run_und hu,run_getObjM hh,hck,g1,hset]
          | some u =>
            obtain ⟨j,p,en,q1,q2,q3,q4,rfl,q6⟩:=g2
            rw [keySet_some q1 q4 q6]
            have q2':ms[j]? = some en:=by simpa using q2
            have hpk:p.1 = opd fr k':=(keyEq_same hkv q4).symm
            have hek:en.key = opd fr k':=by
              obtain ⟨e2',he2,hrel⟩:=All2.get hr j p q1
              rw [q2] at he2
              injection he2 with he2
              subst he2
              rw [← hrel.1,hpk]
            have hstay:(Instr.keyThatStays (opd fr k') (opd fr k')).run P w = .ok (opd fr k') w:=by simp [Instr.keyThatStays,hkv.bits]
            refine done _ (ms.modify j fun e=>{ e with key:=opd fr k',val:=a.eval y }) cl ⟨All2.modify hr q2' ⟨hpk,by rw [hpk]; exact hkv.flat,hval⟩,by simp [hcl],born_modify hbn (fun _=>rfl)⟩ ?_
            rw [e2,hui]
            simp only [Nat.zero_add] at g1
            simp [Instr.mapUpdate,run_und hu,run_getObjM hh,hck,g1,q2',hek,hstay,hset]
        · cases hv
      · cases hv
    · cases hv
  · cases hv
theorem keyIx_found {kk:KK} {k:Value}:∀ {es:List (Value × Value)} {j:Nat},keyIx kk k es = some j→∃ r,keyFind kk k es = some r∧j≤es.length∧(∀ q∈es.take j,keyEq kk k q.1 = some false)∧match es[j]? with
    | some p=>r = some p.2∧keyEq kk k p.1 = some true
    | none=>r = none
  | [],j,h=>by
    simp only [keyIx,Option.some.injEq] at h
    subst h
    exact ⟨none,rfl,by simp,by simp,rfl⟩
  | (x,u) :: es,j,h=>by
    unfold keyIx at h
    split at h
    · rename_i hq
      injection h with h; subst h
      exact ⟨some u,by simp [keyFind,hq],by simp,by simp,rfl,hq⟩
    · rename_i hq
      obtain ⟨j',h1,rfl⟩:=Option.map_eq_some_iff.1 h
      obtain ⟨r,g1,g2,g3,g4⟩:=keyIx_found h1
      refine ⟨r,by simp [keyFind,hq,g1],by simp; omega,fun q hq'=>?_,by simpa using g4⟩
      rw [List.take_succ_cons] at hq'
      rcases List.mem_cons.1 hq' with rfl | hq'
      · exact hq
      · exact g3 q hq'
    · cases h
theorem first_unique {kk:KK} {k:Value} {es:List (Value × Value)} {i j:Nat} {p q:Value × Value} (h1:es[i]? = some p) (h2:keyEq kk k p.1 = some true) (h3:∀ x∈es.take i,keyEq kk k x.1 = some false)
    (g1:es[j]? = some q) (g2:keyEq kk k q.1 = some true) (g3:∀ x∈es.take j,keyEq kk k x.1 = some false):i = j:=by
  rcases Nat.lt_trichotomy i j with h | h | h
  · have:=g3 p (List.mem_of_getElem? (by rw [List.getElem?_take_of_lt h]; exact h1))
    rw [h2] at this; cases this
  · exact h
  · have:=h3 q (List.mem_of_getElem? (by rw [List.getElem?_take_of_lt h]; exact g1))
    rw [g2] at this; cases this
theorem Mut.hcongr {h h':AH} (hg:∀ b,h'.get b = h.get b) {c:Nat}:Mut ρ h' c↔Mut ρ h c:=by
  unfold Mut
  simp only [hg]
theorem SR.hcongr (s:SR P B nt E D ρ lm g m a w) {h':AH} (hn:h'.n = m.h.n) (hg:∀ b,h'.get b = m.h.get b):SR P B nt E D ρ lm g { m with h:=h' } a w where
  base:=s.base
  heap:=⟨by simp [hn,s.heap.len],fun b o h=>s.heap.live b o (by rw [← hg b]; exact h),s.heap.glob,fun b b' o o' c δ N c' δ' N' h h'=>s.heap.inj b b' o o' c δ N c' δ' N' (by rw [← hg b]; exact h) (by rw [← hg b']; exact h')⟩
  tr:=⟨s.tr.ext,s.tr.size,s.tr.os,s.tr.tape,s.tr.output,s.tr.drawn,s.tr.keep,fun c hc hm=>s.tr.img c hc ((Mut.hcongr hg).1 hm)⟩
  val:=s.val
  lcs:=fun nm=>by
    have hl:=s.lcs nm
    revert hl
    show (match lget m.lc nm with | none=>_ | some o=>_)→(match lget m.lc nm with | none=>_ | some o=>_)
    cases lget m.lc nm with
    | none=>exact id
    | some o1=>rintro ⟨c1,x1,k1,k2,k3,k⟩; exact ⟨c1,x1,k1,k2,fun hm=>k3 ((Mut.hcongr hg).1 hm),k⟩
  linj:=s.linj
  dfs:=s.dfs
  marks:=fun r hr=>by
    obtain ⟨k1,k2,k3,k4⟩:=s.marks r hr
    exact ⟨k1,k2,fun hm=>k3 ((Mut.hcongr hg).1 hm),k4⟩
  dnd:=s.dnd
  room:=s.room
theorem e_mapent (s:SR P B nt E D ρ lm (fget fr) m a w) {o:Oper} {t:TypeId} {x k:Operand} (ho:o.op = .mapEntry t x k) {kk:KK} {e:TypeId} (hm:mapOf P t = some (kk,e)) {z:Value} (hz:zvOf P e = some z) {x' k':Opd} (hx:liftOpd P x = some x') (hk:liftOpd P k = some k')
    {call:CallF} {yld:YieldF} {v:Value} {m':Mem} (hv:(EOp.mapent kk z x' k').ev call yld fr m = some (v,m')):EOk P B nt E D (fget fr) m' a v ((execOp a.eval o).run P w):=by
  have h1:=opdRel_act s x x' hx
  have h2:=opdRel_act s k k' hk
  obtain ⟨kt,hu,hkt⟩:=mapOf_spec hm
  obtain ⟨hzr,hzf⟩:=run_zv (w:=w) hz
  simp only [EOp.ev] at hv
  split at hv
  · rename_i b e0
    rw [e0] at h1
    split at hv
    · rename_i es he
      split at hv
      · rename_i hself
        obtain ⟨c, δ,N,e2,hc⟩:=h1.msome
        obtain ⟨ms,cl,hh,hr,hcl,hbn⟩:=s.mapAt he hc
        have hkv:=keyEq_self hkt hself
        have hui:=hkv.rel h2
        have hck:=run_checkKey (w:=w) hkt hkv false
        have he':execOp a.eval o = (do pure (Next.value (← Instr.mapEntry t (a.eval x) (a.eval k))):Sem Next):=by simp only [execOp,ho]
        have hp:VRelF ρ lm (.pointer (some ⟨b,0,none⟩)) (.pointer (some ⟨c, δ + 0,none⟩)):=.inl (.ptr b 0 c δ N hc)
        have hgo:m.obj ⟨b,0,none⟩ = some (.map es):=he
        have hset:∀ y,(setObj c y).run P w = .ok () (setBlk w c y):=fun y=>by simp [setObj,Sem.run,hh,setBlk]
        have hlen:=hr.length_eq
        split at hv
        · rename_i j hj
          obtain ⟨r,g1,g2,g3,g4⟩:=keyIx_found hj
          obtain ⟨r',f1,f2⟩:=run_findKey (w:=w) hkt hkv hr g1
          split at hv
          · rename_i p hp2
            rw [hp2] at g4
            obtain ⟨rfl,g5⟩:=g4
            injection hv with hv
            injection hv with q1 q2
            subst q1 q2
            obtain ⟨j2,p2,en,y1,y2,y3,y4,rfl,y6⟩:=f2
            have hjj:=first_unique hp2 g5 g3 y1 y4 y6
            subst hjj
            have y2':ms[j]? = some en:=by simpa using y2
            obtain ⟨en2,z1,z2⟩:=All2.get hr j p hp2
            rw [y2] at z1
            injection z1 with z1
            subst z1
            have hek:en.key = opd fr k':=by rw [← z2.1]; exact (keyEq_same hkv g5).symm
            have hstay:(Instr.keyThatStays (opd fr k') (opd fr k')).run P w = .ok (opd fr k') w:=by simp [Instr.keyThatStays,hkv.bits]
            have hborn:=hbn j en y2'
            have hpk:p.1 = opd fr k':=(keyEq_same hkv g5).symm
            have hset2:es.set j (p.1,p.2) = es:=by
              apply List.ext_getElem?
              intro i
              rw [List.getElem?_set]
              split
              · rename_i hij
                subst hij
                split
                · exact hp2.symm
                · rename_i hlt; rw [List.getElem?_eq_none (by omega)]
              · rfl
            have hs:=s.putObj (o':=.map es) hp hgo rfl rfl (δ:=0) (N:=0) (x:=.map ms cl) (x':=.map (ms.modify j fun e=>{ e with key:=opd fr k' }) cl) hh ⟨hr,hcl,hbn⟩ (fun _ _ _ _=>by
              have hA:=All2.modify (f:=fun e=>{ e with key:=opd fr k' }) hr y2' (p:=(p.1,p.2)) ⟨hpk,by rw [hpk]; exact hkv.flat,z2.2.2⟩
              rw [hset2] at hA
              exact ⟨hA,by simp [hcl],born_modify hbn (fun _=>rfl)⟩) (w':=setBlk w c (.map (ms.modify j fun e=>{ e with key:=opd fr k' }) cl)) rfl (so_setBlk _ _ _)
            have hmm:m.putObj ⟨b,0,none⟩ (.map es) = { m with h:=m.h.set b (.map es) }:=rfl
            have hs2:SR P B nt E D ρ lm (fget fr) m a (setBlk w c (.map (ms.modify j fun e=>{ e with key:=opd fr k' }) cl)):=by
              have hget:∀ b',(m.h.set b (.map es)).get b' = m.h.get b':=fun b'=>by
                by_cases hbb:b' = b
                · subst hbb; rw [AH.get_set_same _ (AH.get_lt he),he]
                · exact AH.get_set_ne _ hbb
              exact hs.hcongr (h':=m.h) rfl (fun b'=>(hget b').symm)
            refine EOk.val he' (u:=.tuple #[en.val,goInt en.born]) ?_ hs2 (.inl (.tuple _ _ rfl fun n y y' hy hy'=>?_))
            · rw [e2,hui]
              simp only [Nat.zero_add] at f1
              simp [Instr.mapEntry,run_und hu,run_getObjM hh,hck,f1,y2',hek,hstay,hset]
            · match n with
              | 0=>simp at hy hy'; subst hy hy'; exact z2.2.2
              | 1=>simp [goInt] at hy hy'; subst hy hy'; rw [hborn]; exact .int _ _
              | n + 2=>simp at hy
          · rename_i hp2
            rw [hp2] at g4
            subst g4
            injection hv with hv
            injection hv with q1 q2
            subst q1 q2
            obtain ⟨rfl,y6⟩:=f2
            have hs:=s.putObj (o':=.map (es ++ [(opd fr k',z)])) hp hgo rfl rfl (δ:=0) (N:=0) (x:=.map ms cl) (x':=.map (ms.push { key:=opd fr k',val:=z,born:=cl }) (cl + 1)) hh ⟨hr,hcl,hbn⟩ (fun _ _ _ _=>by
              refine ⟨?_,by simp [hcl],fun i e hi=>?_⟩
              · rw [Array.toList_push]
                exact All2.append hr (.cons ⟨rfl,hkv.flat,.flatV hzf⟩ .nil)
              · rw [Array.getElem?_push] at hi
                split at hi
                · rename_i hi2; injection hi with hi; subst hi; rw [hi2]; exact hcl
                · exact hbn i e hi) (w':=setBlk w c (.map (ms.push { key:=opd fr k',val:=z,born:=cl }) (cl + 1))) rfl (so_setBlk _ _ _)
            refine EOk.val he' (u:=.tuple #[z,goInt cl]) ?_ hs (.inl (.tuple _ _ rfl fun n y y' hy hy'=>?_))
            · rw [e2,hui]
              simp [Instr.mapEntry,run_und hu,run_getObjM hh,hck,f1,hzr,hset]
            · match n with
              | 0=>simp at hy hy'; subst hy hy'; exact .flatV hzf
              | 1 =>
                simp [goInt] at hy hy'; subst hy hy'
                rw [hcl,hlen]
                simp only [Array.length_toList]
                exact .int _ _
              | n + 2=>simp at hy
        · cases hv
      · cases hv
    · cases hv
  · cases hv
theorem find_born {ms:Array MapEntry} (h:∀ (i:Nat) (e:MapEntry),ms[i]? = some e→e.born = i) {j:Nat} (hj:j < ms.size):ms.findIdx? (fun e=>(e.born:Int) == (j:Int)) = some j:=by
  rw [Array.findIdx?_eq_some_iff_getElem]
  refine ⟨hj, ?_,fun i hi=>?_⟩
  · have:=h j ms[j] (by simp [hj])
    simp [this]
  · have:=h i (ms[i]'(by omega)) (by simp)
    simp [this]; omega
theorem e_mapst (s:SR P B nt E D ρ lm (fget fr) m a w) {o:Oper} {t:TypeId} {x i y:Operand} (ho:o.op = .entryStore t x i y) {x' i' y':Opd} (hx:liftOpd P x = some x') (hi:liftOpd P i = some i') (hy:liftOpd P y = some y')
    {call:CallF} {yld:YieldF} {v:Value} {m':Mem} (hv:(EOp.mapst x' i' y').ev call yld fr m = some (v,m')):EOk P B nt E D (fget fr) m' a v ((execOp a.eval o).run P w):=by
  have h1:=opdRel_act s x x' hx
  have h2:=opdRel_act s i i' hi
  have h3:=opdRel_act s y y' hy
  simp only [EOp.ev] at hv
  split at hv
  · rename_i b j e0 e1
    simp only [e0] at h1
    simp only [e1] at h2
    split at hv
    · rename_i es he
      split at hv
      · rename_i p hp2
        split at hv
        · rename_i hok
          injection hv with hv
          injection hv with q1 q2
          subst q1 q2
          obtain ⟨c, δ,N,e2,hc⟩:=h1.msome
          obtain ⟨ms,cl,hh,hr,hcl,hbn⟩:=s.mapAt he hc
          have hval:VRel ρ (opd fr y') (a.eval y):=h3.ok hok.2
          obtain ⟨en,z1,z2⟩:=All2.get hr j.toNat p hp2
          have z1':ms[j.toNat]? = some en:=by simpa using z1
          have hjl:j.toNat < ms.size:=(Array.getElem?_eq_some_iff.1 z1').1
          have hfb:=find_born hbn hjl
          have hjj:((j.toNat:Nat):Int) = j:=Int.toNat_of_nonneg hok.1
          rw [hjj] at hfb
          have hp:VRelF ρ lm (.pointer (some ⟨b,0,none⟩)) (.pointer (some ⟨c, δ + 0,none⟩)):=.inl (.ptr b 0 c δ N hc)
          have hgo:m.obj ⟨b,0,none⟩ = some (.map es):=he
          have he':execOp a.eval o = (do Instr.entryStore t (a.eval x) (a.eval i) (a.eval y); pure Next.skip:Sem Next):=by simp only [execOp,ho]
          have hset:∀ y,(setObj c y).run P w = .ok () (setBlk w c y):=fun y=>by simp [setObj,Sem.run,hh,setBlk]
          have hs:=s.putObj (o':=.map (es.set j.toNat (p.1,opd fr y'))) hp hgo rfl rfl (δ:=0) (N:=0) (x:=.map ms cl) (x':=.map (ms.modify j.toNat fun e=>{ e with val:=a.eval y }) cl) hh ⟨hr,hcl,hbn⟩ (fun _ _ _ _ =>
            ⟨All2.modify hr z1' ⟨z2.1,z2.2.1,hval⟩,by simp [hcl],born_modify hbn (fun _=>rfl)⟩) (w':=setBlk w c (.map (ms.modify j.toNat fun e=>{ e with val:=a.eval y }) cl)) rfl (so_setBlk _ _ _)
          refine ⟨.skip,undef,_, ρ,lm, ?_,.inr ⟨rfl,rfl⟩,hs,.inl (.undef _)⟩
          rw [he',e2,h2.int]
          have hasI:(asInt (.int .i64 j)).run P w = .ok j w:=rfl
          simp [Instr.entryStore,run_getObjM hh,hasI,hfb,hset]
        · cases hv
      · cases hv
    · cases hv
  · cases hv
theorem e_lit0 (s:SR P B nt E D ρ lm (fget fr) m a w) {o:Oper} {t e:TypeId} (ho:o.op = .buildSlice t 0 #[]) (hu:P.underlying t = some (.slice e)) {n:Nat} (hs:szOf P e = some n) {call:CallF} {yld:YieldF} {v:Value} {m':Mem}
    (hv:(EOp.litH 0 n [] []).ev call yld fr m = some (v,m')):EOk P B nt E D (fget fr) m' a v ((execOp a.eval o).run P w):=by
  simp only [EOp.ev,litCells,List.replicate_zero,List.flatten_nil,evParts,List.map_nil,fillA] at hv
  injection hv with hv
  injection hv with e1 e2
  subst e1 e2
  have hrun:(Instr.buildSlice t 0 #[]).run P w = .ok (.slice (some ⟨w.heap.size,0,none⟩) 0 0) (w.alloc (.cells #[] e)):=by
    have hsz:=run_szOf hs w
    have h0:Array.range 0 = #[]:=by decide
    simp [Instr.buildSlice,run_und hu,hsz,Instr.fill,newRow,h0]
  have he:execOp a.eval o = (do pure (Next.value (← Instr.buildSlice t 0 #[])):Sem Next):=by
    simp only [execOp,ho,List.map_toArray,List.map_nil]
  obtain ⟨hs2,hg⟩:=s.newH (xs:=[]) (us:=[]) (rest:=[]) .nil rfl (cs := #[]) (t:=e) (fz:=(0,0)) rfl (unfrozen0 _) (w':=w.alloc (.cells #[] e)) rfl (so_alloc _ _)
  have:=VRel.sl (ρ:=ρ ++ [(w.heap.size,0,0)]) m.h.n 0 w.heap.size 0 0 0 n 0 hg (Nat.le_refl _) (by omega)
  exact .val he hrun hs2 (.inl this)
theorem run_callFunc {f:FuncId} (hf:FnOk P f) (args:Array Value) (w:World):(callFunc f args).run P w = .ok (.enter f args) w:=by
  obtain ⟨fn,h1,h2,h3⟩:=hf
  obtain ⟨b,hb⟩:=Option.isSome_iff_exists.1 h3
  have h2' : ¬ fn.name = "runtime.NumGoroutine" := by simpa using h2
  simp [callFunc,h1,h2',hb]
theorem liftCall_app {c:Call} {n b:Nat} {x y:Opd} (hl:liftCall P c = some (.e (.append n b x y))) {t e:TypeId} {r:List TypeId} (he:P.underlying t = some (.slice e)) (ht:c.argTypes.toList = t :: r) :
    ∃ i,P.info? e = some i∧(i.zero.map fun z=>z.cells.size) = some i.size∧∃ d u x0 y0,c.argTypes = #[t,u]∧c.args = #[x0,y0]∧P.underlying u = some d∧(d = .string∨∃ e,d = .slice e) ∧
      liftOpd P x0 = some x∧liftOpd P y0 = some y∧n = i.size∧b = i.bytes∧c.callee = .builtin .append:=by
  unfold liftCall at hl
  split at hl
  · (repeat' split at hl) <;> first | (injection hl with hl; injection hl with hl; injection hl; done) | (injection hl with hl; injection hl; done) | cases hl
  · split at hl
    · injection hl with hl; injection hl with hl; injection hl
    · cases hl
  · cases hl
  · rename_i b0 hb
    split at hl
    · split at hl <;> first | (injection hl with hl; injection hl; done) | cases hl
    · injection hl with hl; injection hl
    · injection hl with hl; injection hl
    · rename_i x' y' t' u hx ht'
      have hat:c.argTypes = #[t',u]:=by rw [← Array.toList_inj]; simpa using ht'
      have htt:t' = t:=by rw [ht'] at ht; injection ht
      subst htt
      obtain ⟨x0,y0,ha,hx0,hy0⟩:=liftOpds_two hx
      split at hl
      · rename_i e' d hte hud
        rw [he] at hte
        injection hte with hte
        injection hte with hte
        subst hte
        split at hl
        · rename_i i e' hi
          split at hl
          · rename_i hz; injection hl with hl; injection hl with hl; injection hl with k1 k2 k3 k4; subst k1 k2 k3 k4; exact ⟨i,hi,hz,_,u,x0,y0,hat,ha,hud,.inr ⟨_,rfl⟩,hx0,hy0,rfl,rfl,hb⟩
          · cases hl
        · rename_i i hi
          split at hl
          · rename_i hz; injection hl with hl; injection hl with hl; injection hl with k1 k2 k3 k4; subst k1 k2 k3 k4; exact ⟨i,hi,hz,_,u,x0,y0,hat,ha,hud,.inl rfl,hx0,hy0,rfl,rfl,hb⟩
          · cases hl
        · cases hl
      · cases hl
    · split at hl
      · obtain ⟨_,_,h⟩:=Option.map_eq_some_iff.1 hl; injection h with h; cases h
      · cases hl
    · cases hl
theorem sim_e (s:SR P B nt E D ρ lm (fget fr) m a w) {o:Oper} {lo:List Nat} {eo:EOp} (hl:liftOp P lo o = some (.e eo)) (hnc:(∀ f xs,eo ≠ .call f xs)∧∀ x xs,eo ≠ .callv x xs) {call:CallF} {yld:YieldF} {v:Value} {m':Mem} (hv:eo.ev call yld fr m = some (v,m')) :
    EOk P B nt E D (fget fr) m' a v ((execOp a.eval o).run P w):=by
  cases hop:o.op
  case alloc t =>
    simp only [liftOp,hop] at hl
    split at hl
    · rename_i z d hz hd
      split at hl
      · injection hl with hl; injection hl with hl; subst hl
        exact e_new (loH:=true) (bl:=false) s hop hz hv
      · split at hl
        · injection hl with hl; injection hl with hl; subst hl
          exact e_new (loH:=false) (bl:=true) (d:=d) s hop hz hv
        · injection hl with hl; injection hl with hl; subst hl
          exact e_new (loH:=false) (bl:=false) (d:=d) s hop hz hv
    · cases hl
  case box t x =>
    simp only [liftOp,hop] at hl
    split at hl
    · rename_i n x' d hn hx hd
      split at hl
      · injection hl with hl; injection hl with hl; subst hl
        exact e_box (loH:=true) s hop hx hv
      · injection hl with hl; injection hl with hl; subst hl
        exact e_box (loH:=false) (d:=d) s hop hx hv
    · cases hl
  case buildSlice t len parts =>
    simp only [liftOp,hop] at hl
    split at hl
    · rename_i e d hu hd
      split at hl
      · rename_i n z hn hz
        split at hl
        · rename_i hb
          obtain ⟨l,hll,hl2⟩:=Option.map_eq_some_iff.1 hl
          split at hl2
          · injection hl2 with hl2; subst hl2
            exact e_lit (loH:=true) s hop hu hn hz hb hll hv
          · injection hl2 with hl2; subst hl2
            exact e_lit (loH:=false) (d:=d) s hop hu hn hz hb hll hv
        · split at hl
          · rename_i hb0
            injection hl with hl; injection hl with hl; subst hl
            obtain ⟨rfl,rfl,_⟩:=hb0
            exact e_lit0 s hop hu hn hv
          · cases hl
      · cases hl
    · cases hl
  case store t x y =>
    simp only [liftOp,hop] at hl
    split at hl
    · rename_i n x' y' hn hx hy
      split at hl
      · injection hl with hl; injection hl with hl; subst hl
        exact e_store s hop hx hy hn hv
      · cases hl
    · cases hl
  case convert src dst x =>
    simp only [liftOp,hop] at hl
    split at hl
    · injection hl with hl; injection hl
    · injection hl with hl; injection hl
    · injection hl with hl; injection hl
    · rename_i e x' hs hd hx
      split at hl
      · rename_i he _
        injection hl with hl; injection hl with hl; subst hl
        exact e_s2b s hop hx hs hd he hv
      · rename_i he _
        injection hl with hl; injection hl with hl; subst hl
        exact e_s2r s hop hx hs hd he hv
      · cases hl
    · split at hl <;> first | (injection hl with hl; injection hl; done) | cases hl
    · cases hl
  case range t x =>
    simp only [liftOp,hop] at hl
    split at hl
    · rename_i x' d hu hx hd
      split at hl
      · injection hl with hl; injection hl with hl; subst hl
        exact e_rng s hop hx hu hv
      · cases hl
    · cases hl
  case next x b =>
    cases b
    · simp only [liftOp,hop] at hl; cases hl
    · simp only [liftOp,hop] at hl
      obtain ⟨x',hx,h⟩:=Option.map_eq_some_iff.1 hl
      injection h with h; subst h
      exact e_nxt s hop hx hv
  case makeSlice t l c =>
    simp only [liftOp,hop] at hl
    split at hl
    · rename_i e hu
      split at hl
      · rename_i i z l' c' hi hz hl' hc'
        injection hl with hl; injection hl with hl; subst hl
        obtain ⟨r,w', ρ',h1,h2,h3⟩:=e_mks s hu hi hz hl' hc' hv
        exact .val (s:=Instr.makeSlice t (a.eval l) (a.eval c)) (by simp only [execOp,hop]) h1 h2 h3
      · cases hl
    · cases hl
  case makeMap t r =>
    simp only [liftOp,hop] at hl
    split at hl
    · rename_i hu
      injection hl with hl; injection hl with hl; subst hl
      exact e_mkmap s hop hu (.inl rfl) hv
    · rename_i hu
      injection hl with hl; injection hl with hl; subst hl
      exact e_mkmap s hop hu (.inr ⟨_,_,rfl⟩) hv
    · cases hl
  case mapEntry t x k =>
    simp only [liftOp,hop] at hl
    split at hl
    · rename_i kk e x' k' hm hx hk
      split at hl
      · rename_i z hz
        injection hl with hl; injection hl with hl; subst hl
        exact e_mapent s hop hm hz hx hk hv
      · cases hl
    · cases hl
  case entryStore t x i y =>
    simp only [liftOp,hop] at hl
    split at hl
    · rename_i x' i' y' hx hi hy
      split at hl
      · injection hl with hl; injection hl with hl; subst hl
        exact e_mapst s hop hx hi hy hv
      · cases hl
    · cases hl
  case mapUpdate t x k y =>
    simp only [liftOp,hop] at hl
    split at hl
    · rename_i kk e x' k' y' hm hx hk hy
      split at hl
      · rename_i hdn
        injection hl with hl; injection hl with hl; subst hl
        exact e_mapup s hop hdn hm hx hk hy hv
      · cases hl
    · cases hl
  case call c =>
    rcases liftOp_call hop hl with hl | ⟨n,b,x,y,e,t1,r1,hl0,ht1,he1,hq⟩
    rotate_left
    · injection hq with hq
      subst hq
      obtain ⟨i,hi,hz,d,u,x0,y0,hat,ha,hud,hd,hx0,hy0,rfl,rfl,hb⟩:=liftCall_app hl0 he1 ht1
      obtain ⟨consts,hrun⟩:=run_builtin (P:=P) (w:=w) (ev:=a.eval) hop hb
      rw [hrun,hat,ha]
      obtain ⟨r,w', ρ',h1,h2,h3⟩:=e_append (ty0:=some (2 * e)) s he1 hud hd hi hz hx0 hy0 o.type (fun T h=>by injection h with h; subst h; exact ⟨(Nat.mul_div_cancel_left e (by decide)).symm,Nat.mul_mod_right 2 e⟩) hv
      exact ⟨.value r,r,w', ρ',lm,by simp [builtin,h1],.inl rfl,h2,h3⟩
    unfold liftCall at hl
    split at hl
    · (repeat' split at hl) <;> first | (injection hl with hl; injection hl with hl; exact absurd hl.symm (hnc.1 _ _)) | (injection hl with hl; injection hl; done) | cases hl
    · split at hl
      · injection hl with hl; injection hl with hl; exact absurd hl.symm (hnc.2 _ _)
      · cases hl
    · cases hl
    · rename_i b hb
      obtain ⟨consts,hrun⟩:=run_builtin (P:=P) (w:=w) (ev:=a.eval) hop hb
      rw [hrun]
      split at hl
      · split at hl <;> first | (injection hl with hl; injection hl; done) | cases hl
      · injection hl with hl; injection hl
      · injection hl with hl; injection hl
      · rename_i x y t u hx ht
        have hat:c.argTypes = #[t,u]:=by rw [← Array.toList_inj]; simpa using ht
        obtain ⟨x0,y0,ha,hx0,hy0⟩:=liftOpds_two hx
        rw [hat,ha]
        split at hl
        · rename_i e d hte hud
          have hcase:∃ i,P.info? e = some i∧(i.zero.map fun z=>z.cells.size) = some i.size∧(d = .string∨∃ e,d = .slice e)∧eo = .append i.size i.bytes x y:=by
            split at hl
            · rename_i i e' hi
              split at hl
              · rename_i hz; injection hl with hl; injection hl with hl; exact ⟨i,hi,hz,.inr ⟨_,rfl⟩,hl.symm⟩
              · cases hl
            · rename_i i hi
              split at hl
              · rename_i hz; injection hl with hl; injection hl with hl; exact ⟨i,hi,hz,.inl rfl,hl.symm⟩
              · cases hl
            · cases hl
          obtain ⟨i,hi,hz,hd,rfl⟩:=hcase
          obtain ⟨r,w', ρ',h1,h2,h3⟩:=e_append (ty0:=none) s hte hud hd hi hz hx0 hy0 o.type (fun T h=>by cases h) hv
          exact ⟨.value r,r,w', ρ',lm,by simp [builtin,h1],.inl rfl,h2,h3⟩
        · cases hl
      · rename_i x y t ts hx ht
        obtain ⟨x0,y0,ha,hx0,hy0⟩:=liftOpds_two hx
        rw [ha]
        split at hl
        · rename_i e hte
          obtain ⟨n,hn,h⟩:=Option.map_eq_some_iff.1 hl
          injection h with h; subst h
          have hat:c.argTypes[0]? = some t:=by
            have:c.argTypes.toList[0]? = some t:=by rw [ht]; rfl
            simpa using this
          obtain ⟨r,w',h1,h2,h3⟩:=e_copy s hte hn hx0 hy0 c.argTypes hat o.type hv
          exact ⟨.value r,r,w', ρ,lm,by simp [builtin,h1],.inl rfl,h2,h3⟩
        · cases hl
      · cases hl
  all_goals simp only [liftOp,hop] at hl
  case move x=>obtain ⟨_,_,h⟩:=Option.map_eq_some_iff.1 hl; injection h
  case assign x=>obtain ⟨_,_,h⟩:=Option.map_eq_some_iff.1 hl; injection h
  case nilCheck x=>obtain ⟨_,_,h⟩:=Option.map_eq_some_iff.1 hl; injection h
  case unOp x=>obtain ⟨_,_,h⟩:=Option.map_eq_some_iff.1 hl; injection h
  case extract x=>obtain ⟨_,_,h⟩:=Option.map_eq_some_iff.1 hl; injection h
  case build t ps =>
    (repeat' split at hl) <;> first | cases hl | (obtain ⟨_,_,h⟩:=Option.map_eq_some_iff.1 hl; injection h)
  case slice t x l h mx =>
    (repeat' split at hl) <;> first | cases hl | (injection hl with hl; injection hl; done) | (obtain ⟨_,_,h⟩:=Option.map_eq_some_iff.1 hl; injection h)
  case field t x i =>
    (repeat' split at hl) <;> first | cases hl | (obtain ⟨_,_,h⟩:=Option.map_eq_some_iff.1 hl; injection h)
  case indexAddr t x i =>
    (repeat' split at hl) <;> first | cases hl | (obtain ⟨_,_,h⟩:=Option.map_eq_some_iff.1 hl; injection h)
  all_goals first | cases hl | ((repeat' split at hl) <;> first | (injection hl with hl; injection hl; done) | cases hl)
theorem all2_args {xs:List Value} {ys:Array Operand} (h:All2 (VRelF ρ lm) xs (ys.toList.map a.eval)) (hk:xs.all okV = true):VRels ρ xs (ys.map a.eval).toList:=by
  have:=h.okVs hk
  simpa using this
theorem sim_op {call:CallF} {yld:YieldF} (hcs:CallSound P B call) (hys:YieldSound P B yld) (s:SR P B nt E D ρ lm (fget fr) m a w) {o:Oper} {lo:List Nat} {op:LOp} (hl:liftOp P lo o = some op) {v:Value} {m':Mem}
    (hv:LInstr.ev call yld { dst:=o.dst,op,guard:=none } fr m = some (v,m')) {r:Option Nat} {n:Nat} {next:Act→World→Prop} {Q:Exit→Act→World→Prop}
    (hn:∀ ρ' lm' u w',SR P B nt E D ρ' lm' (fget fr) m' a w'→VRelF ρ' lm' v u→next (a.put o.dst u) w'):o.wpIn (WF r) n P a w next Q:=by
  have hd:∀ c,o.op ≠ .defer c:=fun c hc=>by rw [liftOp,hc] at hl; cases hl
  cases op with
  | p po =>
    simp only [LInstr.ev] at hv
    obtain ⟨v',h1,h2⟩:=Option.map_eq_some_iff.1 hv
    injection h2 with h2 h3
    subst h2 h3
    obtain ⟨u,g1,g2⟩:=sim_p (P:=P) (w:=w) (opdRel_act s) hl h1
    exact wpIn_res hd g1 (.inl rfl) (hn ρ lm u w s g2)
  | r ro =>
    simp only [LInstr.ev] at hv
    obtain ⟨v',h1,h2⟩:=Option.map_eq_some_iff.1 hv
    injection h2 with h2 h3
    subst h2 h3
    obtain ⟨u,g1,g2⟩:=sim_r s hl h1
    exact wpIn_res hd g1 (.inl rfl) (hn ρ lm u w s g2)
  | e eo =>
    simp only [LInstr.ev] at hv
    by_cases hc:(∃ f xs,eo = .call f xs)∨∃ x xs,eo = .callv x xs
    · have hB : B ≤ w.heap.size:=Nat.le_trans s.base s.tr.size
      have hop:∃ c,o.op = .call c:=by
        cases hop:o.op
        case call c=>exact ⟨c,rfl⟩
        all_goals
          exfalso
          simp only [liftOp,hop] at hl
          rcases hc with ⟨f,xs,rfl⟩ | ⟨f,xs,rfl⟩
          all_goals
            first
              | (cases hl; done)
              | ((repeat' split at hl) <;> first | (cases hl; done) | (obtain ⟨_,_,h⟩:=Option.map_eq_some_iff.1 hl; first | (cases h; done) | (split at h <;> cases h)) | (rename_i heq; cases heq; done) | (rename_i heq _; cases heq; done))
      obtain ⟨c,hop⟩:=hop
      replace hl:=(liftOp_call hop hl).elim id fun ⟨_,_,_,_,_,_,_,_,_,_,h⟩=>by
        injection h with h
        rcases hc with ⟨f,xs,rfl⟩ | ⟨f,xs,rfl⟩ <;> cases h
      unfold liftCall at hl
      have hrel:=opdRel_act s
      split at hl
      · rename_i f hcal
        obtain ⟨xs,hxs,h⟩:∃ xs,liftOpds P c.args = some xs∧eo = .call f xs:=by
          (repeat' split at hl) <;> first | (injection hl with hl; injection hl with hl; exact ⟨_,by assumption,hl.symm⟩) | (injection hl with hl; injection hl; done) | cases hl
        subst h
        simp only [EOp.ev] at hv
        split at hv
        · rename_i hok
          obtain ⟨⟨v1,h1⟩,hcall,h2⟩:=Option.map_eq_some_iff.1 hv
          injection h2 with h2 h3
          subst h2 h3
          obtain ⟨hfn,hcon⟩:=hcs f _ _ _ _ hcall
          have hargs:=all2_args (liftOpds_rel hrel _ _ hxs) hok
          have hrun:(execOp a.eval o).run P w = .ok (.enter f (c.args.map a.eval)) w:=by
            simp only [execOp,hop,resolve,hcal,Act.eval,Deferred.ofValue,Sem.run_bind,Sem.run_pure,Result.andThen_ok,invoke]
            simp only [Array.empty_append,Array.append_empty]
            exact run_callFunc hfn _ w
          exact wpIn_enter (P:=P) (B:=B) hd hrun (fun n=>hcon ρ w _ n hB s.heap hargs) fun u ρ' w' g1 g2 g3=>hn ρ' lm u w' (s.called g1 g2) (.inl g3)
        · cases hv
      · rename_i x hne hcal
        split at hl
        · rename_i y xs hy hxs
          injection hl with hl; injection hl with hl; subst hl
          simp only [EOp.ev] at hv
          split at hv
          · rename_i hok
            have hargs:=all2_args (liftOpds_rel hrel _ _ hxs) hok
            have hx:=hrel x y hy
            split at hv
            · rename_i f first captured e
              rw [e] at hx
              have hx2:=hx.vrel (by simp) (by simp)
              obtain ⟨⟨v1,h1⟩,hcall,h2⟩:=Option.map_eq_some_iff.1 hv
              injection h2 with h2 h3
              subst h2 h3
              obtain ⟨hfn,hcon⟩:=hcs f _ _ _ _ hcall
              generalize hax:a.eval x = ax at hx2
              cases hx2 with
              | func _ _ _ fi ca q1 q2 q3 q4 =>
                have hrun:(execOp a.eval o).run P w = .ok (.enter f (fi ++ c.args.map a.eval ++ ca)) w:=by
                  simp only [execOp,hop,resolve,hcal,hax,Deferred.ofValue,Sem.run_bind,Sem.run_pure,Result.andThen_ok,invoke]
                  exact run_callFunc hfn _ w
                have r1:VRels ρ first.toList fi.toList:=All2.of_get (by simpa using q1) fun i x y hx hy=>q3 i x y (by simpa using hx) (by simpa using hy)
                have r2:VRels ρ captured.toList ca.toList:=All2.of_get (by simpa using q2) fun i x y hx hy=>q4 i x y (by simpa using hx) (by simpa using hy)
                have hall:VRels ρ (first.toList ++ opds fr xs ++ captured.toList) (fi ++ c.args.map a.eval ++ ca).toList:=by
                  simp only [Array.toList_append]
                  exact All2.append (All2.append r1 hargs) r2
                exact wpIn_enter (P:=P) (B:=B) hd hrun (fun n=>hcon ρ w _ n hB s.heap hall) fun u ρ' w' g1 g2 g3=>hn ρ' lm u w' (s.called g1 g2) (.inl g3)
            · rename_i l first captured e
              rw [e] at hx
              have hx2:=hx.vrel (by simp) (by simp)
              split at hv
              · obtain ⟨⟨v1,h1⟩,hcall,h2⟩:=Option.map_eq_some_iff.1 hv
                injection h2 with h2 h3
                subst h2 h3
                generalize hax:a.eval x = ax at hx2
                cases hx2 with
                | yield _ cc δ N q1 =>
                  obtain ⟨ff,tmps,asx,body,y1,y2⟩:=hys l _ _ _ _ hcall ρ w (c.args.map a.eval) (n - 1) cc δ N hB s.heap hargs q1
                  have hrun:(execOp a.eval o).run P w = .ok (.round cc ff tmps asx body) w:=by
                    simp only [execOp,hop,resolve,hcal,hax,Deferred.ofValue,Sem.run_bind,Sem.run_pure,Result.andThen_ok,invoke,Array.empty_append]
                    exact y1
                  exact wpIn_yield (P:=P) (B:=B) hd hrun y2 fun u ρ' w' g1 g2 g3=>hn ρ' lm u w' (s.called g1 g2) (.inl g3)
              · cases hv
            · cases hv
          · cases hv
        · cases hl
      · cases hl
      · rcases hc with ⟨f,xs,rfl⟩ | ⟨f,xs,rfl⟩
        all_goals
          (repeat' split at hl) <;> first | (cases hl; done) | (obtain ⟨_,_,h⟩:=Option.map_eq_some_iff.1 hl; cases h)
    · have hnc:(∀ f xs,eo ≠ .call f xs)∧∀ x xs,eo ≠ .callv x xs:=⟨fun f xs e=>hc (.inl ⟨f,xs,e⟩),fun x xs e=>hc (.inr ⟨x,xs,e⟩)⟩
      obtain ⟨x,u,w', ρ',lm',h1,h2,h3,h4⟩:=sim_e s hl hnc hv
      exact wpIn_res hd h1 h2 (hn ρ' lm' u w' h3 h4)
end Go.Proofs.YtakmapoompffgaaGreatDoor.AM
