/- Parts of proofs: lemmas, joined. -/
import Derived.RangeFuncLeaves
set_option linter.unusedVariables false
set_option linter.unusedSimpArgs false
set_option linter.unusedSectionVars false
namespace Go.Proofs.YtakmapoompffgaaGreatDoor.AM
open Go
def frzX:Nat:=1
inductive Opd where
  | s (n:Nat)
  | c (v:Value)
inductive FK where
  | int | bool | string
inductive KK where
  | one (k:FK)
  | agg (ks:List FK)
inductive EqK where
  | bool | ptr | sl | map | func
inductive POp where
  | mv (x:Opd)
  | pick (c a b:Opd)
  | bin (op:BinOp) (x y:Opd)
  | un (op:UnOp) (x:Opd)
  | conv (k:IntKind) (x:Opd)
  | i2s (x:Opd)
  | build (zero:List Value) (parts:List (Nat × Nat × Opd))
  | nilck (x:Opd)
  | slS (x:Opd) (lo hi:Option Opd)
  | sl (esz:Nat) (x:Opd) (lo hi mx:Option Opd)
  | faddr (off:Nat) (x:Opd)
  | fld (off:Nat) (n:Option Nat) (x:Opd)
  | iaddr (esz:Nat) (x i:Opd)
  | iaddrA (len esz:Nat) (x i:Opd)
  | idxS (x i:Opd)
  | idxA (len esz:Nat) (n:Option Nat) (x i:Opd)
  | ext (i:Nat) (x:Opd)
  | idxB (x c:Opd)
  | len (x:Opd)
  | slen (x:Opd)
  | mm (big:Bool) (xs:List Opd)
  | mkfn (fn:Fn) (first captured:List Opd)
  | mkif (t:TypeId) (x:Opd)
  | eqA (neq:Bool) (ks:List FK) (x y:Opd)
  | eqk (neq:Bool) (k:EqK) (x y:Opd)
inductive ROp where
  | load (n:Option Nat) (x:Opd)
  | b2s (x:Opd)
  | r2s (x:Opd)
  | maplen (x:Opd)
  | lookup (kk:KK) (zero:Value) (ok:Bool) (x k:Opd)
inductive EOp where
  | newL (t:Nat) (zero:List Value)
  | newH (zero:List Value)
  | boxL (t:Nat) (n:Nat) (x:Opd)
  | boxH (n:Nat) (x:Opd)
  | litL (t:Nat) (n esz:Nat) (zero:List Value) (parts:List (Nat × Nat × Opd))
  | litH (n esz:Nat) (zero:List Value) (parts:List (Nat × Nat × Opd))
  | store (n:Nat) (a x:Opd)
  | s2b (x:Opd)
  | s2r (x:Opd)
  | rngS (t:Nat) (x:Opd)
  | nxtS (x:Opd)
  | call (f:FuncId) (args:List Opd)
  | callv (f:Opd) (args:List Opd)
  | append (esz bytes:Nat) (x y:Opd)
  | newT (t:Nat) (zero:List Value)
  | appendT (t esz bytes:Nat) (x y:Opd)
  | copy (esz:Nat) (x y:Opd)
  | mks (esz bytes:Nat) (zero:List Value) (l c:Opd)
  | mkmap
  | mapup (kk:KK) (m k x:Opd)
  | mapent (kk:KK) (zero:Value) (m k:Opd)
  | mapst (m stamp x:Opd)
inductive LOp where
  | p (o:POp)
  | r (o:ROp)
  | e (o:EOp)
structure LInstr where
  dst:Option Nat
  op:LOp
  guard:Option (Nat × Bool)
inductive LCode where
  | skip
  | region (ops:List LInstr) (keep:List Nat) (chk:List (Nat × Nat))
  | seq (a b:LCode)
  | cond (c:Opd) (a b:LCode)
  | block (id:Nat) (a:LCode)
  | loop (a:LCode)
  | exit (id:Nat)
  | ret
  | rangeF (f:Opd) (params:List Nat) (assign body:LCode)
  | bad
inductive LRes where
  | tmp (s:Nat)
  | cell (s:Nat) (n:Option Nat)
structure LFunc where
  nargs:Nat
  results:List LRes
  body:LCode
abbrev Fr:=List (Nat × Value)
def fget:Fr→Nat→Value
  | [],_=>undef
  | (k,v) :: r,n=>if n = k then v else fget r n
inductive Jump where
  | ret
  | exit (id:Nat)
structure LRec where
  state:LoopState
  pend:Option Jump
  fr:Fr
  params:List Nat
  assign:LCode
  body:LCode
inductive AObj where
  | cells (ro:Bool) (xs:List Value)
  | map (es:List (Value × Value))
  | siter (s:ByteArray) (pos:Nat)
  | loop (r:LRec)
  | tc (t:Nat) (xs:List Value)
def AObj.ro:AObj→Bool
  | .cells ro _=>ro
  | _=>false
def AObj.mk:Option Nat→List Value→AObj
  | none,xs=>.cells false xs
  | some t,xs=>.tc t xs
def AObj.own:Option Nat→Nat→Option AObj→Option (List Value)
  | none,_,some (.cells false xs)=>some xs
  | some t,0,some (.tc t' xs)=>if t' = t then some xs else none
  | _,_,_=>none
inductive Tr where
  | e
  | n (l:Tr) (v:Option AObj) (r:Tr)
def Tr.get:Tr→Nat→Option AObj
  | .e,_=>none
  | .n l v r,k=>if k = 0 then v else if k % 2 = 1 then l.get (k / 2) else r.get (k / 2 - 1)
def Tr.set:Nat→Tr→Nat→Option AObj→Tr
  | 0,t,_,_=>t
  | f + 1,.e,k,x=>if k = 0 then .n .e x .e else if k % 2 = 1 then .n (Tr.set f .e (k / 2) x) none .e else .n .e none (Tr.set f .e (k / 2 - 1) x)
  | f + 1,.n l v r,k,x=>if k = 0 then .n l x r else if k % 2 = 1 then .n (Tr.set f l (k / 2) x) v r else .n l v (Tr.set f r (k / 2 - 1) x)
structure AH where
  n:Nat
  m:Tr
def AH.get (h:AH) (b:Nat):Option AObj:=if b < h.n then h.m.get b else none
def AH.put (h:AH) (b:Nat) (o:Option AObj):AH:={ h with m:=Tr.set (b + 1) h.m b o }
def AH.set (h:AH) (b:Nat) (o:AObj):AH:=h.put b (some o)
def AH.kill (h:AH) (b:Nat):AH:=h.put b none
def AH.push (h:AH) (o:AObj):AH:={ n:=h.n + 1,m:=Tr.set (h.n + 1) h.m h.n (some o) }
structure Mem where
  lc:List (Nat × AObj)
  h:AH
def lget:List (Nat × AObj)→Nat→Option AObj
  | [],_=>none
  | (k,v) :: r,n=>if n = k then some v else lget r n
def loc (nm off:Nat):Addr:=⟨nm,off,some 1⟩
def isLoc:Value→Bool
  | .pointer (some a)=>a.spot.isSome
  | .slice (some a) _ _=>a.spot.isSome
  | _=>false
def Mem.obj (m:Mem) (a:Addr):Option AObj :=
  match a.spot with
  | none=>m.h.get a.block
  | some _=>lget m.lc a.block
def Mem.rd (m:Mem) (a:Addr) (n:Nat):Option (List Value) :=
  match m.obj a with
  | some (.cells _ xs)=>if a.off + n≤xs.length then some ((xs.drop a.off).take n) else none
  | some (.tc _ xs)=>if a.off + n≤xs.length then some ((xs.drop a.off).take n) else none
  | _=>none
def setAll:List Value→Nat→List Value→List Value
  | xs,_,[]=>xs
  | xs,i,v :: vs=>setAll (xs.set i v) (i + 1) vs
def Mem.putObj (m:Mem) (a:Addr) (o:AObj):Mem :=
  match a.spot with
  | none=>{ m with h:=m.h.set a.block o }
  | some _=>{ m with lc:=(a.block,o) :: m.lc }
def Mem.wr (m:Mem) (a:Addr) (vs:List Value):Option Mem :=
  match m.obj a with
  | some (.cells false xs)=>if a.off + vs.length≤xs.length then some (m.putObj a (.cells false (setAll xs a.off vs))) else none
  | some (.tc t xs)=>if a.off + vs.length≤xs.length then some (m.putObj a (.tc t (setAll xs a.off vs))) else none
  | _=>none
def vcells:Value→List Value
  | .agg cs=>cs.toList
  | v=>[v]
def cellOk:Value→Bool
  | .agg _=>false
  | .chan _=>false
  | .tuple _=>false
  | v => !isLoc v
def okV (v:Value):Bool := !isLoc v
def opd (fr:Fr):Opd→Value
  | .s n=>fget fr n
  | .c v=>v
def opds (fr:Fr) (xs:List Opd):List Value:=xs.map (opd fr)
def intBin (op:BinOp) (k:IntKind) (a b:Int):Option Value :=
  match op with
  | .add=>some (.int k (k.wrap (a + b)))
  | .sub=>some (.int k (k.wrap (a - b)))
  | .mul=>some (.int k (k.wrap (a * b)))
  | .quo=>if b = 0 then none else some (.int k (k.wrap (a.tdiv b)))
  | .rem=>if b = 0 then none else some (.int k (a.tmod b))
  | .and=>some (.int k (k.wrap (BitVec.ofInt k.bits a &&& BitVec.ofInt k.bits b).toNat))
  | .or=>some (.int k (k.wrap (BitVec.ofInt k.bits a ||| BitVec.ofInt k.bits b).toNat))
  | .xor=>some (.int k (k.wrap (BitVec.ofInt k.bits a ^^^ BitVec.ofInt k.bits b).toNat))
  | .andNot=>some (.int k (k.wrap (BitVec.ofInt k.bits a &&& ~~~BitVec.ofInt k.bits b).toNat))
  | .eql=>some (.bool (a == b))
  | .neq=>some (.bool (a != b))
  | .lss=>some (.bool (decide (a < b)))
  | .leq=>some (.bool (decide (a≤b)))
  | .gtr=>some (.bool (decide (a > b)))
  | .geq=>some (.bool (decide (a ≥ b)))
  | _=>none
def strBin (op:BinOp) (x y:ByteArray):Option Value :=
  match op with
  | .add=>if x.size + y.size≤9223372036854775807 then some (.string (x ++ y)) else none
  | .eql=>some (.bool (x.toList == y.toList))
  | .neq=>some (.bool (!(x.toList == y.toList)))
  | .lss=>some (.bool (Op.bytesLess x.toList y.toList))
  | .leq=>some (.bool (Op.bytesLess x.toList y.toList || x.toList == y.toList))
  | .gtr=>some (.bool (!(Op.bytesLess x.toList y.toList || x.toList == y.toList)))
  | .geq=>some (.bool (!(Op.bytesLess x.toList y.toList)))
  | _=>none
def shiftBin (op:BinOp) (k:IntKind) (x y:Int):Option Value :=
  if y < 0 then none else
  match op with
  | .shl=>some (.int k (k.wrap (x * 2 ^ (min y.toNat k.bits))))
  | .shr=>some (.int k (x.fdiv (2 ^ (min y.toNat k.bits))))
  | _=>none
def eqNil:EqK→Value→Value→Option Bool
  | .bool,.bool a,.bool b=>some (a == b)
  | .ptr,.pointer none,.pointer b=>some b.isNone
  | .ptr,.pointer (some _),.pointer none=>some false
  | .sl,.slice none _ _,.slice b _ _=>some b.isNone
  | .sl,.slice (some _) _ _,.slice none _ _=>some false
  | .map,.map none,.map b=>some b.isNone
  | .map,.map (some _),.map none=>some false
  | .func,.func ..,.nilFunc=>some false
  | .func,.nilFunc,.func .. => some false
  | .func,.nilFunc,.nilFunc=>some true
  | _,_,_=>none
def binA (op:BinOp) (x y:Value):Option Value :=
  match x,y with
  | .int k a,.int k' b =>
    match op with
    | .shl=>shiftBin .shl k a b
    | .shr=>shiftBin .shr k a b
    | op=>if k = k' then intBin op k a b else none
  | .string a,.string b=>strBin op a b
  | _,_=>none
def unA (op:UnOp) (x:Value):Option Value :=
  match op,x with
  | .not,.bool b=>some (.bool (!b))
  | .neg,.int k n=>some (.int k (k.wrap (0 - n)))
  | _,_=>none
def fillA:List Value→List (Nat × Nat × Value)→Option (List Value)
  | zs,[]=>some zs
  | zs,(off,size,v) :: r =>
    if (vcells v).length = size∧off + size≤zs.length∧(vcells v).all cellOk = true then fillA (setAll zs off (vcells v)) r else none
def evParts (fr:Fr) (ps:List (Nat × Nat × Opd)):List (Nat × Nat × Value):=ps.map fun p=>(p.1,p.2.1,opd fr p.2.2)
def asNat:Value→Option Int
  | .int _ n=>some n
  | _=>none
def optInt (fr:Fr):Option Opd→Int→Option Int
  | none,d=>some d
  | some o,_=>asNat (opd fr o)
def ptrOff (a:Addr) (n:Nat):Addr:={ a with off:=a.off + n }
def partA (cs:List Value) (off:Nat):Option Nat→Option Value
  | none=>cs[off]?
  | some n=>if off + n≤cs.length then some (.agg ((cs.drop off).take n).toArray) else none
def mm2 (big:Bool):Value→Value→Option Value
  | .int k x,.int _ y=>some (.int k (if big then (if y > x then y else x) else (if y < x then y else x)))
  | _,_=>none
def mmA (big:Bool):List Value→Option Value
  | .int k n :: r=>r.foldlM (mm2 big) (.int k n)
  | _=>none
def eqCells:List FK→List Value→List Value→Option Bool
  | [],[],[]=>some true
  | .int :: ks,.int k a :: xs,.int k' b :: ys=>if k = k' then (if a == b then eqCells ks xs ys else some false) else none
  | .bool :: ks,.bool a :: xs,.bool b :: ys=>if a == b then eqCells ks xs ys else some false
  | .string :: ks,.string a :: xs,.string b :: ys=>if a == b then eqCells ks xs ys else some false
  | _,_,_=>none
def POp.ev (fr:Fr):POp→Option Value
  | .mv x=>some (opd fr x)
  | .pick c a b=>match opd fr c with
    | .bool t=>some (if t then opd fr a else opd fr b)
    | _=>none
  | .bin op x y=>binA op (opd fr x) (opd fr y)
  | .un op x=>unA op (opd fr x)
  | .conv k x=>match opd fr x with
    | .int _ n=>some (.int k (k.wrap n))
    | _=>none
  | .i2s x=>match opd fr x with
    | .int _ n=>some (.string (Utf8.encode n))
    | _=>none
  | .build zero parts=>(fillA zero (evParts fr parts)).map fun cs=>.agg cs.toArray
  | .nilck x=>match opd fr x with
    | .pointer (some a)=>some (.pointer (some a))
    | .func fn first captured=>match fn with
      | .func _=>some (.func fn first captured)
      | .yield _=>some (.func fn first captured)
      | _=>none
    | _=>none
  | .slS x lo hi=>match opd fr x with
    | .string s =>
      match optInt fr lo 0,optInt fr hi s.size with
      | some l,some h=>if 0≤l∧l≤h∧h≤s.size then some (.string (s.extract l.toNat h.toNat)) else none
      | _,_=>none
    | _=>none
  | .sl esz x lo hi mx=>match opd fr x with
    | .slice (some a) n e =>
      match optInt fr lo 0,optInt fr hi n,optInt fr mx n with
      | some l,some h,some m=>if 0≤l∧l≤h∧h≤m∧m≤n∧e = esz∧a.spot.isNone then some (.slice (some (ptrOff a (l.toNat * esz))) (h.toNat - l.toNat) esz) else none
      | _,_,_=>none
    | .slice none _ _ =>
      match optInt fr lo 0,optInt fr hi 0,optInt fr mx 0 with
      | some l,some h,some m=>if l = 0∧h = 0∧m = 0 then some (.slice none 0 0) else none
      | _,_,_=>none
    | _=>none
  | .faddr off x=>match opd fr x with
    | .pointer (some a)=>some (.pointer (some (ptrOff a off)))
    | _=>none
  | .fld off n x=>match opd fr x with
    | .agg cs=>partA cs.toList off n
    | _=>none
  | .iaddr esz x i=>match opd fr x,opd fr i with
    | .slice (some a) n _,.int _ j=>if 0≤j∧j < n∧a.spot.isNone then some (.pointer (some (ptrOff a (j.toNat * esz)))) else none
    | _,_=>none
  | .iaddrA nn esz x i=>match opd fr x,opd fr i with
    | .pointer (some a),.int _ j=>if 0≤j∧j < nn then some (.pointer (some (ptrOff a (j.toNat * esz)))) else none
    | _,_=>none
  | .idxS x i=>match opd fr x,opd fr i with
    | .string s,.int _ j=>if 0≤j∧j.toNat < s.size then some (.int .u8 ((s[j.toNat]?).getD 0).toNat) else none
    | _,_=>none
  | .idxA nn esz n x i=>match opd fr x,opd fr i with
    | .agg cs,.int _ j=>if 0≤j∧j < nn then partA cs.toList (j.toNat * esz) n else none
    | _,_=>none
  | .ext i x=>match opd fr x with
    | .tuple vs=>vs[i]?
    | _=>none
  | .idxB x c=>match opd fr x,opd fr c with
    | .string s,.int .u8 n=>some (.int .i64 (match (List.range s.size).find? fun i=>s[i]! == UInt8.ofNat n.toNat with
      | some i=>(i:Int)
      | none => -1))
    | _,_=>none
  | .len x=>match opd fr x with
    | .slice _ n _=>some (.int .i64 n)
    | _=>none
  | .slen x=>match opd fr x with
    | .string s=>some (.int .i64 s.size)
    | _=>none
  | .mm big xs=>mmA big (opds fr xs)
  | .mkfn fn first captured =>
    match fn with
    | .func _=>if (opds fr first).all okV && (opds fr captured).all okV then some (.func fn (opds fr first).toArray (opds fr captured).toArray) else none
    | _=>none
  | .mkif t x=>if okV (opd fr x) then some (.iface t (opd fr x)) else none
  | .eqA neq ks x y=>match opd fr x,opd fr y with
    | .agg xs,.agg ys=>(eqCells ks xs.toList ys.toList).map fun b=>.bool (if neq then !b else b)
    | _,_=>none
  | .eqk neq k x y=>(eqNil k (opd fr x) (opd fr y)).map fun b=>.bool (if neq then !b else b)
def keyEq:KK→Value→Value→Option Bool
  | .one k,x,y=>eqCells [k] [x] [y]
  | .agg ks,.agg xs,.agg ys=>eqCells ks xs.toList ys.toList
  | _,_,_=>none
def keyFind (kk:KK) (k:Value):List (Value × Value)→Option (Option Value)
  | []=>some none
  | (x,v) :: r=>match keyEq kk k x with
    | some true=>some (some v)
    | some false=>keyFind kk k r
    | none=>none
def keyIx (kk:KK) (k:Value):List (Value × Value)→Option Nat
  | []=>some 0
  | (x,_) :: r=>match keyEq kk k x with
    | some true=>some 0
    | some false=>(keyIx kk k r).map (· + 1)
    | none=>none
def keySet (kk:KK) (k v:Value):List (Value × Value)→List (Value × Value)
  | []=>[(k,v)]
  | (x,u) :: r=>match keyEq kk k x with
    | some true=>(x,v) :: r
    | _=>(x,u) :: keySet kk k v r
def bytesOf:List Value→Option (List UInt8)
  | []=>some []
  | .int .u8 n :: r=>(bytesOf r).map fun l=>UInt8.ofNat n.toNat :: l
  | _=>none
def runesOf:List Value→Option (List Int)
  | []=>some []
  | .int .i32 n :: r=>(runesOf r).map fun l=>n :: l
  | _=>none
def encAll:List Int→ByteArray→ByteArray
  | [],acc=>acc
  | n :: r,acc=>encAll r (acc ++ Utf8.encode n)
def ROp.ev (fr:Fr) (m:Mem):ROp→Option Value
  | .load none x=>match opd fr x with
    | .pointer (some a)=>match m.rd a 1 with
      | some [v]=>some v
      | _=>none
    | _=>none
  | .load (some n) x=>match opd fr x with
    | .pointer (some a)=>(m.rd a n).map fun l=>.agg l.toArray
    | _=>none
  | .b2s x=>match opd fr x with
    | .slice none _ _=>some (.string ⟨#[]⟩)
    | .slice (some a) n _=>match m.rd a n with
      | some l=>(bytesOf l).map fun bs=>.string ⟨bs.toArray⟩
      | none=>none
    | _=>none
  | .r2s x=>match opd fr x with
    | .slice none _ _=>some (.string ⟨#[]⟩)
    | .slice (some a) n _=>match m.rd a n with
      | some l=>(runesOf l).map fun rs=>.string (encAll rs ⟨#[]⟩)
      | none=>none
    | _=>none
  | .maplen x=>match opd fr x with
    | .map none=>some (.int .i64 0)
    | .map (some b)=>match m.h.get b with
      | some (.map es)=>some (.int .i64 es.length)
      | _=>none
    | _=>none
  | .lookup kk zero ok x k =>
    match (match opd fr x with
      | .map none=>some []
      | .map (some b)=>(match m.h.get b with
        | some (.map es)=>some es
        | _=>none)
      | _=>none:Option (List (Value × Value))) with
    | some es=>if keyEq kk (opd fr k) (opd fr k) = some true then
        match keyFind kk (opd fr k) es with
        | some (some v)=>some (if ok then .tuple #[v,.bool true] else v)
        | some none=>some (if ok then .tuple #[zero,.bool false] else zero)
        | none=>none
      else none
    | none=>none
abbrev CallF:=FuncId→List Value→AH→Option (Value × AH)
abbrev YieldF:=Nat→List Value→AH→Option (Value × AH)
def Mem.newLoc (m:Mem) (t:Nat) (o:AObj):Option Mem :=
  match lget m.lc (2 * t + 1) with
  | none=>some { m with lc:=(2 * t + 1,o) :: m.lc }
  | some _=>none
def litCells (n:Nat) (zero:List Value):List Value:=(List.replicate n zero).flatten
def rdSlice (m:Mem) (esz:Nat):Value→Option (List Value)
  | .slice none _ _=>some []
  | .slice (some a) n _=>if n = 0 then some [] else m.rd a (n * esz)
  | .string s=>some (s.data.toList.map fun b=>.int .u8 b.toNat)
  | _=>none
def lenV:Value→Option Nat
  | .slice _ n _=>some n
  | .string s=>some s.size
  | _=>none
def appendG (ty:Option Nat) (esz bytes:Nat) (m:Mem) (x y:Value):Option (Value × Mem) :=
  match lenV y,rdSlice m esz y with
  | some k,some ys =>
    if ys.length = k * esz then
    match x with
    | .slice none n _ =>
      if n = 0 then
        if k = 0 then some (.slice none 0 0,m)
        else if k * bytes≤140737488355328∧0 < bytes∧0 < esz then some (.slice (some ⟨m.h.n,0,none⟩) k esz,{ m with h:=m.h.push (.mk ty ys) }) else none
      else none
    | .slice (some a) n e =>
      if k = 0∧a.spot.isNone then some (.slice (some a) n e,m) else
      match a.spot,AObj.own ty a.off (m.h.get a.block) with
      | none,some xs =>
        if a.off + n * esz = xs.length∧(n + k) * bytes≤140737488355328∧0 < bytes∧0 < esz∧e = esz then
          some (.slice (some ⟨m.h.n,0,none⟩) (n + k) esz,{ m with h:=(m.h.kill a.block).push (.mk ty (xs.drop a.off ++ ys)) })
        else none
      | _,_=>none
    | _=>none
    else none
  | _,_=>none
abbrev appendA (esz bytes:Nat) (m:Mem) (x y:Value):Option (Value × Mem):=appendG none esz bytes m x y
def EOp.ev (call:CallF) (yld:YieldF) (fr:Fr) (m:Mem):EOp→Option (Value × Mem)
  | .newL t zero=>(m.newLoc t (.cells false zero)).map fun m'=>(.pointer (some (loc (2 * t + 1) 0)),m')
  | .newH zero=>some (.pointer (some ⟨m.h.n,0,none⟩),{ m with h:=m.h.push (.cells false zero) })
  | .boxL t n x=>if (vcells (opd fr x)).length = n∧(vcells (opd fr x)).all cellOk = true then
      (m.newLoc t (.cells false (vcells (opd fr x)))).map fun m'=>(.pointer (some (loc (2 * t + 1) 0)),m') else none
  | .boxH n x=>if (vcells (opd fr x)).length = n∧(vcells (opd fr x)).all cellOk = true then
      some (.pointer (some ⟨m.h.n,0,none⟩),{ m with h:=m.h.push (.cells false (vcells (opd fr x))) }) else none
  | .litL t n esz zero parts=>match fillA (litCells n zero) (evParts fr parts) with
    | some cs=>(m.newLoc t (.cells false cs)).map fun m'=>(.slice (some (loc (2 * t + 1) 0)) n esz,m')
    | none=>none
  | .litH n esz zero parts=>match fillA (litCells n zero) (evParts fr parts) with
    | some cs=>some (.slice (some ⟨m.h.n,0,none⟩) n esz,{ m with h:=m.h.push (.cells false cs) })
    | none=>none
  | .store n a x=>match opd fr a with
    | .pointer (some p)=>if (vcells (opd fr x)).length = n∧(vcells (opd fr x)).all cellOk = true then
        (m.wr p (vcells (opd fr x))).map fun m'=>(undef,m') else none
    | _=>none
  | .s2b x=>match opd fr x with
    | .string s=>if frzX = 0∧s.size≤9223372036854775807 then some (.slice (some ⟨m.h.n,0,none⟩) s.size 1,{ m with h:=m.h.push (.cells false (s.data.toList.map fun b=>.int .u8 b.toNat)) }) else none
    | _=>none
  | .s2r x=>match opd fr x with
    | .string s=>if s.size≤70368744177664 then
        some (.slice (some ⟨m.h.n,0,none⟩) (Conv.runesFrom s s.size 0 #[]).size 1,{ m with h:=m.h.push (.cells false (Conv.runesFrom s s.size 0 #[]).toList) }) else none
    | _=>none
  | .rngS t x=>match opd fr x with
    | .string s=>(m.newLoc t (.siter s 0)).map fun m'=>(.pointer (some (loc (2 * t + 1) 0)),m')
    | _=>none
  | .nxtS x=>match opd fr x with
    | .pointer (some a)=>if a.off = 0∧a.spot.isSome then match m.obj a with
      | some (.siter s pos) =>
        if pos < s.size then
          some (.tuple #[.bool true,.int .i64 pos,.int .i32 (Utf8.decode s pos).1],m.putObj a (.siter s (pos + (Utf8.decode s pos).2)))
        else some (.tuple #[.bool false],m)
      | _=>none else none
    | _=>none
  | .call f args=>if (opds fr args).all okV = true then (call f (opds fr args) m.h).map fun r=>(r.1,{ m with h:=r.2 }) else none
  | .callv f args=>if (opds fr args).all okV = true then
      match opd fr f with
      | .func (.func g) first captured=>(call g (first.toList ++ opds fr args ++ captured.toList) m.h).map fun r=>(r.1,{ m with h:=r.2 })
      | .func (.yield l) first _=>if first.size = 0 then (yld l (opds fr args) m.h).map fun r=>(r.1,{ m with h:=r.2 }) else none
      | _=>none
    else none
  | .append esz bytes x y=>appendA esz bytes m (opd fr x) (opd fr y)
  | .newT t zero=>some (.pointer (some ⟨m.h.n,0,none⟩),{ m with h:=m.h.push (.tc t zero) })
  | .appendT t esz bytes x y=>appendG (some t) esz bytes m (opd fr x) (opd fr y)
  | .copy esz x y=>match opd fr x,lenV (opd fr y),rdSlice m esz (opd fr y) with
    | .slice a n _,some k,some ys =>
      if ys.length = k * esz then
        if min k n = 0 then some (.int .i64 0,m) else
        match a with
        | some p=>(m.wr p (ys.take (min k n * esz))).map fun m'=>(.int .i64 (min k n:Nat),m')
        | none=>none
      else none
    | _,_,_=>none
  | .mks esz bytes zero l c=>match opd fr l,opd fr c with
    | .int .i64 i,.int .i64 j =>
      if 0≤i∧i≤j∧j * bytes≤281474976710656∧j≤9223372036854775807∧zero.length = esz∧0 < esz then
        some (.slice (some ⟨m.h.n,0,none⟩) i.toNat esz,{ m with h:=m.h.push (.cells false (litCells i.toNat zero)) }) else none
    | _,_=>none
  | .mkmap=>some (.map (some m.h.n),{ m with h:=m.h.push (.map []) })
  | .mapup kk x k v=>match opd fr x with
    | .map (some b)=>match m.h.get b with
      | some (.map es) =>
        match keyFind kk (opd fr k) es with
        | some _=>if okV (opd fr v) = true∧keyEq kk (opd fr k) (opd fr k) = some true then some (undef,{ m with h:=m.h.set b (.map (keySet kk (opd fr k) (opd fr v) es)) }) else none
        | none=>none
      | _=>none
    | _=>none
  | .mapent kk zero x k=>match opd fr x with
    | .map (some b)=>match m.h.get b with
      | some (.map es) =>
        if keyEq kk (opd fr k) (opd fr k) = some true then
          match keyIx kk (opd fr k) es with
          | some j=>match es[j]? with
            | some p=>some (.tuple #[p.2,.int .i64 j],m)
            | none=>some (.tuple #[zero,.int .i64 es.length],{ m with h:=m.h.set b (.map (es ++ [(opd fr k,zero)])) })
          | none=>none
        else none
      | _=>none
    | _=>none
  | .mapst x i v=>match opd fr x,opd fr i with
    | .map (some b),.int .i64 j=>match m.h.get b with
      | some (.map es)=>match es[j.toNat]? with
        | some p=>if 0≤j∧okV (opd fr v) = true then some (undef,{ m with h:=m.h.set b (.map (es.set j.toNat (p.1,opd fr v))) }) else none
        | none=>none
      | _=>none
    | _,_=>none
def LInstr.ev (call:CallF) (yld:YieldF) (i:LInstr) (fr:Fr) (m:Mem):Option (Value × Mem) :=
  match i.op with
  | .p o=>(o.ev fr).map fun v=>(v,m)
  | .r o=>(o.ev fr m).map fun v=>(v,m)
  | .e o=>o.ev call yld fr m
def skV:Value:=.chan none
def wantedA (fr:Fr):Option (Nat × Bool)→Option Bool
  | none=>some true
  | some (g,b)=>match fget fr g with
    | .bool t=>some (t == b)
    | .chan none=>some false
    | _=>none
def LInstr.step (call:CallF) (yld:YieldF) (i:LInstr) (fr:Fr) (m:Mem):Option (Value × Mem) :=
  match wantedA fr i.guard with
  | some true=>i.ev call yld fr m
  | some false=>some (skV,m)
  | none=>none
def pushD (fr:Fr) (d:Option Nat) (v:Value):Fr :=
  match d with
  | some s=>(s,v) :: fr
  | none=>fr
def runOps (call:CallF) (yld:YieldF):List LInstr→Fr→Mem→Option (Fr × Mem)
  | [],fr,m=>some (fr,m)
  | i :: r,fr,m=>match i.step call yld fr m with
    | some (v,m')=>runOps call yld r (pushD fr i.dst v) m'
    | none=>none
def settle1 (s:Nat) (v:Value):Option Value :=
  if isLoc v then
    match v with
    | .pointer (some a)=>if (a.block = 2 * s + 1∨a.block = 2 * s)∧a.off = 0 then some (.pointer (some (loc (2 * s) 0))) else none
    | _=>none
  else some v
def keepFr (fr:Fr):List Nat→Option Fr
  | []=>some []
  | s :: r=>match settle1 s (fget fr s),keepFr fr r with
    | some v,some l=>some ((s,v) :: l)
    | _,_=>none
def keepLc (fr:Fr) (lc:List (Nat × AObj)):List Nat→List (Nat × AObj)
  | []=>[]
  | s :: r=>match fget fr s with
    | .pointer (some a)=>match a.spot,lget lc a.block with
      | some _,some o=>(2 * s,o) :: keepLc fr lc r
      | _,_=>keepLc fr lc r
    | _=>keepLc fr lc r
def trace (call:CallF) (yld:YieldF):List LInstr→Fr→Mem→List (Fr × Mem)
  | [],fr,m=>[(fr,m)]
  | i :: r,fr,m=>(fr,m) :: match i.step call yld fr m with
    | some (v,m')=>trace call yld r (pushD fr i.dst v) m'
    | none=>[]
def vsame0:Value→Value→Bool
  | .int k a,.int k' b=>decide (k = k') && a == b
  | .bool a,.bool b=>a == b
  | .string a,.string b=>a == b
  | .pointer a,.pointer b=>decide (a = b)
  | .slice a n c,.slice a' n' c'=>decide (a = a') && n == n' && c == c'
  | .map a,.map b=>decide (a = b)
  | .nilFunc,.nilFunc=>true
  | .nilIface,.nilIface=>true
  | _,_=>false
def vsameL:List Value→List Value→Bool
  | [],[]=>true
  | x :: xs,y :: ys=>vsame0 x y && vsameL xs ys
  | _,_=>false
def vsame1:Value→Value→Bool
  | .agg xs,.agg ys=>vsameL xs.toList ys.toList
  | .func f a b,.func f' a' b'=>decide (f = f') && vsameL a.toList a'.toList && vsameL b.toList b'.toList
  | x,y=>vsame0 x y
def vsameT:List Value→List Value→Bool
  | [],[]=>true
  | x :: xs,y :: ys=>vsame1 x y && vsameT xs ys
  | _,_=>false
def vsame:Value→Value→Bool
  | .tuple xs,.tuple ys=>vsameT xs.toList ys.toList
  | x,y=>vsame1 x y
def chk1 (ops:List LInstr) (tr:List (Fr × Mem)) (p:Nat × Nat):Bool :=
  match ops[p.1]?,tr[p.1]?,tr[p.2]? with
  | some i,some (fr,m),some (_,m') =>
    match wantedA fr i.guard,i.op with
    | some false,_=>true
    | some true,.r o=>match o.ev fr m,o.ev fr m' with
      | some u,some v=>vsame u v
      | _,_=>false
    | _,_=>false
  | _,_,_=>false
def LCode.noR:LCode→Bool
  | .seq a b=>a.noR && b.noR
  | .cond _ a b=>a.noR && b.noR
  | .block _ a=>a.noR
  | .loop a=>a.noR
  | .rangeF .. => false
  | _=>true
inductive Ex where
  | norm
  | exit (id:Nat)
  | ret
abbrev CodeF:=Fr→Mem→Option (Ex × Fr × Mem)
def loopN:Nat→CodeF→CodeF
  | 0,_=>fun _ _=>none
  | k + 1,f=>fun fr m=>match f fr m with
    | some (.norm,fr',m')=>loopN k f fr' m'
    | r=>r
def okFr (fr:Fr):Fr:=fr.map fun p=>if okV p.2 then p else (p.1,undef)
def runRegion (call:CallF) (yld:YieldF) (ops:List LInstr) (keep:List Nat) (chk:List (Nat × Nat)):CodeF:=fun fr m =>
  match runOps call yld ops fr m with
  | some (fr',m') =>
    if chk.all (chk1 ops (trace call yld ops fr m)) = true then
      match keepFr fr' keep with
      | some fr''=>some (.norm,fr'',{ m' with lc:=keepLc fr' m'.lc keep })
      | none=>none
    else none
  | none=>none
def runRange (call:CallF) (f:Value) (params:List Nat) (assign body:LCode):CodeF:=fun fr m =>
  match f with
  | .func (.func g) first captured =>
    match call g (first.toList ++ [.func (.yield m.h.n) #[] #[]] ++ captured.toList)
        (m.h.push (.loop { state:=.ready,pend:=none,fr:=okFr fr,params,assign,body })) with
    | some (_,h)=>match h.get m.h.n with
      | some (.loop r) =>
        match r.state with
        | .busy=>none
        | _=>match r.pend with
          | none=>some (.norm,fr,{ m with h:=h.kill m.h.n })
          | some .ret=>some (.ret,fr,{ m with h:=h.kill m.h.n })
          | some (.exit id)=>some (.exit id,fr,{ m with h:=h.kill m.h.n })
      | _=>none
    | none=>none
  | _=>none
def execC (call:CallF) (yld:YieldF) (k:Nat):LCode→CodeF
  | .skip=>fun fr m=>some (.norm,fr,m)
  | .region ops keep chk=>runRegion call yld ops keep chk
  | .seq a b=>fun fr m=>match execC call yld k a fr m with
    | some (.norm,fr',m')=>execC call yld k b fr' m'
    | r=>r
  | .cond c a b=>fun fr m=>match opd fr c with
    | .bool t=>if t = true then execC call yld k a fr m else execC call yld k b fr m
    | _=>none
  | .block id a=>fun fr m=>match execC call yld k a fr m with
    | some (.exit i,fr',m')=>if i = id then some (.norm,fr',m') else some (.exit i,fr',m')
    | r=>r
  | .loop a=>loopN k (execC call yld k a)
  | .exit id=>fun fr m=>some (.exit id,fr,m)
  | .ret=>fun fr m=>some (.ret,fr,m)
  | .rangeF f ps asx body=>fun fr m=>runRange call (opd fr f) ps asx body fr m
  | .bad=>fun _ _=>none
def argFr:Nat→List Value→Fr
  | _,[]=>[]
  | i,v :: r=>(i,v) :: argFr (i + 1) r
def resA (fr:Fr) (m:Mem):LRes→Option Value
  | .tmp s=>if okV (fget fr s) then some (fget fr s) else none
  | .cell s n=>(ROp.load n (.s s)).ev fr m
def resAll (fr:Fr) (m:Mem):List LRes→Option (List Value)
  | []=>some []
  | r :: rs=>match resA fr m r,resAll fr m rs with
    | some v,some vs=>some (v :: vs)
    | _,_=>none
def retV (fr:Fr) (m:Mem) (rs:List LRes):Option Value :=
  match resAll fr m rs with
  | some [v]=>some v
  | some vs=>some (.tuple vs.toArray)
  | none=>none
def callBody (call:CallF) (yld:YieldF) (k:Nat) (lf:LFunc):List Value→AH→Option (Value × AH):=fun args h =>
  if args.length = lf.nargs then
    match execC call yld k lf.body (argFr 0 args) { lc:=[],h } with
    | some (.exit _,_,_)=>none
    | some (_,fr,m)=>(retV fr m lf.results).map fun v=>(v,m.h)
    | none=>none
  else none
def endRec (r:LRec):Ex→Value × LRec
  | .norm=>(.bool true,{ r with state:=.ready,pend:=none })
  | .ret=>(.bool false,{ r with state:=.done,pend:=some .ret })
  | .exit id=>(.bool false,{ r with state:=.done,pend:=some (.exit id) })
def yieldBody (call:CallF) (yld:YieldF) (k:Nat):YieldF:=fun l args h =>
  match h.get l with
  | some (.loop r) =>
    if args.length = r.params.length then
      match execC call yld k r.assign ((r.params.zip args).reverse ++ r.fr) { lc:=[],h } with
      | some (.norm,fr1,m1) =>
        match m1.h.get l with
        | some (.loop r1) =>
          match r1.state with
          | .ready =>
            match execC call yld k r.body fr1 { m1 with h:=m1.h.set l (.loop { r1 with state:=.busy }) } with
            | some (ex,_,m2) =>
              match m2.h.get l with
              | some (.loop r2)=>some ((endRec r2 ex).1,m2.h.set l (.loop (endRec r2 ex).2))
              | _=>none
            | none=>none
          | _=>none
        | _=>none
      | _=>none
    else none
  | _=>none
structure Prg where
  fn:FuncId→Option LFunc
  ext:FuncId→Option (List Value→AH→Option (Value × AH))
def runN (p:Prg):Nat→CallF × YieldF
  | 0=>(fun _ _ _=>none,fun _ _ _=>none)
  | k + 1=>(fun f args h=>match p.ext f with
      | some g=>g args h
      | none=>match p.fn f with
        | some lf=>callBody (runN p k).1 (runN p k).2 k lf args h
        | none=>none,
    yieldBody (runN p k).1 (runN p k).2 k)
end Go.Proofs.YtakmapoompffgaaGreatDoor.AM
namespace Go.Proofs.YtakmapoompffgaaGreatDoor.AM
open Go
def flat0:Value→Bool
  | .bool _=>true
  | .int .. => true
  | .string _=>true
  | .pointer none=>true
  | .slice none 0 0=>true
  | .map none=>true
  | .nilFunc=>true
  | .nilIface=>true
  | .func (.func _) a b=>a.size == 0 && b.size == 0
  | _=>false
def flatV:Value→Bool
  | .agg cs=>cs.toList.all flat0
  | v=>flat0 v
structure Hints where
  keep:List (Nat × List Nat)
  loc:List Nat
def liftOpd (P:Program):Operand→Option Opd
  | .tmp t=>some (.s t)
  | .const v=>if flatV v then some (.c v) else none
  | .global g=>if g < P.globals.size then some (.c (.pointer (some ⟨g,0,none⟩))) else none
  | .func f=>some (.c (.func (.func f) #[] #[]))
def liftOpds (P:Program) (xs:Array Operand):Option (List Opd):=xs.toList.mapM (liftOpd P)
def liftO (P:Program):Option Operand→Option (Option Opd)
  | none=>some none
  | some x=>(liftOpd P x).map some
def szOf (P:Program) (t:TypeId):Option Nat:=(P.info? t).map (·.size)
def zeroOf (P:Program) (t:TypeId):Option (List Value) :=
  match (P.info? t).bind (·.zero) with
  | some z=>if (vcells z).all flat0 then some (vcells z) else none
  | none=>none
def aggN (P:Program) (t:TypeId):Option (Option Nat) :=
  match P.underlying t,szOf P t with
  | some (.struct _),some n=>some (some n)
  | some (.array _ _),some n=>some (some n)
  | some _,some _=>some none
  | _,_=>none
def liftParts (P:Program) (place:Nat→Option (Nat × Nat)):List (Nat × Operand)→Option (List (Nat × Nat × Opd))
  | []=>some []
  | (i,x) :: r=>match place i,liftOpd P x,liftParts P place r with
    | some (off,size),some y,some l=>some ((off,size,y) :: l)
    | _,_,_=>none
def fkOf (P:Program) (t:TypeId):Option FK :=
  match P.underlying t with
  | some (.int _)=>some .int
  | some .bool=>some .bool
  | some .string=>some .string
  | _=>none
def flatFields (P:Program):List Field→Nat→Option (List FK)
  | [],_=>some []
  | f :: r, i => if f.name ≠ "_" ∧ f.offset = i then
      match fkOf P f.type,flatFields P r (i + 1) with
      | some k,some l=>some (k :: l)
      | _,_=>none
    else none
def kkOf (P:Program) (t:TypeId):Option KK :=
  match fkOf P t with
  | some k=>some (.one k)
  | none=>match P.underlying t with
    | some (.array 2 e)=>match fkOf P e,szOf P e with
      | some k,some 1=>some (.agg [k,k])
      | _,_=>none
    | _=>none
def mapOf (P:Program) (t:TypeId):Option (KK × TypeId) :=
  match P.underlying t with
  | some (.map k e)=>match kkOf P k with
    | some kk=>some (kk,e)
    | none=>none
  | _=>none
def zvOf (P:Program) (t:TypeId):Option Value :=
  match (P.info? t).bind (·.zero) with
  | some z=>if flatV z then some z else none
  | none=>none
def liftCall (P:Program) (c:Call):Option LOp :=
  match c.callee with
  | .value (.func f)=>match P.funcs[f]? with
    | some fn => if fn.body.isNone = true ∧ fn.name = "internal/bytealg.IndexByteString" ∧ (Extern.allNextRows.lookup fn.origin).isNone = true then
        match liftOpds P c.args with
        | some [x,y]=>some (.p (.idxB x y))
        | _=>none
      else match liftOpds P c.args with
        | some xs=>some (.e (.call f xs))
        | none=>none
    | none=>match liftOpds P c.args with
      | some xs=>some (.e (.call f xs))
      | none=>none
  | .value x=>match liftOpd P x,liftOpds P c.args with
    | some y,some xs=>some (.e (.callv y xs))
    | _,_=>none
  | .invoke _ _=>none
  | .builtin b =>
    match b,liftOpds P c.args,c.argTypes.toList with
    | .len,some [x],[t]=>match P.underlying t with
      | some .string=>some (.p (.slen x))
      | some (.slice _)=>some (.p (.len x))
      | some (.map _ _)=>some (.r (.maplen x))
      | _=>none
    | .min,some xs,_=>some (.p (.mm false xs))
    | .max,some xs,_=>some (.p (.mm true xs))
    | .append,some [x,y],[t,u]=>match P.underlying t,P.underlying u with
      | some (.slice e),some d=>match P.info? e,d with
        | some i,.slice _=>if (i.zero.map fun z=>z.cells.size) = some i.size then some (.e (.append i.size i.bytes x y)) else none
        | some i,.string=>if (i.zero.map fun z=>z.cells.size) = some i.size then some (.e (.append i.size i.bytes x y)) else none
        | _,_=>none
      | _,_=>none
    | .copy,some [x,y],t :: _=>match P.underlying t with
      | some (.slice e)=>(szOf P e).map fun n=>.e (.copy n x y)
      | _=>none
    | _,_,_=>none
def TYF:Nat:=4294967296
def typed (P:Program) (c:Call):LOp→LOp
  | .e (.append n b x y)=>match c.argTypes.toList with
    | t :: _=>match P.underlying t with
      | some (.slice e)=>.e (.appendT (2 * e) n b x y)
      | _=>.e (.append n b x y)
    | _=>.e (.append n b x y)
  | o=>o
def isBld (P:Program) (t:TypeId):Bool :=
  match P.underlying t with
  | some (.struct fs)=>match fs.toList with
    | [f,_]=>match P.underlying f.type with
      | some (.pointer e)=>e == t
      | _=>false
    | _=>false
  | _=>false
def liftOp (P:Program) (lo:List Nat) (o:Oper):Option LOp :=
  match o.op with
  | .move x=>(liftOpd P x).map fun x=>.p (.mv x)
  | .assign x=>(liftOpd P x).map fun x=>.p (.mv x)
  | .pick c a b=>match liftOpd P c,liftOpd P a,liftOpd P b with
    | some c,some a,some b=>some (.p (.pick c a b))
    | _,_,_=>none
  | .alloc t=>match zeroOf P t,o.dst with
    | some z,some d=>if lo.contains d then some (.e (.newL d z)) else if isBld P t then some (.e (.newT (2 * t + 1) z)) else some (.e (.newH z))
    | _,_=>none
  | .box t x=>match szOf P t,liftOpd P x,o.dst with
    | some n,some x,some d=>if lo.contains d then some (.e (.boxL d n x)) else some (.e (.boxH n x))
    | _,_,_=>none
  | .build t parts=>match zeroOf P t,P.underlying t with
    | some z,some (.struct fs)=>match fs.toList.mapM (fun f=>(P.info? f.type).map fun i=>(f.offset,i.size)) with
      | some places=>(liftParts P (fun i=>places[i]?) parts.toList).map fun l=>.p (.build z l)
      | none=>none
    | some z,some (.array _ e)=>match szOf P e with
      | some n=>(liftParts P (fun i=>some (i * n,n)) parts.toList).map fun l=>.p (.build z l)
      | none=>none
    | _,_=>none
  | .buildSlice t len parts=>match P.underlying t,o.dst with
    | some (.slice e),some d=>match szOf P e,zeroOf P e with
      | some n,some z=>if z.length = n∧0 < len * n∧len * n≤16777216 then
          (liftParts P (fun i=>some (i * n,n)) parts.toList).map fun l=>if lo.contains d then .e (.litL d len n z l) else .e (.litH len n z l)
        else if len = 0∧parts = #[]∧z.length = n then some (.e (.litH 0 n [] [])) else none
      | _,_=>none
    | _,_=>none
  | .load t a=>match aggN P t,liftOpd P a with
    | some n,some a=>some (.r (.load n a))
    | _,_=>none
  | .store t a x=>match szOf P t,liftOpd P a,liftOpd P x with
    | some n,some a,some x=>if o.dst.isNone then some (.e (.store n a x)) else none
    | _,_,_=>none
  | .nilCheck x=>(liftOpd P x).map fun x=>.p (.nilck x)
  | .binOp op t x y _=>match liftOpd P x,liftOpd P y with
    | some x,some y=>match P.underlying t with
      | some (.struct fs) =>
        match flatFields P fs.toList 0 with
        | some ks =>
          if P.eqGuardType P.depth t = false∧P.stoodInHeld t = false then
            match op with
            | .eql=>some (.p (.eqA false ks x y))
            | .neq=>some (.p (.eqA true ks x y))
            | _=>none
          else none
        | none=>none
      | some (.int _)=>some (.p (.bin op x y))
      | some .string=>some (.p (.bin op x y))
      | some d=>match op,(match d with
          | .bool=>some EqK.bool
          | .pointer _=>some EqK.ptr
          | .slice _=>some EqK.sl
          | .map _ _=>some EqK.map
          | .func _ _ _=>some EqK.func
          | _=>none:Option EqK) with
        | .eql,some k=>some (.p (.eqk false k x y))
        | .neq,some k=>some (.p (.eqk true k x y))
        | _,_=>none
      | none=>none
    | _,_=>none
  | .unOp op _ x=>(liftOpd P x).map fun x=>.p (.un op x)
  | .convert src dst x=>match P.underlying src,P.underlying dst,liftOpd P x with
    | some (.int _),some (.int k),some x=>some (.p (.conv k x))
    | some (.int _),some .string,some x=>some (.p (.i2s x))
    | some .string,some .string,some x=>some (.p (.slS x none none))
    | some .string,some (.slice e),some x=>match P.underlying e,(P.info? e).isSome with
      | some (.int .u8),true=>some (.e (.s2b x))
      | some (.int .i32),true=>some (.e (.s2r x))
      | _,_=>none
    | some (.slice e),some .string,some x=>match P.underlying e with
      | some (.int .u8)=>some (.r (.b2s x))
      | some (.int .i32)=>some (.r (.r2s x))
      | _=>none
    | _,_,_=>none
  | .makeInterface t x=>match P.underlying t,liftOpd P x with
    | some (.interface _),_=>none
    | some _,some x=>some (.p (.mkif t x))
    | _,_=>none
  | .makeFunc fn first captured=>match liftOpds P first,liftOpds P captured with
    | some a,some b=>some (.p (.mkfn fn a b))
    | _,_=>none
  | .makeSlice t l c=>match P.underlying t with
    | some (.slice e)=>match P.info? e,zeroOf P e,liftOpd P l,liftOpd P c with
      | some i,some z,some l,some c=>some (.e (.mks i.size i.bytes z l c))
      | _,_,_,_=>none
    | _=>none
  | .slice t x lo hi mx=>match P.underlying t,liftOpd P x,liftO P lo,liftO P hi,liftO P mx with
    | some .string,some x,some lo,some hi,some none=>some (.p (.slS x lo hi))
    | some (.slice e),some x,some lo,some hi,some mx=>match mx,hi with
      | some _,none=>none
      | _,_=>(szOf P e).map fun n=>.p (.sl n x lo hi mx)
    | _,_,_,_,_=>none
  | .fieldAddr t x i=>match P.underlying t,liftOpd P x with
    | some (.struct fs),some x=>match fs[i]? with
      | some f=>match szOf P f.type with
        | some n=>if n = 0 then none else some (.p (.faddr f.offset x))
        | none=>none
      | none=>none
    | _,_=>none
  | .field t x i=>match P.underlying t,liftOpd P x with
    | some (.struct fs),some x=>match fs[i]? with
      | some f=>(aggN P f.type).map fun n=>.p (.fld f.offset n x)
      | none=>none
    | _,_=>none
  | .indexAddr t x i=>match P.underlying t,liftOpd P x,liftOpd P i with
    | some (.slice e),some x,some i=>(szOf P e).map fun n=>.p (.iaddr n x i)
    | some (.array len e),some x,some i=>(szOf P e).map fun n=>.p (.iaddrA len n x i)
    | _,_,_=>none
  | .index t x i=>match P.underlying t,liftOpd P x,liftOpd P i with
    | some .string,some x,some i=>some (.p (.idxS x i))
    | some (.array len e),some x,some i=>match szOf P e,aggN P e with
      | some n,some a=>some (.p (.idxA len n a x i))
      | _,_=>none
    | _,_,_=>none
  | .range t x=>match P.underlying t,liftOpd P x,o.dst with
    | some .string,some x,some d=>if lo.contains d then some (.e (.rngS d x)) else none
    | _,_,_=>none
  | .next x true=>(liftOpd P x).map fun x=>.e (.nxtS x)
  | .extract x i=>(liftOpd P x).map fun x=>.p (.ext i x)
  | .call c=>if lo.contains TYF then (liftCall P c).map (typed P c) else liftCall P c
  | .makeMap t r=>match P.underlying t,r with
    | some (.map _ _),none=>some (.e .mkmap)
    | some (.map _ _),some (.const (.int _ _))=>some (.e .mkmap)
    | _,_=>none
  | .lookup t x i ok=>match mapOf P t,liftOpd P x,liftOpd P i with
    | some (kk,e),some x,some i=>match zvOf P e with
      | some z=>some (.r (.lookup kk z ok x i))
      | none=>none
    | _,_,_=>none
  | .mapUpdate t x k v=>match mapOf P t,liftOpd P x,liftOpd P k,liftOpd P v with
    | some (kk,_),some x,some k,some v=>if o.dst.isNone then some (.e (.mapup kk x k v)) else none
    | _,_,_,_=>none
  | .mapEntry t x k=>match mapOf P t,liftOpd P x,liftOpd P k with
    | some (kk,e),some x,some k=>match zvOf P e with
      | some z=>some (.e (.mapent kk z x k))
      | none=>none
    | _,_,_=>none
  | .entryStore _ x i v=>match liftOpd P x,liftOpd P i,liftOpd P v with
    | some x,some i,some v=>if o.dst.isNone then some (.e (.mapst x i v)) else none
    | _,_,_=>none
  | _=>none
def liftGuard (ops:Array Oper):Option (Nat × Bool)→Option (Option (Nat × Bool))
  | none=>some none
  | some (j,b)=>match (ops[j]?).bind (·.dst) with
    | some s=>some (some (s,b))
    | none=>none
def liftI (P:Program) (nt:Nat) (lo:List Nat) (ops:Array Oper) (o:Oper):Option LInstr :=
  match liftOp P lo o,liftGuard ops o.guard with
  | some op,some g=>if o.dst.all (· < nt) then some { dst:=o.dst,op,guard:=g } else none
  | _,_=>none
def liftIs (P:Program) (nt:Nat) (lo:List Nat) (ops:Array Oper):List Oper→Option (List LInstr)
  | []=>some []
  | o :: r=>match liftI P nt lo ops o,liftIs P nt lo ops r with
    | some i,some l=>some (i :: l)
    | _,_=>none
def opdSlots:Opd→List Nat
  | .s n=>[n]
  | .c _=>[]
def opdsSlots (xs:List Opd):List Nat:=xs.flatMap opdSlots
def optSlots:Option Opd→List Nat
  | none=>[]
  | some x=>opdSlots x
def partSlots (ps:List (Nat × Nat × Opd)):List Nat:=ps.flatMap fun p=>opdSlots p.2.2
def POp.slots:POp→List Nat
  | .mv x=>opdSlots x
  | .pick c a b=>opdSlots c ++ opdSlots a ++ opdSlots b
  | .bin _ x y=>opdSlots x ++ opdSlots y
  | .un _ x=>opdSlots x
  | .conv _ x=>opdSlots x
  | .i2s x=>opdSlots x
  | .build _ ps=>partSlots ps
  | .nilck x=>opdSlots x
  | .slS x lo hi=>opdSlots x ++ optSlots lo ++ optSlots hi
  | .sl _ x lo hi mx=>opdSlots x ++ optSlots lo ++ optSlots hi ++ optSlots mx
  | .faddr _ x=>opdSlots x
  | .fld _ _ x=>opdSlots x
  | .iaddr _ x i=>opdSlots x ++ opdSlots i
  | .iaddrA _ _ x i=>opdSlots x ++ opdSlots i
  | .idxS x i=>opdSlots x ++ opdSlots i
  | .idxA _ _ _ x i=>opdSlots x ++ opdSlots i
  | .ext _ x=>opdSlots x
  | .idxB x c=>opdSlots x ++ opdSlots c
  | .len x=>opdSlots x
  | .slen x=>opdSlots x
  | .mm _ xs=>opdsSlots xs
  | .mkfn _ a b=>opdsSlots a ++ opdsSlots b
  | .mkif _ x=>opdSlots x
  | .eqA _ _ x y=>opdSlots x ++ opdSlots y
  | .eqk _ _ x y=>opdSlots x ++ opdSlots y
def ROp.slots:ROp→List Nat
  | .load _ x=>opdSlots x
  | .b2s x=>opdSlots x
  | .r2s x=>opdSlots x
  | .maplen x=>opdSlots x
  | .lookup _ _ _ x k=>opdSlots x ++ opdSlots k
def EOp.slots:EOp→List Nat
  | .newL _ _=>[]
  | .newH _=>[]
  | .boxL _ _ x=>opdSlots x
  | .boxH _ x=>opdSlots x
  | .litL _ _ _ _ ps=>partSlots ps
  | .litH _ _ _ ps=>partSlots ps
  | .store _ a x=>opdSlots a ++ opdSlots x
  | .s2b x=>opdSlots x
  | .s2r x=>opdSlots x
  | .rngS _ x=>opdSlots x
  | .nxtS x=>opdSlots x
  | .call _ xs=>opdsSlots xs
  | .callv f xs=>opdSlots f ++ opdsSlots xs
  | .append _ _ x y=>opdSlots x ++ opdSlots y
  | .newT _ _=>[]
  | .appendT _ _ _ x y=>opdSlots x ++ opdSlots y
  | .copy _ x y=>opdSlots x ++ opdSlots y
  | .mks _ _ _ l c=>opdSlots l ++ opdSlots c
  | .mkmap=>[]
  | .mapup _ m k x=>opdSlots m ++ opdSlots k ++ opdSlots x
  | .mapent _ _ m k=>opdSlots m ++ opdSlots k
  | .mapst m i x=>opdSlots m ++ opdSlots i ++ opdSlots x
def LInstr.slots (i:LInstr):List Nat :=
  (match i.op with
    | .p o=>o.slots
    | .r o=>o.slots
    | .e o=>o.slots) ++ (match i.guard with
    | some (g,_)=>[g]
    | none=>[])
def LInstr.isE (i:LInstr):Bool :=
  match i.op with
  | .e _=>true
  | _=>false
def LInstr.isR (i:LInstr):Bool :=
  match i.op with
  | .r _=>true
  | _=>false
def edgeMask (acc:List Nat) (o:Oper):Nat :=
  o.after.toList.foldl (fun s e=>if Region.binds .any e then s ||| 2 ^ e.on ||| acc.getD e.on 0 else s) 0
def masks:List Nat→List Oper→List Nat
  | acc,[]=>acc
  | acc,o :: r=>masks (acc ++ [edgeMask acc o]) r
def backEdges:Nat→List Oper→Bool
  | _,[]=>true
  | i,o :: r=>o.after.all (fun e => !Region.binds .any e || decide (e.on < i)) && backEdges (i + 1) r
def clash (x y:LInstr):Bool :=
  (match x.dst with
    | some d=>y.slots.contains d || y.dst == some d
    | none=>false) ||
  (match y.dst with
    | some d=>x.slots.contains d
    | none=>false)
def pairsOk (ms:List Nat) (ls:List LInstr):Bool :=
  (List.range ls.length).all fun j=>(List.range j).all fun i =>
    match ls[i]?,ls[j]? with
    | some x,some y => !(clash x y || (x.isE && y.isE)) || (ms.getD j 0).testBit i
    | _,_=>true
def effs (ls:List LInstr):List Nat:=(List.range ls.length).filter fun i=>match ls[i]? with
  | some x=>x.isE
  | none=>false
def chkOf (ms:List Nat) (ls:List LInstr):List (Nat × Nat) :=
  (List.range ls.length).flatMap fun i=>match ls[i]? with
    | some x => if x.isR then
        (0 :: (effs ls).map (· + 1)).filterMap fun j =>
          if (j = 0 ∨ !(ms.getD (j - 1) 0).testBit i)∧((effs ls).all fun e=>decide (e < j) || !(ms.getD i 0).testBit e) ∧
             ¬ ((effs ls).all fun e=>decide (e < j) == decide (e < i)) then some (i,j) else none
      else []
    | none=>[]
def liftRegion (P:Program) (nt:Nat) (hs:Hints) (id:Nat) (ops:Array Oper) (draw:Bool):Option LCode :=
  match liftIs P nt hs.loc ops ops.toList,hs.keep.lookup id with
  | some ls,some keep =>
    if draw then
      if backEdges 0 ops.toList && pairsOk (masks [] ops.toList) ls then some (.region ls keep (chkOf (masks [] ops.toList) ls)) else none
    else some (.region ls keep [])
  | _,_=>none
def liftC (P:Program) (nt:Nat) (hs:Hints):Code→Option LCode
  | .skip=>some .skip
  | .label _=>some .skip
  | .region id ops draw=>match liftRegion P nt hs id ops draw with
    | some c=>some c
    | none=>some .bad
  | .seq a b=>match liftC P nt hs a,liftC P nt hs b with
    | some a,some b=>some (.seq a b)
    | _,_=>none
  | .cond c a b=>match liftOpd P c,liftC P nt hs a,liftC P nt hs b with
    | some c,some a,some b=>some (.cond c a b)
    | _,_,_=>some .bad
  | .block id a=>(liftC P nt hs a).map (.block id)
  | .scope a=>liftC P nt hs a
  | .loop a=>(liftC P nt hs a).map .loop
  | .exit id=>some (.exit id)
  | .ret=>some .ret
  | .rangeFunc f ps asx body=>match liftOpd P f,liftC P nt hs asx,liftC P nt hs body with
    | some f,some asx,some body=>if ps.all (· < nt) && asx.noR && body.noR then some (.rangeF f ps.toList asx body) else some .bad
    | _,_,_=>some .bad
  | _=>some .bad
def liftRes (P:Program):ResultVar→Option LRes
  | .tmp t=>some (.tmp t)
  | .cell a t=>(aggN P t).map fun n=>.cell a n
def liftF (P:Program) (hs:Hints) (fn:Func):Option LFunc :=
  match fn.body with
  | some c=>match liftC P fn.ntmps hs c,fn.results.toList.mapM (liftRes P) with
    | some b, some rs => if fn.name = "runtime.NumGoroutine" then none else some { nargs := fn.params.size + fn.nfree, results := rs, body := b }
    | _,_=>none
  | none=>none
end Go.Proofs.YtakmapoompffgaaGreatDoor.AM
namespace Go.Proofs.YtakmapoompffgaaGreatDoor.AM
open Go
def osl:Operand→List Nat
  | .tmp t=>[t]
  | _=>[]
def uni (a b:List Nat):List Nat:=b.foldl (fun s x=>if s.contains x then s else s ++ [x]) a
def dif (a b:List Nat):List Nat:=a.filter fun x => !b.contains x
def useOf (o:Oper) (ops:Array Oper):List Nat :=
  o.op.operands.toList.flatMap osl ++ (match o.guard with
    | some (j,_)=>match (ops[j]?).bind (·.dst) with
      | some s=>[s]
      | none=>[]
    | none=>[])
def liveOps (ops:Array Oper):List Oper→List Nat→List Nat
  | [],out=>out
  | o :: r,out=>uni (useOf o ops) (dif (liveOps ops r out) o.dst.toList)
structure LiveR where
  inn:List Nat
  keeps:List (Nat × List Nat)
def liveC (res:List Nat) (env:List (Nat × List Nat)):Code→List Nat→LiveR
  | .skip,out=>⟨out,[]⟩
  | .region id ops _,out=>⟨liveOps ops ops.toList out,[(id,out)]⟩
  | .seq a b,out =>
    let rb:=liveC res env b out
    let ra:=liveC res env a rb.inn
    ⟨ra.inn,ra.keeps ++ rb.keeps⟩
  | .cond c a b,out =>
    let ra:=liveC res env a out
    let rb:=liveC res env b out
    ⟨uni (uni ra.inn rb.inn) (osl c),ra.keeps ++ rb.keeps⟩
  | .block id a,out=>liveC res ((id,out) :: env) a out
  | .loop a,_ =>
    let l1:=(liveC res env a []).inn
    let l2:=uni l1 (liveC res env a l1).inn
    let l3:=uni l2 (liveC res env a l2).inn
    let r:=liveC res env a l3
    ⟨uni l3 r.inn,r.keeps⟩
  | .exit id,_=>⟨(env.lookup id).getD [],[]⟩
  | .ret,_=>⟨res,[]⟩
  | .rangeFunc f ps asx body,out =>
    let rb:=liveC [] [] body []
    let ra:=liveC [] [] asx rb.inn
    let jumps:=env.foldl (fun s p=>uni s p.2) res
    ⟨uni (uni (uni out jumps) (dif ra.inn ps.toList)) (osl f),ra.keeps ++ rb.keeps⟩
  | _,out=>⟨out,[]⟩
def allOps (path:List Nat):Code→List (List Nat × Oper)
  | .region _ ops _=>ops.toList.map fun o=>(path,o)
  | .seq a b=>allOps path a ++ allOps path b
  | .cond _ a b=>allOps path a ++ allOps path b
  | .block _ a=>allOps path a
  | .loop a=>allOps path a
  | .scope a=>allOps path a
  | .rangeFunc f ps asx body => [(path, { dst := none, op := .move f, type := 0, pos := "", after := #[], guard := none })] ++ allOps (ps.toList ++ [99999] ++ path) asx ++ allOps (ps.toList ++ [99999] ++ path) body
  | _=>[]
def addrOnly (P:Program) (ops:List (List Nat × Oper)) (path:List Nat):Nat→Nat→Bool
  | 0,_=>false
  | k + 1,d=>ops.all fun (p,o) =>
    let used:=(o.op.operands.toList.flatMap osl).contains d
    !used || (p == path && (match o.op with
      | .load _ a=>osl a == [d]
      | .store _ a x=>osl a == [d] && !(osl x).contains d
      | .fieldAddr _ a _=>osl a == [d] && (match o.dst with
        | some e=>addrOnly P ops path k e
        | none=>false)
      | .indexAddr t a i=>osl a == [d] && !(osl i).contains d && (match P.underlying t with
        | some (.array _ _)=>true
        | _=>false) && (match o.dst with
        | some e=>addrOnly P ops path k e
        | none=>false)
      | _=>false))
def litOnly (ops:List (List Nat × Oper)) (path:List Nat) (d:Nat):Bool :=
  ops.all fun (p,o) =>
    let used:=(o.op.operands.toList.flatMap osl).contains d
    !used || (p == path && (match o.op with
      | .call { callee:=.builtin .append,args,.. }=>(args.toList.drop 1).flatMap osl == [d] && !((args.toList.take 1).flatMap osl).contains d
      | _=>false))
def nextOnly (ops:List (List Nat × Oper)) (path:List Nat) (d:Nat):Bool :=
  ops.all fun (p,o) =>
    let used:=(o.op.operands.toList.flatMap osl).contains d
    !used || (p == path && (match o.op with
      | .next _ _=>true
      | _=>false))
def locals (P:Program) (c:Code):List Nat :=
  let ops:=allOps [] c
  ops.foldl (fun s (p,o)=>match o.dst with
    | none=>s
    | some d=>if s.contains d then s else match o.op with
      | .alloc _ | .box _ _=>if addrOnly P ops p 6 d then s ++ [d] else s
      | .buildSlice .. => if litOnly ops p d then s ++ [d] else s
      | .range _ _=>if nextOnly ops p d then s ++ [d] else s
      | _=>s) []
def resSlots (fn:Func):List Nat:=fn.results.toList.map fun
  | .tmp t=>t
  | .cell a _=>a
def insN (x:Nat):List Nat→List Nat
  | []=>[x]
  | y :: r=>if x≤y then x :: y :: r else y :: insN x r
def sortN (l:List Nat):List Nat:=l.foldr insN []
def autoHints (P:Program) (fn:Func):Hints :=
  match fn.body with
  | some c => { keep := (liveC (resSlots fn) [] c (resSlots fn)).keeps.map fun p => (p.1, sortN p.2), loc := if fn.name = "unicode/utf8.AppendRune" ∨ fn.name = "unicode/utf8.appendRuneNonASCII" ∨ fn.name = "(*strings.Builder).WriteString" then TYF :: locals P c else locals P c }
  | none=>{ keep:=[],loc:=[] }
def autoLift (P:Program) (f:FuncId):Option (Hints × LFunc) :=
  match P.funcs[f]? with
  | some fn=>(liftF P (autoHints P fn) fn).map fun l=>(autoHints P fn,l)
  | none=>none
def autoPrg (P:Program):Prg:={ fn:=fun f=>(autoLift P f).map (·.2),ext:=fun _=>none }
end Go.Proofs.YtakmapoompffgaaGreatDoor.AM
namespace Go.Proofs.YtakmapoompffgaaGreatDoor.AM
open Go
inductive All2 {α β:Type} (R:α→β→Prop):List α→List β→Prop
  | nil:All2 R [] []
  | cons {x:α} {y:β} {xs:List α} {ys:List β} (h:R x y) (t:All2 R xs ys):All2 R (x :: xs) (y :: ys)
theorem All2.length_eq {α β:Type} {R:α→β→Prop} {xs:List α} {ys:List β} (h:All2 R xs ys):xs.length = ys.length:=by
  induction h with
  | nil=>rfl
  | cons _ _ ih=>simp [ih]
theorem All2.imp {α β:Type} {R S:α→β→Prop} {xs:List α} {ys:List β} (f:∀ x y,R x y→S x y) (h:All2 R xs ys):All2 S xs ys:=by
  induction h with
  | nil=>exact .nil
  | cons h _ ih=>exact .cons (f _ _ h) ih
theorem All2.get {α β:Type} {R:α→β→Prop} {xs:List α} {ys:List β} (h:All2 R xs ys):∀ (i:Nat) x,xs[i]? = some x→∃ y,ys[i]? = some y∧R x y:=by
  induction h with
  | nil=>intro i x hx; simp at hx
  | cons h _ ih =>
    intro i x hx
    cases i with
    | zero=>simp at hx; subst hx; exact ⟨_,rfl,h⟩
    | succ i=>simpa using ih i x (by simpa using hx)
theorem All2.of_get {α β:Type} {R:α→β→Prop}:∀ {xs:List α} {ys:List β},xs.length = ys.length→(∀ (i:Nat) x y,xs[i]? = some x→ys[i]? = some y→R x y)→All2 R xs ys
  | [],[],_,_=>.nil
  | x :: xs,y :: ys,hl,h=>.cons (h 0 x y rfl rfl) (All2.of_get (by simpa using hl) fun i x y hx hy=>h (i + 1) x y (by simpa using hx) (by simpa using hy))
  | [],_ :: _,hl,_=>by simp at hl
  | _ :: _,[],hl,_=>by simp at hl
theorem All2.append {α β:Type} {R:α→β→Prop} {xs xs':List α} {ys ys':List β} (h:All2 R xs ys) (h':All2 R xs' ys'):All2 R (xs ++ xs') (ys ++ ys'):=by
  induction h with
  | nil=>exact h'
  | cons h _ ih=>exact .cons h ih
theorem All2.take {α β:Type} {R:α→β→Prop} {xs:List α} {ys:List β} (h:All2 R xs ys):∀ n,All2 R (xs.take n) (ys.take n):=by
  induction h with
  | nil=>intro n; simp; exact .nil
  | cons h _ ih =>
    intro n
    cases n with
    | zero=>simp; exact .nil
    | succ n=>simpa using .cons h (ih n)
theorem All2.drop {α β:Type} {R:α→β→Prop} {xs:List α} {ys:List β} (h:All2 R xs ys):∀ n,All2 R (xs.drop n) (ys.drop n):=by
  induction h with
  | nil=>intro n; simp; exact .nil
  | cons h t ih =>
    intro n
    cases n with
    | zero=>exact .cons h t
    | succ n=>simpa using ih n
theorem Tr.get_set (f:Nat):∀ (t:Tr) (k j:Nat) (x:Option AObj),k < f→(Tr.set f t k x).get j = if j = k then x else t.get j:=by
  induction f with
  | zero=>intro t k j x h; omega
  | succ f ih =>
    intro t k j x h
    have h1:k / 2 < f∨k = 0:=by omega
    have h2:k / 2 - 1 < f∨k = 0:=by omega
    cases t with
    | e =>
      simp only [Tr.set]
      by_cases hk:k = 0
      · subst hk
        by_cases hj:j = 0
        · subst hj; simp [Tr.get]
        · simp only [if_true,Tr.get,hj,if_false]; split <;> rfl
      · have h1':k / 2 < f:=h1.resolve_right hk
        have h2':k / 2 - 1 < f:=h2.resolve_right hk
        simp only [hk,if_false]
        by_cases ho:k % 2 = 1
        · simp only [ho,if_true,Tr.get]
          by_cases hj:j = 0
          · subst hj; simp [show ¬ (0 = k) from fun e=>hk e.symm]
          · simp only [hj,if_false]
            by_cases hjo:j % 2 = 1
            · simp only [hjo,if_true]; rw [ih _ _ _ _ h1']
              by_cases he:j = k
              · subst he; simp
              · have : ¬ (j / 2 = k / 2):=by omega
                simp [he,this,Tr.get]
            · have : ¬ (j = k):=by omega
              simp [hjo,this]
        · simp only [ho,if_false,Tr.get]
          by_cases hj:j = 0
          · subst hj; simp [show ¬ (0 = k) from fun e=>hk e.symm]
          · simp only [hj,if_false]
            by_cases hjo:j % 2 = 1
            · have : ¬ (j = k):=by omega
              simp [hjo,this]
            · simp only [hjo,if_false]; rw [ih _ _ _ _ h2']
              by_cases he:j = k
              · subst he; simp
              · have : ¬ (j / 2 - 1 = k / 2 - 1):=by omega
                simp [he,this,Tr.get]
    | n l v r =>
      simp only [Tr.set]
      by_cases hk:k = 0
      · subst hk
        by_cases hj:j = 0
        · subst hj; simp [Tr.get]
        · simp only [if_true,Tr.get,hj,if_false]
      · have h1':k / 2 < f:=h1.resolve_right hk
        have h2':k / 2 - 1 < f:=h2.resolve_right hk
        simp only [hk,if_false]
        by_cases ho:k % 2 = 1
        · simp only [ho,if_true,Tr.get]
          by_cases hj:j = 0
          · subst hj; simp [show ¬ (0 = k) from fun e=>hk e.symm]
          · simp only [hj,if_false]
            by_cases hjo:j % 2 = 1
            · simp only [hjo,if_true]; rw [ih _ _ _ _ h1']
              by_cases he:j = k
              · subst he; simp
              · have : ¬ (j / 2 = k / 2):=by omega
                simp [he,this]
            · have : ¬ (j = k):=by omega
              simp [hjo,this]
        · simp only [ho,if_false,Tr.get]
          by_cases hj:j = 0
          · subst hj; simp [show ¬ (0 = k) from fun e=>hk e.symm]
          · simp only [hj,if_false]
            by_cases hjo:j % 2 = 1
            · have : ¬ (j = k):=by omega
              simp [hjo,this]
            · simp only [hjo,if_false]; rw [ih _ _ _ _ h2']
              by_cases he:j = k
              · subst he; simp
              · have : ¬ (j / 2 - 1 = k / 2 - 1):=by omega
                simp [he,this]
theorem AH.get_lt {h:AH} {b:Nat} {o:AObj} (e:h.get b = some o):b < h.n:=by
  unfold AH.get at e
  split at e
  · assumption
  · cases e
theorem AH.get_put (h:AH) (b j:Nat) (x:Option AObj):(h.put b x).get j = if j < h.n then (if j = b then x else h.get j) else none:=by
  unfold AH.get AH.put
  simp only [Tr.get_set (b + 1) h.m b j x (by omega)]
  split <;> rfl
theorem AH.get_set_same {h:AH} {b:Nat} (o:AObj) (hb:b < h.n):(h.set b o).get b = some o:=by
  unfold AH.set; rw [AH.get_put]; simp [hb]
theorem AH.get_set_ne {h:AH} {b j:Nat} (o:AObj) (hb:j≠b):(h.set b o).get j = h.get j:=by
  unfold AH.set; rw [AH.get_put]
  by_cases hj:j < h.n
  · simp [hj,hb]
  · simp [hj,AH.get]
theorem AH.get_kill_same (h:AH) (b:Nat):(h.kill b).get b = none:=by
  unfold AH.kill; rw [AH.get_put]; split <;> simp
theorem AH.get_kill_ne {h:AH} {b j:Nat} (hb:j≠b):(h.kill b).get j = h.get j:=by
  unfold AH.kill; rw [AH.get_put]
  by_cases hj:j < h.n
  · simp [hj,hb]
  · simp [hj,AH.get]
theorem AH.get_push_same (h:AH) (o:AObj):(h.push o).get h.n = some o:=by
  unfold AH.get AH.push
  simp only [Tr.get_set (h.n + 1) h.m h.n h.n _ (by omega)]
  simp
theorem AH.get_push_ne {h:AH} {j:Nat} (o:AObj) (hj:j≠h.n):(h.push o).get j = h.get j:=by
  unfold AH.get AH.push
  simp only [Tr.get_set (h.n + 1) h.m h.n j _ (by omega),hj,if_false]
  by_cases h1:j < h.n
  · simp [h1,show j < h.n + 1 by omega]
  · simp [h1,show ¬ (j < h.n + 1) by omega]
@[simp] theorem AH.n_set (h:AH) (b:Nat) (o:AObj):(h.set b o).n = h.n:=rfl
@[simp] theorem AH.n_kill (h:AH) (b:Nat):(h.kill b).n = h.n:=rfl
@[simp] theorem AH.n_push (h:AH) (o:AObj):(h.push o).n = h.n + 1:=rfl
abbrev Rho:=List (Nat × Nat × Nat)
inductive VRel (ρ:Rho):Value→Value→Prop
  | undef (v:Value):VRel ρ (.tuple #[]) v
  | skip:VRel ρ (.chan none) (.tuple #[])
  | bool (b:Bool):VRel ρ (.bool b) (.bool b)
  | int (k:IntKind) (n:Int):VRel ρ (.int k n) (.int k n)
  | string (s:ByteArray):VRel ρ (.string s) (.string s)
  | ptrNil:VRel ρ (.pointer none) (.pointer none)
  | ptr (b o c δ N:Nat) (h:ρ[b]? = some (c, δ,N)):VRel ρ (.pointer (some ⟨b,o,none⟩)) (.pointer (some ⟨c, δ + o,none⟩))
  | slNil:VRel ρ (.slice none 0 0) (.slice none 0 0)
  | sl (b o c δ N n e k:Nat) (h:ρ[b]? = some (c, δ,N)) (h1:n≤k) (h2:δ + o + k * e≤N):VRel ρ (.slice (some ⟨b,o,none⟩) n e) (.slice (some ⟨c, δ + o,none⟩) n k)
  | slZ (a a':Addr) (e:Nat):VRel ρ (.slice (some a) 0 e) (.slice (some a') 0 0)
  | mapNil:VRel ρ (.map none) (.map none)
  | map (b c δ N:Nat) (h:ρ[b]? = some (c, δ,N)):VRel ρ (.map (some b)) (.map (some c))
  | func (f:FuncId) (a b a' b':Array Value) (h1:a.size = a'.size) (h2:b.size = b'.size) (h3:∀ (i:Nat) x y,a[i]? = some x→a'[i]? = some y→VRel ρ x y)
      (h4:∀ (i:Nat) x y,b[i]? = some x→b'[i]? = some y→VRel ρ x y):VRel ρ (.func (.func f) a b) (.func (.func f) a' b')
  | yield (l c δ N:Nat) (h:ρ[l]? = some (c, δ,N)):VRel ρ (.func (.yield l) #[] #[]) (.func (.yield c) #[] #[])
  | nilFunc:VRel ρ .nilFunc .nilFunc
  | nilIface:VRel ρ .nilIface .nilIface
  | iface (t:TypeId) (v u:Value) (h:VRel ρ v u):VRel ρ (.iface t v) (.iface t u)
  | agg (cs ds:Array Value) (h1:cs.size = ds.size) (h2:∀ (i:Nat) x y,cs[i]? = some x→ds[i]? = some y→VRel ρ x y):VRel ρ (.agg cs) (.agg ds)
  | tuple (cs ds:Array Value) (h1:cs.size = ds.size) (h2:∀ (i:Nat) x y,cs[i]? = some x→ds[i]? = some y→VRel ρ x y):VRel ρ (.tuple cs) (.tuple ds)
def Ext (ρ ρ':Rho):Prop:=∀ (b:Nat) x, ρ[b]? = some x→ρ'[b]? = some x
theorem Ext.refl (ρ:Rho):Ext ρ ρ:=fun _ _ h=>h
theorem Ext.trans {ρ ρ' ρ'':Rho} (h:Ext ρ ρ') (h':Ext ρ' ρ''):Ext ρ ρ'':=fun b x e=>h' b x (h b x e)
theorem Ext.snoc (ρ:Rho) (x:Nat × Nat × Nat):Ext ρ (ρ ++ [x]):=fun b y e=>by
  rw [List.getElem?_append_left (List.getElem?_eq_some_iff.1 e).1]; exact e
theorem VRel.mono {ρ ρ':Rho} (he:Ext ρ ρ') {v u:Value} (h:VRel ρ v u):VRel ρ' v u:=by
  induction h with
  | undef v=>exact .undef v
  | skip=>exact .skip
  | bool b=>exact .bool b
  | int k n=>exact .int k n
  | string s=>exact .string s
  | ptrNil=>exact .ptrNil
  | ptr b o c δ N h=>exact .ptr b o c δ N (he _ _ h)
  | slNil=>exact .slNil
  | sl b o c δ N n e k h h1 h2=>exact .sl b o c δ N n e k (he _ _ h) h1 h2
  | slZ a a' e=>exact .slZ a a' e
  | mapNil=>exact .mapNil
  | map b c δ N h=>exact .map b c δ N (he _ _ h)
  | func f a b a' b' h1 h2 h3 h4 i3 i4=>exact .func f a b a' b' h1 h2 i3 i4
  | yield l c δ N h=>exact .yield l c δ N (he _ _ h)
  | nilFunc=>exact .nilFunc
  | nilIface=>exact .nilIface
  | iface t v u h ih=>exact .iface t v u ih
  | agg cs ds h1 h2 ih=>exact .agg cs ds h1 ih
  | tuple cs ds h1 h2 ih=>exact .tuple cs ds h1 ih
theorem VRel.flat0 {ρ:Rho} {v:Value} (h:flat0 v = true):VRel ρ v v:=by
  unfold AM.flat0 at h
  split at h
  · exact .bool _
  · exact .int _ _
  · exact .string _
  · exact .ptrNil
  · exact .slNil
  · exact .mapNil
  · exact .nilFunc
  · exact .nilIface
  · rename_i a b
    simp only [Bool.and_eq_true,beq_iff_eq] at h
    have ha:a = #[]:=Array.eq_empty_of_size_eq_zero h.1
    have hb:b = #[]:=Array.eq_empty_of_size_eq_zero h.2
    subst ha hb
    exact .func _ _ _ _ _ rfl rfl (by simp) (by simp)
  · cases h
theorem VRel.flatV {ρ:Rho} {v:Value} (h:flatV v = true):VRel ρ v v:=by
  unfold AM.flatV at h
  split at h
  · rename_i cs
    refine .agg cs cs rfl fun i x y hx hy=>?_
    rw [hx] at hy
    injection hy with hy
    subst hy
    exact .flat0 (List.all_eq_true.1 h x (Array.mem_toList_iff.2 (Array.mem_of_getElem? hx)))
  · exact .flat0 h
def VRels (ρ:Rho) (xs ys:List Value):Prop:=All2 (VRel ρ) xs ys
theorem VRels.length {ρ:Rho} {xs ys:List Value} (h:VRels ρ xs ys):xs.length = ys.length:=h.length_eq
theorem VRels.mono {ρ ρ':Rho} (he:Ext ρ ρ') {xs ys:List Value} (h:VRels ρ xs ys):VRels ρ' xs ys:=h.imp fun _ _ h=>h.mono he
def jumpC:Jump→Code
  | .ret=>.ret
  | .exit id=>.exit id
def CellRel (ρ:Rho) (cs:Array Value) (δ:Nat) (xs:List Value):Prop :=
  ∀ (i:Nat) v,xs[i]? = some v→cellOk v = true∧∃ u,cs[δ + i]? = some u∧VRel ρ v u
def ORel (P:Program) (ρ:Rho) (δ N:Nat):AObj→Obj→Prop
  | .cells ro xs,.cells cs _ fz=>cs.size = N∧δ + xs.length≤N∧(ro = false→∀ i,i < N + frzX → ¬ (fz.1≤i∧i < fz.2))∧CellRel ρ cs δ xs
  | .tc t xs,.cells cs T fz=>(T = t / 2∧δ = 0∧(t % 2 = 1→xs.length = N))∧cs.size = N∧δ + xs.length≤N∧(∀ i,i < N + frzX → ¬ (fz.1≤i∧i < fz.2))∧CellRel ρ cs δ xs
  | .map es,.map entries clock=>All2 (fun (p:Value × Value) (e:MapEntry)=>p.1 = e.key∧flatV p.1 = true∧VRel ρ p.2 e.val) es entries.toList∧clock = entries.size∧∀ (i:Nat) (e:MapEntry),entries[i]? = some e→e.born = i
  | .siter s p,.stringIter s' p'=>s = s'∧p = p'
  | .loop r,.loop R=>R.state = r.state∧R.pending = r.pend.map jumpC∧R.params.toList = r.params∧(∀ s,VRel ρ (fget r.fr s) (R.tmps.getD s undef)) ∧
      ∃ nt hs,nt≤R.tmps.size∧(∀ s∈r.params,s < nt)∧liftC P nt hs R.assign = some r.assign∧liftC P nt hs R.body = some r.body∧r.assign.noR = true∧r.body.noR = true
  | _,_=>False
theorem CellRel.mono {ρ ρ':Rho} (he:Ext ρ ρ') {cs:Array Value} {δ:Nat} {xs:List Value} (h:CellRel ρ cs δ xs):CellRel ρ' cs δ xs :=
  fun i v hv=>let ⟨a,u,b,c⟩:=h i v hv; ⟨a,u,b,c.mono he⟩
theorem ORel.mono {P:Program} {ρ ρ':Rho} (he:Ext ρ ρ') {δ N:Nat} {o:AObj} {x:Obj} (h:ORel P ρ δ N o x):ORel P ρ' δ N o x:=by
  cases o <;> cases x <;> simp only [ORel] at h ⊢
  · exact ⟨h.1,h.2.1,h.2.2.1,h.2.2.2.mono he⟩
  · exact ⟨h.1.imp fun _ _ h=>⟨h.1,h.2.1,h.2.2.mono he⟩,h.2⟩
  · exact h
  · exact ⟨h.1,h.2.1,h.2.2.1,fun s=>(h.2.2.2.1 s).mono he,h.2.2.2.2⟩
  · exact ⟨h.1,h.2.1,h.2.2.1,h.2.2.2.1,h.2.2.2.2.mono he⟩
theorem AObj.mk_ro (ty:Option Nat) (xs:List Value):(AObj.mk ty xs).ro = false:=by cases ty <;> rfl
theorem AObj.own_eq {ty:Option Nat} {n:Nat} {o:Option AObj} {xs:List Value} (h:AObj.own ty n o = some xs):o = some (.mk ty xs)∧(ty.isSome = true→n = 0):=by
  unfold AObj.own at h
  split at h
  · injection h with h; subst h; exact ⟨rfl,fun h=>by cases h⟩
  · split at h
    · rename_i e; subst e; injection h with h; subst h; exact ⟨rfl,fun _=>rfl⟩
    · cases h
  · cases h
theorem ORel.mk {P:Program} {ρ:Rho} {δ N:Nat} {ty:Option Nat} {xs:List Value} {x:Obj}:ORel P ρ δ N (.mk ty xs) x↔∃ cs T fz,x = .cells cs T fz∧(∀ t,ty = some t→T = t / 2∧δ = 0∧(t % 2 = 1→xs.length = N)) ∧
    cs.size = N∧δ + xs.length≤N∧(∀ i,i < N + frzX → ¬ (fz.1≤i∧i < fz.2))∧CellRel ρ cs δ xs:=by
  constructor
  · intro h
    cases ty <;> cases x <;> simp only [AObj.mk,ORel] at h <;> first | exact h.elim | skip
    · exact ⟨_,_,_,rfl,(fun _ h=>by cases h),h.1,h.2.1,h.2.2.1 trivial,h.2.2.2⟩
    · exact ⟨_,_,_,rfl,(fun _ e=>by injection e with e; subst e; exact h.1),h.2⟩
  · rintro ⟨cs,T,fz,rfl,h1,h2,h3,h4,h5⟩
    cases ty
    · exact ⟨h2,h3,fun _=>h4,h5⟩
    · exact ⟨h1 _ rfl,h2,h3,h4,h5⟩
structure HRel (P:Program) (B:Nat) (ρ:Rho) (h:AH) (w:World):Prop where
  len:ρ.length = h.n
  live:∀ b o,h.get b = some o→∃ c δ N x, ρ[b]? = some (c, δ,N)∧w.heap[c]? = some x∧ORel P ρ δ N o x∧(o.ro = false→B≤c)∧(o.ro = true→c < B)
  glob:∀ g,g < P.globals.size→∃ N, ρ[g]? = some (g,0,N)
  inj:∀ b b' o o' c δ N c' δ' N',h.get b = some o→h.get b' = some o'→b≠b'→o.ro = false→ρ[b]? = some (c, δ,N)→ρ[b']? = some (c', δ',N')→c≠c'
def Mut (ρ:Rho) (h:AH) (c:Nat):Prop:=∃ b o δ N,h.get b = some o∧o.ro = false∧ρ[b]? = some (c, δ,N)
structure Ent where
  ρ:Rho
  h:AH
  w:World
structure Trans (E:Ent) (ρ:Rho) (h:AH) (w:World):Prop where
  ext:Ext E.ρ ρ
  size:E.w.heap.size≤w.heap.size
  os:w.os = E.w.os
  tape:w.tape = E.w.tape
  output:w.output = E.w.output
  drawn:E.w.drawn≤w.drawn
  keep:∀ c,c < E.w.heap.size → ¬ Mut E.ρ E.h c→w.heap[c]? = E.w.heap[c]?
  img:∀ c,c < E.w.heap.size→Mut ρ h c→Mut E.ρ E.h c
theorem Trans.refl (ρ:Rho) (h:AH) (w:World):Trans ⟨ρ,h,w⟩ ρ h w:=⟨.refl ρ,Nat.le_refl _,rfl,rfl,rfl,Nat.le_refl _,fun _ _ _=>rfl,fun _ _ h=>h⟩
theorem Trans.trans {E:Ent} {ρ:Rho} {h:AH} {w:World} (t:Trans E ρ h w) {ρ':Rho} {h':AH} {w':World} (t':Trans ⟨ρ,h,w⟩ ρ' h' w'):Trans E ρ' h' w' where
  ext:=t.ext.trans t'.ext
  size:=Nat.le_trans t.size t'.size
  os:=t'.os.trans t.os
  tape:=t'.tape.trans t.tape
  output:=t'.output.trans t.output
  drawn:=Nat.le_trans t.drawn t'.drawn
  keep:=fun c hc hm=>(t'.keep c (Nat.lt_of_lt_of_le hc t.size) (fun hm'=>hm (t.img c hc hm'))).trans (t.keep c hc hm)
  img:=fun c hc hm=>t.img c hc (t'.img c (Nat.lt_of_lt_of_le hc t.size) hm)
def VRelF (ρ:Rho) (lm:Nat→Option Nat) (v u:Value):Prop :=
  VRel ρ v u∨(∃ nm o c,v = .pointer (some (loc nm o))∧lm nm = some c∧u = .pointer (some ⟨c,o,none⟩)) ∨
  (∃ nm n e c,v = .slice (some (loc nm 0)) n e∧lm nm = some c∧u = .slice (some ⟨c,0,none⟩) n n)
theorem VRelF.mono {ρ ρ':Rho} {lm lm':Nat→Option Nat} (he:Ext ρ ρ') (hl:∀ nm c,lm nm = some c→lm' nm = some c) {v u:Value} (h:VRelF ρ lm v u):VRelF ρ' lm' v u:=by
  rcases h with h | ⟨nm,o,c,h1,h2,h3⟩ | ⟨nm,n,e,c,h1,h2,h3⟩
  · exact .inl (h.mono he)
  · exact .inr (.inl ⟨nm,o,c,h1,hl _ _ h2,h3⟩)
  · exact .inr (.inr ⟨nm,n,e,c,h1,hl _ _ h2,h3⟩)
theorem VRelF.ok {ρ:Rho} {lm:Nat→Option Nat} {v u:Value} (h:VRelF ρ lm v u) (hv:okV v = true):VRel ρ v u:=by
  rcases h with h | ⟨nm,o,c,rfl,_⟩ | ⟨nm,n,e,c,rfl,_⟩
  · exact h
  · simp [okV,isLoc,loc] at hv
  · simp [okV,isLoc,loc] at hv
structure SR (P:Program) (B nt:Nat) (E:Ent) (D:List Nat) (ρ:Rho) (lm:Nat→Option Nat) (g:Nat→Value) (m:Mem) (a:Act) (w:World):Prop where
  base:B≤E.w.heap.size
  heap:HRel P B ρ m.h w
  tr:Trans E ρ m.h w
  val:∀ s,VRelF ρ lm (g s) (a.tmps.getD s undef)
  lcs:∀ nm,match lget m.lc nm with
    | none=>lm nm = none
    | some o => ∃ c x,lm nm = some c∧E.w.heap.size≤c ∧ ¬ Mut ρ m.h c∧w.heap[c]? = some x∧(∃ N,ORel P ρ 0 N o x)∧o.ro = false
  linj:∀ nm nm' c,lm nm = some c→lm nm' = some c→nm = nm'
  dfs:a.defers = D.map fun r=>{ target:=.collected r,args := #[] }
  marks:∀ r∈D,w.heap[r]? = some (.deferred (some []))∧E.w.heap.size≤r ∧ ¬ Mut ρ m.h r∧∀ nm,lm nm≠some r
  dnd:D.Nodup
  room:nt≤a.tmps.size
end Go.Proofs.YtakmapoompffgaaGreatDoor.AM
namespace Go.Proofs.YtakmapoompffgaaGreatDoor.AM
open Go
structure SameOut (w w':World):Prop where
  os:w'.os = w.os
  tape:w'.tape = w.tape
  output:w'.output = w.output
  drawn:w.drawn≤w'.drawn
theorem SameOut.refl (w:World):SameOut w w:=⟨rfl,rfl,rfl,by first | exact Nat.le_refl _ | exact Nat.le_add_right _ _⟩
theorem SameOut.trans {w w' w'':World} (h:SameOut w w') (h':SameOut w' w''):SameOut w w'':=⟨h'.os.trans h.os,h'.tape.trans h.tape,h'.output.trans h.output,Nat.le_trans h.drawn h'.drawn⟩
variable {P:Program} {B nt:Nat} {E:Ent} {D:List Nat} {ρ:Rho} {lm:Nat→Option Nat} {g:Nat→Value} {m:Mem} {a:Act} {w:World}
theorem HRel.world {h:AH} {w':World} (hr:HRel P B ρ h w) (e:w'.heap = w.heap):HRel P B ρ h w' :=
  ⟨hr.len,by rw [e]; exact hr.live,hr.glob,hr.inj⟩
theorem Trans.world {h:AH} {w':World} (t:Trans E ρ h w) (e:w'.heap = w.heap) (so:SameOut w w'):Trans E ρ h w' :=
  ⟨t.ext,by rw [e]; exact t.size,so.os.trans t.os,so.tape.trans t.tape,so.output.trans t.output,Nat.le_trans t.drawn so.drawn,by rw [e]; exact t.keep,t.img⟩
theorem SR.world {w':World} (s:SR P B nt E D ρ lm g m a w) (e:w'.heap = w.heap) (so:SameOut w w'):SR P B nt E D ρ lm g m a w' where
  base:=s.base
  heap:=s.heap.world e
  tr:=s.tr.world e so
  val:=s.val
  lcs:=by rw [e]; exact s.lcs
  linj:=s.linj
  dfs:=s.dfs
  marks:=by rw [e]; exact s.marks
  dnd:=s.dnd
  room:=s.room
theorem SR.objAt (s:SR P B nt E D ρ lm g m a w) {p p':Addr} (hp:VRelF ρ lm (.pointer (some p)) (.pointer (some p'))) {o:AObj} (ho:m.obj p = some o) :
    ∃ δ N x,w.heap[p'.block]? = some x∧ORel P ρ δ N o x∧p' = ⟨p'.block, δ + p.off,none⟩:=by
  rcases hp with h | ⟨nm,of,c,h1,h2,h3⟩ | ⟨nm,n,e,c,h1,_⟩
  · cases h with
    | ptr b of c δ N h =>
      obtain ⟨c', δ',N',x,h1,h2,h3,_⟩:=s.heap.live b o ho
      rw [h] at h1
      injection h1 with h1
      injection h1 with e1 h1
      injection h1 with e2 e3
      subst e1 e2 e3
      exact ⟨δ,N,x,h2,h3,rfl⟩
  · injection h1 with h1
    injection h1 with h1
    injection h3 with h3
    injection h3 with h3
    subst h1 h3
    have hl:=s.lcs nm
    have ho':lget m.lc nm = some o:=ho
    rw [ho'] at hl
    obtain ⟨c',x,e1,_,_,e2,⟨N,e3⟩,_⟩:=hl
    rw [h2] at e1
    injection e1 with e1
    subst e1
    exact ⟨0,N,x,e2,e3,by simp [loc]⟩
  · cases h1
theorem Mut.of_set {h:AH} {b:Nat} {o o':AObj} (ho:h.get b = some o) (hr:o.ro = false) {c:Nat} (hm:Mut ρ (h.set b o') c):Mut ρ h c:=by
  obtain ⟨b',o2, δ,N,h1,h2,h3⟩:=hm
  by_cases e:b' = b
  · subst e; exact ⟨b',o, δ,N,ho,hr,h3⟩
  · rw [AH.get_set_ne _ e] at h1; exact ⟨b',o2, δ,N,h1,h2,h3⟩
theorem getElem?_setIfInBounds_cases (xs:Array Obj) (i j:Nat) (x:Obj) (hi:i < xs.size):(xs.setIfInBounds i x)[j]? = if j = i then some x else xs[j]?:=by
  by_cases h:j = i
  · subst h; simp [hi]
  · simp [h,Array.getElem?_setIfInBounds_ne (Ne.symm h)]
theorem SR.putObj (s:SR P B nt E D ρ lm g m a w) {p p':Addr} (hp:VRelF ρ lm (.pointer (some p)) (.pointer (some p'))) {o o':AObj} (ho:m.obj p = some o)
    (hr:o.ro = false) (hr':o'.ro = false) {δ N:Nat} {x x':Obj} (hx:w.heap[p'.block]? = some x) (hrel:ORel P ρ δ N o x)
    (hx':∀ δ N,p'.off = δ + p.off→ORel P ρ δ N o x→ORel P ρ δ N o' x') {w':World} (e:w'.heap = w.heap.setIfInBounds p'.block x') (so:SameOut w w') :
    SR P B nt E D ρ lm g (m.putObj p o') a w':=by
  have hlt:p'.block < w.heap.size:=(Array.getElem?_eq_some_iff.1 hx).1
  have hget:∀ c,w'.heap[c]? = if c = p'.block then some x' else w.heap[c]?:=fun c=>by rw [e]; exact getElem?_setIfInBounds_cases _ _ _ _ hlt
  have hsz:w'.heap.size = w.heap.size:=by rw [e]; simp
  rcases hp with h | ⟨nm,of,c,h1,h2,h3⟩ | ⟨nm,n,e,c,h1,_⟩
  · cases h with
    | ptr b of c δ' N' h =>
      have hmo:m.putObj ⟨b,of,none⟩ o' = { m with h:=m.h.set b o' }:=rfl
      have ho':m.h.get b = some o:=ho
      rw [hmo]
      have hmut:Mut ρ m.h c:=⟨b,o, δ',N',ho',hr,h⟩
      have hb:=AH.get_lt ho'
      refine ⟨s.base,⟨s.heap.len,fun b1 o1 h1=>?_,s.heap.glob,fun b1 b2 o1 o2 c1 δ1 N1 c2 δ2 N2 h1 h2 hne hro e1 e2=>?_⟩,⟨s.tr.ext,by rw [hsz]; exact s.tr.size,so.os.trans s.tr.os,so.tape.trans s.tr.tape,so.output.trans s.tr.output,Nat.le_trans s.tr.drawn so.drawn,fun c1 hc hm=>?_,fun c1 hc hm=>s.tr.img c1 hc (hm.of_set ho' hr)⟩,s.val,fun nm=>?_,s.linj,s.dfs,fun r hr1=>?_,s.dnd,s.room⟩
      · by_cases eb:b1 = b
        · subst eb
          rw [AH.get_set_same _ hb] at h1
          injection h1 with h1
          subst h1
          obtain ⟨c2, δ2,N2,x2,e1,e2,e3,e4,e5⟩:=s.heap.live b1 o ho'
          rw [h] at e1
          injection e1 with e1
          injection e1 with g1 e1
          injection e1 with g2 g3
          subst g1 g2 g3
          rw [hx] at e2
          injection e2 with e2
          subst e2
          exact ⟨c, δ',N',x',h,by rw [hget]; simp,hx' _ _ rfl e3,fun _=>e4 hr,fun hf=>by rw [hr'] at hf; cases hf⟩
        · rw [AH.get_set_ne _ eb] at h1
          obtain ⟨c2, δ2,N2,x2,e1,e2,e3,e4⟩:=s.heap.live b1 o1 h1
          refine ⟨c2, δ2,N2,x2,e1, ?_,e3,e4⟩
          rw [hget]
          have:c2≠c:=fun hc=>s.heap.inj b b1 o o1 c δ' N' c2 δ2 N2 ho' h1 (Ne.symm eb) hr h e1 hc.symm
          simp [this,e2]
      · have key:∀ (b1:Nat) (o1:AObj),((m.h.set b o').get b1) = some o1→∃ o1',m.h.get b1 = some o1'∧o1'.ro = o1.ro:=fun b1 o1 h1=>by
          by_cases eb:b1 = b
          · subst eb; rw [AH.get_set_same _ hb] at h1; injection h1 with h1; subst h1; exact ⟨o,ho',by rw [hr,hr']⟩
          · rw [AH.get_set_ne _ eb] at h1; exact ⟨o1,h1,rfl⟩
        obtain ⟨o1',k1,k2⟩:=key b1 o1 h1
        obtain ⟨o2',k3,_⟩:=key b2 o2 h2
        exact s.heap.inj b1 b2 o1' o2' c1 δ1 N1 c2 δ2 N2 k1 k3 hne (k2.trans hro) e1 e2
      · rw [hget]
        have:c1≠c:=fun hcc=>hm (s.tr.img c1 hc (by rw [hcc]; exact hmut))
        simp [this,s.tr.keep c1 hc hm]
      · have hl:=s.lcs nm
        revert hl
        show (match lget m.lc nm with | none=>_ | some o=>_)→(match lget m.lc nm with | none=>_ | some o=>_)
        cases lget m.lc nm with
        | none=>exact id
        | some o1 =>
          rintro ⟨c1,x1,k1,k2,k3,k4,k5,k6⟩
          refine ⟨c1,x1,k1,k2,fun hm=>k3 (hm.of_set ho' hr), ?_,k5,k6⟩
          rw [hget]
          have:c1≠c:=fun hc=>k3 (hc ▸ hmut)
          simp [this,k4]
      · obtain ⟨k1,k2,k3,k4⟩:=s.marks r hr1
        refine ⟨?_,k2,fun hm=>k3 (hm.of_set ho' hr),k4⟩
        rw [hget]
        have:r≠c:=fun hc=>k3 (hc ▸ hmut)
        simp [this,k1]
  · injection h1 with h1
    injection h1 with h1
    injection h3 with h3
    injection h3 with h3
    subst h1 h3
    have hl:=s.lcs nm
    have ho':lget m.lc nm = some o:=ho
    rw [ho'] at hl
    obtain ⟨c',x0,k1,k2,k3,k4,⟨N0,k5⟩,_⟩:=hl
    rw [h2] at k1
    injection k1 with k1
    subst k1
    have hmo:m.putObj (loc nm of) o' = { m with lc:=(nm,o') :: m.lc }:=rfl
    rw [hmo]
    have hxe:x0 = x:=by rw [hx] at k4; injection k4 with k4; exact k4.symm
    subst hxe
    have hlive:∀ b1 o1 c2 δ2 N2,m.h.get b1 = some o1→ρ[b1]? = some (c2, δ2,N2)→c2≠c:=fun b1 o1 c2 δ2 N2 e1 e2 hc=>by
      subst hc
      cases hro:o1.ro with
      | false=>exact k3 ⟨b1,o1, δ2,N2,e1,hro,e2⟩
      | true =>
        obtain ⟨c3, δ3,N3,x3,f1,_,_,_,f2⟩:=s.heap.live b1 o1 e1
        rw [e2] at f1
        injection f1 with f1
        injection f1 with f3 _
        have:=f2 hro
        have:=s.base
        omega
    refine ⟨s.base,⟨s.heap.len,fun b1 o1 h1=>?_,s.heap.glob,s.heap.inj⟩,⟨s.tr.ext,by rw [hsz]; exact s.tr.size,so.os.trans s.tr.os,so.tape.trans s.tr.tape,so.output.trans s.tr.output,Nat.le_trans s.tr.drawn so.drawn,fun c1 hc hm=>?_,s.tr.img⟩,s.val,fun nm'=>?_,s.linj,s.dfs,fun r hr1=>?_,s.dnd,s.room⟩
    · obtain ⟨c2, δ2,N2,x2,e1,e2,e3,e4⟩:=s.heap.live b1 o1 h1
      refine ⟨c2, δ2,N2,x2,e1, ?_,e3,e4⟩
      rw [hget]
      simp [hlive b1 o1 c2 δ2 N2 h1 e1,e2]
    · rw [hget]
      have:c1≠c:=by omega
      simp [this,s.tr.keep c1 hc hm]
    · have hl:=s.lcs nm'
      by_cases en:nm' = nm
      · subst en
        simp only [lget,if_true]
        exact ⟨c,x',h2,k2,k3,by rw [hget]; simp,⟨N0,hx' _ _ (by simp [loc]) k5⟩,hr'⟩
      · simp only [lget,en,if_false]
        revert hl
        cases lget m.lc nm' with
        | none=>exact id
        | some o1 =>
          rintro ⟨c1,x1,f1,f2,f3,f4,f5,f6⟩
          refine ⟨c1,x1,f1,f2,f3, ?_,f5,f6⟩
          rw [hget]
          have:c1≠c:=fun hc=>en (s.linj nm' nm c1 f1 (hc ▸ h2))
          simp [this,f4]
    · obtain ⟨f1,f2,f3,f4⟩:=s.marks r hr1
      refine ⟨?_,f2,f3,f4⟩
      rw [hget]
      have:r≠c:=fun hc=>f4 nm (hc ▸ h2)
      simp [this,f1]
  · cases h1
theorem Mut.kill {h:AH} {b c:Nat} (hm:Mut ρ (h.kill b) c):Mut ρ h c:=by
  obtain ⟨b',o, δ,N,h1,h2,h3⟩:=hm
  by_cases e:b' = b
  · subst e; rw [AH.get_kill_same] at h1; cases h1
  · rw [AH.get_kill_ne e] at h1; exact ⟨b',o, δ,N,h1,h2,h3⟩
theorem SR.kill (s:SR P B nt E D ρ lm g m a w) (b:Nat):SR P B nt E D ρ lm g { m with h:=m.h.kill b } a w:=by
  have key:∀ b1 o1,(m.h.kill b).get b1 = some o1→m.h.get b1 = some o1:=fun b1 o1 h1=>by
    by_cases e:b1 = b
    · subst e; rw [AH.get_kill_same] at h1; cases h1
    · rwa [AH.get_kill_ne e] at h1
  refine ⟨s.base,⟨s.heap.len,fun b1 o1 h1=>s.heap.live b1 o1 (key _ _ h1),s.heap.glob,fun b1 b2 o1 o2 c1 δ1 N1 c2 δ2 N2 h1 h2=>s.heap.inj b1 b2 o1 o2 c1 δ1 N1 c2 δ2 N2 (key _ _ h1) (key _ _ h2)⟩,
    ⟨s.tr.ext,s.tr.size,s.tr.os,s.tr.tape,s.tr.output,s.tr.drawn,s.tr.keep,fun c hc hm=>s.tr.img c hc hm.kill⟩,s.val,fun nm=>?_,s.linj,s.dfs,fun r hr=>?_,s.dnd,s.room⟩
  · have hl:=s.lcs nm
    revert hl
    show (match lget m.lc nm with | none=>_ | some o=>_)→(match lget m.lc nm with | none=>_ | some o=>_)
    cases lget m.lc nm with
    | none=>exact id
    | some o1=>rintro ⟨c1,x1,k1,k2,k3,k⟩; exact ⟨c1,x1,k1,k2,fun hm=>k3 hm.kill,k⟩
  · obtain ⟨k1,k2,k3,k4⟩:=s.marks r hr
    exact ⟨k1,k2,fun hm=>k3 hm.kill,k4⟩
theorem get_snoc_lt {ρ:Rho} {x:Nat × Nat × Nat} {b:Nat} (h:b < ρ.length):(ρ ++ [x])[b]? = ρ[b]?:=List.getElem?_append_left h
theorem get_snoc_eq (ρ:Rho) (x:Nat × Nat × Nat):(ρ ++ [x])[ρ.length]? = some x:=by simp
theorem SR.pushAt (s:SR P B nt E D ρ lm g m a w) {o:AObj} (hro:o.ro = false) {c δ N:Nat} {x:Obj} {w':World} (hsz:w.heap.size≤w'.heap.size)
    (hx:w'.heap[c]? = some x) (hrel:ORel P (ρ ++ [(c, δ,N)]) δ N o x) (hB:B≤c)
    (hfree:∀ b1 o1 c1 δ1 N1,m.h.get b1 = some o1→ρ[b1]? = some (c1, δ1,N1)→c1≠c)
    (hE:c < E.w.heap.size→Mut E.ρ E.h c) (hlm:∀ nm,lm nm≠some c) (hmk:c ∉ D)
    (hget:∀ c',c'≠c→c' < w.heap.size→w'.heap[c']? = w.heap[c']?) (so:SameOut w w') :
    SR P B nt E D (ρ ++ [(c, δ,N)]) lm g { m with h:=m.h.push o } a w':=by
  have hn:=s.heap.len
  have hext:=Ext.snoc ρ (c, δ,N)
  have mutc:∀ c',Mut (ρ ++ [(c, δ,N)]) (m.h.push o) c'→c' = c∨Mut ρ m.h c':=fun c' hm=>by
    obtain ⟨b',o2, δ2,N2,h1,h2,h3⟩:=hm
    by_cases e:b' = m.h.n
    · subst e
      rw [← hn,get_snoc_eq] at h3
      injection h3 with h3
      injection h3 with h3 _
      exact .inl h3.symm
    · rw [AH.get_push_ne _ e] at h1
      have:=AH.get_lt h1
      rw [get_snoc_lt (by omega)] at h3
      exact .inr ⟨b',o2, δ2,N2,h1,h2,h3⟩
  have livelt:∀ c1,(∃ b1 o1 δ1 N1,m.h.get b1 = some o1∧ρ[b1]? = some (c1, δ1,N1))→c1 < w.heap.size:=fun c1 ⟨b1,o1, δ1,N1,h1,h2⟩=>by
    obtain ⟨c2, δ2,N2,x2,e1,e2,_⟩:=s.heap.live b1 o1 h1
    rw [h2] at e1
    injection e1 with e1
    injection e1 with e1 _
    subst e1
    exact (Array.getElem?_eq_some_iff.1 e2).1
  refine ⟨s.base,⟨by simp [hn],fun b1 o1 h1=>?_,fun g hg=>(s.heap.glob g hg).imp fun _ h=>hext _ _ h,fun b1 b2 o1 o2 c1 δ1 N1 c2 δ2 N2 h1 h2 hne hr1 e1 e2=>?_⟩,
    ⟨s.tr.ext.trans hext,Nat.le_trans s.tr.size hsz,so.os.trans s.tr.os,so.tape.trans s.tr.tape,so.output.trans s.tr.output,Nat.le_trans s.tr.drawn so.drawn,fun c1 hc hm=>?_,fun c1 hc hm=>?_⟩,
    fun i=>(s.val i).mono hext (fun _ _ h=>h),fun nm=>?_,s.linj,s.dfs,fun r hr=>?_,s.dnd,s.room⟩
  · by_cases e:b1 = m.h.n
    · subst e
      rw [AH.get_push_same] at h1
      injection h1 with h1
      subst h1
      exact ⟨c, δ,N,x,by rw [← hn]; exact get_snoc_eq _ _,hx,hrel,fun _=>hB,fun hf=>by rw [hro] at hf; cases hf⟩
    · rw [AH.get_push_ne _ e] at h1
      have hlt:=AH.get_lt h1
      obtain ⟨c2, δ2,N2,x2,e1,e2,e3,e4⟩:=s.heap.live b1 o1 h1
      refine ⟨c2, δ2,N2,x2,by rw [get_snoc_lt (by omega)]; exact e1, ?_,e3.mono hext,e4⟩
      rw [hget c2 (hfree b1 o1 c2 δ2 N2 h1 e1) (Array.getElem?_eq_some_iff.1 e2).1,e2]
  · by_cases g1:b1 = m.h.n
    · subst g1
      have g2:b2≠m.h.n:=Ne.symm hne
      rw [AH.get_push_ne _ g2] at h2
      have hlt:=AH.get_lt h2
      rw [get_snoc_lt (by omega)] at e2
      rw [← hn,get_snoc_eq] at e1
      injection e1 with e1
      injection e1 with e1 _
      subst e1
      exact fun hc=>hfree b2 o2 c2 δ2 N2 h2 e2 hc.symm
    · rw [AH.get_push_ne _ g1] at h1
      have hlt1:=AH.get_lt h1
      rw [get_snoc_lt (by omega)] at e1
      by_cases g2:b2 = m.h.n
      · subst g2
        rw [← hn,get_snoc_eq] at e2
        injection e2 with e2
        injection e2 with e2 _
        subst e2
        exact hfree b1 o1 c1 δ1 N1 h1 e1
      · rw [AH.get_push_ne _ g2] at h2
        have hlt2:=AH.get_lt h2
        rw [get_snoc_lt (by omega)] at e2
        exact s.heap.inj b1 b2 o1 o2 c1 δ1 N1 c2 δ2 N2 h1 h2 hne hr1 e1 e2
  · have:c1≠c:=fun hcc=>hm (by rw [hcc] at hc ⊢; exact hE hc)
    rw [hget c1 this (Nat.lt_of_lt_of_le hc s.tr.size)]
    exact s.tr.keep c1 hc hm
  · rcases mutc c1 hm with h | h
    · subst h; exact hE hc
    · exact s.tr.img c1 hc h
  · have hl:=s.lcs nm
    revert hl
    show (match lget m.lc nm with | none=>_ | some o=>_)→(match lget m.lc nm with | none=>_ | some o=>_)
    cases lget m.lc nm with
    | none=>exact id
    | some o1 =>
      rintro ⟨c1,x1,k1,k2,k3,k4,⟨N1,k5⟩,k6⟩
      have hc1:c1≠c:=fun hc=>hlm nm (hc ▸ k1)
      exact ⟨c1,x1,k1,k2,fun hm=>(mutc c1 hm).elim hc1 k3,by rw [hget c1 hc1 (Array.getElem?_eq_some_iff.1 k4).1]; exact k4,⟨N1,k5.mono hext⟩,k6⟩
  · obtain ⟨k1,k2,k3,k4⟩:=s.marks r hr
    have hc1:r≠c:=fun hc=>hmk (hc ▸ hr)
    exact ⟨by rw [hget r hc1 (Array.getElem?_eq_some_iff.1 k1).1]; exact k1,k2,fun hm=>(mutc r hm).elim hc1 k3,k4⟩
theorem SR.push (s:SR P B nt E D ρ lm g m a w) {o:AObj} (hro:o.ro = false) {N:Nat} {x:Obj} {w':World} (e:w'.heap = w.heap.push x)
    (hrel:ORel P (ρ ++ [(w.heap.size,0,N)]) 0 N o x) (so:SameOut w w') :
    SR P B nt E D (ρ ++ [(w.heap.size,0,N)]) lm g { m with h:=m.h.push o } a w':=by
  have hb:=Nat.le_trans s.base s.tr.size
  refine s.pushAt hro (by rw [e]; simp) (by rw [e]; simp) hrel hb (fun b1 o1 c1 δ1 N1 h1 h2 hc=>?_) (fun h=>absurd h (by have:=s.tr.size; omega)) (fun nm hn=>?_) (fun hd=>?_)
    (fun c' hne hlt=>by rw [e,Array.getElem?_push]; simp [hne]) so
  · obtain ⟨c2, δ2,N2,x2,e1,e2,_⟩:=s.heap.live b1 o1 h1
    rw [h2] at e1
    injection e1 with e1
    injection e1 with e1 _
    subst e1
    have:=(Array.getElem?_eq_some_iff.1 e2).1
    omega
  · have hl:=s.lcs nm
    cases hlg:lget m.lc nm with
    | none=>rw [hlg] at hl; simp only at hl; rw [hl] at hn; cases hn
    | some o1 =>
      rw [hlg] at hl
      obtain ⟨c1,x1,k1,_,_,k4,_⟩:=hl
      rw [hn] at k1
      injection k1 with k1
      subst k1
      have:=(Array.getElem?_eq_some_iff.1 k4).1
      omega
  · have:=(Array.getElem?_eq_some_iff.1 (s.marks _ hd).1).1
    omega
def setLm (lm:Nat→Option Nat) (nm c:Nat):Nat→Option Nat:=fun x=>if x = nm then some c else lm x
theorem SR.newLoc (s:SR P B nt E D ρ lm g m a w) {nm:Nat} (hnm:lget m.lc nm = none) {o:AObj} (hro:o.ro = false) {N:Nat} {x:Obj} {w':World} (e:w'.heap = w.heap.push x)
    (hrel:ORel P ρ 0 N o x) (so:SameOut w w') :
    SR P B nt E D ρ (setLm lm nm w.heap.size) g { m with lc:=(nm,o) :: m.lc } a w':=by
  have hl0:=s.lcs nm
  rw [hnm] at hl0
  simp only at hl0
  have hget:∀ c',c' < w.heap.size→w'.heap[c']? = w.heap[c']?:=fun c' hlt=>by
    rw [e,Array.getElem?_push]; simp [show ¬ (c' = w.heap.size) by omega]
  have hlive:∀ b1 o1 c2 δ2 N2,m.h.get b1 = some o1→ρ[b1]? = some (c2, δ2,N2)→c2 < w.heap.size:=fun b1 o1 c2 δ2 N2 h1 h2=>by
    obtain ⟨c3, δ3,N3,x3,f1,f2,_⟩:=s.heap.live b1 o1 h1
    rw [h2] at f1
    injection f1 with f1
    injection f1 with f1 _
    subst f1
    exact (Array.getElem?_eq_some_iff.1 f2).1
  have hmono:∀ nm' c,lm nm' = some c→setLm lm nm w.heap.size nm' = some c:=fun nm' c hc=>by
    unfold setLm
    by_cases en:nm' = nm
    · subst en; rw [hl0] at hc; cases hc
    · simp [en,hc]
  have hlmlt:∀ nm' c,lm nm' = some c→c < w.heap.size:=fun nm' c hc=>by
    have hl:=s.lcs nm'
    cases hlg:lget m.lc nm' with
    | none=>rw [hlg] at hl; simp only at hl; rw [hl] at hc; cases hc
    | some o1 =>
      rw [hlg] at hl
      obtain ⟨c1,x1,k1,_,_,k4,_⟩:=hl
      rw [hc] at k1
      injection k1 with k1
      subst k1
      exact (Array.getElem?_eq_some_iff.1 k4).1
  refine ⟨s.base,⟨s.heap.len,fun b1 o1 h1=>?_,s.heap.glob,s.heap.inj⟩,
    ⟨s.tr.ext,Nat.le_trans s.tr.size (by rw [e]; simp),so.os.trans s.tr.os,so.tape.trans s.tr.tape,so.output.trans s.tr.output,Nat.le_trans s.tr.drawn so.drawn,fun c1 hc hm=>by rw [hget c1 (Nat.lt_of_lt_of_le hc s.tr.size)]; exact s.tr.keep c1 hc hm,s.tr.img⟩,
    fun i=>(s.val i).mono (.refl ρ) hmono,fun nm'=>?_,fun n1 n2 c h1 h2=>?_,s.dfs,fun r hr=>?_,s.dnd,s.room⟩
  · obtain ⟨c2, δ2,N2,x2,e1,e2,e3,e4⟩:=s.heap.live b1 o1 h1
    exact ⟨c2, δ2,N2,x2,e1,by rw [hget c2 (hlive b1 o1 c2 δ2 N2 h1 e1)]; exact e2,e3,e4⟩
  · by_cases en:nm' = nm
    · subst en
      simp only [lget,if_true]
      refine ⟨w.heap.size,x,by simp [setLm],s.tr.size,fun ⟨b1,o1, δ1,N1,h1,_,h3⟩=>?_,by rw [e]; simp,⟨N,hrel⟩,hro⟩
      exact absurd (hlive b1 o1 _ δ1 N1 h1 h3) (Nat.lt_irrefl _)
    · have hl:=s.lcs nm'
      simp only [lget,en,if_false]
      revert hl
      cases lget m.lc nm' with
      | none=>intro hl; simp [setLm,en]; exact hl
      | some o1 =>
        rintro ⟨c1,x1,f1,f2,f3,f4,f5,f6⟩
        exact ⟨c1,x1,hmono _ _ f1,f2,f3,by rw [hget c1 (Array.getElem?_eq_some_iff.1 f4).1]; exact f4,f5,f6⟩
  · unfold setLm at h1 h2
    by_cases e1:n1 = nm
    · by_cases e2:n2 = nm
      · rw [e1,e2]
      · simp only [e1,if_true,e2,if_false] at h1 h2
        injection h1 with h1
        have:=hlmlt n2 c h2
        omega
    · by_cases e2:n2 = nm
      · simp only [e1,if_false,e2,if_true] at h1 h2
        injection h2 with h2
        have:=hlmlt n1 c h1
        omega
      · simp only [e1,e2,if_false] at h1 h2
        exact s.linj n1 n2 c h1 h2
  · obtain ⟨f1,f2,f3,f4⟩:=s.marks r hr
    have hlt:=(Array.getElem?_eq_some_iff.1 f1).1
    refine ⟨by rw [hget r hlt]; exact f1,f2,f3,fun nm' hn=>?_⟩
    unfold setLm at hn
    by_cases en:nm' = nm
    · simp only [en,if_true] at hn
      injection hn with hn
      omega
    · simp only [en,if_false] at hn
      exact f4 nm' hn
def updG (g:Nat→Value) (d:Option Nat) (v:Value):Nat→Value:=fun s=>if d = some s then v else g s
theorem SR.put (s:SR P B nt E D ρ lm g m a w) {d:Option Nat} (hd:∀ x,d = some x→x < nt) {v u:Value} (hv:VRelF ρ lm v u) :
    SR P B nt E D ρ lm (updG g d v) m (a.put d u) w:=by
  cases d with
  | none=>exact ⟨s.base,s.heap,s.tr,fun i=>by simpa [updG,Act.put] using s.val i,s.lcs,s.linj,s.dfs,s.marks,s.dnd,s.room⟩
  | some d =>
    have hlt:d < a.tmps.size:=Nat.lt_of_lt_of_le (hd d rfl) s.room
    refine ⟨s.base,s.heap,s.tr,fun i=>?_,s.lcs,s.linj,s.dfs,s.marks,s.dnd,by simpa [Act.put] using s.room⟩
    by_cases e:i = d
    · subst e; simp [updG,Act.put,hlt]; exact hv
    · have e' : ¬ (d = i):=fun h=>e h.symm
      have hsv:=s.val i
      simp only [updG,Option.some.injEq,e',if_false,Act.put]
      simpa [Array.getElem?_setIfInBounds_ne e'] using hsv
theorem SR.weaken (s:SR P B nt E D ρ lm g m a w) {g':Nat→Value} (h:∀ i,VRelF ρ lm (g' i) (a.tmps.getD i undef)):SR P B nt E D ρ lm g' m a w :=
  ⟨s.base,s.heap,s.tr,h,s.lcs,s.linj,s.dfs,s.marks,s.dnd,s.room⟩
theorem VRelF.undef {ρ:Rho} {lm:Nat→Option Nat} (u:Value):VRelF ρ lm undef u:=.inl (.undef u)
end Go.Proofs.YtakmapoompffgaaGreatDoor.AM
