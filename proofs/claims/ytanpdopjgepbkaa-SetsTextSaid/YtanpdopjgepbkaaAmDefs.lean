/-
  The abstract machine: definitions. A compact code, its values, heap and meaning. Nothing is proved of Go here.
-/
import Derived.RangeFuncLeaves
namespace Go.Proofs.Ytanpdopjgepbkaa.AM
open Go

/-! ### 1. Operands, operations, code -/

/-- An operand: a slot, or a constant. -/
inductive Opd where
  | s (n : Nat)
  | c (v : Value)

/-- Kinds of cells that are compared one by one. -/
inductive FK where
  | int | bool | string

/-- What keys of a map are: one cell, or several. -/
inductive KK where
  | one (k : FK)
  | agg (ks : List FK)

inductive EqK where
  | bool | ptr | sl | map | func

/-- Operations whose value hangs on their operands alone. -/
inductive POp where
  | mv (x : Opd)
  | pick (c a b : Opd)
  | bin (op : BinOp) (x y : Opd)
  | un (op : UnOp) (x : Opd)
  | conv (k : IntKind) (x : Opd)
  | i2s (x : Opd)
  | build (zero : List Value) (parts : List (Nat × Nat × Opd))
  | nilck (x : Opd)
  | slS (x : Opd) (lo hi : Option Opd)
  | sl (esz : Nat) (x : Opd) (lo hi mx : Option Opd)
  | faddr (off : Nat) (x : Opd)
  | fld (off : Nat) (n : Option Nat) (x : Opd)
  | iaddr (esz : Nat) (x i : Opd)
  | iaddrA (len esz : Nat) (x i : Opd)
  | idxS (x i : Opd)
  | idxA (len esz : Nat) (n : Option Nat) (x i : Opd)
  | ext (i : Nat) (x : Opd)
  | len (x : Opd)
  | slen (x : Opd)
  | mm (big : Bool) (xs : List Opd)
  | mkfn (fn : Fn) (first captured : List Opd)
  | mkif (t : TypeId) (x : Opd)
  | eqA (neq : Bool) (ks : List FK) (x y : Opd)
  | eqk (neq : Bool) (k : EqK) (x y : Opd)

/-- Operations that read memory. -/
inductive ROp where
  | load (n : Option Nat) (x : Opd)
  | b2s (x : Opd)
  | r2s (x : Opd)
  | maplen (x : Opd)
  | lookup (kk : KK) (zero : Value) (ok : Bool) (x k : Opd)

/-- Operations that turn memory. -/
inductive EOp where
  | newL (t : Nat) (zero : List Value)
  | newH (zero : List Value)
  | boxL (t : Nat) (n : Nat) (x : Opd)
  | boxH (n : Nat) (x : Opd)
  | litL (t : Nat) (n esz : Nat) (zero : List Value) (parts : List (Nat × Nat × Opd))
  | litH (n esz : Nat) (zero : List Value) (parts : List (Nat × Nat × Opd))
  | store (n : Nat) (a x : Opd)
  | s2b (x : Opd)
  | s2r (x : Opd)
  | rngS (t : Nat) (x : Opd)
  | nxtS (x : Opd)
  | call (f : FuncId) (args : List Opd)
  | callv (f : Opd) (args : List Opd)
  | append (esz bytes : Nat) (x y : Opd)
  | copy (esz : Nat) (x y : Opd)
  | mks (esz bytes : Nat) (zero : List Value) (l c : Opd)
  | mkmap
  | mapup (kk : KK) (m k x : Opd)

inductive LOp where
  | p (o : POp)
  | r (o : ROp)
  | e (o : EOp)

structure LInstr where
  dst : Option Nat
  op : LOp
  guard : Option (Nat × Bool)

inductive LCode where
  | skip
  | region (ops : List LInstr) (keep : List Nat) (chk : List (Nat × Nat))
  | seq (a b : LCode)
  | cond (c : Opd) (a b : LCode)
  | block (id : Nat) (a : LCode)
  | loop (a : LCode)
  | exit (id : Nat)
  | ret
  | rangeF (f : Opd) (params : List Nat) (assign body : LCode)
  | bad

inductive LRes where
  | tmp (s : Nat)
  | cell (s : Nat) (n : Option Nat)

structure LFunc where
  nargs : Nat
  results : List LRes
  body : LCode

/-! ### 2. Frames and memory -/

abbrev Fr := List (Nat × Value)

def fget : Fr → Nat → Value
  | [], _ => undef
  | (k, v) :: r, n => if n = k then v else fget r n

inductive Jump where
  | ret
  | exit (id : Nat)

/-- A loop over an iterator that is under way. -/
structure LRec where
  state : LoopState
  pend : Option Jump
  fr : Fr
  params : List Nat
  assign : LCode
  body : LCode

inductive AObj where
  | cells (ro : Bool) (xs : List Value)
  | map (es : List (Value × Value))
  | siter (s : ByteArray) (pos : Nat)
  | loop (r : LRec)

def AObj.ro : AObj → Bool
  | .cells ro _ => ro
  | _ => false

/-- A tree by the bits of a number. -/
inductive Tr where
  | e
  | n (l : Tr) (v : Option AObj) (r : Tr)

def Tr.get : Tr → Nat → Option AObj
  | .e, _ => none
  | .n l v r, k => if k = 0 then v else if k % 2 = 1 then l.get (k / 2) else r.get (k / 2 - 1)

def Tr.set : Nat → Tr → Nat → Option AObj → Tr
  | 0, t, _, _ => t
  | f + 1, .e, k, x => if k = 0 then .n .e x .e else if k % 2 = 1 then .n (Tr.set f .e (k / 2) x) none .e else .n .e none (Tr.set f .e (k / 2 - 1) x)
  | f + 1, .n l v r, k, x => if k = 0 then .n l x r else if k % 2 = 1 then .n (Tr.set f l (k / 2) x) v r else .n l v (Tr.set f r (k / 2 - 1) x)

structure AH where
  n : Nat
  m : Tr

def AH.get (h : AH) (b : Nat) : Option AObj := if b < h.n then h.m.get b else none
def AH.put (h : AH) (b : Nat) (o : Option AObj) : AH := { h with m := Tr.set (b + 1) h.m b o }
def AH.set (h : AH) (b : Nat) (o : AObj) : AH := h.put b (some o)
def AH.kill (h : AH) (b : Nat) : AH := h.put b none
def AH.push (h : AH) (o : AObj) : AH := { n := h.n + 1, m := Tr.set (h.n + 1) h.m h.n (some o) }

structure Mem where
  lc : List (Nat × AObj)
  h : AH

def lget : List (Nat × AObj) → Nat → Option AObj
  | [], _ => none
  | (k, v) :: r, n => if n = k then some v else lget r n

/-- A local place's address: its name, marked. -/
def loc (nm off : Nat) : Addr := ⟨nm, off, some 1⟩

def isLoc : Value → Bool
  | .pointer (some a) => a.spot.isSome
  | .slice (some a) _ _ => a.spot.isSome
  | _ => false

def Mem.obj (m : Mem) (a : Addr) : Option AObj :=
  match a.spot with
  | none => m.h.get a.block
  | some _ => lget m.lc a.block

def Mem.rd (m : Mem) (a : Addr) (n : Nat) : Option (List Value) :=
  match m.obj a with
  | some (.cells _ xs) => if a.off + n ≤ xs.length then some ((xs.drop a.off).take n) else none
  | _ => none

def setAll : List Value → Nat → List Value → List Value
  | xs, _, [] => xs
  | xs, i, v :: vs => setAll (xs.set i v) (i + 1) vs

def Mem.putObj (m : Mem) (a : Addr) (o : AObj) : Mem :=
  match a.spot with
  | none => { m with h := m.h.set a.block o }
  | some _ => { m with lc := (a.block, o) :: m.lc }

def Mem.wr (m : Mem) (a : Addr) (vs : List Value) : Option Mem :=
  match m.obj a with
  | some (.cells false xs) => if a.off + vs.length ≤ xs.length then some (m.putObj a (.cells false (setAll xs a.off vs))) else none
  | _ => none

def vcells : Value → List Value
  | .agg cs => cs.toList
  | v => [v]

/-- May it lie in a cell? -/
def cellOk : Value → Bool
  | .agg _ => false
  | .chan _ => false
  | .tuple _ => false
  | v => !isLoc v

/-- May it leave the frame? -/
def okV (v : Value) : Bool := !isLoc v

/-! ### 3. Values of operations -/

def opd (fr : Fr) : Opd → Value
  | .s n => fget fr n
  | .c v => v

def opds (fr : Fr) (xs : List Opd) : List Value := xs.map (opd fr)

def intBin (op : BinOp) (k : IntKind) (a b : Int) : Option Value :=
  match op with
  | .add => some (.int k (k.wrap (a + b)))
  | .sub => some (.int k (k.wrap (a - b)))
  | .mul => some (.int k (k.wrap (a * b)))
  | .quo => if b = 0 then none else some (.int k (k.wrap (a.tdiv b)))
  | .rem => if b = 0 then none else some (.int k (a.tmod b))
  | .and => some (.int k (k.wrap (BitVec.ofInt k.bits a &&& BitVec.ofInt k.bits b).toNat))
  | .or => some (.int k (k.wrap (BitVec.ofInt k.bits a ||| BitVec.ofInt k.bits b).toNat))
  | .xor => some (.int k (k.wrap (BitVec.ofInt k.bits a ^^^ BitVec.ofInt k.bits b).toNat))
  | .andNot => some (.int k (k.wrap (BitVec.ofInt k.bits a &&& ~~~BitVec.ofInt k.bits b).toNat))
  | .eql => some (.bool (a == b))
  | .neq => some (.bool (a != b))
  | .lss => some (.bool (decide (a < b)))
  | .leq => some (.bool (decide (a ≤ b)))
  | .gtr => some (.bool (decide (a > b)))
  | .geq => some (.bool (decide (a ≥ b)))
  | _ => none

def strBin (op : BinOp) (x y : ByteArray) : Option Value :=
  match op with
  | .add => if x.size + y.size ≤ 9223372036854775807 then some (.string (x ++ y)) else none
  | .eql => some (.bool (x.toList == y.toList))
  | .neq => some (.bool (!(x.toList == y.toList)))
  | .lss => some (.bool (Op.bytesLess x.toList y.toList))
  | .leq => some (.bool (Op.bytesLess x.toList y.toList || x.toList == y.toList))
  | .gtr => some (.bool (!(Op.bytesLess x.toList y.toList || x.toList == y.toList)))
  | .geq => some (.bool (!(Op.bytesLess x.toList y.toList)))
  | _ => none

def shiftBin (op : BinOp) (k : IntKind) (x y : Int) : Option Value :=
  if y < 0 then none else
  match op with
  | .shl => some (.int k (k.wrap (x * 2 ^ (min y.toNat k.bits))))
  | .shr => some (.int k (x.fdiv (2 ^ (min y.toNat k.bits))))
  | _ => none

/-- '==' where one side is nil, or both are bools. -/
def eqNil : EqK → Value → Value → Option Bool
  | .bool, .bool a, .bool b => some (a == b)
  | .ptr, .pointer none, .pointer b => some b.isNone
  | .ptr, .pointer (some _), .pointer none => some false
  | .sl, .slice none _ _, .slice b _ _ => some b.isNone
  | .sl, .slice (some _) _ _, .slice none _ _ => some false
  | .map, .map none, .map b => some b.isNone
  | .map, .map (some _), .map none => some false
  | .func, .func .., .nilFunc => some false
  | .func, .nilFunc, .func .. => some false
  | .func, .nilFunc, .nilFunc => some true
  | _, _, _ => none

def binA (op : BinOp) (x y : Value) : Option Value :=
  match x, y with
  | .int k a, .int k' b =>
    match op with
    | .shl => shiftBin .shl k a b
    | .shr => shiftBin .shr k a b
    | op => if k = k' then intBin op k a b else none
  | .string a, .string b => strBin op a b
  | _, _ => none

def unA (op : UnOp) (x : Value) : Option Value :=
  match op, x with
  | .not, .bool b => some (.bool (!b))
  | .neg, .int k n => some (.int k (k.wrap (0 - n)))
  | _, _ => none

def fillA : List Value → List (Nat × Nat × Value) → Option (List Value)
  | zs, [] => some zs
  | zs, (off, size, v) :: r =>
    if (vcells v).length = size ∧ off + size ≤ zs.length ∧ (vcells v).all cellOk = true then fillA (setAll zs off (vcells v)) r else none

def evParts (fr : Fr) (ps : List (Nat × Nat × Opd)) : List (Nat × Nat × Value) := ps.map fun p => (p.1, p.2.1, opd fr p.2.2)

def asNat : Value → Option Int
  | .int _ n => some n
  | _ => none

def optInt (fr : Fr) : Option Opd → Int → Option Int
  | none, d => some d
  | some o, _ => asNat (opd fr o)

def ptrOff (a : Addr) (n : Nat) : Addr := { a with off := a.off + n }

def partA (cs : List Value) (off : Nat) : Option Nat → Option Value
  | none => cs[off]?
  | some n => if off + n ≤ cs.length then some (.agg ((cs.drop off).take n).toArray) else none

def mm2 (big : Bool) : Value → Value → Option Value
  | .int k x, .int _ y => some (.int k (if big then (if y > x then y else x) else (if y < x then y else x)))
  | _, _ => none

def mmA (big : Bool) : List Value → Option Value
  | .int k n :: r => r.foldlM (mm2 big) (.int k n)
  | _ => none

/-- '==' of two aggregates of flat cells. -/
def eqCells : List FK → List Value → List Value → Option Bool
  | [], [], [] => some true
  | .int :: ks, .int k a :: xs, .int k' b :: ys => if k = k' then (if a == b then eqCells ks xs ys else some false) else none
  | .bool :: ks, .bool a :: xs, .bool b :: ys => if a == b then eqCells ks xs ys else some false
  | .string :: ks, .string a :: xs, .string b :: ys => if a == b then eqCells ks xs ys else some false
  | _, _, _ => none

def POp.ev (fr : Fr) : POp → Option Value
  | .mv x => some (opd fr x)
  | .pick c a b => match opd fr c with
    | .bool t => some (if t then opd fr a else opd fr b)
    | _ => none
  | .bin op x y => binA op (opd fr x) (opd fr y)
  | .un op x => unA op (opd fr x)
  | .conv k x => match opd fr x with
    | .int _ n => some (.int k (k.wrap n))
    | _ => none
  | .i2s x => match opd fr x with
    | .int _ n => some (.string (Utf8.encode n))
    | _ => none
  | .build zero parts => (fillA zero (evParts fr parts)).map fun cs => .agg cs.toArray
  | .nilck x => match opd fr x with
    | .pointer (some a) => some (.pointer (some a))
    | .func fn first captured => match fn with
      | .func _ => some (.func fn first captured)
      | .yield _ => some (.func fn first captured)
      | _ => none
    | _ => none
  | .slS x lo hi => match opd fr x with
    | .string s =>
      match optInt fr lo 0, optInt fr hi s.size with
      | some l, some h => if 0 ≤ l ∧ l ≤ h ∧ h ≤ s.size then some (.string (s.extract l.toNat h.toNat)) else none
      | _, _ => none
    | _ => none
  | .sl esz x lo hi mx => match opd fr x with
    | .slice (some a) n e =>
      match optInt fr lo 0, optInt fr hi n, optInt fr mx n with
      | some l, some h, some m => if 0 ≤ l ∧ l ≤ h ∧ h ≤ m ∧ m ≤ n ∧ e = esz ∧ a.spot.isNone then some (.slice (some (ptrOff a (l.toNat * esz))) (h.toNat - l.toNat) esz) else none
      | _, _, _ => none
    | .slice none _ _ =>
      match optInt fr lo 0, optInt fr hi 0, optInt fr mx 0 with
      | some l, some h, some m => if l = 0 ∧ h = 0 ∧ m = 0 then some (.slice none 0 0) else none
      | _, _, _ => none
    | _ => none
  | .faddr off x => match opd fr x with
    | .pointer (some a) => some (.pointer (some (ptrOff a off)))
    | _ => none
  | .fld off n x => match opd fr x with
    | .agg cs => partA cs.toList off n
    | _ => none
  | .iaddr esz x i => match opd fr x, opd fr i with
    | .slice (some a) n _, .int _ j => if 0 ≤ j ∧ j < n ∧ a.spot.isNone then some (.pointer (some (ptrOff a (j.toNat * esz)))) else none
    | _, _ => none
  | .iaddrA nn esz x i => match opd fr x, opd fr i with
    | .pointer (some a), .int _ j => if 0 ≤ j ∧ j < nn then some (.pointer (some (ptrOff a (j.toNat * esz)))) else none
    | _, _ => none
  | .idxS x i => match opd fr x, opd fr i with
    | .string s, .int _ j => if 0 ≤ j ∧ j.toNat < s.size then some (.int .u8 ((s[j.toNat]?).getD 0).toNat) else none
    | _, _ => none
  | .idxA nn esz n x i => match opd fr x, opd fr i with
    | .agg cs, .int _ j => if 0 ≤ j ∧ j < nn then partA cs.toList (j.toNat * esz) n else none
    | _, _ => none
  | .ext i x => match opd fr x with
    | .tuple vs => vs[i]?
    | _ => none
  | .len x => match opd fr x with
    | .slice _ n _ => some (.int .i64 n)
    | _ => none
  | .slen x => match opd fr x with
    | .string s => some (.int .i64 s.size)
    | _ => none
  | .mm big xs => mmA big (opds fr xs)
  | .mkfn fn first captured =>
    match fn with
    | .func _ => if (opds fr first).all okV && (opds fr captured).all okV then some (.func fn (opds fr first).toArray (opds fr captured).toArray) else none
    | _ => none
  | .mkif t x => if okV (opd fr x) then some (.iface t (opd fr x)) else none
  | .eqA neq ks x y => match opd fr x, opd fr y with
    | .agg xs, .agg ys => (eqCells ks xs.toList ys.toList).map fun b => .bool (if neq then !b else b)
    | _, _ => none
  | .eqk neq k x y => (eqNil k (opd fr x) (opd fr y)).map fun b => .bool (if neq then !b else b)

/-! ### 4. Reading -/

/-- Two keys of one kind. -/
def keyEq : KK → Value → Value → Option Bool
  | .one k, x, y => eqCells [k] [x] [y]
  | .agg ks, .agg xs, .agg ys => eqCells ks xs.toList ys.toList
  | _, _, _ => none

def keyFind (kk : KK) (k : Value) : List (Value × Value) → Option (Option Value)
  | [] => some none
  | (x, v) :: r => match keyEq kk k x with
    | some true => some (some v)
    | some false => keyFind kk k r
    | none => none

def keySet (kk : KK) (k v : Value) : List (Value × Value) → List (Value × Value)
  | [] => [(k, v)]
  | (x, u) :: r => match keyEq kk k x with
    | some true => (x, v) :: r
    | _ => (x, u) :: keySet kk k v r

def bytesOf : List Value → Option (List UInt8)
  | [] => some []
  | .int .u8 n :: r => (bytesOf r).map fun l => UInt8.ofNat n.toNat :: l
  | _ => none

def runesOf : List Value → Option (List Int)
  | [] => some []
  | .int .i32 n :: r => (runesOf r).map fun l => n :: l
  | _ => none

def encAll : List Int → ByteArray → ByteArray
  | [], acc => acc
  | n :: r, acc => encAll r (acc ++ Utf8.encode n)

def ROp.ev (fr : Fr) (m : Mem) : ROp → Option Value
  | .load none x => match opd fr x with
    | .pointer (some a) => match m.rd a 1 with
      | some [v] => some v
      | _ => none
    | _ => none
  | .load (some n) x => match opd fr x with
    | .pointer (some a) => (m.rd a n).map fun l => .agg l.toArray
    | _ => none
  | .b2s x => match opd fr x with
    | .slice none _ _ => some (.string ⟨#[]⟩)
    | .slice (some a) n _ => match m.rd a n with
      | some l => (bytesOf l).map fun bs => .string ⟨bs.toArray⟩
      | none => none
    | _ => none
  | .r2s x => match opd fr x with
    | .slice none _ _ => some (.string ⟨#[]⟩)
    | .slice (some a) n _ => match m.rd a n with
      | some l => (runesOf l).map fun rs => .string (encAll rs ⟨#[]⟩)
      | none => none
    | _ => none
  | .maplen x => match opd fr x with
    | .map none => some (.int .i64 0)
    | .map (some b) => match m.h.get b with
      | some (.map es) => some (.int .i64 es.length)
      | _ => none
    | _ => none
  | .lookup kk zero ok x k =>
    match (match opd fr x with
      | .map none => some []
      | .map (some b) => (match m.h.get b with
        | some (.map es) => some es
        | _ => none)
      | _ => none : Option (List (Value × Value))) with
    | some es => match keyFind kk (opd fr k) es with
      | some (some v) => some (if ok then .tuple #[v, .bool true] else v)
      | some none => some (if ok then .tuple #[zero, .bool false] else zero)
      | none => none
    | none => none

/-! ### 5. Turning memory -/

abbrev CallF := FuncId → List Value → AH → Option (Value × AH)
abbrev YieldF := Nat → List Value → AH → Option (Value × AH)

def Mem.newLoc (m : Mem) (t : Nat) (o : AObj) : Option Mem :=
  match lget m.lc (2 * t + 1) with
  | none => some { m with lc := (2 * t + 1, o) :: m.lc }
  | some _ => none

def litCells (n : Nat) (zero : List Value) : List Value := (List.replicate n zero).flatten

def rdSlice (m : Mem) (esz : Nat) : Value → Option (List Value)
  | .slice none _ _ => some []
  | .slice (some a) n _ => if n = 0 then some [] else m.rd a (n * esz)
  | .string s => some (s.data.toList.map fun b => .int .u8 b.toNat)
  | _ => none

def lenV : Value → Option Nat
  | .slice _ n _ => some n
  | .string s => some s.size
  | _ => none

/-- append(x, y...) -/
def appendA (esz bytes : Nat) (m : Mem) (x y : Value) : Option (Value × Mem) :=
  match lenV y, rdSlice m esz y with
  | some k, some ys =>
    if ys.length = k * esz then
    match x with
    | .slice none n _ =>
      if n = 0 then
        if k = 0 then some (.slice none 0 0, m)
        else if k * bytes ≤ 140737488355328 ∧ 0 < bytes ∧ 0 < esz then some (.slice (some ⟨m.h.n, 0, none⟩) k esz, { m with h := m.h.push (.cells false ys) }) else none
      else none
    | .slice (some a) n e =>
      if k = 0 ∧ a.spot.isNone then some (.slice (some a) n e, m) else
      match a.spot, m.h.get a.block with
      | none, some (.cells false xs) =>
        if a.off + n * esz = xs.length ∧ (n + k) * bytes ≤ 140737488355328 ∧ 0 < bytes ∧ 0 < esz ∧ e = esz then
          some (.slice (some ⟨m.h.n, 0, none⟩) (n + k) esz, { m with h := (m.h.kill a.block).push (.cells false (xs.drop a.off ++ ys)) })
        else none
      | _, _ => none
    | _ => none
    else none
  | _, _ => none

def EOp.ev (call : CallF) (yld : YieldF) (fr : Fr) (m : Mem) : EOp → Option (Value × Mem)
  | .newL t zero => (m.newLoc t (.cells false zero)).map fun m' => (.pointer (some (loc (2 * t + 1) 0)), m')
  | .newH zero => some (.pointer (some ⟨m.h.n, 0, none⟩), { m with h := m.h.push (.cells false zero) })
  | .boxL t n x => if (vcells (opd fr x)).length = n ∧ (vcells (opd fr x)).all cellOk = true then
      (m.newLoc t (.cells false (vcells (opd fr x)))).map fun m' => (.pointer (some (loc (2 * t + 1) 0)), m') else none
  | .boxH n x => if (vcells (opd fr x)).length = n ∧ (vcells (opd fr x)).all cellOk = true then
      some (.pointer (some ⟨m.h.n, 0, none⟩), { m with h := m.h.push (.cells false (vcells (opd fr x))) }) else none
  | .litL t n esz zero parts => match fillA (litCells n zero) (evParts fr parts) with
    | some cs => (m.newLoc t (.cells false cs)).map fun m' => (.slice (some (loc (2 * t + 1) 0)) n esz, m')
    | none => none
  | .litH n esz zero parts => match fillA (litCells n zero) (evParts fr parts) with
    | some cs => some (.slice (some ⟨m.h.n, 0, none⟩) n esz, { m with h := m.h.push (.cells false cs) })
    | none => none
  | .store n a x => match opd fr a with
    | .pointer (some p) => if (vcells (opd fr x)).length = n ∧ (vcells (opd fr x)).all cellOk = true then
        (m.wr p (vcells (opd fr x))).map fun m' => (undef, m') else none
    | _ => none
  | .s2b x => match opd fr x with
    | .string s => if s.size ≤ 9223372036854775807 then some (.slice (some ⟨m.h.n, 0, none⟩) s.size 1, { m with h := m.h.push (.cells false (s.data.toList.map fun b => .int .u8 b.toNat)) }) else none
    | _ => none
  | .s2r x => match opd fr x with
    | .string s => if s.size ≤ 70368744177664 then
        some (.slice (some ⟨m.h.n, 0, none⟩) (Conv.runesFrom s s.size 0 #[]).size 1, { m with h := m.h.push (.cells false (Conv.runesFrom s s.size 0 #[]).toList) }) else none
    | _ => none
  | .rngS t x => match opd fr x with
    | .string s => (m.newLoc t (.siter s 0)).map fun m' => (.pointer (some (loc (2 * t + 1) 0)), m')
    | _ => none
  | .nxtS x => match opd fr x with
    | .pointer (some a) => if a.off = 0 ∧ a.spot.isSome then match m.obj a with
      | some (.siter s pos) =>
        if pos < s.size then
          some (.tuple #[.bool true, .int .i64 pos, .int .i32 (Utf8.decode s pos).1], m.putObj a (.siter s (pos + (Utf8.decode s pos).2)))
        else some (.tuple #[.bool false], m)
      | _ => none else none
    | _ => none
  | .call f args => if (opds fr args).all okV = true then (call f (opds fr args) m.h).map fun r => (r.1, { m with h := r.2 }) else none
  | .callv f args => if (opds fr args).all okV = true then
      match opd fr f with
      | .func (.func g) first captured => (call g (first.toList ++ opds fr args ++ captured.toList) m.h).map fun r => (r.1, { m with h := r.2 })
      | .func (.yield l) first _ => if first.size = 0 then (yld l (opds fr args) m.h).map fun r => (r.1, { m with h := r.2 }) else none
      | _ => none
    else none
  | .append esz bytes x y => appendA esz bytes m (opd fr x) (opd fr y)
  | .copy esz x y => match opd fr x, lenV (opd fr y), rdSlice m esz (opd fr y) with
    | .slice a n _, some k, some ys =>
      if ys.length = k * esz then
        if min k n = 0 then some (.int .i64 0, m) else
        match a with
        | some p => (m.wr p (ys.take (min k n * esz))).map fun m' => (.int .i64 (min k n : Nat), m')
        | none => none
      else none
    | _, _, _ => none
  | .mks esz bytes zero l c => match opd fr l, opd fr c with
    | .int .i64 i, .int .i64 j =>
      if 0 ≤ i ∧ i ≤ j ∧ j * bytes ≤ 281474976710656 ∧ j ≤ 9223372036854775807 ∧ zero.length = esz ∧ 0 < esz then
        some (.slice (some ⟨m.h.n, 0, none⟩) i.toNat esz, { m with h := m.h.push (.cells false (litCells i.toNat zero)) }) else none
    | _, _ => none
  | .mkmap => some (.map (some m.h.n), { m with h := m.h.push (.map []) })
  | .mapup kk x k v => match opd fr x with
    | .map (some b) => match m.h.get b with
      | some (.map es) =>
        match keyFind kk (opd fr k) es with
        | some _ => if okV (opd fr k) && okV (opd fr v) then some (undef, { m with h := m.h.set b (.map (keySet kk (opd fr k) (opd fr v) es)) }) else none
        | none => none
      | _ => none
    | _ => none

/-! ### 6. Code -/

def LInstr.ev (call : CallF) (yld : YieldF) (i : LInstr) (fr : Fr) (m : Mem) : Option (Value × Mem) :=
  match i.op with
  | .p o => (o.ev fr).map fun v => (v, m)
  | .r o => (o.ev fr m).map fun v => (v, m)
  | .e o => o.ev call yld fr m

/-- What a slot holds whose operation was passed over. -/
def skV : Value := .chan none

def wantedA (fr : Fr) : Option (Nat × Bool) → Option Bool
  | none => some true
  | some (g, b) => match fget fr g with
    | .bool t => some (t == b)
    | .chan none => some false
    | _ => none

def LInstr.step (call : CallF) (yld : YieldF) (i : LInstr) (fr : Fr) (m : Mem) : Option (Value × Mem) :=
  match wantedA fr i.guard with
  | some true => i.ev call yld fr m
  | some false => some (skV, m)
  | none => none

def pushD (fr : Fr) (d : Option Nat) (v : Value) : Fr :=
  match d with
  | some s => (s, v) :: fr
  | none => fr

/-- The operations one by one; the memories that were met, the newest first. -/
def runOps (call : CallF) (yld : YieldF) : List LInstr → Fr → Mem → Option (Fr × Mem)
  | [], fr, m => some (fr, m)
  | i :: r, fr, m => match i.step call yld fr m with
    | some (v, m') => runOps call yld r (pushD fr i.dst v) m'
    | none => none

/-- What a slot holds behind a region: local places take their settled name; no other slot may point to one. -/
def settle1 (s : Nat) (v : Value) : Option Value :=
  if isLoc v then
    match v with
    | .pointer (some a) => if (a.block = 2 * s + 1 ∨ a.block = 2 * s) ∧ a.off = 0 then some (.pointer (some (loc (2 * s) 0))) else none
    | _ => none
  else some v

def keepFr (fr : Fr) : List Nat → Option Fr
  | [] => some []
  | s :: r => match settle1 s (fget fr s), keepFr fr r with
    | some v, some l => some ((s, v) :: l)
    | _, _ => none

/-- The local places that live on: those of kept slots. -/
def keepLc (fr : Fr) (lc : List (Nat × AObj)) : List Nat → List (Nat × AObj)
  | [] => []
  | s :: r => match fget fr s with
    | .pointer (some a) => match a.spot, lget lc a.block with
      | some _, some o => (2 * s, o) :: keepLc fr lc r
      | _, _ => keepLc fr lc r
    | _ => keepLc fr lc r

/-- The frames and memories ahead of each operation. -/
def trace (call : CallF) (yld : YieldF) : List LInstr → Fr → Mem → List (Fr × Mem)
  | [], fr, m => [(fr, m)]
  | i :: r, fr, m => (fr, m) :: match i.step call yld fr m with
    | some (v, m') => trace call yld r (pushD fr i.dst v) m'
    | none => []

def vsame0 : Value → Value → Bool
  | .int k a, .int k' b => decide (k = k') && a == b
  | .bool a, .bool b => a == b
  | .string a, .string b => a == b
  | .pointer a, .pointer b => decide (a = b)
  | .slice a n c, .slice a' n' c' => decide (a = a') && n == n' && c == c'
  | .map a, .map b => decide (a = b)
  | .nilFunc, .nilFunc => true
  | .nilIface, .nilIface => true
  | _, _ => false

def vsameL : List Value → List Value → Bool
  | [], [] => true
  | x :: xs, y :: ys => vsame0 x y && vsameL xs ys
  | _, _ => false

/-- One value: what is told of scalars, functions and aggregates of scalars. -/
def vsame : Value → Value → Bool
  | .agg xs, .agg ys => vsameL xs.toList ys.toList
  | .func f a b, .func f' a' b' => decide (f = f') && vsameL a.toList a'.toList && vsameL b.toList b'.toList
  | x, y => vsame0 x y

/-- A read that may run at another place than in the text's order: the same is read there. -/
def chk1 (ops : List LInstr) (tr : List (Fr × Mem)) (p : Nat × Nat) : Bool :=
  match ops[p.1]?, tr[p.1]?, tr[p.2]? with
  | some i, some (fr, m), some (_, m') =>
    match wantedA fr i.guard, i.op with
    | some false, _ => true
    | some true, .r o => match o.ev fr m, o.ev fr m' with
      | some u, some v => vsame u v
      | _, _ => false
    | _, _ => false
  | _, _, _ => false

/-- No range over a function within. -/
def LCode.noR : LCode → Bool
  | .seq a b => a.noR && b.noR
  | .cond _ a b => a.noR && b.noR
  | .block _ a => a.noR
  | .loop a => a.noR
  | .rangeF .. => false
  | _ => true

inductive Ex where
  | norm
  | exit (id : Nat)
  | ret

abbrev CodeF := Fr → Mem → Option (Ex × Fr × Mem)

def loopN : Nat → CodeF → CodeF
  | 0, _ => fun _ _ => none
  | k + 1, f => fun fr m => match f fr m with
    | some (.norm, fr', m') => loopN k f fr' m'
    | r => r

def okFr (fr : Fr) : Fr := fr.map fun p => if okV p.2 then p else (p.1, undef)

def runRegion (call : CallF) (yld : YieldF) (ops : List LInstr) (keep : List Nat) (chk : List (Nat × Nat)) : CodeF := fun fr m =>
  match runOps call yld ops fr m with
  | some (fr', m') =>
    if chk.all (chk1 ops (trace call yld ops fr m)) = true then
      match keepFr fr' keep with
      | some fr'' => some (.norm, fr'', { m' with lc := keepLc fr' m'.lc keep })
      | none => none
    else none
  | none => none

def runRange (call : CallF) (f : Value) (params : List Nat) (assign body : LCode) : CodeF := fun fr m =>
  match f with
  | .func (.func g) first captured =>
    match call g (first.toList ++ [.func (.yield m.h.n) #[] #[]] ++ captured.toList)
        (m.h.push (.loop { state := .ready, pend := none, fr := okFr fr, params, assign, body })) with
    | some (_, h) => match h.get m.h.n with
      | some (.loop r) =>
        match r.state with
        | .busy => none
        | _ => match r.pend with
          | none => some (.norm, fr, { m with h := h.kill m.h.n })
          | some .ret => some (.ret, fr, { m with h := h.kill m.h.n })
          | some (.exit id) => some (.exit id, fr, { m with h := h.kill m.h.n })
      | _ => none
    | none => none
  | _ => none

def execC (call : CallF) (yld : YieldF) (k : Nat) : LCode → CodeF
  | .skip => fun fr m => some (.norm, fr, m)
  | .region ops keep chk => runRegion call yld ops keep chk
  | .seq a b => fun fr m => match execC call yld k a fr m with
    | some (.norm, fr', m') => execC call yld k b fr' m'
    | r => r
  | .cond c a b => fun fr m => match opd fr c with
    | .bool t => if t = true then execC call yld k a fr m else execC call yld k b fr m
    | _ => none
  | .block id a => fun fr m => match execC call yld k a fr m with
    | some (.exit i, fr', m') => if i = id then some (.norm, fr', m') else some (.exit i, fr', m')
    | r => r
  | .loop a => loopN k (execC call yld k a)
  | .exit id => fun fr m => some (.exit id, fr, m)
  | .ret => fun fr m => some (.ret, fr, m)
  | .rangeF f ps as body => fun fr m => runRange call (opd fr f) ps as body fr m
  | .bad => fun _ _ => none

def argFr : Nat → List Value → Fr
  | _, [] => []
  | i, v :: r => (i, v) :: argFr (i + 1) r

def resA (fr : Fr) (m : Mem) : LRes → Option Value
  | .tmp s => if okV (fget fr s) then some (fget fr s) else none
  | .cell s n => (ROp.load n (.s s)).ev fr m

def resAll (fr : Fr) (m : Mem) : List LRes → Option (List Value)
  | [] => some []
  | r :: rs => match resA fr m r, resAll fr m rs with
    | some v, some vs => some (v :: vs)
    | _, _ => none

def retV (fr : Fr) (m : Mem) (rs : List LRes) : Option Value :=
  match resAll fr m rs with
  | some [v] => some v
  | some vs => some (.tuple vs.toArray)
  | none => none

def callBody (call : CallF) (yld : YieldF) (k : Nat) (lf : LFunc) : List Value → AH → Option (Value × AH) := fun args h =>
  if args.length = lf.nargs then
    match execC call yld k lf.body (argFr 0 args) { lc := [], h } with
    | some (.exit _, _, _) => none
    | some (_, fr, m) => (retV fr m lf.results).map fun v => (v, m.h)
    | none => none
  else none

def endRec (r : LRec) : Ex → Value × LRec
  | .norm => (.bool true, { r with state := .ready, pend := none })
  | .ret => (.bool false, { r with state := .done, pend := some .ret })
  | .exit id => (.bool false, { r with state := .done, pend := some (.exit id) })

def yieldBody (call : CallF) (yld : YieldF) (k : Nat) : YieldF := fun l args h =>
  match h.get l with
  | some (.loop r) =>
    if args.length = r.params.length then
      match execC call yld k r.assign ((r.params.zip args).reverse ++ r.fr) { lc := [], h } with
      | some (.norm, fr1, m1) =>
        match m1.h.get l with
        | some (.loop r1) =>
          match r1.state with
          | .ready =>
            match execC call yld k r.body fr1 { m1 with h := m1.h.set l (.loop { r1 with state := .busy }) } with
            | some (ex, _, m2) =>
              match m2.h.get l with
              | some (.loop r2) => some ((endRec r2 ex).1, m2.h.set l (.loop (endRec r2 ex).2))
              | _ => none
            | none => none
          | _ => none
        | _ => none
      | _ => none
    else none
  | _ => none

/-- The program: each function's code; functions that are told by a contract of their own. -/
structure Prg where
  fn : FuncId → Option LFunc
  ext : FuncId → Option (List Value → AH → Option (Value × AH))

def runN (p : Prg) : Nat → CallF × YieldF
  | 0 => (fun _ _ _ => none, fun _ _ _ => none)
  | k + 1 => (fun f args h => match p.ext f with
      | some g => g args h
      | none => match p.fn f with
        | some lf => callBody (runN p k).1 (runN p k).2 k lf args h
        | none => none,
    yieldBody (runN p k).1 (runN p k).2 k)

end Go.Proofs.Ytanpdopjgepbkaa.AM
