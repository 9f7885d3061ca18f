/-
  From the model's code to the abstract machine's code: a computed translation. Nothing is proved of it here.
-/
import Derived.Test.YtanpdopjgepbkaaAmDefs
namespace Go.Proofs.Ytanpdopjgepbkaa.AM
open Go

def flat0 : Value → Bool
  | .bool _ => true
  | .int .. => true
  | .string _ => true
  | .pointer none => true
  | .slice none 0 0 => true
  | .map none => true
  | .nilFunc => true
  | .nilIface => true
  | .func (.func _) a b => a.size == 0 && b.size == 0
  | _ => false

def flatV : Value → Bool
  | .agg cs => cs.toList.all flat0
  | v => flat0 v

structure Hints where
  keep : List (Nat × List Nat)
  loc : List Nat

def liftOpd (P : Program) : Operand → Option Opd
  | .tmp t => some (.s t)
  | .const v => if flatV v then some (.c v) else none
  | .global g => if g < P.globals.size then some (.c (.pointer (some ⟨g, 0, none⟩))) else none
  | .func f => some (.c (.func (.func f) #[] #[]))

def liftOpds (P : Program) (xs : Array Operand) : Option (List Opd) := xs.toList.mapM (liftOpd P)

def liftO (P : Program) : Option Operand → Option (Option Opd)
  | none => some none
  | some x => (liftOpd P x).map some

def szOf (P : Program) (t : TypeId) : Option Nat := (P.info? t).map (·.size)
def zeroOf (P : Program) (t : TypeId) : Option (List Value) :=
  match (P.info? t).bind (·.zero) with
  | some z => if (vcells z).all flat0 then some (vcells z) else none
  | none => none

/-- Is it held as several cells? How many? -/
def aggN (P : Program) (t : TypeId) : Option (Option Nat) :=
  match P.underlying t, szOf P t with
  | some (.struct _), some n => some (some n)
  | some (.array _ _), some n => some (some n)
  | some _, some _ => some none
  | _, _ => none

def liftParts (P : Program) (place : Nat → Option (Nat × Nat)) : List (Nat × Operand) → Option (List (Nat × Nat × Opd))
  | [] => some []
  | (i, x) :: r => match place i, liftOpd P x, liftParts P place r with
    | some (off, size), some y, some l => some ((off, size, y) :: l)
    | _, _, _ => none

def fkOf (P : Program) (t : TypeId) : Option FK :=
  match P.underlying t with
  | some (.int _) => some .int
  | some .bool => some .bool
  | some .string => some .string
  | _ => none

/-- A type whose values are compared cell by cell. -/
def flatFields (P : Program) : List Field → Nat → Option (List FK)
  | [], _ => some []
  | f :: r, i => if f.name ≠ "_" ∧ f.offset = i then
      match fkOf P f.type, flatFields P r (i + 1) with
      | some k, some l => some (k :: l)
      | _, _ => none
    else none

def isP (o : POp) : Option LOp := some (.p o)

def liftCall (P : Program) (c : Call) : Option LOp :=
  match c.callee with
  | .value (.func f) => (liftOpds P c.args).map fun xs => .e (.call f xs)
  | .value x => match liftOpd P x, liftOpds P c.args with
    | some y, some xs => some (.e (.callv y xs))
    | _, _ => none
  | .invoke _ _ => none
  | .builtin b =>
    match b, liftOpds P c.args, c.argTypes.toList with
    | .len, some [x], [t] => match P.underlying t with
      | some .string => some (.p (.slen x))
      | some (.slice _) => some (.p (.len x))
      | _ => none
    | .min, some xs, _ => some (.p (.mm false xs))
    | .max, some xs, _ => some (.p (.mm true xs))
    | .append, some [x, y], [t, u] => match P.underlying t, P.underlying u with
      | some (.slice e), some d => match P.info? e, d with
        | some i, .slice _ => if (i.zero.map fun z => z.cells.size) = some i.size then some (.e (.append i.size i.bytes x y)) else none
        | some i, .string => if (i.zero.map fun z => z.cells.size) = some i.size then some (.e (.append i.size i.bytes x y)) else none
        | _, _ => none
      | _, _ => none
    | .copy, some [x, y], t :: _ => match P.underlying t with
      | some (.slice e) => (szOf P e).map fun n => .e (.copy n x y)
      | _ => none
    | _, _, _ => none

def liftOp (P : Program) (lo : List Nat) (o : Oper) : Option LOp :=
  match o.op with
  | .move x => (liftOpd P x).map fun x => .p (.mv x)
  | .assign x => (liftOpd P x).map fun x => .p (.mv x)
  | .pick c a b => match liftOpd P c, liftOpd P a, liftOpd P b with
    | some c, some a, some b => some (.p (.pick c a b))
    | _, _, _ => none
  | .alloc t => match zeroOf P t, o.dst with
    | some z, some d => if lo.contains d then some (.e (.newL d z)) else some (.e (.newH z))
    | _, _ => none
  | .box t x => match szOf P t, liftOpd P x, o.dst with
    | some n, some x, some d => if lo.contains d then some (.e (.boxL d n x)) else some (.e (.boxH n x))
    | _, _, _ => none
  | .build t parts => match zeroOf P t, P.underlying t with
    | some z, some (.struct fs) => match fs.toList.mapM (fun f => (P.info? f.type).map fun i => (f.offset, i.size)) with
      | some places => (liftParts P (fun i => places[i]?) parts.toList).map fun l => .p (.build z l)
      | none => none
    | some z, some (.array _ e) => match szOf P e with
      | some n => (liftParts P (fun i => some (i * n, n)) parts.toList).map fun l => .p (.build z l)
      | none => none
    | _, _ => none
  | .buildSlice t len parts => match P.underlying t, o.dst with
    | some (.slice e), some d => match szOf P e, zeroOf P e with
      | some n, some z => if z.length = n ∧ 0 < len * n ∧ len * n ≤ 16777216 then
          (liftParts P (fun i => some (i * n, n)) parts.toList).map fun l => if lo.contains d then .e (.litL d len n z l) else .e (.litH len n z l) else none
      | _, _ => none
    | _, _ => none
  | .load t a => match aggN P t, liftOpd P a with
    | some n, some a => some (.r (.load n a))
    | _, _ => none
  | .store t a x => match szOf P t, liftOpd P a, liftOpd P x with
    | some n, some a, some x => if o.dst.isNone then some (.e (.store n a x)) else none
    | _, _, _ => none
  | .nilCheck x => (liftOpd P x).map fun x => .p (.nilck x)
  | .binOp op t x y _ => match liftOpd P x, liftOpd P y with
    | some x, some y => match P.underlying t with
      | some (.struct fs) =>
        match flatFields P fs.toList 0 with
        | some ks =>
          if P.eqGuardType P.depth t = false ∧ P.stoodInHeld t = false then
            match op with
            | .eql => some (.p (.eqA false ks x y))
            | .neq => some (.p (.eqA true ks x y))
            | _ => none
          else none
        | none => none
      | some (.int _) => some (.p (.bin op x y))
      | some .string => some (.p (.bin op x y))
      | some d => match op, (match d with
          | .bool => some EqK.bool
          | .pointer _ => some EqK.ptr
          | .slice _ => some EqK.sl
          | .map _ _ => some EqK.map
          | .func _ _ _ => some EqK.func
          | _ => none : Option EqK) with
        | .eql, some k => some (.p (.eqk false k x y))
        | .neq, some k => some (.p (.eqk true k x y))
        | _, _ => none
      | none => none
    | _, _ => none
  | .unOp op _ x => (liftOpd P x).map fun x => .p (.un op x)
  | .convert src dst x => match P.underlying src, P.underlying dst, liftOpd P x with
    | some (.int _), some (.int k), some x => some (.p (.conv k x))
    | some (.int _), some .string, some x => some (.p (.i2s x))
    | some .string, some .string, some x => some (.p (.slS x none none))
    | some .string, some (.slice e), some x => match P.underlying e, (P.info? e).isSome with
      | some (.int .u8), true => some (.e (.s2b x))
      | some (.int .i32), true => some (.e (.s2r x))
      | _, _ => none
    | some (.slice e), some .string, some x => match P.underlying e with
      | some (.int .u8) => some (.r (.b2s x))
      | some (.int .i32) => some (.r (.r2s x))
      | _ => none
    | _, _, _ => none
  | .makeInterface t x => match P.underlying t, liftOpd P x with
    | some (.interface _), _ => none
    | some _, some x => some (.p (.mkif t x))
    | _, _ => none
  | .makeFunc fn first captured => match liftOpds P first, liftOpds P captured with
    | some a, some b => some (.p (.mkfn fn a b))
    | _, _ => none
  | .makeSlice t l c => match P.underlying t with
    | some (.slice e) => match P.info? e, zeroOf P e, liftOpd P l, liftOpd P c with
      | some i, some z, some l, some c => some (.e (.mks i.size i.bytes z l c))
      | _, _, _, _ => none
    | _ => none
  | .slice t x lo hi mx => match P.underlying t, liftOpd P x, liftO P lo, liftO P hi, liftO P mx with
    | some .string, some x, some lo, some hi, some none => some (.p (.slS x lo hi))
    | some (.slice e), some x, some lo, some hi, some mx => match mx, hi with
      | some _, none => none
      | _, _ => (szOf P e).map fun n => .p (.sl n x lo hi mx)
    | _, _, _, _, _ => none
  | .fieldAddr t x i => match P.underlying t, liftOpd P x with
    | some (.struct fs), some x => match fs[i]? with
      | some f => match szOf P f.type with
        | some n => if n = 0 then none else some (.p (.faddr f.offset x))
        | none => none
      | none => none
    | _, _ => none
  | .field t x i => match P.underlying t, liftOpd P x with
    | some (.struct fs), some x => match fs[i]? with
      | some f => (aggN P f.type).map fun n => .p (.fld f.offset n x)
      | none => none
    | _, _ => none
  | .indexAddr t x i => match P.underlying t, liftOpd P x, liftOpd P i with
    | some (.slice e), some x, some i => (szOf P e).map fun n => .p (.iaddr n x i)
    | some (.array len e), some x, some i => (szOf P e).map fun n => .p (.iaddrA len n x i)
    | _, _, _ => none
  | .index t x i => match P.underlying t, liftOpd P x, liftOpd P i with
    | some .string, some x, some i => some (.p (.idxS x i))
    | some (.array len e), some x, some i => match szOf P e, aggN P e with
      | some n, some a => some (.p (.idxA len n a x i))
      | _, _ => none
    | _, _, _ => none
  | .range t x => match P.underlying t, liftOpd P x, o.dst with
    | some .string, some x, some d => if lo.contains d then some (.e (.rngS d x)) else none
    | _, _, _ => none
  | .next x true => (liftOpd P x).map fun x => .e (.nxtS x)
  | .extract x i => (liftOpd P x).map fun x => .p (.ext i x)
  | .call c => liftCall P c
  | _ => none

def liftGuard (ops : Array Oper) : Option (Nat × Bool) → Option (Option (Nat × Bool))
  | none => some none
  | some (j, b) => match (ops[j]?).bind (·.dst) with
    | some s => some (some (s, b))
    | none => none

def liftI (P : Program) (nt : Nat) (lo : List Nat) (ops : Array Oper) (o : Oper) : Option LInstr :=
  match liftOp P lo o, liftGuard ops o.guard with
  | some op, some g => if o.dst.all (· < nt) then some { dst := o.dst, op, guard := g } else none
  | _, _ => none

def liftIs (P : Program) (nt : Nat) (lo : List Nat) (ops : Array Oper) : List Oper → Option (List LInstr)
  | [] => some []
  | o :: r => match liftI P nt lo ops o, liftIs P nt lo ops r with
    | some i, some l => some (i :: l)
    | _, _ => none

/-! ### Orders of a region -/

def opdSlots : Opd → List Nat
  | .s n => [n]
  | .c _ => []

def opdsSlots (xs : List Opd) : List Nat := xs.flatMap opdSlots
def optSlots : Option Opd → List Nat
  | none => []
  | some x => opdSlots x
def partSlots (ps : List (Nat × Nat × Opd)) : List Nat := ps.flatMap fun p => opdSlots p.2.2

def POp.slots : POp → List Nat
  | .mv x => opdSlots x
  | .pick c a b => opdSlots c ++ opdSlots a ++ opdSlots b
  | .bin _ x y => opdSlots x ++ opdSlots y
  | .un _ x => opdSlots x
  | .conv _ x => opdSlots x
  | .i2s x => opdSlots x
  | .build _ ps => partSlots ps
  | .nilck x => opdSlots x
  | .slS x lo hi => opdSlots x ++ optSlots lo ++ optSlots hi
  | .sl _ x lo hi mx => opdSlots x ++ optSlots lo ++ optSlots hi ++ optSlots mx
  | .faddr _ x => opdSlots x
  | .fld _ _ x => opdSlots x
  | .iaddr _ x i => opdSlots x ++ opdSlots i
  | .iaddrA _ _ x i => opdSlots x ++ opdSlots i
  | .idxS x i => opdSlots x ++ opdSlots i
  | .idxA _ _ _ x i => opdSlots x ++ opdSlots i
  | .ext _ x => opdSlots x
  | .len x => opdSlots x
  | .slen x => opdSlots x
  | .mm _ xs => opdsSlots xs
  | .mkfn _ a b => opdsSlots a ++ opdsSlots b
  | .mkif _ x => opdSlots x
  | .eqA _ _ x y => opdSlots x ++ opdSlots y
  | .eqk _ _ x y => opdSlots x ++ opdSlots y

def ROp.slots : ROp → List Nat
  | .load _ x => opdSlots x
  | .b2s x => opdSlots x
  | .r2s x => opdSlots x
  | .maplen x => opdSlots x
  | .lookup _ _ _ x k => opdSlots x ++ opdSlots k

def EOp.slots : EOp → List Nat
  | .newL _ _ => []
  | .newH _ => []
  | .boxL _ _ x => opdSlots x
  | .boxH _ x => opdSlots x
  | .litL _ _ _ _ ps => partSlots ps
  | .litH _ _ _ ps => partSlots ps
  | .store _ a x => opdSlots a ++ opdSlots x
  | .s2b x => opdSlots x
  | .s2r x => opdSlots x
  | .rngS _ x => opdSlots x
  | .nxtS x => opdSlots x
  | .call _ xs => opdsSlots xs
  | .callv f xs => opdSlots f ++ opdsSlots xs
  | .append _ _ x y => opdSlots x ++ opdSlots y
  | .copy _ x y => opdSlots x ++ opdSlots y
  | .mks _ _ _ l c => opdSlots l ++ opdSlots c
  | .mkmap => []
  | .mapup _ m k x => opdSlots m ++ opdSlots k ++ opdSlots x

def LInstr.slots (i : LInstr) : List Nat :=
  (match i.op with
    | .p o => o.slots
    | .r o => o.slots
    | .e o => o.slots) ++ (match i.guard with
    | some (g, _) => [g]
    | none => [])

def LInstr.isE (i : LInstr) : Bool :=
  match i.op with
  | .e _ => true
  | _ => false

def LInstr.isR (i : LInstr) : Bool :=
  match i.op with
  | .r _ => true
  | _ => false

/-- Which operations surely come ahead: a number whose bits are their places. -/
def edgeMask (acc : List Nat) (o : Oper) : Nat :=
  o.after.toList.foldl (fun s e => if Region.binds .any e then s ||| 2 ^ e.on ||| acc.getD e.on 0 else s) 0

def masks : List Nat → List Oper → List Nat
  | acc, [] => acc
  | acc, o :: r => masks (acc ++ [edgeMask acc o]) r

def backEdges : Nat → List Oper → Bool
  | _, [] => true
  | i, o :: r => o.after.all (fun e => !Region.binds .any e || decide (e.on < i)) && backEdges (i + 1) r

def clash (x y : LInstr) : Bool :=
  (match x.dst with
    | some d => y.slots.contains d || y.dst == some d
    | none => false) ||
  (match y.dst with
    | some d => x.slots.contains d
    | none => false)

def pairsOk (ms : List Nat) (ls : List LInstr) : Bool :=
  (List.range ls.length).all fun j => (List.range j).all fun i =>
    match ls[i]?, ls[j]? with
    | some x, some y => !(clash x y || (x.isE && y.isE)) || (ms.getD j 0).testBit i
    | _, _ => true

/-- The places of the operations that turn memory, rising. -/
def effs (ls : List LInstr) : List Nat := (List.range ls.length).filter fun i => match ls[i]? with
  | some x => x.isE
  | none => false

/-- A reading operation and a place whose memory it may meet in place of its own. -/
def chkOf (ms : List Nat) (ls : List LInstr) : List (Nat × Nat) :=
  (List.range ls.length).flatMap fun i => match ls[i]? with
    | some x => if x.isR then
        (0 :: (effs ls).map (· + 1)).filterMap fun j =>
          -- the memory behind the operation j - 1, or the first one
          if (j = 0 ∨ !(ms.getD (j - 1) 0).testBit i) ∧ ((effs ls).all fun e => decide (e < j) || !(ms.getD i 0).testBit e) ∧
             ¬ ((effs ls).all fun e => decide (e < j) == decide (e < i)) then some (i, j) else none
      else []
    | none => []

def liftRegion (P : Program) (nt : Nat) (hs : Hints) (id : Nat) (ops : Array Oper) (draw : Bool) : Option LCode :=
  match liftIs P nt hs.loc ops ops.toList, hs.keep.lookup id with
  | some ls, some keep =>
    if draw then
      if backEdges 0 ops.toList && pairsOk (masks [] ops.toList) ls then some (.region ls keep (chkOf (masks [] ops.toList) ls)) else none
    else some (.region ls keep [])
  | _, _ => none

/-- What is not taken is 'bad': a run that comes to it has no end. -/
def liftC (P : Program) (nt : Nat) (hs : Hints) : Code → Option LCode
  | .skip => some .skip
  | .label _ => some .skip
  | .region id ops draw => match liftRegion P nt hs id ops draw with
    | some c => some c
    | none => some .bad
  | .seq a b => match liftC P nt hs a, liftC P nt hs b with
    | some a, some b => some (.seq a b)
    | _, _ => none
  | .cond c a b => match liftOpd P c, liftC P nt hs a, liftC P nt hs b with
    | some c, some a, some b => some (.cond c a b)
    | _, _, _ => some .bad
  | .block id a => (liftC P nt hs a).map (.block id)
  | .scope a => liftC P nt hs a
  | .loop a => (liftC P nt hs a).map .loop
  | .exit id => some (.exit id)
  | .ret => some .ret
  | .rangeFunc f ps as body => match liftOpd P f, liftC P nt hs as, liftC P nt hs body with
    | some f, some as, some body => if ps.all (· < nt) && as.noR && body.noR then some (.rangeF f ps.toList as body) else some .bad
    | _, _, _ => some .bad
  | _ => some .bad

def liftRes (P : Program) : ResultVar → Option LRes
  | .tmp t => some (.tmp t)
  | .cell a t => (aggN P t).map fun n => .cell a n

def liftF (P : Program) (hs : Hints) (fn : Func) : Option LFunc :=
  match fn.body with
  | some c => match liftC P fn.ntmps hs c, fn.results.toList.mapM (liftRes P) with
    | some b, some rs => if fn.name = "runtime.NumGoroutine" then none else some { nargs := fn.params.size + fn.nfree, results := rs, body := b }
    | _, _ => none
  | none => none

end Go.Proofs.Ytanpdopjgepbkaa.AM
