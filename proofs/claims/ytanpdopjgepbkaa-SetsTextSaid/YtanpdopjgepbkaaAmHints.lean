/-
  Hints for the translation: which slots live on behind a region; which slots hold places that never leave their frame. For printing alone: nothing rests on it.
-/
import Derived.Test.YtanpdopjgepbkaaAmLift
namespace Go.Proofs.Ytanpdopjgepbkaa.AM
open Go

def osl : Operand → List Nat
  | .tmp t => [t]
  | _ => []

def uni (a b : List Nat) : List Nat := b.foldl (fun s x => if s.contains x then s else s ++ [x]) a
def dif (a b : List Nat) : List Nat := a.filter fun x => !b.contains x
def useOf (o : Oper) (ops : Array Oper) : List Nat :=
  o.op.operands.toList.flatMap osl ++ (match o.guard with
    | some (j, _) => match (ops[j]?).bind (·.dst) with
      | some s => [s]
      | none => []
    | none => [])

/-- live ahead of a region. A guarded operation does write. -/
def liveOps (ops : Array Oper) : List Oper → List Nat → List Nat
  | [], out => out
  | o :: r, out => uni (useOf o ops) (dif (liveOps ops r out) o.dst.toList)

structure LiveR where
  inn : List Nat
  keeps : List (Nat × List Nat)

def liveC (res : List Nat) (env : List (Nat × List Nat)) : Code → List Nat → LiveR
  | .skip, out => ⟨out, []⟩
  | .region id ops _, out => ⟨liveOps ops ops.toList out, [(id, out)]⟩
  | .seq a b, out =>
    let rb := liveC res env b out
    let ra := liveC res env a rb.inn
    ⟨ra.inn, ra.keeps ++ rb.keeps⟩
  | .cond c a b, out =>
    let ra := liveC res env a out
    let rb := liveC res env b out
    ⟨uni (uni ra.inn rb.inn) (osl c), ra.keeps ++ rb.keeps⟩
  | .block id a, out => liveC res ((id, out) :: env) a out
  | .loop a, _ =>
    let l1 := (liveC res env a []).inn
    let l2 := uni l1 (liveC res env a l1).inn
    let l3 := uni l2 (liveC res env a l2).inn
    let r := liveC res env a l3
    ⟨uni l3 r.inn, r.keeps⟩
  | .exit id, _ => ⟨(env.lookup id).getD [], []⟩
  | .ret, _ => ⟨res, []⟩
  | .rangeFunc f ps as body, out =>
    let rb := liveC [] [] body []
    let ra := liveC [] [] as rb.inn
    let jumps := env.foldl (fun s p => uni s p.2) res
    ⟨uni (uni (uni out jumps) (dif ra.inn ps.toList)) (osl f), ra.keeps ++ rb.keeps⟩
  | _, out => ⟨out, []⟩

/-- All operations, each with the path of loops over iterators in which it stands. -/
def allOps (path : List Nat) : Code → List (List Nat × Oper)
  | .region _ ops _ => ops.toList.map fun o => (path, o)
  | .seq a b => allOps path a ++ allOps path b
  | .cond _ a b => allOps path a ++ allOps path b
  | .block _ a => allOps path a
  | .loop a => allOps path a
  | .scope a => allOps path a
  | .rangeFunc f ps as body => [(path, { dst := none, op := .move f, type := 0, pos := "", after := #[], guard := none })] ++ allOps (ps.toList ++ [99999] ++ path) as ++ allOps (ps.toList ++ [99999] ++ path) body
  | _ => []

def condSlots : Code → List Nat
  | .cond c a b => osl c ++ condSlots a ++ condSlots b
  | .seq a b => condSlots a ++ condSlots b
  | .block _ a => condSlots a
  | .loop a => condSlots a
  | .rangeFunc _ _ as body => condSlots as ++ condSlots body
  | _ => []

/-- Is an address in this slot used as a place alone, in the same frame? (fuel: how deep addresses are derived) -/
def addrOnly (P : Program) (ops : List (List Nat × Oper)) (path : List Nat) : Nat → Nat → Bool
  | 0, _ => false
  | k + 1, d => ops.all fun (p, o) =>
    let used := (o.op.operands.toList.flatMap osl).contains d
    !used || (p == path && (match o.op with
      | .load _ a => osl a == [d]
      | .store _ a x => osl a == [d] && !(osl x).contains d
      | .fieldAddr _ a _ => osl a == [d] && (match o.dst with
        | some e => addrOnly P ops path k e
        | none => false)
      | .indexAddr t a i => osl a == [d] && !(osl i).contains d && (match P.underlying t with
        | some (.array _ _) => true
        | _ => false) && (match o.dst with
        | some e => addrOnly P ops path k e
        | none => false)
      | _ => false))

def litOnly (ops : List (List Nat × Oper)) (path : List Nat) (d : Nat) : Bool :=
  ops.all fun (p, o) =>
    let used := (o.op.operands.toList.flatMap osl).contains d
    !used || (p == path && (match o.op with
      | .call { callee := .builtin .append, args, .. } => (args.toList.drop 1).flatMap osl == [d] && !((args.toList.take 1).flatMap osl).contains d
      | _ => false))

def nextOnly (ops : List (List Nat × Oper)) (path : List Nat) (d : Nat) : Bool :=
  ops.all fun (p, o) =>
    let used := (o.op.operands.toList.flatMap osl).contains d
    !used || (p == path && (match o.op with
      | .next _ _ => true
      | _ => false))

def locals (P : Program) (c : Code) : List Nat :=
  let ops := allOps [] c
  ops.foldl (fun s (p, o) => match o.dst with
    | none => s
    | some d => if s.contains d then s else match o.op with
      | .alloc _ | .box _ _ => if addrOnly P ops p 6 d then s ++ [d] else s
      | .buildSlice .. => if litOnly ops p d then s ++ [d] else s
      | .range _ _ => if nextOnly ops p d then s ++ [d] else s
      | _ => s) []

def resSlots (fn : Func) : List Nat := fn.results.toList.map fun
  | .tmp t => t
  | .cell a _ => a

def insN (x : Nat) : List Nat → List Nat
  | [] => [x]
  | y :: r => if x ≤ y then x :: y :: r else y :: insN x r

def sortN (l : List Nat) : List Nat := l.foldr insN []

/-- What lives behind a region, rising: so a loop's head sees one shape of frame. -/
def autoHints (P : Program) (fn : Func) : Hints :=
  match fn.body with
  | some c => { keep := (liveC (resSlots fn) [] c (resSlots fn)).keeps.map fun p => (p.1, sortN p.2), loc := locals P c }
  | none => { keep := [], loc := [] }

def autoLift (P : Program) (f : FuncId) : Option (Hints × LFunc) :=
  match P.funcs[f]? with
  | some fn => (liftF P (autoHints P fn) fn).map fun l => (autoHints P fn, l)
  | none => none

/-- Where it falls: regions that are not taken, by number and operation. -/
def whyC (P : Program) (nt : Nat) (hs : Hints) : Code → List (Nat × Nat)
  | .region id ops draw => match liftRegion P nt hs id ops draw with
    | some _ => []
    | none => (id, 1000) :: (ops.toList.zipIdx.filterMap fun (o, i) => match liftI P nt hs.loc ops o with
      | some _ => none
      | none => some (id, i))
  | .seq a b => whyC P nt hs a ++ whyC P nt hs b
  | .cond _ a b => whyC P nt hs a ++ whyC P nt hs b
  | .block _ a => whyC P nt hs a
  | .loop a => whyC P nt hs a
  | .rangeFunc _ _ as body => whyC P nt hs as ++ whyC P nt hs body
  | .skip => []
  | .exit _ => []
  | .ret => []
  | _ => [(9999, 9999)]

def why (P : Program) (f : FuncId) : List (Nat × Nat) :=
  match P.funcs[f]? with
  | some fn => match fn.body with
    | some c => whyC P fn.ntmps (autoHints P fn) c
    | none => [(8888, 8888)]
  | none => [(7777, 7777)]

def liftable (P : Program) (f : FuncId) : Bool := (autoLift P f).isSome
def autoPrg (P : Program) : Prg := { fn := fun f => (autoLift P f).map (·.2), ext := fun _ => none }

end Go.Proofs.Ytanpdopjgepbkaa.AM
