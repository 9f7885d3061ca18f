/-
  Slices as numbers of places; what operations come to at them.
-/
import Derived.Test.YtanpdopjgepbkaaAmWp
set_option linter.unusedVariables false
set_option linter.unusedSimpArgs false
namespace Go.Proofs.Ytanpdopjgepbkaa.AM
open Go

/-! ### 1. Values of operations, by the values of their operands -/

def lenP : Value → Option Value
  | .slice _ n _ => some (.int .i64 n)
  | _ => none
def iaddrP (e : Nat) : Value → Value → Option Value
  | .slice (some a) n _, .int _ j => if 0 ≤ j ∧ j < n ∧ a.spot.isNone then some (.pointer (some (ptrOff a (j.toNat * e)))) else none
  | _, _ => none

theorem ev_mv {fr : Fr} {x : Opd} : (POp.mv x).ev fr = some (opd fr x) := rfl
theorem ev_bin {fr : Fr} {o : BinOp} {x y : Opd} : (POp.bin o x y).ev fr = binA o (opd fr x) (opd fr y) := rfl
theorem ev_un {fr : Fr} {o : UnOp} {x : Opd} : (POp.un o x).ev fr = unA o (opd fr x) := rfl
theorem ev_mm {fr : Fr} {b : Bool} {xs : List Opd} : (POp.mm b xs).ev fr = mmA b (opds fr xs) := rfl
theorem ev_len {fr : Fr} {x : Opd} : (POp.len x).ev fr = lenP (opd fr x) := rfl

theorem binA_add {k k' : IntKind} {a b : Int} : binA .add (.int k a) (.int k' b) = if k = k' then some (.int k (k.wrap (a + b))) else none := rfl
theorem binA_sub {k k' : IntKind} {a b : Int} : binA .sub (.int k a) (.int k' b) = if k = k' then some (.int k (k.wrap (a - b))) else none := rfl
theorem binA_mul {k k' : IntKind} {a b : Int} : binA .mul (.int k a) (.int k' b) = if k = k' then some (.int k (k.wrap (a * b))) else none := rfl
theorem binA_lss {k k' : IntKind} {a b : Int} : binA .lss (.int k a) (.int k' b) = if k = k' then some (.bool (decide (a < b))) else none := rfl
theorem binA_leq {k k' : IntKind} {a b : Int} : binA .leq (.int k a) (.int k' b) = if k = k' then some (.bool (decide (a ≤ b))) else none := rfl
theorem binA_gtr {k k' : IntKind} {a b : Int} : binA .gtr (.int k a) (.int k' b) = if k = k' then some (.bool (decide (b < a))) else none := rfl
theorem binA_geq {k k' : IntKind} {a b : Int} : binA .geq (.int k a) (.int k' b) = if k = k' then some (.bool (decide (b ≤ a))) else none := rfl
theorem binA_eql {k k' : IntKind} {a b : Int} : binA .eql (.int k a) (.int k' b) = if k = k' then some (.bool (decide (a = b))) else none := by
  have : (a == b) = decide (a = b) := rfl
  simp only [binA, intBin, this]
theorem binA_neq {k k' : IntKind} {a b : Int} : binA .neq (.int k a) (.int k' b) = if k = k' then some (.bool (!decide (a = b))) else none := by
  have : (a != b) = !decide (a = b) := rfl
  simp only [binA, intBin, this]
theorem binA_remB {k : IntKind} {a b : Int} (h : b ≠ 0) : binA .rem (.int k a) (.int k b) = some (.int k (a.tmod b)) := by
  simp only [binA, intBin, if_true, if_neg h]
theorem unA_not {b : Bool} : unA .not (.bool b) = some (.bool (!b)) := rfl
theorem unA_neg {k : IntKind} {n : Int} : unA .neg (.int k n) = some (.int k (k.wrap (0 - n))) := rfl
theorem ev_conv {fr : Fr} {k : IntKind} {x : Opd} : (POp.conv k x).ev fr = match opd fr x with | .int _ n => some (.int k (k.wrap n)) | _ => none := rfl
theorem ev_pick {fr : Fr} {c a b : Opd} : (POp.pick c a b).ev fr = match opd fr c with | .bool t => some (if t then opd fr a else opd fr b) | _ => none := rfl
theorem ev_ext {fr : Fr} {i : Nat} {x : Opd} : (POp.ext i x).ev fr = match opd fr x with | .tuple vs => vs[i]? | _ => none := rfl

theorem wrap_i64 {x : Int} (h1 : -9223372036854775808 ≤ x) (h2 : x < 9223372036854775808) : IntKind.i64.wrap x = x := by
  show (if (true && decide (x % 18446744073709551616 ≥ 9223372036854775808)) = true then x % 18446744073709551616 - 18446744073709551616 else x % 18446744073709551616) = x
  simp only [Bool.true_and, decide_eq_true_eq]
  split <;> omega
theorem wrap_i32 {x : Int} (h1 : -2147483648 ≤ x) (h2 : x < 2147483648) : IntKind.i32.wrap x = x := by
  show (if (true && decide (x % 4294967296 ≥ 2147483648)) = true then x % 4294967296 - 4294967296 else x % 4294967296) = x
  simp only [Bool.true_and, decide_eq_true_eq]
  split <;> omega

theorem mm2_max {k k' : IntKind} {x y : Int} : mmA true [.int k x, .int k' y] = some (.int k (max x y)) := by
  simp only [mmA, List.foldlM, mm2, if_true]
  show some _ = _
  congr 2
  by_cases h : y > x
  · rw [if_pos h]; omega
  · rw [if_neg h]; omega
theorem mm2_min {k k' : IntKind} {x y : Int} : mmA false [.int k x, .int k' y] = some (.int k (min x y)) := by
  simp only [mmA, List.foldlM, mm2]
  show some _ = _
  congr 2
  by_cases h : y < x
  · rw [if_neg (by decide), if_pos h]; omega
  · rw [if_neg (by decide), if_neg h]; omega

/-! ### 2. Slices -/

inductive Sl where
  | nil
  | at (b o n : Nat)

def Sl.val (e : Nat) : Sl → Value
  | .nil => .slice none 0 0
  | .at b o n => .slice (some ⟨b, o, none⟩) n e
def Sl.len : Sl → Nat
  | .nil => 0
  | .at _ _ n => n
def Sl.blk : Sl → Option Nat
  | .nil => none
  | .at b _ _ => some b
def Sl.adr (e : Nat) : Sl → Nat → Addr
  | .nil, _ => ⟨0, 0, none⟩
  | .at b o _, i => ⟨b, o + i * e, none⟩
def Sl.take : Sl → Nat → Sl
  | .nil, _ => .nil
  | .at b o _, k => .at b o k
def Sl.drop (e : Nat) : Sl → Nat → Sl
  | .nil, _ => .nil
  | .at b o n, k => .at b (o + k * e) (n - k)

theorem Sl.isLoc_val {e : Nat} {s : Sl} : isLoc (s.val e) = false := by cases s <;> rfl
theorem Sl.okV_val {e : Nat} {s : Sl} : okV (s.val e) = true := by cases s <;> rfl
theorem Sl.cellOk_val {e : Nat} {s : Sl} : cellOk (s.val e) = true := by cases s <;> rfl
theorem Sl.vcells_val {e : Nat} {s : Sl} : vcells (s.val e) = [s.val e] := by cases s <;> rfl
theorem Sl.settle_val {e : Nat} {s : Sl} {k : Nat} : settle1 k (s.val e) = some (s.val e) := by cases s <;> rfl
theorem Sl.lenP_val {e : Nat} {s : Sl} : lenP (s.val e) = some (.int .i64 s.len) := by cases s <;> rfl
theorem Sl.lenV_val {e : Nat} {s : Sl} : lenV (s.val e) = some s.len := by cases s <;> rfl
theorem Sl.vsame_val {e : Nat} {s : Sl} : vsame (s.val e) (s.val e) = true := by cases s <;> simp [Sl.val, vsame, vsame0]
theorem Sl.iaddr_val {e : Nat} {s : Sl} {k : IntKind} {j : Int} (h0 : 0 ≤ j) (h1 : j < s.len) : iaddrP e (s.val e) (.int k j) = some (.pointer (some (s.adr e j.toNat))) := by
  cases s with
  | nil => simp [Sl.len] at h1; omega
  | «at» b o n => simp only [Sl.len] at h1; simp [Sl.val, iaddrP, Sl.adr, ptrOff, h0, h1]
theorem ev_iaddr {fr : Fr} {e : Nat} {x i : Opd} : (POp.iaddr e x i).ev fr = iaddrP e (opd fr x) (opd fr i) := rfl
theorem Sl.spot_adr {e : Nat} {s : Sl} {i : Nat} : (s.adr e i).spot = none := by cases s <;> rfl

/-- What a slice reads. -/
def Reads (h : AH) (e : Nat) (s : Sl) (xss : List (List Value)) : Prop :=
  s.len = xss.length ∧ (∀ x ∈ xss, x.length = e) ∧ match s with
  | .nil => True
  | .at b o n => n = 0 ∨ ∃ ro pre post, h.get b = some (.cells ro (pre ++ xss.flatten ++ post)) ∧ pre.length = o
/-- A slice that is one's own: it may be written and grown. -/
def Own (h : AH) (e : Nat) (s : Sl) (xss : List (List Value)) : Prop :=
  s.len = xss.length ∧ (∀ x ∈ xss, x.length = e) ∧ match s with
  | .nil => True
  | .at b o _ => ∃ pre, h.get b = some (.cells false (pre ++ xss.flatten)) ∧ pre.length = o

theorem Own.reads {h : AH} {e : Nat} {s : Sl} {xss : List (List Value)} (ho : Own h e s xss) : Reads h e s xss := by
  refine ⟨ho.1, ho.2.1, ?_⟩
  have := ho.2.2
  cases s with
  | nil => trivial
  | «at» b o n => obtain ⟨pre, h1, h2⟩ := this; exact .inr ⟨false, pre, [], by rw [h1, List.append_nil], h2⟩

/-- Older blocks stay. -/
def Kp (h0 h : AH) : Prop := h0.n ≤ h.n ∧ ∀ b, b < h0.n → h.get b = h0.get b

theorem Kp.refl (h : AH) : Kp h h := ⟨Nat.le_refl _, fun _ _ => rfl⟩
theorem Kp.trans {h0 h1 h2 : AH} (a : Kp h0 h1) (b : Kp h1 h2) : Kp h0 h2 := ⟨Nat.le_trans a.1 b.1, fun i hi => (b.2 i (Nat.lt_of_lt_of_le hi a.1)).trans (a.2 i hi)⟩
theorem Kp.get {h0 h : AH} (k : Kp h0 h) {b : Nat} {o : AObj} (hb : h0.get b = some o) : h.get b = some o := (k.2 b (AH.get_lt hb)).trans hb
theorem Reads.kp {h0 h : AH} {e : Nat} {s : Sl} {xss : List (List Value)} (r : Reads h0 e s xss) (k : Kp h0 h) : Reads h e s xss := by
  refine ⟨r.1, r.2.1, ?_⟩
  have := r.2.2
  cases s with
  | nil => trivial
  | «at» b o n => exact this.imp id fun ⟨ro, pre, post, h1, h2⟩ => ⟨ro, pre, post, k.get h1, h2⟩

theorem flatten_len {e : Nat} {xss : List (List Value)} (h : ∀ x ∈ xss, x.length = e) : xss.flatten.length = xss.length * e := by
  induction xss with
  | nil => simp
  | cons x r ih =>
    have h1 := h x (by simp)
    have h2 := ih fun y hy => h y (by simp [hy])
    simp only [List.flatten_cons, List.length_append, List.length_cons, h1, h2]
    rw [Nat.add_mul]; omega

/-- One thing's cells among all. -/
theorem flatten_part {e : Nat} : ∀ {xss : List (List Value)}, (∀ x ∈ xss, x.length = e) → ∀ (i : Nat) (hi : i < xss.length) (post : List Value), ((xss.flatten ++ post).drop (i * e)).take e = xss[i]
  | [], _, i, hi, _ => by simp at hi
  | x :: r, h, 0, hi, post => by
    have h1 := h x (by simp)
    simp only [Nat.zero_mul, List.drop_zero, List.flatten_cons, List.append_assoc, List.getElem_cons_zero]
    rw [← h1, List.take_left]
  | x :: r, h, i + 1, hi, post => by
    have h1 := h x (by simp)
    have h2 := flatten_part (xss := r) (e := e) (fun y hy => h y (List.mem_cons_of_mem _ hy)) i (by simpa using hi) post
    simp only [List.flatten_cons, List.append_assoc, List.getElem_cons_succ]
    rw [show (i + 1) * e = x.length + i * e by rw [h1, Nat.add_mul]; omega, List.drop_length_add_append, h2]

theorem rd_reads {lc : Lc} {h : AH} {e : Nat} {s : Sl} {xss : List (List Value)} (r : Reads h e s xss) {i : Nat} (hi : i < xss.length) : Mem.rd ⟨lc, h⟩ (s.adr e i) e = some xss[i] := by
  obtain ⟨h1, h2, h3⟩ := r
  cases s with
  | nil => simp [Sl.len] at h1; omega
  | «at» b o n =>
    simp only [Sl.len] at h1
    obtain ⟨ro, pre, post, h4, h5⟩ := h3.resolve_left (by omega)
    show Mem.rd ⟨lc, h⟩ ⟨b, o + i * e, none⟩ e = _
    simp only [Mem.rd, Mem.obj, h4]
    have hl := flatten_len h2
    have hie : i * e + e ≤ xss.length * e := by
      have : (i + 1) * e ≤ xss.length * e := Nat.mul_le_mul_right e hi
      rw [Nat.add_mul] at this; omega
    rw [if_pos (by simp only [List.length_append, hl, h5]; omega)]
    rw [← flatten_part h2 i hi post, ← h5, List.append_assoc, List.drop_length_add_append]

theorem rd_cell {lc : Lc} {h : AH} {e : Nat} {s : Sl} {xss : List (List Value)} (r : Reads h e s xss) {i f : Nat} (hi : i < xss.length) (hf : f < (xss[i]).length) : Mem.rd ⟨lc, h⟩ (ptrOff (s.adr e i) f) 1 = some [(xss[i])[f]] := by
  have hr := rd_reads (lc := lc) r hi
  have hel := r.2.1 xss[i] (List.getElem_mem hi)
  have hsp := Sl.spot_adr (e := e) (s := s) (i := i)
  simp only [Mem.rd, Mem.obj, ptrOff, hsp] at hr ⊢
  split at hr
  · rename_i ro xs hg
    split at hr
    · rename_i hle
      injection hr with hr
      rw [if_pos (by omega)]
      congr 1
      rw [← List.drop_drop]
      have : (xs.drop (s.adr e i).off)[f]? = (xss[i])[f]? := by rw [← hr, List.getElem?_take_of_lt (by omega)]
      rw [List.getElem?_eq_getElem hf] at this
      obtain ⟨hlt, hge⟩ := List.getElem?_eq_some_iff.1 this
      rw [List.drop_eq_getElem_cons hlt, hge, List.take_succ_cons, List.take_zero]
    · cases hr
  · cases hr

/-! ### 3. Memory, place by place -/

theorem ptrOff_mk {b o n : Nat} {sp : Option Nat} : ptrOff ⟨b, o, sp⟩ n = ⟨b, o + n, sp⟩ := rfl
theorem loc_mk {b o : Nat} : loc b o = ⟨b, o, some 1⟩ := rfl
theorem ev_faddr {fr : Fr} {off : Nat} {x : Opd} : (POp.faddr off x).ev fr = match opd fr x with | .pointer (some a) => some (.pointer (some (ptrOff a off))) | _ => none := rfl
theorem ev_fld {fr : Fr} {off : Nat} {n : Option Nat} {x : Opd} : (POp.fld off n x).ev fr = match opd fr x with | .agg cs => partA cs.toList off n | _ => none := rfl
theorem partA_one {cs : List Value} {off : Nat} : partA cs off none = cs[off]? := rfl
theorem partA_more {cs : List Value} {off n : Nat} : partA cs off (some n) = if off + n ≤ cs.length then some (.agg ((cs.drop off).take n).toArray) else none := rfl
theorem ev_load1 {fr : Fr} {m : Mem} {x : Opd} : (ROp.load none x).ev fr m = match opd fr x with | .pointer (some a) => (match m.rd a 1 with | some [v] => some v | _ => none) | _ => none := rfl
theorem ev_loadn {fr : Fr} {m : Mem} {n : Nat} {x : Opd} : (ROp.load (some n) x).ev fr m = match opd fr x with | .pointer (some a) => (m.rd a n).map fun l => .agg l.toArray | _ => none := rfl
theorem rd_loc {lc : Lc} {h : AH} {b o k n : Nat} : Mem.rd ⟨lc, h⟩ ⟨b, o, some k⟩ n = match lget lc b with | some (.cells _ xs) => if o + n ≤ xs.length then some ((xs.drop o).take n) else none | _ => none := rfl
theorem rd_heap {lc : Lc} {h : AH} {b o n : Nat} : Mem.rd ⟨lc, h⟩ ⟨b, o, none⟩ n = match h.get b with | some (.cells _ xs) => if o + n ≤ xs.length then some ((xs.drop o).take n) else none | _ => none := rfl
theorem wr_loc {lc : Lc} {h : AH} {b o k : Nat} {vs : List Value} : Mem.wr ⟨lc, h⟩ ⟨b, o, some k⟩ vs = match lget lc b with | some (.cells false xs) => if o + vs.length ≤ xs.length then some ⟨(b, .cells false (setAll xs o vs)) :: lc, h⟩ else none | _ => none := rfl
theorem wr_heap {lc : Lc} {h : AH} {b o : Nat} {vs : List Value} : Mem.wr ⟨lc, h⟩ ⟨b, o, none⟩ vs = match h.get b with | some (.cells false xs) => if o + vs.length ≤ xs.length then some ⟨lc, h.set b (.cells false (setAll xs o vs))⟩ else none | _ => none := rfl
theorem vcells_agg {cs : Array Value} : vcells (.agg cs) = cs.toList := rfl
theorem vcells_int {k : IntKind} {n : Int} : vcells (.int k n) = [.int k n] := rfl
theorem vcells_bool {b : Bool} : vcells (.bool b) = [.bool b] := rfl
theorem vcells_str {s : ByteArray} : vcells (.string s) = [.string s] := rfl
theorem vcells_ptr {a : Option Addr} : vcells (.pointer a) = [.pointer a] := rfl
theorem vcells_slice {a : Option Addr} {n k : Nat} : vcells (.slice a n k) = [.slice a n k] := rfl
theorem cellOk_int {k : IntKind} {n : Int} : cellOk (.int k n) = true := rfl
theorem cellOk_bool {b : Bool} : cellOk (.bool b) = true := rfl
theorem cellOk_str {s : ByteArray} : cellOk (.string s) = true := rfl
theorem cellOk_ptr {b o : Nat} : cellOk (.pointer (some ⟨b, o, none⟩)) = true := rfl
theorem cellOk_ptr0 : cellOk (.pointer none) = true := rfl
theorem cellOk_slice0 {n k : Nat} : cellOk (.slice none n k) = true := rfl
theorem newLoc_mk {lc : Lc} {h : AH} {t : Nat} {o : AObj} : Mem.newLoc ⟨lc, h⟩ t o = match lget lc (2 * t + 1) with | none => some ⟨(2 * t + 1, o) :: lc, h⟩ | some _ => none := rfl

section
variable {c : CallF} {y : YieldF} {fr : Fr} {m : Mem} {lc : Lc} {h : AH}
theorem ev_newL {t : Nat} {z : List Value} : (EOp.newL t z).ev c y fr m = (m.newLoc t (.cells false z)).map fun m' => (.pointer (some (loc (2 * t + 1) 0)), m') := rfl
theorem ev_newH {z : List Value} : (EOp.newH z).ev c y fr ⟨lc, h⟩ = some (.pointer (some ⟨h.n, 0, none⟩), ⟨lc, h.push (.cells false z)⟩) := rfl
theorem ev_boxL {t n : Nat} {x : Opd} : (EOp.boxL t n x).ev c y fr m = if (vcells (opd fr x)).length = n ∧ (vcells (opd fr x)).all cellOk = true then
      (m.newLoc t (.cells false (vcells (opd fr x)))).map fun m' => (.pointer (some (loc (2 * t + 1) 0)), m') else none := rfl
theorem ev_boxH {n : Nat} {x : Opd} : (EOp.boxH n x).ev c y fr ⟨lc, h⟩ = if (vcells (opd fr x)).length = n ∧ (vcells (opd fr x)).all cellOk = true then
      some (.pointer (some ⟨h.n, 0, none⟩), ⟨lc, h.push (.cells false (vcells (opd fr x)))⟩) else none := rfl
theorem ev_litL {t n e : Nat} {z : List Value} {ps : List (Nat × Nat × Opd)} : (EOp.litL t n e z ps).ev c y fr m = match fillA (litCells n z) (evParts fr ps) with
    | some cs => (m.newLoc t (.cells false cs)).map fun m' => (.slice (some (loc (2 * t + 1) 0)) n e, m')
    | none => none := rfl
theorem ev_litH {n e : Nat} {z : List Value} {ps : List (Nat × Nat × Opd)} : (EOp.litH n e z ps).ev c y fr ⟨lc, h⟩ = match fillA (litCells n z) (evParts fr ps) with
    | some cs => some (.slice (some ⟨h.n, 0, none⟩) n e, ⟨lc, h.push (.cells false cs)⟩)
    | none => none := rfl
theorem ev_store {n : Nat} {a x : Opd} : (EOp.store n a x).ev c y fr m = match opd fr a with
    | .pointer (some p) => if (vcells (opd fr x)).length = n ∧ (vcells (opd fr x)).all cellOk = true then (m.wr p (vcells (opd fr x))).map fun m' => (undef, m') else none
    | _ => none := rfl
theorem ev_eqA {neq : Bool} {ks : List FK} {x z : Opd} : (POp.eqA neq ks x z).ev fr = match opd fr x, opd fr z with
    | .agg xs, .agg ys => (eqCells ks xs.toList ys.toList).map fun b => .bool (if neq then !b else b)
    | _, _ => none := rfl
theorem eqCells_two {k : IntKind} {a b a' b' : Int} : eqCells [.int, .int] [.int k a, .int k b] [.int k a', .int k b'] = some (decide (a = a' ∧ b = b')) := by
  simp only [eqCells, if_true]
  by_cases h1 : a = a'
  · subst h1
    by_cases h2 : b = b'
    · subst h2; simp
    · simp [h2]
  · simp [h1]
theorem beqTT : (true == true) = true := rfl
theorem beqTF : (true == false) = false := rfl
theorem beqFT : (false == true) = false := rfl
theorem beqFF : (false == false) = true := rfl
theorem ev_eqk {neq : Bool} {k : EqK} {x z : Opd} : (POp.eqk neq k x z).ev fr = (eqNil k (opd fr x) (opd fr z)).map fun b => .bool (if neq then !b else b) := rfl
theorem ev_nilck {x : Opd} : (POp.nilck x).ev fr = match opd fr x with
    | .pointer (some a) => some (.pointer (some a))
    | .func f a b => (match f with | .func _ => some (.func f a b) | .yield _ => some (.func f a b) | _ => none)
    | _ => none := rfl
theorem ev_build {z : List Value} {ps : List (Nat × Nat × Opd)} : (POp.build z ps).ev fr = (fillA z (evParts fr ps)).map fun cs => .agg cs.toArray := rfl
end
theorem evParts_nil {fr : Fr} : evParts fr [] = [] := rfl
theorem evParts_cons {fr : Fr} {a b : Nat} {x : Opd} {r : List (Nat × Nat × Opd)} : evParts fr ((a, b, x) :: r) = (a, b, opd fr x) :: evParts fr r := rfl
theorem opds_nil {fr : Fr} : opds fr [] = [] := rfl
theorem opds_cons {fr : Fr} {x : Opd} {r : List Opd} : opds fr (x :: r) = opd fr x :: opds fr r := rfl
theorem opd_s {fr : Fr} {n : Nat} : opd fr (.s n) = fget fr n := rfl
theorem opd_c {fr : Fr} {v : Value} : opd fr (.c v) = v := rfl
theorem litCells_mk {n : Nat} {z : List Value} : litCells n z = (List.replicate n z).flatten := rfl

theorem vsame_int {k : IntKind} {n : Int} : vsame (.int k n) (.int k n) = true := by simp [vsame, vsame0]
theorem vsame_bool {b : Bool} : vsame (.bool b) (.bool b) = true := by simp [vsame, vsame0]
theorem vsame_ptr {a : Option Addr} : vsame (.pointer a) (.pointer a) = true := by simp [vsame, vsame0]
theorem vsame_agg {xs : Array Value} (h : vsameL xs.toList xs.toList = true) : vsame (.agg xs) (.agg xs) = true := h
theorem vsameL_int {k : IntKind} {n : Int} {r r' : List Value} : vsameL (.int k n :: r) (.int k n :: r') = vsameL r r' := by simp [vsameL, vsame0]
theorem vsameL_nil : vsameL [] [] = true := rfl

/-! ### 4. Parts of slices -/

def slHi (e : Nat) (v w : Value) : Option Value := (POp.sl e (.c v) none (some (.c w)) none).ev []
def slLo (e : Nat) (v w : Value) : Option Value := (POp.sl e (.c v) (some (.c w)) none none).ev []
theorem ev_slHi {fr : Fr} {e : Nat} {x c : Opd} : (POp.sl e x none (some c) none).ev fr = slHi e (opd fr x) (opd fr c) := rfl
theorem ev_slLo {fr : Fr} {e : Nat} {x c : Opd} : (POp.sl e x (some c) none none).ev fr = slLo e (opd fr x) (opd fr c) := rfl
theorem Sl.slHi_val {e : Nat} {s : Sl} {k : IntKind} {j : Int} (h0 : 0 ≤ j) (h1 : j ≤ s.len) : slHi e (s.val e) (.int k j) = some ((s.take j.toNat).val e) := by
  cases s with
  | nil =>
    have hj : j = 0 := by simp only [Sl.len] at h1; omega
    subst hj
    rfl
  | «at» b o n =>
    simp only [Sl.len] at h1
    simp only [slHi, POp.ev, opd, Sl.val, optInt, asNat, Sl.take, ptrOff]
    rw [if_pos ⟨by omega, by omega, by omega, by omega, trivial, rfl⟩]
    simp
theorem Sl.slLo_val {e : Nat} {s : Sl} {k : IntKind} {j : Int} (h0 : 0 ≤ j) (h1 : j ≤ s.len) : slLo e (s.val e) (.int k j) = some ((s.drop e j.toNat).val e) := by
  cases s with
  | nil =>
    have hj : j = 0 := by simp only [Sl.len] at h1; omega
    subst hj
    rfl
  | «at» b o n =>
    simp only [Sl.len] at h1
    simp only [slLo, POp.ev, opd, Sl.val, optInt, asNat, Sl.drop, ptrOff]
    rw [if_pos ⟨by omega, by omega, by omega, by omega, trivial, rfl⟩]
    simp
theorem Reads.take {h : AH} {e : Nat} {s : Sl} {xss : List (List Value)} (r : Reads h e s xss) {k : Nat} (hk : k ≤ xss.length) : Reads h e (s.take k) (xss.take k) := by
  obtain ⟨h1, h2, h3⟩ := r
  cases s with
  | nil =>
    have hx : xss = [] := List.eq_nil_of_length_eq_zero (by simpa [Sl.len] using h1.symm)
    subst hx
    simp [Reads, Sl.take, Sl.len]
  | «at» b o n =>
    simp only [Sl.len] at h1
    refine ⟨by simp only [Sl.take, Sl.len, List.length_take]; omega, fun x hx => h2 x (List.mem_of_mem_take hx), ?_⟩
    rcases Nat.eq_zero_or_pos k with hk0 | hk0
    · exact .inl hk0
    obtain ⟨ro, pre, post, h4, h5⟩ := h3.resolve_left (by omega)
    refine .inr ⟨ro, pre, (xss.drop k).flatten ++ post, ?_, h5⟩
    rw [h4]
    have := congrArg List.flatten (List.take_append_drop k xss)
    rw [List.flatten_append] at this
    rw [← this]
    simp only [List.append_assoc]
theorem Reads.drop {h : AH} {e : Nat} {s : Sl} {xss : List (List Value)} (r : Reads h e s xss) {k : Nat} (hk : k ≤ xss.length) : Reads h e (s.drop e k) (xss.drop k) := by
  obtain ⟨h1, h2, h3⟩ := r
  cases s with
  | nil =>
    have hx : xss = [] := List.eq_nil_of_length_eq_zero (by simpa [Sl.len] using h1.symm)
    subst hx
    simp [Reads, Sl.drop, Sl.len]
  | «at» b o n =>
    simp only [Sl.len] at h1
    refine ⟨by simp only [Sl.drop, Sl.len, List.length_drop]; omega, fun x hx => h2 x (List.mem_of_mem_drop hx), ?_⟩
    rcases Nat.eq_zero_or_pos (n - k) with hk0 | hk0
    · exact .inl hk0
    obtain ⟨ro, pre, post, h4, h5⟩ := h3.resolve_left (by omega)
    refine .inr ⟨ro, pre ++ (xss.take k).flatten, post, ?_, ?_⟩
    · rw [h4]
      have := congrArg List.flatten (List.take_append_drop k xss)
      rw [List.flatten_append] at this
      rw [← this]
      simp only [List.append_assoc]
    · rw [List.length_append, h5, flatten_len (fun x hx => h2 x (List.mem_of_mem_take hx)), List.length_take, Nat.min_eq_left hk]
theorem rdSlice_reads {lc : Lc} {h : AH} {e : Nat} {s : Sl} {xss : List (List Value)} (r : Reads h e s xss) : rdSlice ⟨lc, h⟩ e (s.val e) = some xss.flatten := by
  obtain ⟨h1, h2, h3⟩ := r
  cases s with
  | nil =>
    have hx : xss = [] := List.eq_nil_of_length_eq_zero (by simpa [Sl.len] using h1.symm)
    subst hx
    rfl
  | «at» b o n =>
    simp only [Sl.len] at h1
    have hl := flatten_len h2
    show (if n = 0 then some [] else Mem.rd ⟨lc, h⟩ ⟨b, o, none⟩ (n * e)) = _
    rcases Nat.eq_zero_or_pos n with hk0 | hk0
    · have hx : xss = [] := List.eq_nil_of_length_eq_zero (by omega)
      subst hx
      rw [if_pos hk0]; rfl
    obtain ⟨ro, pre, post, h4, h5⟩ := h3.resolve_left (by omega)
    rw [if_neg (by omega), rd_heap, h4]
    simp only [List.length_append, hl, h5, h1]
    rw [if_pos (by omega), ← h5, List.append_assoc, List.drop_left, ← hl, List.take_left]

theorem isLoc_int {k : IntKind} {n : Int} : isLoc (.int k n) = false := rfl
theorem settle_int {k : IntKind} {n : Int} {i : Nat} : settle1 i (.int k n) = some (.int k n) := rfl
theorem isLoc_bool {b : Bool} : isLoc (.bool b) = false := rfl
theorem settle_bool {b : Bool} {i : Nat} : settle1 i (.bool b) = some (.bool b) := rfl
theorem isLoc_str {x : ByteArray} : isLoc (.string x) = false := rfl
theorem settle_str {x : ByteArray} {i : Nat} : settle1 i (.string x) = some (.string x) := rfl
theorem isLoc_ptr {b o : Nat} : isLoc (.pointer (some ⟨b, o, none⟩)) = false := rfl
theorem settle_ptr {b o : Nat} {i : Nat} : settle1 i (.pointer (some ⟨b, o, none⟩)) = some (.pointer (some ⟨b, o, none⟩)) := rfl
theorem isLoc_ptr0 : isLoc (.pointer none) = false := rfl
theorem settle_ptr0 {i : Nat} : settle1 i (.pointer none) = some (.pointer none) := rfl
theorem isLoc_slice0 {n k : Nat} : isLoc (.slice none n k) = false := rfl
theorem settle_slice0 {n k : Nat} {i : Nat} : settle1 i (.slice none n k) = some (.slice none n k) := rfl
theorem isLoc_agg {x : Array Value} : isLoc (.agg x) = false := rfl
theorem settle_agg {x : Array Value} {i : Nat} : settle1 i (.agg x) = some (.agg x) := rfl
theorem isLoc_tuple {x : Array Value} : isLoc (.tuple x) = false := rfl
theorem settle_tuple {x : Array Value} {i : Nat} : settle1 i (.tuple x) = some (.tuple x) := rfl
theorem isLoc_func {f : Fn} {x y : Array Value} : isLoc (.func f x y) = false := rfl
theorem settle_func {f : Fn} {x y : Array Value} {i : Nat} : settle1 i (.func f x y) = some (.func f x y) := rfl
theorem isLoc_nilF : isLoc (.nilFunc) = false := rfl
theorem settle_nilF {i : Nat} : settle1 i (.nilFunc) = some (.nilFunc) := rfl
theorem isLoc_map {m : Option Nat} : isLoc (.map m) = false := rfl
theorem settle_map {m : Option Nat} {i : Nat} : settle1 i (.map m) = some (.map m) := rfl
theorem isLoc_iface {t : TypeId} {v : Value} : isLoc (.iface t v) = false := rfl
theorem settle_iface {t : TypeId} {v : Value} {i : Nat} : settle1 i (.iface t v) = some (.iface t v) := rfl
theorem isLoc_nilI : isLoc (.nilIface) = false := rfl
theorem settle_nilI {i : Nat} : settle1 i (.nilIface) = some (.nilIface) := rfl
theorem isLoc_chan {m : Option Nat} : isLoc (.chan m) = false := rfl
theorem settle_chan {m : Option Nat} {i : Nat} : settle1 i (.chan m) = some (.chan m) := rfl
theorem settle_loc {i b o : Nat} : settle1 i (.pointer (some ⟨b, o, some 1⟩)) = if (b = 2 * i + 1 ∨ b = 2 * i) ∧ o = 0 then some (.pointer (some ⟨2 * i, 0, some 1⟩)) else none := rfl
theorem settle_sl1 {i b o n k : Nat} : settle1 i (.slice (some ⟨b, o, none⟩) n k) = some (.slice (some ⟨b, o, none⟩) n k) := rfl
theorem isLoc_sl1 {b o n k : Nat} : isLoc (.slice (some ⟨b, o, none⟩) n k) = false := rfl
theorem okV_eq {v : Value} : okV v = !isLoc v := rfl

attribute [push_cast] isLoc_int settle_int isLoc_bool settle_bool isLoc_str settle_str isLoc_ptr settle_ptr isLoc_ptr0 settle_ptr0 isLoc_slice0 settle_slice0 isLoc_agg settle_agg isLoc_tuple settle_tuple isLoc_func settle_func isLoc_nilF settle_nilF isLoc_map settle_map isLoc_iface settle_iface isLoc_nilI settle_nilI isLoc_chan settle_chan settle_loc settle_sl1 isLoc_sl1 okV_eq
def lc1 (lc : Lc) (i : Nat) (v : Value) (r : Lc) : Lc :=
  match v with
  | .pointer (some a) => match a.spot, lget lc a.block with
    | some _, some o => (2 * i, o) :: r
    | _, _ => r
  | _ => r
theorem keepLc_cons {fr : Fr} {lc : Lc} {i : Nat} {r : List Nat} : keepLc fr lc (i :: r) = lc1 lc i (fget fr i) (keepLc fr lc r) := rfl
theorem keepLc_nil {fr : Fr} {lc : Lc} : keepLc fr lc [] = [] := rfl
theorem lc1_val {lc : Lc} {i e : Nat} {s : Sl} {r : Lc} : lc1 lc i (s.val e) r = r := by cases s <;> rfl
theorem lc1_loc {lc : Lc} {i b o k : Nat} {r : Lc} : lc1 lc i (.pointer (some ⟨b, o, some k⟩)) r = match lget lc b with | some x => (2 * i, x) :: r | none => r := by
  simp only [lc1]
  cases lget lc b <;> rfl
theorem lc1_int {k : IntKind} {n : Int} {lc : Lc} {i : Nat} {r : Lc} : lc1 lc i (.int k n) r = r := rfl
theorem lc1_bool {b : Bool} {lc : Lc} {i : Nat} {r : Lc} : lc1 lc i (.bool b) r = r := rfl
theorem lc1_str {x : ByteArray} {lc : Lc} {i : Nat} {r : Lc} : lc1 lc i (.string x) r = r := rfl
theorem lc1_ptr {b o : Nat} {lc : Lc} {i : Nat} {r : Lc} : lc1 lc i (.pointer (some ⟨b, o, none⟩)) r = r := rfl
theorem lc1_ptr0 {lc : Lc} {i : Nat} {r : Lc} : lc1 lc i (.pointer none) r = r := rfl
theorem lc1_slice {a : Option Addr} {n k : Nat} {lc : Lc} {i : Nat} {r : Lc} : lc1 lc i (.slice a n k) r = r := rfl
theorem lc1_agg {x : Array Value} {lc : Lc} {i : Nat} {r : Lc} : lc1 lc i (.agg x) r = r := rfl
theorem lc1_tuple {x : Array Value} {lc : Lc} {i : Nat} {r : Lc} : lc1 lc i (.tuple x) r = r := rfl
theorem lc1_func {f : Fn} {x y : Array Value} {lc : Lc} {i : Nat} {r : Lc} : lc1 lc i (.func f x y) r = r := rfl
theorem lc1_nilF {lc : Lc} {i : Nat} {r : Lc} : lc1 lc i (.nilFunc) r = r := rfl
theorem lc1_map {m : Option Nat} {lc : Lc} {i : Nat} {r : Lc} : lc1 lc i (.map m) r = r := rfl
theorem lc1_iface {t : TypeId} {v : Value} {lc : Lc} {i : Nat} {r : Lc} : lc1 lc i (.iface t v) r = r := rfl
theorem lc1_nilI {lc : Lc} {i : Nat} {r : Lc} : lc1 lc i (.nilIface) r = r := rfl
theorem lc1_chan {m : Option Nat} {lc : Lc} {i : Nat} {r : Lc} : lc1 lc i (.chan m) r = r := rfl

attribute [push_cast] keepLc_cons keepLc_nil lc1_val lc1_loc lc1_int lc1_bool lc1_str lc1_ptr lc1_ptr0 lc1_slice lc1_agg lc1_tuple lc1_func lc1_nilF lc1_map lc1_iface lc1_nilI lc1_chan
attribute [push_cast] ev_eqk eqNil Option.isNone_none Option.isNone_some beqTT beqTF beqFT beqFF ev_nilck List.getElem?_toArray List.getElem_toArray List.getElem_cons_zero List.getElem_cons_succ decide_true decide_false ev_slHi ev_slLo Sl.slHi_val Sl.slLo_val ev_iaddr ev_eqA eqCells_two Int.toNat_natCast rdSlice lenV Sl.lenV_val
attribute [push_cast] ev_mv ev_bin ev_un ev_mm ev_len ev_conv ev_pick ev_ext opd_s opd_c opds_nil opds_cons List.map_cons List.map_nil fget Nat.one_ne_zero Nat.zero_ne_one eq_self if_true if_false
  Bool.false_eq_true binA_add binA_sub binA_mul binA_lss binA_leq binA_gtr binA_geq binA_eql binA_neq unA_not unA_neg mm2_max mm2_min wrap_i64 wrap_i32 Sl.lenP_val Bool.not_true
  Bool.not_false Bool.not_not Sl.iaddr_val ptrOff_mk loc_mk ev_faddr ev_fld partA_one partA_more ev_load1 ev_loadn rd_loc rd_heap wr_loc wr_heap vcells_agg vcells_int vcells_bool
  vcells_str vcells_ptr vcells_slice cellOk_int cellOk_bool cellOk_str cellOk_ptr cellOk_ptr0 cellOk_slice0 Sl.vcells_val Sl.cellOk_val newLoc_mk ev_newL ev_newH ev_boxL ev_boxH
  ev_litL ev_litH ev_store ev_build litCells_mk fillA evParts_nil evParts_cons lget setAll Option.map_some List.length_cons List.length_nil List.all_cons List.all_nil Bool.and_true Bool.and_self
  and_self and_true true_and Nat.zero_add Nat.add_zero Nat.le_refl List.drop_succ_cons List.drop_zero List.take_succ_cons List.take_zero List.set_cons_zero List.set_cons_succ
  List.getElem?_cons_zero List.getElem?_cons_succ List.replicate_succ List.replicate_zero List.flatten_cons List.flatten_nil List.append_nil List.nil_append List.cons_append
  List.toList_toArray keepFr Option.isSome_some Option.isSome_none or_true true_or Sl.settle_val Sl.isLoc_val retV resAll resA chkT chk1 wantedA
  List.reverse_cons List.reverse_nil vsame_int vsame_bool vsame_ptr vsame_agg vsameL_int vsameL_nil Sl.vsame_val

end Go.Proofs.Ytanpdopjgepbkaa.AM
