/- Lifted functions, each a constant. -/
import Derived.Test.YtanpdopjgepbkaaAmE
import Derived.Test.YtanpdopjgepbkaaProg
set_option linter.unusedVariables false
namespace Go.Proofs.Ytanpdopjgepbkaa.AM
open Go

/-- The law's opening runs 'alive': a closed call. -/
def aliveX : List Value → AH → Option (Value × AH) := fun args h => if args.isEmpty then some (.bool true, h) else none

/-- Rows of ranks. -/
def rowV (x : Int × Int) : List Value := [.int .i64 x.1, .int .i64 x.2]
def leRow (x y : Int × Int) : Bool := decide (x.1 < y.1 ∨ x.1 = y.1 ∧ x.2 ≤ y.2)
def sortF (l : List (Int × Int)) : List (Int × Int) := l.mergeSort leRow
def rowsOf : List Value → Option (List (Int × Int))
  | [] => some []
  | .int .i64 a :: .int .i64 b :: r => (rowsOf r).map ((a, b) :: ·)
  | _ => none

/-- Rows are sorted in their place: a call of the library's sort with the closure of 'made'. -/
def sortX : List Value → AH → Option (Value × AH) := fun args h =>
  match args with
  | [.slice none n e, .func (.func g) a b] => if n = 0 ∧ e = 0 ∧ g = 88 ∧ a.size = 0 ∧ b.size = 0 then some (.tuple #[], h) else none
  | [.slice (some ⟨bk, o, none⟩) n e, .func (.func g) a b] =>
    match h.get bk with
    | some (.cells false xs) => if 0 < n ∧ n < 1000000000000000 ∧ e = 2 ∧ g = 88 ∧ a.size = 0 ∧ b.size = 0 ∧ o + n * 2 ≤ xs.length then
        (match rowsOf ((xs.drop o).take (n * 2)) with
        | some ps => some (.tuple #[], h.set bk (.cells false (xs.take o ++ (((sortF ps).map rowV).flatten ++ xs.drop (o + n * 2)))))
        | none => none) else none
    | _ => none
  | _ => none

/-- The library's Grow of no list: room for k rows. -/
def growX : List Value → AH → Option (Value × AH) := fun args h =>
  match args with
  | [.slice none n e, .int .i64 k] => if n = 0 ∧ e = 0 ∧ 0 ≤ k ∧ k ≤ 1000000000000 then (if k = 0 then some (.slice none 0 0, h) else some (.slice (some ⟨h.n, 0, none⟩) 0 2, h.push (.cells false []))) else none
  | _ => none

def extS : FuncId → Option (List Value → AH → Option (Value × AH)) := fun f => if f = 14 then some aliveX else if f = 87 then some sortX else if f = 91 then some growX else none
def withExt (q : Prg) (e : FuncId → Option (List Value → AH → Option (Value × AH))) : Prg := ⟨q.fn, e⟩
theorem withExt_fn (q : Prg) (e : FuncId → Option (List Value → AH → Option (Value × AH))) (f : FuncId) : (withExt q e).fn f = q.fn f := rfl
theorem withExt_ext (q : Prg) (e : FuncId → Option (List Value → AH → Option (Value × AH))) (f : FuncId) : (withExt q e).ext f = e f := rfl
noncomputable def PS : Prg := withExt (autoPrg Try.prog) extS
theorem ps_fn {f : FuncId} {lf : LFunc} (hf : (autoPrg Try.prog).fn f = some lf) : PS.fn f = some lf := by
  unfold PS
  rw [withExt_fn]
  exact hf
theorem ps_ext {f : FuncId} (hf : (f == 14 || f == 87 || f == 91) = false) : PS.ext f = none := by
  have h1 : ¬ f = 14 := by rintro rfl; cases hf
  have h2 : ¬ f = 87 := by rintro rfl; cases hf
  have h3 : ¬ f = 91 := by rintro rfl; cases hf
  unfold PS
  rw [withExt_ext]
  simp only [extS, if_neg h1, if_neg h2, if_neg h3]

def LF62 : LFunc :=
  .mk 1 [.tmp 2] (.seq (.region [.mk (some 2) (.p (.mv (.c (.bool false)))) none] [0] []) (.seq (.block 0 (.seq (.region [.mk (some 4) (.p (.mv (.s 0))) none, .mk (some 5) (.p (.bin
  .leq (.c (.int .i32 0)) (.s 4))) none, .mk (some 6) (.p (.mv (.s 5))) none, .mk (some 7) (.p (.mv (.s 0))) (some (6, true)), .mk (some 8) (.p (.bin .lss (.s 7) (.c (.int .i32
  55296)))) (some (6, true)), .mk (some 9) (.p (.pick (.s 6) (.s 8) (.c (.bool false)))) none, .mk (some 3) (.p (.mv (.s 9))) none] [0, 3] []) (.cond (.s 3) (.seq (.region [.mk
  (some 2) (.p (.mv (.c (.bool true)))) none] [2] []) .ret) (.seq (.region [.mk (some 11) (.p (.mv (.s 0))) none, .mk (some 12) (.p (.bin .lss (.c (.int .i32 57343)) (.s 11))) none,
  .mk (some 13) (.p (.mv (.s 12))) none, .mk (some 14) (.p (.mv (.s 0))) (some (13, true)), .mk (some 15) (.p (.bin .leq (.s 14) (.c (.int .i32 1114111)))) (some (13, true)), .mk
  (some 16) (.p (.pick (.s 13) (.s 15) (.c (.bool false)))) none, .mk (some 10) (.p (.mv (.s 16))) none] [10] []) (.cond (.s 10) (.seq (.region [.mk (some 2) (.p (.mv (.c (.bool
  true)))) none] [2] []) .ret) .skip))))) (.seq (.region [.mk (some 2) (.p (.mv (.c (.bool false)))) none] [2] []) .ret)))
theorem fn62 : (autoPrg Try.prog).fn 62 = some LF62 := by kernel_rfl

def LF64 : LFunc :=
  .mk 1 [.tmp 2] (.seq (.region [.mk (some 2) (.p (.mv (.c (.int .i64 0)))) none] [0] []) (.seq (.block 0 (.seq (.region [.mk (some 4) (.p (.mv (.s 0))) none, .mk (some 5) (.p (.bin
  .lss (.s 4) (.c (.int .i64 55296)))) none, .mk (some 3) (.p (.mv (.s 5))) none] [0, 3] []) (.cond (.s 3) (.seq (.region [.mk (some 6) (.p (.mv (.s 0))) none, .mk (some 7) (.p (.mm
  true [.s 6, .c (.int .i64 0)])) none, .mk (some 2) (.p (.mv (.s 7))) none] [2] []) .ret) (.seq (.region [.mk (some 9) (.p (.mv (.s 0))) none, .mk (some 10) (.p (.bin .lss (.s 9)
  (.c (.int .i64 57344)))) none, .mk (some 8) (.p (.mv (.s 10))) none] [0, 8] []) (.cond (.s 8) (.seq (.region [.mk (some 2) (.p (.mv (.c (.int .i64 55296)))) none] [2] []) .ret)
  .skip))))) (.seq (.region [.mk (some 11) (.p (.mv (.s 0))) none, .mk (some 12) (.p (.bin .sub (.s 11) (.c (.int .i64 2048)))) none, .mk (some 13) (.p (.mm false [.s 12, .c (.int
  .i64 1112064)])) none, .mk (some 2) (.p (.mv (.s 13))) none] [2] []) .ret)))
theorem fn64 : (autoPrg Try.prog).fn 64 = some LF64 := by kernel_rfl

def LF65 : LFunc :=
  .mk 1 [.tmp 2] (.seq (.region [.mk (some 2) (.p (.mv (.c (.bool false)))) none] [0] []) (.seq (.region [.mk (some 3) (.p (.mv (.s 0))) none, .mk (some 4) (.p (.bin .geq (.s 3) (.c
  (.int .i64 0)))) none, .mk (some 5) (.p (.mv (.s 4))) none, .mk (some 6) (.p (.mv (.s 0))) (some (5, true)), .mk (some 7) (.p (.bin .leq (.s 6) (.c (.int .i64 1114111)))) (some
  (5, true)), .mk (some 8) (.p (.pick (.s 5) (.s 7) (.c (.bool false)))) none, .mk (some 9) (.p (.mv (.s 8))) none, .mk (some 10) (.p (.mv (.s 0))) (some (9, true)), .mk (some 11)
  (.p (.bin .lss (.s 10) (.c (.int .i64 55296)))) (some (9, true)), .mk (some 12) (.p (.mv (.s 11))) (some (9, true)), .mk (some 13) (.p (.mv (.s 0))) (some (12, false)), .mk (some
  14) (.p (.bin .gtr (.s 13) (.c (.int .i64 57343)))) (some (12, false)), .mk (some 15) (.p (.pick (.s 12) (.c (.bool true)) (.s 14))) (some (9, true)), .mk (some 16) (.p (.pick (.s
  9) (.s 15) (.c (.bool false)))) none, .mk (some 2) (.p (.mv (.s 16))) none] [2] []) .ret))
theorem fn65 : (autoPrg Try.prog).fn 65 = some LF65 := by kernel_rfl

def LF60 : LFunc :=
  .mk 1 [.tmp 2] (.seq (.region [.mk (some 2) (.p (.mv (.c (.int .i32 0)))) none] [0] []) (.seq (.seq (.region [.mk (some 3) (.p (.mv (.s 0))) none, .mk (some 4) (.p (.bin .geq (.s
  3) (.c (.int .i64 55296)))) none] [0, 4] []) (.cond (.s 4) (.region [.mk (some 5) (.p (.mv (.s 0))) none, .mk (some 6) (.p (.bin .add (.s 5) (.c (.int .i64 2048)))) none, .mk
  (some 0) (.p (.mv (.s 6))) none] [0] []) .skip)) (.seq (.region [.mk (some 7) (.p (.mv (.s 0))) none, .mk (some 8) (.p (.conv .i32 (.s 7))) none, .mk (some 2) (.p (.mv (.s 8)))
  none] [2] []) .ret)))
theorem fn60 : (autoPrg Try.prog).fn 60 = some LF60 := by kernel_rfl

def LF71 : LFunc :=
  .mk 1 [.tmp 2] (.seq (.region [.mk (some 1) (.e (.boxL 1 2 (.s 0))) none, .mk (some 2) (.p (.mv (.c (.int .i64 0)))) none] [1] []) (.seq (.block 0 (.seq (.region [.mk (some 4) (.p
  (.faddr 0 (.s 1))) none, .mk (some 5) (.r (.load none (.s 4))) none, .mk (some 6) (.e (.call 62 [.s 5])) none, .mk (some 7) (.p (.un .not (.s 6))) none, .mk (some 8) (.p (.mv (.s
  7))) none, .mk (some 9) (.p (.faddr 1 (.s 1))) (some (8, false)), .mk (some 10) (.r (.load none (.s 9))) (some (8, false)), .mk (some 11) (.e (.call 62 [.s 10])) (some (8,
  false)), .mk (some 12) (.p (.un .not (.s 11))) (some (8, false)), .mk (some 13) (.p (.pick (.s 8) (.c (.bool true)) (.s 12))) none, .mk (some 3) (.p (.mv (.s 13))) none] [1, 3]
  []) (.cond (.s 3) (.seq (.region [.mk (some 2) (.p (.mv (.c (.int .i64 12)))) none] [2] []) .ret) (.seq (.region [.mk (some 15) (.p (.faddr 0 (.s 1))) none, .mk (some 16) (.r
  (.load none (.s 15))) none, .mk (some 17) (.p (.faddr 1 (.s 1))) none, .mk (some 18) (.r (.load none (.s 17))) none, .mk (some 19) (.p (.bin .gtr (.s 16) (.s 18))) none, .mk (some
  14) (.p (.mv (.s 19))) none] [14] []) (.cond (.s 14) (.seq (.region [.mk (some 2) (.p (.mv (.c (.int .i64 11)))) none] [2] []) .ret) .skip))))) (.seq (.region [.mk (some 2) (.p
  (.mv (.c (.int .i64 0)))) none] [2] []) .ret)))
theorem fn71 : (autoPrg Try.prog).fn 71 = some LF71 := by kernel_rfl

def LF72 : LFunc :=
  .mk 1 [.tmp 2] (.seq (.region [.mk (some 1) (.e (.boxL 1 2 (.s 0))) none, .mk (some 2) (.p (.mv (.c (.int .i64 0)))) none] [1] []) (.seq (.seq (.region [.mk (some 3) (.p (.faddr 0
  (.s 1))) none, .mk (some 4) (.r (.load none (.s 3))) none, .mk (some 5) (.p (.conv .i64 (.s 4))) none, .mk (some 6) (.e (.call 65 [.s 5])) none, .mk (some 7) (.p (.un .not (.s
  6))) none, .mk (some 8) (.p (.mv (.s 7))) none, .mk (some 9) (.p (.faddr 1 (.s 1))) (some (8, false)), .mk (some 10) (.r (.load none (.s 9))) (some (8, false)), .mk (some 11) (.p
  (.conv .i64 (.s 10))) (some (8, false)), .mk (some 12) (.e (.call 65 [.s 11])) (some (8, false)), .mk (some 13) (.p (.un .not (.s 12))) (some (8, false)), .mk (some 14) (.p (.pick
  (.s 8) (.c (.bool true)) (.s 13))) none] [1, 14] []) (.cond (.s 14) (.seq (.region [.mk (some 2) (.p (.mv (.c (.int .i64 12)))) none] [2] []) .ret) .skip)) (.seq (.seq (.region
  [.mk (some 15) (.p (.faddr 0 (.s 1))) none, .mk (some 16) (.r (.load none (.s 15))) none, .mk (some 17) (.p (.faddr 1 (.s 1))) none, .mk (some 18) (.r (.load none (.s 17))) none,
  .mk (some 19) (.p (.bin .gtr (.s 16) (.s 18))) none] [19] []) (.cond (.s 19) (.seq (.region [.mk (some 2) (.p (.mv (.c (.int .i64 11)))) none] [2] []) .ret) .skip)) (.seq (.region
  [.mk (some 2) (.p (.mv (.c (.int .i64 0)))) none] [2] []) .ret))))
theorem fn72 : (autoPrg Try.prog).fn 72 = some LF72 := by kernel_rfl

def LF74 : LFunc :=
  .mk 1 [.tmp 2] (.seq (.region [.mk (some 2) (.p (.mv (.c (.int .i32 0)))) none] [0] []) (.seq (.seq (.region [.mk (some 3) (.p (.mv (.s 0))) none, .mk (some 4) (.p (.bin .eql (.s
  3) (.c (.int .i32 55295)))) none] [0, 4] []) (.cond (.s 4) (.seq (.region [.mk (some 2) (.p (.mv (.c (.int .i32 57344)))) none] [2] []) .ret) .skip)) (.seq (.region [.mk (some 5)
  (.p (.mv (.s 0))) none, .mk (some 6) (.p (.bin .add (.s 5) (.c (.int .i32 1)))) none, .mk (some 2) (.p (.mv (.s 6))) none] [2] []) .ret)))
theorem fn74 : (autoPrg Try.prog).fn 74 = some LF74 := by kernel_rfl

def LF15 : LFunc :=
  .mk 1 [.tmp 2] (.seq (.region [.mk (some 2) (.p (.mv (.c (.slice none 0 0)))) none] [0] []) (.seq (.seq (.region [.mk (some 3) (.p (.mv (.s 0))) none, .mk (some 4) (.p (.len (.s
  3))) none, .mk (some 5) (.p (.bin .gtr (.s 4) (.c (.int .i64 60)))) none] [0, 5] []) (.cond (.s 5) (.seq (.region [.mk (some 6) (.p (.mv (.s 0))) none, .mk (some 7) (.p (.sl 2 (.s
  6) none (some (.c (.int .i64 60))) none)) none, .mk (some 2) (.p (.mv (.s 7))) none] [2] []) .ret) .skip)) (.seq (.region [.mk (some 8) (.p (.mv (.s 0))) none, .mk (some 2) (.p
  (.mv (.s 8))) none] [2] []) .ret)))
theorem fn15 : (autoPrg Try.prog).fn 15 = some LF15 := by kernel_rfl

def LF61 : LFunc :=
  .mk 1 [.tmp 2] (.seq (.region [.mk (some 1) (.e (.boxL 1 2 (.s 0))) none, .mk (some 2) (.p (.mv (.c (.int .i64 0)))) none] [1] []) (.seq (.region [.mk (some 4) (.p (.faddr 1 (.s
  1))) none, .mk (some 5) (.r (.load none (.s 4))) none, .mk (some 6) (.p (.conv .i64 (.s 5))) none, .mk (some 7) (.p (.faddr 0 (.s 1))) none, .mk (some 8) (.r (.load none (.s 7)))
  none, .mk (some 9) (.p (.conv .i64 (.s 8))) none, .mk (some 10) (.p (.bin .sub (.s 6) (.s 9))) none, .mk (some 11) (.p (.bin .add (.s 10) (.c (.int .i64 1)))) none, .mk (some 3)
  (.p (.mv (.s 11))) none] [1, 3] []) (.seq (.seq (.region [.mk (some 12) (.p (.faddr 0 (.s 1))) none, .mk (some 13) (.r (.load none (.s 12))) none, .mk (some 14) (.p (.bin .lss (.s
  13) (.c (.int .i32 55296)))) none, .mk (some 15) (.p (.mv (.s 14))) none, .mk (some 16) (.p (.faddr 1 (.s 1))) (some (15, true)), .mk (some 17) (.r (.load none (.s 16))) (some
  (15, true)), .mk (some 18) (.p (.bin .gtr (.s 17) (.c (.int .i32 57343)))) (some (15, true)), .mk (some 19) (.p (.pick (.s 15) (.s 18) (.c (.bool false)))) none] [3, 19] [])
  (.cond (.s 19) (.region [.mk (some 20) (.p (.mv (.s 3))) none, .mk (some 21) (.p (.bin .sub (.s 20) (.c (.int .i64 2048)))) none, .mk (some 3) (.p (.mv (.s 21))) none] [3] [])
  .skip)) (.seq (.region [.mk (some 22) (.p (.mv (.s 3))) none, .mk (some 2) (.p (.mv (.s 22))) none] [2] []) .ret))))
theorem fn61 : (autoPrg Try.prog).fn 61 = some LF61 := by kernel_rfl

def LF16 : LFunc :=
  .mk 2 [.tmp 4] (.seq (.region [.mk (some 3) (.e (.boxL 3 2 (.s 1))) none, .mk (some 4) (.p (.mv (.c (.slice none 0 0)))) none] [0, 3] []) (.seq (.region [.mk (some 7) (.p (.mv (.s
  0))) none, .mk (some 8) (.p (.len (.s 7))) none, .mk (some 9) (.p (.bin .add (.s 8) (.c (.int .i64 80)))) none, .mk (some 10) (.e (.mks 2 8 [.int .i32 0, .int .i32 0] (.s 9) (.s
  9))) none, .mk (some 5) (.p (.mv (.s 10))) none] [0, 3, 5] []) (.seq (.region [.mk (some 11) (.p (.mv (.s 5))) none, .mk (some 12) (.p (.mv (.s 0))) none, .mk (some 13) (.e (.copy
  2 (.s 11) (.s 12))) none] [0, 3, 5] []) (.seq (.seq (.region [.mk (some 14) (.p (.mv (.s 0))) none, .mk (some 15) (.p (.len (.s 14))) none, .mk (some 6) (.p (.mv (.s 15))) none]
  [3, 5, 6] []) (.block 0 (.loop (.seq (.seq (.region [.mk (some 16) (.p (.mv (.s 6))) none, .mk (some 17) (.p (.mv (.s 5))) none, .mk (some 18) (.p (.len (.s 17))) none, .mk (some
  19) (.p (.bin .lss (.s 16) (.s 18))) none] [3, 5, 6, 19] []) (.cond (.s 19) .skip (.exit 0))) (.seq (.block 1 (.region [.mk (some 22) (.p (.mv (.s 5))) none, .mk (some 23) (.p
  (.mv (.s 6))) none, .mk (some 24) (.r (.load (some 2) (.s 3))) none, .mk (some 25) (.p (.iaddr 2 (.s 22) (.s 23))) none, .mk none (.e (.store 2 (.s 25) (.s 24))) none] [3, 5, 6]
  [])) (.region [.mk (some 20) (.p (.mv (.s 6))) none, .mk (some 21) (.p (.bin .add (.s 20) (.c (.int .i64 1)))) none, .mk (some 6) (.p (.mv (.s 21))) none] [3, 5, 6] [])))))) (.seq
  (.region [.mk (some 26) (.p (.mv (.s 5))) none, .mk (some 4) (.p (.mv (.s 26))) none] [4] []) .ret)))))
theorem fn16 : (autoPrg Try.prog).fn 16 = some LF16 := by kernel_rfl

def LF19 : LFunc :=
  .mk 2 [.tmp 4] (.seq (.region [.mk (some 4) (.p (.mv (.c (.bool false)))) none] [0, 1] []) (.seq (.seq (.region [.mk (some 6) (.p (.mv (.s 0))) none, .mk (some 7) (.p (.len (.s
  6))) none, .mk (some 8) (.p (.mv (.s 1))) none, .mk (some 9) (.p (.len (.s 8))) none, .mk (some 10) (.p (.bin .neq (.s 7) (.s 9))) none] [0, 1, 10] []) (.cond (.s 10) (.seq
  (.region [.mk (some 4) (.p (.mv (.c (.bool false)))) none] [4] []) .ret) .skip)) (.seq (.seq (.region [.mk (some 5) (.p (.mv (.c (.int .i64 0)))) none] [0, 1, 5] []) (.block 0
  (.loop (.seq (.seq (.region [.mk (some 11) (.p (.mv (.s 5))) none, .mk (some 12) (.p (.mv (.s 0))) none, .mk (some 13) (.p (.len (.s 12))) none, .mk (some 14) (.p (.bin .lss (.s
  11) (.s 13))) none] [0, 1, 5, 14] []) (.cond (.s 14) .skip (.exit 0))) (.seq (.block 1 (.seq (.region [.mk (some 17) (.p (.mv (.s 0))) none, .mk (some 18) (.p (.mv (.s 5))) none,
  .mk (some 19) (.p (.iaddr 2 (.s 17) (.s 18))) none, .mk (some 20) (.r (.load (some 2) (.s 19))) none, .mk (some 21) (.p (.mv (.s 1))) none, .mk (some 22) (.p (.mv (.s 5))) none,
  .mk (some 23) (.p (.iaddr 2 (.s 21) (.s 22))) none, .mk (some 24) (.r (.load (some 2) (.s 23))) none, .mk (some 25) (.p (.eqA true [.int, .int] (.s 20) (.s 24))) none] [0, 1, 5,
  25] []) (.cond (.s 25) (.seq (.region [.mk (some 4) (.p (.mv (.c (.bool false)))) none] [4] []) .ret) .skip))) (.region [.mk (some 15) (.p (.mv (.s 5))) none, .mk (some 16) (.p
  (.bin .add (.s 15) (.c (.int .i64 1)))) none, .mk (some 5) (.p (.mv (.s 16))) none] [0, 1, 5] [])))))) (.seq (.region [.mk (some 4) (.p (.mv (.c (.bool true)))) none] [4] [])
  .ret))))
theorem fn19 : (autoPrg Try.prog).fn 19 = some LF19 := by kernel_rfl

def LF25 : LFunc :=
  .mk 3 [.tmp 6] (.seq (.region [.mk (some 5) (.e (.boxL 5 2 (.s 2))) none, .mk (some 6) (.p (.mv (.c (.bool false)))) none] [0, 1, 5] []) (.seq (.seq (.region [.mk (some 8) (.p
  (.mv (.s 0))) none, .mk (some 9) (.p (.len (.s 8))) none, .mk (some 10) (.p (.mv (.s 1))) none, .mk (some 11) (.p (.len (.s 10))) none, .mk (some 12) (.p (.bin .add (.s 11) (.c
  (.int .i64 80)))) none, .mk (some 13) (.p (.bin .neq (.s 9) (.s 12))) none, .mk (some 14) (.p (.mv (.s 13))) none, .mk (some 15) (.p (.mv (.s 0))) (some (14, false)), .mk (some
  16) (.p (.mv (.s 1))) (some (14, false)), .mk (some 17) (.p (.len (.s 16))) (some (14, false)), .mk (some 18) (.p (.sl 2 (.s 15) none (some (.s 17)) none)) (some (14, false)), .mk
  (some 19) (.p (.mv (.s 1))) (some (14, false)), .mk (some 20) (.e (.call 19 [.s 18, .s 19])) (some (14, false)), .mk (some 21) (.p (.un .not (.s 20))) (some (14, false)), .mk
  (some 22) (.p (.pick (.s 14) (.c (.bool true)) (.s 21))) none] [0, 1, 5, 22] []) (.cond (.s 22) (.seq (.region [.mk (some 6) (.p (.mv (.c (.bool false)))) none] [6] []) .ret)
  .skip)) (.seq (.seq (.region [.mk (some 23) (.p (.mv (.s 1))) none, .mk (some 24) (.p (.len (.s 23))) none, .mk (some 7) (.p (.mv (.s 24))) none] [0, 5, 7] []) (.block 0 (.loop
  (.seq (.seq (.region [.mk (some 25) (.p (.mv (.s 7))) none, .mk (some 26) (.p (.mv (.s 0))) none, .mk (some 27) (.p (.len (.s 26))) none, .mk (some 28) (.p (.bin .lss (.s 25) (.s
  27))) none] [0, 5, 7, 28] []) (.cond (.s 28) .skip (.exit 0))) (.seq (.block 1 (.seq (.region [.mk (some 31) (.p (.mv (.s 0))) none, .mk (some 32) (.p (.mv (.s 7))) none, .mk
  (some 33) (.p (.iaddr 2 (.s 31) (.s 32))) none, .mk (some 34) (.r (.load (some 2) (.s 33))) none, .mk (some 35) (.r (.load (some 2) (.s 5))) none, .mk (some 36) (.p (.eqA true
  [.int, .int] (.s 34) (.s 35))) none] [0, 5, 7, 36] []) (.cond (.s 36) (.seq (.region [.mk (some 6) (.p (.mv (.c (.bool false)))) none] [6] []) .ret) .skip))) (.region [.mk (some
  29) (.p (.mv (.s 7))) none, .mk (some 30) (.p (.bin .add (.s 29) (.c (.int .i64 1)))) none, .mk (some 7) (.p (.mv (.s 30))) none] [0, 5, 7] [])))))) (.seq (.region [.mk (some 6)
  (.p (.mv (.c (.bool true)))) none] [6] []) .ret))))
theorem fn25 : (autoPrg Try.prog).fn 25 = some LF25 := by kernel_rfl

def LF32 : LFunc :=
  .mk 1 [.tmp 2, .tmp 3] (.seq (.region [.mk (some 2) (.p (.mv (.c (.int .i64 0)))) none, .mk (some 3) (.p (.mv (.c (.int .i64 0)))) none] [0] []) (.seq (.seq (.region [.mk (some 7)
  (.p (.mv (.s 0))) none, .mk (some 8) (.p (.len (.s 7))) none, .mk (some 9) (.p (.mv (.c (.int .i64 0)))) none] [0, 7, 8, 9] []) (.block 0 (.loop (.seq (.region [.mk (some 10) (.p
  (.bin .lss (.s 9) (.s 8))) none] [0, 7, 8, 9, 10] []) (.seq (.cond (.s 10) .skip (.exit 0)) (.seq (.block 1 (.seq (.region [.mk (some 11) (.p (.mv (.s 9))) none, .mk (some 12) (.p
  (.iaddr 2 (.s 7) (.s 9))) none, .mk (some 13) (.r (.load (some 2) (.s 12))) none, .mk (some 5) (.e (.newL 5 [.int .i32 0, .int .i32 0])) none, .mk (some 4) (.p (.mv (.s 11)))
  none, .mk none (.e (.store 2 (.s 5) (.s 13))) none] [0, 4, 5, 7, 8, 9] []) (.seq (.seq (.region [.mk (some 14) (.r (.load (some 2) (.s 5))) none, .mk (some 15) (.e (.call 71 [.s
  14])) none, .mk (some 6) (.p (.mv (.s 15))) none] [0, 4, 5, 6, 7, 8, 9] []) (.seq (.region [.mk (some 16) (.p (.mv (.s 6))) none, .mk (some 17) (.p (.bin .neq (.s 16) (.c (.int
  .i64 0)))) none] [0, 4, 5, 6, 7, 8, 9, 17] []) (.cond (.s 17) (.seq (.region [.mk (some 18) (.p (.mv (.s 4))) none, .mk (some 19) (.p (.mv (.s 6))) none, .mk (some 2) (.p (.mv (.s
  18))) none, .mk (some 3) (.p (.mv (.s 19))) none] [2, 3] []) .ret) .skip))) (.seq (.region [.mk (some 20) (.p (.mv (.s 4))) none, .mk (some 21) (.p (.bin .gtr (.s 20) (.c (.int
  .i64 0)))) none, .mk (some 22) (.p (.mv (.s 21))) none, .mk (some 23) (.p (.faddr 0 (.s 5))) (some (22, true)), .mk (some 24) (.r (.load none (.s 23))) (some (22, true)), .mk
  (some 25) (.p (.mv (.s 0))) (some (22, true)), .mk (some 26) (.p (.mv (.s 4))) (some (22, true)), .mk (some 27) (.p (.bin .sub (.s 26) (.c (.int .i64 1)))) (some (22, true)), .mk
  (some 28) (.p (.iaddr 2 (.s 25) (.s 27))) (some (22, true)), .mk (some 29) (.p (.faddr 1 (.s 28))) (some (22, true)), .mk (some 30) (.r (.load none (.s 29))) (some (22, true)),
  .mk (some 31) (.p (.bin .leq (.s 24) (.s 30))) (some (22, true)), .mk (some 32) (.p (.pick (.s 22) (.s 31) (.c (.bool false)))) none] [0, 4, 7, 8, 9, 32] []) (.cond (.s 32) (.seq
  (.region [.mk (some 33) (.p (.mv (.s 4))) none, .mk (some 2) (.p (.mv (.s 33))) none, .mk (some 3) (.p (.mv (.c (.int .i64 13)))) none] [2, 3] []) .ret) .skip))))) (.region [.mk
  (some 34) (.p (.bin .add (.s 9) (.c (.int .i64 1)))) none, .mk (some 9) (.p (.mv (.s 34))) none] [0, 7, 8, 9] []))))))) (.seq (.region [.mk (some 2) (.p (.mv (.c (.int .i64 0))))
  none, .mk (some 3) (.p (.mv (.c (.int .i64 0)))) none] [2, 3] []) .ret)))
theorem fn32 : (autoPrg Try.prog).fn 32 = some LF32 := by kernel_rfl

def LF33 : LFunc :=
  .mk 1 [.tmp 2, .tmp 3] (.seq (.region [.mk (some 2) (.p (.mv (.c (.int .i64 0)))) none, .mk (some 3) (.p (.mv (.c (.int .i64 0)))) none] [0] []) (.seq (.seq (.region [.mk (some 4)
  (.p (.mv (.c (.int .i64 0)))) none] [0, 4] []) (.block 0 (.loop (.seq (.seq (.region [.mk (some 5) (.p (.mv (.s 4))) none, .mk (some 6) (.p (.mv (.s 0))) none, .mk (some 7) (.p
  (.len (.s 6))) none, .mk (some 8) (.p (.bin .lss (.s 5) (.s 7))) none] [0, 4, 8] []) (.cond (.s 8) .skip (.exit 0))) (.seq (.block 1 (.seq (.seq (.region [.mk (some 11) (.p (.mv
  (.s 0))) none, .mk (some 12) (.p (.mv (.s 4))) none, .mk (some 13) (.p (.iaddr 2 (.s 11) (.s 12))) none, .mk (some 14) (.r (.load (some 2) (.s 13))) none, .mk (some 15) (.e (.call
  72 [.s 14])) none, .mk (some 16) (.p (.bin .neq (.s 15) (.c (.int .i64 0)))) none] [0, 4, 16] []) (.cond (.s 16) (.seq (.region [.mk (some 17) (.p (.mv (.s 4))) none, .mk (some
  18) (.p (.mv (.s 0))) none, .mk (some 19) (.p (.mv (.s 4))) none, .mk (some 20) (.p (.iaddr 2 (.s 18) (.s 19))) none, .mk (some 21) (.r (.load (some 2) (.s 20))) none, .mk (some
  22) (.e (.call 72 [.s 21])) none, .mk (some 2) (.p (.mv (.s 17))) none, .mk (some 3) (.p (.mv (.s 22))) none] [2, 3] []) .ret) .skip)) (.seq (.region [.mk (some 23) (.p (.mv (.s
  4))) none, .mk (some 24) (.p (.bin .gtr (.s 23) (.c (.int .i64 0)))) none, .mk (some 25) (.p (.mv (.s 24))) none, .mk (some 26) (.p (.mv (.s 0))) (some (25, true)), .mk (some 27)
  (.p (.mv (.s 4))) (some (25, true)), .mk (some 28) (.p (.iaddr 2 (.s 26) (.s 27))) (some (25, true)), .mk (some 29) (.p (.faddr 0 (.s 28))) (some (25, true)), .mk (some 30) (.r
  (.load none (.s 29))) (some (25, true)), .mk (some 31) (.p (.mv (.s 0))) (some (25, true)), .mk (some 32) (.p (.mv (.s 4))) (some (25, true)), .mk (some 33) (.p (.bin .sub (.s 32)
  (.c (.int .i64 1)))) (some (25, true)), .mk (some 34) (.p (.iaddr 2 (.s 31) (.s 33))) (some (25, true)), .mk (some 35) (.p (.faddr 1 (.s 34))) (some (25, true)), .mk (some 36) (.r
  (.load none (.s 35))) (some (25, true)), .mk (some 37) (.p (.bin .leq (.s 30) (.s 36))) (some (25, true)), .mk (some 38) (.p (.pick (.s 25) (.s 37) (.c (.bool false)))) none] [0,
  4, 38] []) (.cond (.s 38) (.seq (.region [.mk (some 39) (.p (.mv (.s 4))) none, .mk (some 2) (.p (.mv (.s 39))) none, .mk (some 3) (.p (.mv (.c (.int .i64 13)))) none] [2, 3] [])
  .ret) .skip)))) (.region [.mk (some 9) (.p (.mv (.s 4))) none, .mk (some 10) (.p (.bin .add (.s 9) (.c (.int .i64 1)))) none, .mk (some 4) (.p (.mv (.s 10))) none] [0, 4] []))))))
  (.seq (.region [.mk (some 2) (.p (.mv (.c (.int .i64 0)))) none, .mk (some 3) (.p (.mv (.c (.int .i64 0)))) none] [2, 3] []) .ret)))
theorem fn33 : (autoPrg Try.prog).fn 33 = some LF33 := by kernel_rfl

def LF6 : LFunc :=
  .mk 1 [.tmp 2] (.seq (.region [.mk (some 2) (.p (.mv (.c (.bool false)))) none] [0] []) (.seq (.region [.mk (some 8) (.p (.mv (.s 0))) none, .mk (some 9) (.p (.build [.int .i32 0,
  .int .i32 0] [(0, 1, .c (.int .i32 7)), (1, 1, .c (.int .i32 7))])) none, .mk (some 10) (.e (.call 16 [.s 8, .s 9])) none, .mk (some 3) (.p (.mv (.s 10))) none] [0, 3] []) (.seq
  (.region [.mk (some 12) (.p (.mv (.s 3))) none, .mk (some 13) (.p (.mv (.s 0))) none, .mk (some 14) (.p (.len (.s 13))) none, .mk (some 15) (.p (.sl 2 (.s 12) none (some (.s 14))
  none)) none, .mk (some 16) (.e (.call 32 [.s 15])) none, .mk (some 11) (.p (.mv (.s 16))) none, .mk (some 17) (.p (.ext 0 (.s 11))) none, .mk (some 18) (.p (.ext 1 (.s 11))) none,
  .mk (some 4) (.p (.mv (.s 17))) none, .mk (some 5) (.p (.mv (.s 18))) none] [0, 3, 4, 5] []) (.seq (.region [.mk (some 20) (.p (.mv (.s 0))) none, .mk (some 21) (.e (.call 33 [.s
  20])) none, .mk (some 19) (.p (.mv (.s 21))) none, .mk (some 22) (.p (.ext 0 (.s 19))) none, .mk (some 23) (.p (.ext 1 (.s 19))) none, .mk (some 6) (.p (.mv (.s 22))) none, .mk
  (some 7) (.p (.mv (.s 23))) none] [0, 3, 4, 5, 6, 7] []) (.seq (.region [.mk (some 24) (.e (.call 14 [])) none, .mk (some 25) (.p (.mv (.s 24))) none, .mk (some 26) (.p (.mv (.s
  4))) (some (25, true)), .mk (some 27) (.p (.mv (.s 6))) (some (25, true)), .mk (some 28) (.p (.bin .eql (.s 26) (.s 27))) (some (25, true)), .mk (some 29) (.p (.pick (.s 25) (.s
  28) (.c (.bool false)))) none, .mk (some 30) (.p (.mv (.s 29))) none, .mk (some 31) (.p (.mv (.s 5))) (some (30, true)), .mk (some 32) (.p (.mv (.s 7))) (some (30, true)), .mk
  (some 33) (.p (.bin .eql (.s 31) (.s 32))) (some (30, true)), .mk (some 34) (.p (.pick (.s 30) (.s 33) (.c (.bool false)))) none, .mk (some 35) (.p (.mv (.s 34))) none, .mk (some
  36) (.p (.mv (.s 3))) (some (35, true)), .mk (some 37) (.p (.mv (.s 0))) (some (35, true)), .mk (some 38) (.p (.build [.int .i32 0, .int .i32 0] [(0, 1, .c (.int .i32 7)), (1, 1,
  .c (.int .i32 7))])) (some (35, true)), .mk (some 39) (.e (.call 25 [.s 36, .s 37, .s 38])) (some (35, true)), .mk (some 40) (.p (.pick (.s 35) (.s 39) (.c (.bool false)))) none,
  .mk (some 2) (.p (.mv (.s 40))) none] [2] []) .ret)))))
theorem fn6 : (autoPrg Try.prog).fn 6 = some LF6 := by kernel_rfl

end Go.Proofs.Ytanpdopjgepbkaa.AM
/- What the small functions answer. -/
set_option linter.unusedVariables false
set_option linter.unusedSimpArgs false
namespace Go.Proofs.Ytanpdopjgepbkaa.AM
open Go

abbrev IsRune (n : Int) : Prop := 0 ≤ n ∧ n < 0xd800 ∨ 0xdfff < n ∧ n ≤ 0x10ffff

theorem dec_t {c : Prop} [Decidable c] (h : c) : Value.bool true = .bool (decide c) := by simp [h]
theorem dec_f {c : Prop} [Decidable c] (h : ¬ c) : Value.bool false = .bool (decide c) := by simp [h]

@[push_cast] theorem validRune_eq (n : Int) (h : AH) : callO PS 62 [.int .i32 n] h = some (.bool (decide (IsRune n)), h) := by
  apply WpC.eqn
  refine wpc_fn (ps_ext rfl) (ps_fn fn62) rfl ?_
  unfold LF62
  simp only [argFr]
  (repeat' first
    | (show WpR _ _ _ _ _ _ _ _ _
       first
       | refine wpr_drop ?_
       | refine wpr_p (o := .mv _) (by simp only [ev_mv, opd_s, opd_c, fget, Nat.reduceEqDiff, Nat.one_ne_zero, Nat.zero_ne_one, reduceCtorEq, ↓reduceIte]; rfl) ?_
       | (refine wpr_fork (fun _ => ?_) (fun _ => ?_) <;> try (exfalso; omega))
       | (refine wpr_forkN (fun _ => ?_) (fun _ => ?_) <;> try (exfalso; omega))
       | refine wpr_run rfl ?_
       | refine wpr_pass rfl rfl ?_
       | refine wpr_passS rfl ?_
       | ((first | apply wpr_p | apply wpr_r | apply wpr_callA | apply wpr_callA0 | apply wpr_e0 | apply wpr_e | apply wpr_end0); focus ((try simp (disch := omega) only [push_cast, Nat.reduceEqDiff, ↓reduceIte, reduceCtorEq, Nat.reduceAdd, Nat.reduceMul, Nat.reduceLeDiff]); rfl))
       | refine wpr_pass0 rfl rfl ?_
       | refine wpr_pass0S rfl ?_
       | (apply wpr_end; (focus ((try simp (disch := omega) only [push_cast, Nat.reduceEqDiff, ↓reduceIte, reduceCtorEq, Nat.reduceAdd, Nat.reduceMul, Nat.reduceLeDiff]); rfl)); (focus (simp (disch := omega) only [push_cast, Nat.reduceEqDiff, ↓reduceIte, reduceCtorEq, Nat.reduceAdd, Nat.reduceMul, Nat.reduceLeDiff]; done)))
       | fail)
    | (show Wp _ _ _ _ _ _
       first
       | refine wp_seq ?_
       | refine wp_region0 ?_
       | refine wp_region ?_
       | refine wp_cond_t rfl ?_
       | refine wp_cond_f rfl ?_
       | refine wp_ret ?_
       | refine wp_skip ?_
       | refine wp_exit ?_
       | refine wp_block ?_
       | fail)
    | refine thenQ_norm ?_
    | refine thenQ_ret ?_
    | refine thenQ_exit ?_
    | refine blockQ_norm ?_
    | refine blockQ_ret ?_
    | refine blockQ_same ?_
    | refine blockQ_ne rfl ?_
    | refine loopQ_norm ?_
    | refine loopQ_ret ?_
    | refine loopQ_exit ?_
    | ((first | apply retQ_ret | apply retQ_norm | apply wpc_of); focus ((try simp (disch := omega) only [push_cast, Nat.reduceEqDiff, ↓reduceIte, reduceCtorEq, Nat.reduceAdd, Nat.reduceMul, Nat.reduceLeDiff]); rfl))
    | fail)
  all_goals refine ⟨?_, rfl⟩
  all_goals first | exact dec_t (by omega) | exact dec_f (by omega)

@[push_cast] theorem refRune_eq (n : Int) (h : AH) : callO PS 65 [.int .i64 n] h = some (.bool (decide (IsRune n)), h) := by
  apply WpC.eqn
  refine wpc_fn (ps_ext rfl) (ps_fn fn65) rfl ?_
  unfold LF65
  simp only [argFr]
  (repeat' first
    | (show WpR _ _ _ _ _ _ _ _ _
       first
       | refine wpr_drop ?_
       | refine wpr_p (o := .mv _) (by simp only [ev_mv, opd_s, opd_c, fget, Nat.reduceEqDiff, Nat.one_ne_zero, Nat.zero_ne_one, reduceCtorEq, ↓reduceIte]; rfl) ?_
       | (refine wpr_fork (fun _ => ?_) (fun _ => ?_) <;> try (exfalso; omega))
       | (refine wpr_forkN (fun _ => ?_) (fun _ => ?_) <;> try (exfalso; omega))
       | refine wpr_run rfl ?_
       | refine wpr_pass rfl rfl ?_
       | refine wpr_passS rfl ?_
       | ((first | apply wpr_p | apply wpr_r | apply wpr_callA | apply wpr_callA0 | apply wpr_e0 | apply wpr_e | apply wpr_end0); focus ((try simp (disch := omega) only [push_cast, Nat.reduceEqDiff, ↓reduceIte, reduceCtorEq, Nat.reduceAdd, Nat.reduceMul, Nat.reduceLeDiff]); rfl))
       | refine wpr_pass0 rfl rfl ?_
       | refine wpr_pass0S rfl ?_
       | (apply wpr_end; (focus ((try simp (disch := omega) only [push_cast, Nat.reduceEqDiff, ↓reduceIte, reduceCtorEq, Nat.reduceAdd, Nat.reduceMul, Nat.reduceLeDiff]); rfl)); (focus (simp (disch := omega) only [push_cast, Nat.reduceEqDiff, ↓reduceIte, reduceCtorEq, Nat.reduceAdd, Nat.reduceMul, Nat.reduceLeDiff]; done)))
       | fail)
    | (show Wp _ _ _ _ _ _
       first
       | refine wp_seq ?_
       | refine wp_region0 ?_
       | refine wp_region ?_
       | refine wp_cond_t rfl ?_
       | refine wp_cond_f rfl ?_
       | refine wp_ret ?_
       | refine wp_skip ?_
       | refine wp_exit ?_
       | refine wp_block ?_
       | fail)
    | refine thenQ_norm ?_
    | refine thenQ_ret ?_
    | refine thenQ_exit ?_
    | refine blockQ_norm ?_
    | refine blockQ_ret ?_
    | refine blockQ_same ?_
    | refine blockQ_ne rfl ?_
    | refine loopQ_norm ?_
    | refine loopQ_ret ?_
    | refine loopQ_exit ?_
    | ((first | apply retQ_ret | apply retQ_norm | apply wpc_of); focus ((try simp (disch := omega) only [push_cast, Nat.reduceEqDiff, ↓reduceIte, reduceCtorEq, Nat.reduceAdd, Nat.reduceMul, Nat.reduceLeDiff]); rfl))
    | fail)
  all_goals refine ⟨?_, rfl⟩
  all_goals first | exact dec_t (by omega) | exact dec_f (by omega)

/-- A rune's rank. -/
def rankF (n : Int) : Int := if n < 0xd800 then max n 0 else if n < 0xe000 then 0xd800 else min (n - 2048) 1112064
def runeF (n : Int) : Int := if n ≥ 0xd800 then n + 2048 else n

@[push_cast] theorem rank_eq (n : Int) (h : AH) (h1 : -2147483648 ≤ n) (h2 : n ≤ 2147483648) : callO PS 64 [.int .i64 n] h = some (.int .i64 (rankF n), h) := by
  apply WpC.eqn
  refine wpc_fn (ps_ext rfl) (ps_fn fn64) rfl ?_
  unfold LF64
  simp only [argFr]
  (repeat' first
    | (show WpR _ _ _ _ _ _ _ _ _
       first
       | refine wpr_drop ?_
       | refine wpr_p (o := .mv _) (by simp only [ev_mv, opd_s, opd_c, fget, Nat.reduceEqDiff, Nat.one_ne_zero, Nat.zero_ne_one, reduceCtorEq, ↓reduceIte]; rfl) ?_
       | (refine wpr_fork (fun _ => ?_) (fun _ => ?_) <;> try (exfalso; omega))
       | (refine wpr_forkN (fun _ => ?_) (fun _ => ?_) <;> try (exfalso; omega))
       | refine wpr_run rfl ?_
       | refine wpr_pass rfl rfl ?_
       | refine wpr_passS rfl ?_
       | ((first | apply wpr_p | apply wpr_r | apply wpr_callA | apply wpr_callA0 | apply wpr_e0 | apply wpr_e | apply wpr_end0); focus ((try simp (disch := omega) only [push_cast, Nat.reduceEqDiff, ↓reduceIte, reduceCtorEq, Nat.reduceAdd, Nat.reduceMul, Nat.reduceLeDiff]); rfl))
       | refine wpr_pass0 rfl rfl ?_
       | refine wpr_pass0S rfl ?_
       | (apply wpr_end; (focus ((try simp (disch := omega) only [push_cast, Nat.reduceEqDiff, ↓reduceIte, reduceCtorEq, Nat.reduceAdd, Nat.reduceMul, Nat.reduceLeDiff]); rfl)); (focus (simp (disch := omega) only [push_cast, Nat.reduceEqDiff, ↓reduceIte, reduceCtorEq, Nat.reduceAdd, Nat.reduceMul, Nat.reduceLeDiff]; done)))
       | fail)
    | (show Wp _ _ _ _ _ _
       first
       | refine wp_seq ?_
       | refine wp_region0 ?_
       | refine wp_region ?_
       | refine wp_cond_t rfl ?_
       | refine wp_cond_f rfl ?_
       | refine wp_ret ?_
       | refine wp_skip ?_
       | refine wp_exit ?_
       | refine wp_block ?_
       | fail)
    | refine thenQ_norm ?_
    | refine thenQ_ret ?_
    | refine thenQ_exit ?_
    | refine blockQ_norm ?_
    | refine blockQ_ret ?_
    | refine blockQ_same ?_
    | refine blockQ_ne rfl ?_
    | refine loopQ_norm ?_
    | refine loopQ_ret ?_
    | refine loopQ_exit ?_
    | ((first | apply retQ_ret | apply retQ_norm | apply wpc_of); focus ((try simp (disch := omega) only [push_cast, Nat.reduceEqDiff, ↓reduceIte, reduceCtorEq, Nat.reduceAdd, Nat.reduceMul, Nat.reduceLeDiff]); rfl))
    | fail)
  all_goals first | refine ⟨?_, rfl⟩
  all_goals (unfold rankF; congr 1; omega)

@[push_cast] theorem runeOf_eq (n : Int) (h : AH) (h1 : -1000000000 ≤ n) (h2 : n ≤ 1000000000) : callO PS 60 [.int .i64 n] h = some (.int .i32 (runeF n), h) := by
  apply WpC.eqn
  refine wpc_fn (ps_ext rfl) (ps_fn fn60) rfl ?_
  unfold LF60
  simp only [argFr]
  (repeat' first
    | (show WpR _ _ _ _ _ _ _ _ _
       first
       | refine wpr_drop ?_
       | refine wpr_p (o := .mv _) (by simp only [ev_mv, opd_s, opd_c, fget, Nat.reduceEqDiff, Nat.one_ne_zero, Nat.zero_ne_one, reduceCtorEq, ↓reduceIte]; rfl) ?_
       | (refine wpr_fork (fun _ => ?_) (fun _ => ?_) <;> try (exfalso; omega))
       | (refine wpr_forkN (fun _ => ?_) (fun _ => ?_) <;> try (exfalso; omega))
       | refine wpr_run rfl ?_
       | refine wpr_pass rfl rfl ?_
       | refine wpr_passS rfl ?_
       | ((first | apply wpr_p | apply wpr_r | apply wpr_callA | apply wpr_callA0 | apply wpr_e0 | apply wpr_e | apply wpr_end0); focus ((try simp (disch := omega) only [push_cast, Nat.reduceEqDiff, ↓reduceIte, reduceCtorEq, Nat.reduceAdd, Nat.reduceMul, Nat.reduceLeDiff]); rfl))
       | refine wpr_pass0 rfl rfl ?_
       | refine wpr_pass0S rfl ?_
       | (apply wpr_end; (focus ((try simp (disch := omega) only [push_cast, Nat.reduceEqDiff, ↓reduceIte, reduceCtorEq, Nat.reduceAdd, Nat.reduceMul, Nat.reduceLeDiff]); rfl)); (focus (simp (disch := omega) only [push_cast, Nat.reduceEqDiff, ↓reduceIte, reduceCtorEq, Nat.reduceAdd, Nat.reduceMul, Nat.reduceLeDiff]; done)))
       | fail)
    | (show Wp _ _ _ _ _ _
       first
       | refine wp_seq ?_
       | refine wp_region0 ?_
       | refine wp_region ?_
       | refine wp_cond_t rfl ?_
       | refine wp_cond_f rfl ?_
       | refine wp_ret ?_
       | refine wp_skip ?_
       | refine wp_exit ?_
       | refine wp_block ?_
       | fail)
    | refine thenQ_norm ?_
    | refine thenQ_ret ?_
    | refine thenQ_exit ?_
    | refine blockQ_norm ?_
    | refine blockQ_ret ?_
    | refine blockQ_same ?_
    | refine blockQ_ne rfl ?_
    | refine loopQ_norm ?_
    | refine loopQ_ret ?_
    | refine loopQ_exit ?_
    | ((first | apply retQ_ret | apply retQ_norm | apply wpc_of); focus ((try simp (disch := omega) only [push_cast, Nat.reduceEqDiff, ↓reduceIte, reduceCtorEq, Nat.reduceAdd, Nat.reduceMul, Nat.reduceLeDiff]); rfl))
    | fail)
  all_goals refine ⟨?_, rfl⟩
  all_goals (unfold runeF; congr 1; omega)

def wrongF (x : Int × Int) : Int := if ¬ IsRune x.1 ∨ ¬ IsRune x.2 then 12 else if x.2 < x.1 then 11 else 0
def spanV (x : Int × Int) : List Value := [.int .i32 x.1, .int .i32 x.2]

@[push_cast] theorem wrong_eq (x y : Int) (h : AH) : callO PS 71 [.agg (List.toArray [.int .i32 x, .int .i32 y])] h = some (.int .i64 (wrongF (x, y)), h) := by
  apply WpC.eqn
  refine wpc_fn (ps_ext rfl) (ps_fn fn71) rfl ?_
  unfold LF71
  simp only [argFr]
  (repeat' first
    | (show WpR _ _ _ _ _ _ _ _ _
       first
       | refine wpr_drop ?_
       | refine wpr_p (o := .mv _) (by simp only [ev_mv, opd_s, opd_c, fget, Nat.reduceEqDiff, Nat.one_ne_zero, Nat.zero_ne_one, reduceCtorEq, ↓reduceIte]; rfl) ?_
       | (refine wpr_fork (fun _ => ?_) (fun _ => ?_) <;> try (exfalso; omega))
       | (refine wpr_forkN (fun _ => ?_) (fun _ => ?_) <;> try (exfalso; omega))
       | refine wpr_run rfl ?_
       | refine wpr_pass rfl rfl ?_
       | refine wpr_passS rfl ?_
       | ((first | apply wpr_p | apply wpr_r | apply wpr_callA | apply wpr_callA0 | apply wpr_e0 | apply wpr_e | apply wpr_end0); focus ((try simp (disch := omega) only [push_cast, Nat.reduceEqDiff, ↓reduceIte, reduceCtorEq, Nat.reduceAdd, Nat.reduceMul, Nat.reduceLeDiff]); rfl))
       | refine wpr_pass0 rfl rfl ?_
       | refine wpr_pass0S rfl ?_
       | (apply wpr_end; (focus ((try simp (disch := omega) only [push_cast, Nat.reduceEqDiff, ↓reduceIte, reduceCtorEq, Nat.reduceAdd, Nat.reduceMul, Nat.reduceLeDiff]); rfl)); (focus (simp (disch := omega) only [push_cast, Nat.reduceEqDiff, ↓reduceIte, reduceCtorEq, Nat.reduceAdd, Nat.reduceMul, Nat.reduceLeDiff]; done)))
       | fail)
    | (show Wp _ _ _ _ _ _
       first
       | refine wp_seq ?_
       | refine wp_region0 ?_
       | refine wp_region ?_
       | refine wp_cond_t rfl ?_
       | refine wp_cond_f rfl ?_
       | refine wp_ret ?_
       | refine wp_skip ?_
       | refine wp_exit ?_
       | refine wp_block ?_
       | fail)
    | refine thenQ_norm ?_
    | refine thenQ_ret ?_
    | refine thenQ_exit ?_
    | refine blockQ_norm ?_
    | refine blockQ_ret ?_
    | refine blockQ_same ?_
    | refine blockQ_ne rfl ?_
    | refine loopQ_norm ?_
    | refine loopQ_ret ?_
    | refine loopQ_exit ?_
    | ((first | apply retQ_ret | apply retQ_norm | apply wpc_of); focus ((try simp (disch := omega) only [push_cast, Nat.reduceEqDiff, ↓reduceIte, reduceCtorEq, Nat.reduceAdd, Nat.reduceMul, Nat.reduceLeDiff]); rfl))
    | fail)
  all_goals refine ⟨?_, rfl⟩
  all_goals (unfold wrongF; congr 1; omega)

@[push_cast] theorem refWrong_eq (x y : Int) (h : AH) (h1 : -2147483648 ≤ x ∧ x < 2147483648) (h2 : -2147483648 ≤ y ∧ y < 2147483648) : callO PS 72 [.agg (List.toArray [.int .i32 x, .int .i32 y])] h = some (.int .i64 (wrongF (x, y)), h) := by
  apply WpC.eqn
  refine wpc_fn (ps_ext rfl) (ps_fn fn72) rfl ?_
  unfold LF72
  simp only [argFr]
  (repeat' first
    | (show WpR _ _ _ _ _ _ _ _ _
       first
       | refine wpr_drop ?_
       | refine wpr_p (o := .mv _) (by simp only [ev_mv, opd_s, opd_c, fget, Nat.reduceEqDiff, Nat.one_ne_zero, Nat.zero_ne_one, reduceCtorEq, ↓reduceIte]; rfl) ?_
       | (refine wpr_fork (fun _ => ?_) (fun _ => ?_) <;> try (exfalso; omega))
       | (refine wpr_forkN (fun _ => ?_) (fun _ => ?_) <;> try (exfalso; omega))
       | refine wpr_run rfl ?_
       | refine wpr_pass rfl rfl ?_
       | refine wpr_passS rfl ?_
       | ((first | apply wpr_p | apply wpr_r | apply wpr_callA | apply wpr_callA0 | apply wpr_e0 | apply wpr_e | apply wpr_end0); focus ((try simp (disch := omega) only [push_cast, Nat.reduceEqDiff, ↓reduceIte, reduceCtorEq, Nat.reduceAdd, Nat.reduceMul, Nat.reduceLeDiff]); rfl))
       | refine wpr_pass0 rfl rfl ?_
       | refine wpr_pass0S rfl ?_
       | (apply wpr_end; (focus ((try simp (disch := omega) only [push_cast, Nat.reduceEqDiff, ↓reduceIte, reduceCtorEq, Nat.reduceAdd, Nat.reduceMul, Nat.reduceLeDiff]); rfl)); (focus (simp (disch := omega) only [push_cast, Nat.reduceEqDiff, ↓reduceIte, reduceCtorEq, Nat.reduceAdd, Nat.reduceMul, Nat.reduceLeDiff]; done)))
       | fail)
    | (show Wp _ _ _ _ _ _
       first
       | refine wp_seq ?_
       | refine wp_region0 ?_
       | refine wp_region ?_
       | refine wp_cond_t rfl ?_
       | refine wp_cond_f rfl ?_
       | refine wp_ret ?_
       | refine wp_skip ?_
       | refine wp_exit ?_
       | refine wp_block ?_
       | fail)
    | refine thenQ_norm ?_
    | refine thenQ_ret ?_
    | refine thenQ_exit ?_
    | refine blockQ_norm ?_
    | refine blockQ_ret ?_
    | refine blockQ_same ?_
    | refine blockQ_ne rfl ?_
    | refine loopQ_norm ?_
    | refine loopQ_ret ?_
    | refine loopQ_exit ?_
    | ((first | apply retQ_ret | apply retQ_norm | apply wpc_of); focus ((try simp (disch := omega) only [push_cast, Nat.reduceEqDiff, ↓reduceIte, reduceCtorEq, Nat.reduceAdd, Nat.reduceMul, Nat.reduceLeDiff]); rfl))
    | fail)
  all_goals refine ⟨?_, rfl⟩
  all_goals (unfold wrongF; congr 1; omega)

def upF (n : Int) : Int := if n = 0xd7ff then 0xe000 else n + 1
@[push_cast] theorem up_eq (n : Int) (h : AH) (h1 : -2147483648 ≤ n) (h2 : n < 2147483647) : callO PS 74 [.int .i32 n] h = some (.int .i32 (upF n), h) := by
  apply WpC.eqn
  refine wpc_fn (ps_ext rfl) (ps_fn fn74) rfl ?_
  unfold LF74
  simp only [argFr]
  (repeat' first
    | (show WpR _ _ _ _ _ _ _ _ _
       first
       | refine wpr_drop ?_
       | refine wpr_p (o := .mv _) (by simp only [ev_mv, opd_s, opd_c, fget, Nat.reduceEqDiff, Nat.one_ne_zero, Nat.zero_ne_one, reduceCtorEq, ↓reduceIte]; rfl) ?_
       | (refine wpr_fork (fun _ => ?_) (fun _ => ?_) <;> try (exfalso; omega))
       | (refine wpr_forkN (fun _ => ?_) (fun _ => ?_) <;> try (exfalso; omega))
       | refine wpr_run rfl ?_
       | refine wpr_pass rfl rfl ?_
       | refine wpr_passS rfl ?_
       | ((first | apply wpr_p | apply wpr_r | apply wpr_callA | apply wpr_callA0 | apply wpr_e0 | apply wpr_e | apply wpr_end0); focus ((try simp (disch := omega) only [push_cast, Nat.reduceEqDiff, ↓reduceIte, reduceCtorEq, Nat.reduceAdd, Nat.reduceMul, Nat.reduceLeDiff]); rfl))
       | refine wpr_pass0 rfl rfl ?_
       | refine wpr_pass0S rfl ?_
       | (apply wpr_end; (focus ((try simp (disch := omega) only [push_cast, Nat.reduceEqDiff, ↓reduceIte, reduceCtorEq, Nat.reduceAdd, Nat.reduceMul, Nat.reduceLeDiff]); rfl)); (focus (simp (disch := omega) only [push_cast, Nat.reduceEqDiff, ↓reduceIte, reduceCtorEq, Nat.reduceAdd, Nat.reduceMul, Nat.reduceLeDiff]; done)))
       | fail)
    | (show Wp _ _ _ _ _ _
       first
       | refine wp_seq ?_
       | refine wp_region0 ?_
       | refine wp_region ?_
       | refine wp_cond_t rfl ?_
       | refine wp_cond_f rfl ?_
       | refine wp_ret ?_
       | refine wp_skip ?_
       | refine wp_exit ?_
       | refine wp_block ?_
       | fail)
    | refine thenQ_norm ?_
    | refine thenQ_ret ?_
    | refine thenQ_exit ?_
    | refine blockQ_norm ?_
    | refine blockQ_ret ?_
    | refine blockQ_same ?_
    | refine blockQ_ne rfl ?_
    | refine loopQ_norm ?_
    | refine loopQ_ret ?_
    | refine loopQ_exit ?_
    | ((first | apply retQ_ret | apply retQ_norm | apply wpc_of); focus ((try simp (disch := omega) only [push_cast, Nat.reduceEqDiff, ↓reduceIte, reduceCtorEq, Nat.reduceAdd, Nat.reduceMul, Nat.reduceLeDiff]); rfl))
    | fail)
  all_goals refine ⟨?_, rfl⟩
  all_goals (unfold upF; congr 1; omega)

def sizeF (x : Int × Int) : Int := if x.1 < 0xd800 ∧ 0xdfff < x.2 then x.2 - x.1 + 1 - 2048 else x.2 - x.1 + 1
@[push_cast] theorem size_eq (x y : Int) (h : AH) (h1 : -2147483648 ≤ x ∧ x < 2147483648) (h2 : -2147483648 ≤ y ∧ y < 2147483648) : callO PS 61 [.agg (List.toArray [.int .i32 x, .int .i32 y])] h = some (.int .i64 (sizeF (x, y)), h) := by
  apply WpC.eqn
  refine wpc_fn (ps_ext rfl) (ps_fn fn61) rfl ?_
  unfold LF61
  simp only [argFr]
  (repeat' first
    | (show WpR _ _ _ _ _ _ _ _ _
       first
       | refine wpr_drop ?_
       | refine wpr_p (o := .mv _) (by simp only [ev_mv, opd_s, opd_c, fget, Nat.reduceEqDiff, Nat.one_ne_zero, Nat.zero_ne_one, reduceCtorEq, ↓reduceIte]; rfl) ?_
       | (refine wpr_fork (fun _ => ?_) (fun _ => ?_) <;> try (exfalso; omega))
       | (refine wpr_forkN (fun _ => ?_) (fun _ => ?_) <;> try (exfalso; omega))
       | refine wpr_run rfl ?_
       | refine wpr_pass rfl rfl ?_
       | refine wpr_passS rfl ?_
       | ((first | apply wpr_p | apply wpr_r | apply wpr_callA | apply wpr_callA0 | apply wpr_e0 | apply wpr_e | apply wpr_end0); focus ((try simp (disch := omega) only [push_cast, Nat.reduceEqDiff, ↓reduceIte, reduceCtorEq, Nat.reduceAdd, Nat.reduceMul, Nat.reduceLeDiff]); rfl))
       | refine wpr_pass0 rfl rfl ?_
       | refine wpr_pass0S rfl ?_
       | (apply wpr_end; (focus ((try simp (disch := omega) only [push_cast, Nat.reduceEqDiff, ↓reduceIte, reduceCtorEq, Nat.reduceAdd, Nat.reduceMul, Nat.reduceLeDiff]); rfl)); (focus (simp (disch := omega) only [push_cast, Nat.reduceEqDiff, ↓reduceIte, reduceCtorEq, Nat.reduceAdd, Nat.reduceMul, Nat.reduceLeDiff]; done)))
       | fail)
    | (show Wp _ _ _ _ _ _
       first
       | refine wp_seq ?_
       | refine wp_region0 ?_
       | refine wp_region ?_
       | refine wp_cond_t rfl ?_
       | refine wp_cond_f rfl ?_
       | refine wp_ret ?_
       | refine wp_skip ?_
       | refine wp_exit ?_
       | refine wp_block ?_
       | fail)
    | refine thenQ_norm ?_
    | refine thenQ_ret ?_
    | refine thenQ_exit ?_
    | refine blockQ_norm ?_
    | refine blockQ_ret ?_
    | refine blockQ_same ?_
    | refine blockQ_ne rfl ?_
    | refine loopQ_norm ?_
    | refine loopQ_ret ?_
    | refine loopQ_exit ?_
    | ((first | apply retQ_ret | apply retQ_norm | apply wpc_of); focus ((try simp (disch := omega) only [push_cast, Nat.reduceEqDiff, ↓reduceIte, reduceCtorEq, Nat.reduceAdd, Nat.reduceMul, Nat.reduceLeDiff]); rfl))
    | fail)
  all_goals refine ⟨?_, rfl⟩
  all_goals (unfold sizeF; congr 1; omega)

end Go.Proofs.Ytanpdopjgepbkaa.AM

/- What the functions over lists of spans answer that lay nothing. -/
set_option linter.unusedVariables false
set_option linter.unusedSimpArgs false
namespace Go.Proofs.Ytanpdopjgepbkaa.AM
open Go

def rightAt (l : List (Int × Int)) (i : Nat) : Int × Int :=
  if hi : i < l.length then
    if wrongF l[i] ≠ 0 then (i, wrongF l[i])
    else if h0 : 0 < i then (if l[i].1 ≤ l[i - 1].2 then (i, 13) else rightAt l (i + 1)) else rightAt l (i + 1)
  else (0, 0)
termination_by l.length - i

theorem right_eq (l : List (Int × Int)) (s : Sl) (h : AH) (hr : Reads h 2 s (l.map spanV)) (hn : l.length < 4611686018427387904) :
    callO PS 32 [s.val 2] h = some (.tuple (List.toArray [.int .i64 (rightAt l 0).1, .int .i64 (rightAt l 0).2]), h) := by
  have hlen := hr.len
  apply WpC.eqn
  refine wpc_fn (ps_ext rfl) (ps_fn fn32) rfl ?_
  unfold LF32
  simp only [argFr]
  (repeat' first
    | (show WpR _ _ _ _ _ _ _ _ _
       first
       | refine wpr_drop ?_
       | refine wpr_p (o := .mv _) (by simp only [ev_mv, opd_s, opd_c, fget, Nat.reduceEqDiff, Nat.one_ne_zero, Nat.zero_ne_one, reduceCtorEq, ↓reduceIte]; rfl) ?_
       | (refine wpr_fork (fun _ => ?_) (fun _ => ?_) <;> try (exfalso; omega))
       | (refine wpr_forkN (fun _ => ?_) (fun _ => ?_) <;> try (exfalso; omega))
       | refine wpr_run rfl ?_
       | refine wpr_pass rfl rfl ?_
       | refine wpr_passS rfl ?_
       | ((first | apply wpr_p | apply wpr_r | apply wpr_callA | apply wpr_callA0 | apply wpr_e0 | apply wpr_e | apply wpr_end0); focus ((try simp (disch := omega) only [push_cast, Nat.reduceEqDiff, ↓reduceIte, reduceCtorEq, Nat.reduceAdd, Nat.reduceMul, Nat.reduceLeDiff, hlen]); rfl))
       | refine wpr_pass0 rfl rfl ?_
       | refine wpr_pass0S rfl ?_
       | (apply wpr_end; (focus ((try simp (disch := omega) only [push_cast, Nat.reduceEqDiff, ↓reduceIte, reduceCtorEq, Nat.reduceAdd, Nat.reduceMul, Nat.reduceLeDiff, hlen]); rfl)); (focus (simp (disch := omega) only [push_cast, Nat.reduceEqDiff, ↓reduceIte, reduceCtorEq, Nat.reduceAdd, Nat.reduceMul, Nat.reduceLeDiff, hlen]; done)))
       | fail)
    | (show Wp _ _ _ _ _ _
       first
       | refine wp_seq ?_
       | refine wp_region0 ?_
       | refine wp_region ?_
       | refine wp_cond_t rfl ?_
       | refine wp_cond_f rfl ?_
       | refine wp_ret ?_
       | refine wp_skip ?_
       | refine wp_exit ?_
       | refine wp_block ?_
       | fail)
    | refine thenQ_norm ?_
    | refine thenQ_ret ?_
    | refine thenQ_exit ?_
    | refine blockQ_norm ?_
    | refine blockQ_ret ?_
    | refine blockQ_same ?_
    | refine blockQ_ne rfl ?_
    | refine loopQ_norm ?_
    | refine loopQ_ret ?_
    | refine loopQ_exit ?_
    | ((first | apply retQ_ret | apply retQ_norm | apply wpc_of); focus ((try simp (disch := omega) only [push_cast, Nat.reduceEqDiff, ↓reduceIte, reduceCtorEq, Nat.reduceAdd, Nat.reduceMul, Nat.reduceLeDiff, hlen]); rfl))
    | fail)
  refine wp_loop (fun n fr lc h' => ∃ i : Nat, n = l.length - i ∧ i ≤ l.length ∧ fr = [(0, s.val 2), (7, s.val 2), (8, .int .i64 l.length), (9, .int .i64 i)] ∧ lc = [] ∧ h' = h ∧ rightAt l i = rightAt l 0)
    l.length ⟨0, rfl, Nat.zero_le _, rfl, rfl, rfl, rfl⟩ ?_
  rintro n fr lc h' ⟨i, rfl, hi, rfl, rfl, rfl, hI⟩
  (repeat' first
    | (show WpR _ _ _ _ _ _ _ _ _
       first
       | refine wpr_drop ?_
       | refine wpr_p (o := .mv _) (by simp only [ev_mv, opd_s, opd_c, fget, Nat.reduceEqDiff, Nat.one_ne_zero, Nat.zero_ne_one, reduceCtorEq, ↓reduceIte]; rfl) ?_
       | (refine wpr_fork (fun _ => ?_) (fun _ => ?_) <;> try (exfalso; omega))
       | (refine wpr_forkN (fun _ => ?_) (fun _ => ?_) <;> try (exfalso; omega))
       | refine wpr_run rfl ?_
       | refine wpr_pass rfl rfl ?_
       | refine wpr_passS rfl ?_
       | ((first | apply wpr_p | apply wpr_r | apply wpr_callA | apply wpr_callA0 | apply wpr_e0 | apply wpr_e | apply wpr_end0); focus ((try simp (disch := omega) only [push_cast, Nat.reduceEqDiff, ↓reduceIte, reduceCtorEq, Nat.reduceAdd, Nat.reduceMul, Nat.reduceLeDiff, hlen, rd_map hr, rd_mapc hr, spanV]); rfl))
       | refine wpr_pass0 rfl rfl ?_
       | refine wpr_pass0S rfl ?_
       | (apply wpr_end; (focus ((try simp (disch := omega) only [push_cast, Nat.reduceEqDiff, ↓reduceIte, reduceCtorEq, Nat.reduceAdd, Nat.reduceMul, Nat.reduceLeDiff, hlen, rd_map hr, rd_mapc hr, spanV]); rfl)); (focus (simp (disch := omega) only [push_cast, Nat.reduceEqDiff, ↓reduceIte, reduceCtorEq, Nat.reduceAdd, Nat.reduceMul, Nat.reduceLeDiff, hlen, rd_map hr, rd_mapc hr, spanV]; done)))
       | fail)
    | (show Wp _ _ _ _ _ _
       first
       | refine wp_seq ?_
       | refine wp_region0 ?_
       | refine wp_region ?_
       | refine wp_cond_t rfl ?_
       | refine wp_cond_f rfl ?_
       | refine wp_ret ?_
       | refine wp_skip ?_
       | refine wp_exit ?_
       | refine wp_block ?_
       | fail)
    | refine thenQ_norm ?_
    | refine thenQ_ret ?_
    | refine thenQ_exit ?_
    | refine blockQ_norm ?_
    | refine blockQ_ret ?_
    | refine blockQ_same ?_
    | refine blockQ_ne rfl ?_
    | refine loopQ_norm ?_
    | refine loopQ_ret ?_
    | refine loopQ_exit ?_
    | ((first | apply retQ_ret | apply retQ_norm | apply wpc_of); focus ((try simp (disch := omega) only [push_cast, Nat.reduceEqDiff, ↓reduceIte, reduceCtorEq, Nat.reduceAdd, Nat.reduceMul, Nat.reduceLeDiff, hlen, rd_map hr, rd_mapc hr, spanV]); rfl))
    | fail)
  · rename_i g1 g2 g3 g4
    have e1 : ((i : Int) - 1).toNat = i - 1 := by omega
    simp only [e1] at g4
    rw [← hI, rightAt, dif_pos (by omega), if_neg (by simpa using g2), dif_pos (by omega), if_pos g4]
    exact ⟨rfl, rfl⟩
  · rename_i g1 g2 g3 g4
    have e1 : ((i : Int) - 1).toNat = i - 1 := by omega
    simp only [e1] at g4
    refine ⟨_, ?_, i + 1, rfl, by omega, rfl, rfl, rfl, ?_⟩
    · omega
    · rw [← hI, rightAt.eq_def l i, dif_pos (by omega), if_neg (by simpa using ‹wrongF _ = 0›), dif_pos (by omega), if_neg g4]
  · refine ⟨_, ?_, i + 1, rfl, by omega, rfl, rfl, rfl, ?_⟩
    · omega
    · rw [← hI, rightAt.eq_def l i, dif_pos (by omega), if_neg (by simpa using ‹wrongF _ = 0›), dif_neg (by omega)]
  · rw [← hI, rightAt, dif_pos (by omega), if_pos (by simpa using ‹¬ wrongF _ = 0›)]
    exact ⟨rfl, rfl⟩
  · rw [← hI, rightAt, dif_neg (by omega)]
    exact ⟨rfl, rfl⟩

theorem refRight_eq (l : List (Int × Int)) (s : Sl) (h : AH) (hr : Reads h 2 s (l.map spanV)) (hn : l.length < 4611686018427387904) (hb : ∀ x ∈ l, (-2147483648 ≤ x.1 ∧ x.1 < 2147483648) ∧ (-2147483648 ≤ x.2 ∧ x.2 < 2147483648)) :
    callO PS 33 [s.val 2] h = some (.tuple (List.toArray [.int .i64 (rightAt l 0).1, .int .i64 (rightAt l 0).2]), h) := by
  have hlen := hr.len
  apply WpC.eqn
  refine wpc_fn (ps_ext rfl) (ps_fn fn33) rfl ?_
  unfold LF33
  simp only [argFr]
  (repeat' first
    | (show WpR _ _ _ _ _ _ _ _ _
       first
       | refine wpr_drop ?_
       | refine wpr_p (o := .mv _) (by simp only [ev_mv, opd_s, opd_c, fget, Nat.reduceEqDiff, Nat.one_ne_zero, Nat.zero_ne_one, reduceCtorEq, ↓reduceIte]; rfl) ?_
       | (refine wpr_fork (fun _ => ?_) (fun _ => ?_) <;> try (exfalso; omega))
       | (refine wpr_forkN (fun _ => ?_) (fun _ => ?_) <;> try (exfalso; omega))
       | refine wpr_run rfl ?_
       | refine wpr_pass rfl rfl ?_
       | refine wpr_passS rfl ?_
       | ((first | apply wpr_p | apply wpr_r | apply wpr_callA | apply wpr_callA0 | apply wpr_e0 | apply wpr_e | apply wpr_end0); focus ((try simp (disch := omega) only [push_cast, Nat.reduceEqDiff, ↓reduceIte, reduceCtorEq, Nat.reduceAdd, Nat.reduceMul, Nat.reduceLeDiff, hlen]); rfl))
       | refine wpr_pass0 rfl rfl ?_
       | refine wpr_pass0S rfl ?_
       | (apply wpr_end; (focus ((try simp (disch := omega) only [push_cast, Nat.reduceEqDiff, ↓reduceIte, reduceCtorEq, Nat.reduceAdd, Nat.reduceMul, Nat.reduceLeDiff, hlen]); rfl)); (focus (simp (disch := omega) only [push_cast, Nat.reduceEqDiff, ↓reduceIte, reduceCtorEq, Nat.reduceAdd, Nat.reduceMul, Nat.reduceLeDiff, hlen]; done)))
       | fail)
    | (show Wp _ _ _ _ _ _
       first
       | refine wp_seq ?_
       | refine wp_region0 ?_
       | refine wp_region ?_
       | refine wp_cond_t rfl ?_
       | refine wp_cond_f rfl ?_
       | refine wp_ret ?_
       | refine wp_skip ?_
       | refine wp_exit ?_
       | refine wp_block ?_
       | fail)
    | refine thenQ_norm ?_
    | refine thenQ_ret ?_
    | refine thenQ_exit ?_
    | refine blockQ_norm ?_
    | refine blockQ_ret ?_
    | refine blockQ_same ?_
    | refine blockQ_ne rfl ?_
    | refine loopQ_norm ?_
    | refine loopQ_ret ?_
    | refine loopQ_exit ?_
    | ((first | apply retQ_ret | apply retQ_norm | apply wpc_of); focus ((try simp (disch := omega) only [push_cast, Nat.reduceEqDiff, ↓reduceIte, reduceCtorEq, Nat.reduceAdd, Nat.reduceMul, Nat.reduceLeDiff, hlen]); rfl))
    | fail)
  refine wp_loop (fun n fr lc h' => ∃ i : Nat, n = l.length - i ∧ i ≤ l.length ∧ fr = [(0, s.val 2), (4, .int .i64 i)] ∧ lc = [] ∧ h' = h ∧ rightAt l i = rightAt l 0)
    l.length ⟨0, rfl, Nat.zero_le _, rfl, rfl, rfl, rfl⟩ ?_
  rintro n fr lc h' ⟨i, rfl, hi, rfl, rfl, rfl, hI⟩
  rcases Nat.lt_or_ge i l.length with hil | hil
  · have hbi := hb l[i] (List.getElem_mem hil)
    have hbp := fun (h0 : 0 < i) => hb l[i - 1] (List.getElem_mem (by omega))
    (repeat' first
    | (show WpR _ _ _ _ _ _ _ _ _
       first
       | refine wpr_drop ?_
       | refine wpr_p (o := .mv _) (by simp only [ev_mv, opd_s, opd_c, fget, Nat.reduceEqDiff, Nat.one_ne_zero, Nat.zero_ne_one, reduceCtorEq, ↓reduceIte]; rfl) ?_
       | (refine wpr_fork (fun _ => ?_) (fun _ => ?_) <;> try (exfalso; omega))
       | (refine wpr_forkN (fun _ => ?_) (fun _ => ?_) <;> try (exfalso; omega))
       | refine wpr_run rfl ?_
       | refine wpr_pass rfl rfl ?_
       | refine wpr_passS rfl ?_
       | ((first | apply wpr_p | apply wpr_r | apply wpr_callA | apply wpr_callA0 | apply wpr_e0 | apply wpr_e | apply wpr_end0); focus ((try simp (disch := omega) only [push_cast, Nat.reduceEqDiff, ↓reduceIte, reduceCtorEq, Nat.reduceAdd, Nat.reduceMul, Nat.reduceLeDiff, hlen, rd_map hr, rd_mapc hr, spanV]); rfl))
       | refine wpr_pass0 rfl rfl ?_
       | refine wpr_pass0S rfl ?_
       | (apply wpr_end; (focus ((try simp (disch := omega) only [push_cast, Nat.reduceEqDiff, ↓reduceIte, reduceCtorEq, Nat.reduceAdd, Nat.reduceMul, Nat.reduceLeDiff, hlen, rd_map hr, rd_mapc hr, spanV]); rfl)); (focus (simp (disch := omega) only [push_cast, Nat.reduceEqDiff, ↓reduceIte, reduceCtorEq, Nat.reduceAdd, Nat.reduceMul, Nat.reduceLeDiff, hlen, rd_map hr, rd_mapc hr, spanV]; done)))
       | fail)
    | (show Wp _ _ _ _ _ _
       first
       | refine wp_seq ?_
       | refine wp_region0 ?_
       | refine wp_region ?_
       | refine wp_cond_t rfl ?_
       | refine wp_cond_f rfl ?_
       | refine wp_ret ?_
       | refine wp_skip ?_
       | refine wp_exit ?_
       | refine wp_block ?_
       | fail)
    | refine thenQ_norm ?_
    | refine thenQ_ret ?_
    | refine thenQ_exit ?_
    | refine blockQ_norm ?_
    | refine blockQ_ret ?_
    | refine blockQ_same ?_
    | refine blockQ_ne rfl ?_
    | refine loopQ_norm ?_
    | refine loopQ_ret ?_
    | refine loopQ_exit ?_
    | ((first | apply retQ_ret | apply retQ_norm | apply wpc_of); focus ((try simp (disch := omega) only [push_cast, Nat.reduceEqDiff, ↓reduceIte, reduceCtorEq, Nat.reduceAdd, Nat.reduceMul, Nat.reduceLeDiff, hlen, rd_map hr, rd_mapc hr, spanV]); rfl))
    | fail)
    · rename_i g1 g2 g3 g4
      have e1 : ((i : Int) - 1).toNat = i - 1 := by omega
      simp only [e1] at g4
      rw [← hI, rightAt, dif_pos (by omega), if_neg (by simpa using g2), dif_pos (by omega), if_pos g4]
      exact ⟨rfl, rfl⟩
    · rename_i g1 g2 g3 g4
      have e1 : ((i : Int) - 1).toNat = i - 1 := by omega
      simp only [e1] at g4
      refine ⟨_, ?_, i + 1, rfl, by omega, rfl, rfl, rfl, ?_⟩
      · omega
      · rw [← hI, rightAt.eq_def l i, dif_pos (by omega), if_neg (by simpa using g2), dif_pos (by omega), if_neg g4]
    · refine ⟨_, ?_, i + 1, rfl, by omega, rfl, rfl, rfl, ?_⟩
      · omega
      · rw [← hI, rightAt.eq_def l i, dif_pos (by omega), if_neg (by simpa using ‹wrongF _ = 0›), dif_neg (by omega)]
    · rw [← hI, rightAt, dif_pos (by omega), if_pos (by simpa using ‹¬ wrongF _ = 0›)]
      exact ⟨rfl, rfl⟩
  · (repeat' first
    | (show WpR _ _ _ _ _ _ _ _ _
       first
       | refine wpr_drop ?_
       | refine wpr_p (o := .mv _) (by simp only [ev_mv, opd_s, opd_c, fget, Nat.reduceEqDiff, Nat.one_ne_zero, Nat.zero_ne_one, reduceCtorEq, ↓reduceIte]; rfl) ?_
       | (refine wpr_fork (fun _ => ?_) (fun _ => ?_) <;> try (exfalso; omega))
       | (refine wpr_forkN (fun _ => ?_) (fun _ => ?_) <;> try (exfalso; omega))
       | refine wpr_run rfl ?_
       | refine wpr_pass rfl rfl ?_
       | refine wpr_passS rfl ?_
       | ((first | apply wpr_p | apply wpr_r | apply wpr_callA | apply wpr_callA0 | apply wpr_e0 | apply wpr_e | apply wpr_end0); focus ((try simp (disch := omega) only [push_cast, Nat.reduceEqDiff, ↓reduceIte, reduceCtorEq, Nat.reduceAdd, Nat.reduceMul, Nat.reduceLeDiff, hlen]); rfl))
       | refine wpr_pass0 rfl rfl ?_
       | refine wpr_pass0S rfl ?_
       | (apply wpr_end; (focus ((try simp (disch := omega) only [push_cast, Nat.reduceEqDiff, ↓reduceIte, reduceCtorEq, Nat.reduceAdd, Nat.reduceMul, Nat.reduceLeDiff, hlen]); rfl)); (focus (simp (disch := omega) only [push_cast, Nat.reduceEqDiff, ↓reduceIte, reduceCtorEq, Nat.reduceAdd, Nat.reduceMul, Nat.reduceLeDiff, hlen]; done)))
       | fail)
    | (show Wp _ _ _ _ _ _
       first
       | refine wp_seq ?_
       | refine wp_region0 ?_
       | refine wp_region ?_
       | refine wp_cond_t rfl ?_
       | refine wp_cond_f rfl ?_
       | refine wp_ret ?_
       | refine wp_skip ?_
       | refine wp_exit ?_
       | refine wp_block ?_
       | fail)
    | refine thenQ_norm ?_
    | refine thenQ_ret ?_
    | refine thenQ_exit ?_
    | refine blockQ_norm ?_
    | refine blockQ_ret ?_
    | refine blockQ_same ?_
    | refine blockQ_ne rfl ?_
    | refine loopQ_norm ?_
    | refine loopQ_ret ?_
    | refine loopQ_exit ?_
    | ((first | apply retQ_ret | apply retQ_norm | apply wpc_of); focus ((try simp (disch := omega) only [push_cast, Nat.reduceEqDiff, ↓reduceIte, reduceCtorEq, Nat.reduceAdd, Nat.reduceMul, Nat.reduceLeDiff, hlen]); rfl))
    | fail)
    rw [← hI, rightAt, dif_neg (by omega)]
    exact ⟨rfl, rfl⟩

theorem same_eq (a b : List (Int × Int)) (s t : Sl) (h : AH) (hr : Reads h 2 s (a.map spanV)) (ht : Reads h 2 t (b.map spanV)) (hn : a.length < 4611686018427387904) :
    callO PS 19 [s.val 2, t.val 2] h = some (.bool (decide (a = b)), h) := by
  have hlen := hr.len
  have hlen' := ht.len
  apply WpC.eqn
  refine wpc_fn (ps_ext rfl) (ps_fn fn19) rfl ?_
  unfold LF19
  simp only [argFr]
  (repeat' first
    | (show WpR _ _ _ _ _ _ _ _ _
       first
       | refine wpr_drop ?_
       | refine wpr_p (o := .mv _) (by simp only [ev_mv, opd_s, opd_c, fget, Nat.reduceEqDiff, Nat.one_ne_zero, Nat.zero_ne_one, reduceCtorEq, ↓reduceIte]; rfl) ?_
       | (refine wpr_fork (fun _ => ?_) (fun _ => ?_) <;> try (exfalso; omega))
       | (refine wpr_forkN (fun _ => ?_) (fun _ => ?_) <;> try (exfalso; omega))
       | refine wpr_run rfl ?_
       | refine wpr_pass rfl rfl ?_
       | refine wpr_passS rfl ?_
       | ((first | apply wpr_p | apply wpr_r | apply wpr_callA | apply wpr_callA0 | apply wpr_e0 | apply wpr_e | apply wpr_end0); focus ((try simp (disch := omega) only [push_cast, Nat.reduceEqDiff, ↓reduceIte, reduceCtorEq, Nat.reduceAdd, Nat.reduceMul, Nat.reduceLeDiff, hlen, hlen']); rfl))
       | refine wpr_pass0 rfl rfl ?_
       | refine wpr_pass0S rfl ?_
       | (apply wpr_end; (focus ((try simp (disch := omega) only [push_cast, Nat.reduceEqDiff, ↓reduceIte, reduceCtorEq, Nat.reduceAdd, Nat.reduceMul, Nat.reduceLeDiff, hlen, hlen']); rfl)); (focus (simp (disch := omega) only [push_cast, Nat.reduceEqDiff, ↓reduceIte, reduceCtorEq, Nat.reduceAdd, Nat.reduceMul, Nat.reduceLeDiff, hlen, hlen']; done)))
       | fail)
    | (show Wp _ _ _ _ _ _
       first
       | refine wp_seq ?_
       | refine wp_region0 ?_
       | refine wp_region ?_
       | refine wp_cond_t rfl ?_
       | refine wp_cond_f rfl ?_
       | refine wp_ret ?_
       | refine wp_skip ?_
       | refine wp_exit ?_
       | refine wp_block ?_
       | fail)
    | refine thenQ_norm ?_
    | refine thenQ_ret ?_
    | refine thenQ_exit ?_
    | refine blockQ_norm ?_
    | refine blockQ_ret ?_
    | refine blockQ_same ?_
    | refine blockQ_ne rfl ?_
    | refine loopQ_norm ?_
    | refine loopQ_ret ?_
    | refine loopQ_exit ?_
    | ((first | apply retQ_ret | apply retQ_norm | apply wpc_of); focus ((try simp (disch := omega) only [push_cast, Nat.reduceEqDiff, ↓reduceIte, reduceCtorEq, Nat.reduceAdd, Nat.reduceMul, Nat.reduceLeDiff, hlen, hlen']); rfl))
    | fail)
  · refine wp_loop (fun n fr lc h' => ∃ i : Nat, n = a.length - i ∧ i ≤ a.length ∧ fr = [(0, s.val 2), (1, t.val 2), (5, .int .i64 i)] ∧ lc = [] ∧ h' = h ∧ a.take i = b.take i)
      a.length ⟨0, rfl, Nat.zero_le _, rfl, rfl, rfl, rfl⟩ ?_
    rintro n fr lc h' ⟨i, rfl, hi, rfl, rfl, rfl, hI⟩
    (repeat' first
    | (show WpR _ _ _ _ _ _ _ _ _
       first
       | refine wpr_drop ?_
       | refine wpr_p (o := .mv _) (by simp only [ev_mv, opd_s, opd_c, fget, Nat.reduceEqDiff, Nat.one_ne_zero, Nat.zero_ne_one, reduceCtorEq, ↓reduceIte]; rfl) ?_
       | (refine wpr_fork (fun _ => ?_) (fun _ => ?_) <;> try (exfalso; omega))
       | (refine wpr_forkN (fun _ => ?_) (fun _ => ?_) <;> try (exfalso; omega))
       | refine wpr_run rfl ?_
       | refine wpr_pass rfl rfl ?_
       | refine wpr_passS rfl ?_
       | ((first | apply wpr_p | apply wpr_r | apply wpr_callA | apply wpr_callA0 | apply wpr_e0 | apply wpr_e | apply wpr_end0); focus ((try simp (disch := omega) only [push_cast, Nat.reduceEqDiff, ↓reduceIte, reduceCtorEq, Nat.reduceAdd, Nat.reduceMul, Nat.reduceLeDiff, hlen, hlen', rd_map hr, rd_map ht, spanV]); rfl))
       | refine wpr_pass0 rfl rfl ?_
       | refine wpr_pass0S rfl ?_
       | (apply wpr_end; (focus ((try simp (disch := omega) only [push_cast, Nat.reduceEqDiff, ↓reduceIte, reduceCtorEq, Nat.reduceAdd, Nat.reduceMul, Nat.reduceLeDiff, hlen, hlen', rd_map hr, rd_map ht, spanV]); rfl)); (focus (simp (disch := omega) only [push_cast, Nat.reduceEqDiff, ↓reduceIte, reduceCtorEq, Nat.reduceAdd, Nat.reduceMul, Nat.reduceLeDiff, hlen, hlen', rd_map hr, rd_map ht, spanV]; done)))
       | fail)
    | (show Wp _ _ _ _ _ _
       first
       | refine wp_seq ?_
       | refine wp_region0 ?_
       | refine wp_region ?_
       | refine wp_cond_t rfl ?_
       | refine wp_cond_f rfl ?_
       | refine wp_ret ?_
       | refine wp_skip ?_
       | refine wp_exit ?_
       | refine wp_block ?_
       | fail)
    | refine thenQ_norm ?_
    | refine thenQ_ret ?_
    | refine thenQ_exit ?_
    | refine blockQ_norm ?_
    | refine blockQ_ret ?_
    | refine blockQ_same ?_
    | refine blockQ_ne rfl ?_
    | refine loopQ_norm ?_
    | refine loopQ_ret ?_
    | refine loopQ_exit ?_
    | ((first | apply retQ_ret | apply retQ_norm | apply wpc_of); focus ((try simp (disch := omega) only [push_cast, Nat.reduceEqDiff, ↓reduceIte, reduceCtorEq, Nat.reduceAdd, Nat.reduceMul, Nat.reduceLeDiff, hlen, hlen', rd_map hr, rd_map ht, spanV]); rfl))
    | fail)
    · rename_i g
      refine ⟨_, ?_, i + 1, rfl, by omega, rfl, rfl, rfl, ?_⟩
      · omega
      · have ha : i < a.length := by omega
        have hb : i < b.length := by omega
        rw [← List.take_append_getElem ha, ← List.take_append_getElem hb, hI, Prod.ext g.1 g.2]
    · rename_i g
      exact ⟨dec_f (fun e => g (by subst e; exact ⟨rfl, rfl⟩)), rfl⟩
    · refine ⟨dec_t ?_, rfl⟩
      rw [List.take_of_length_le (by omega), List.take_of_length_le (by omega)] at hI
      exact hI
  · rename_i hne
    exact ⟨dec_f (fun e => hne (by rw [e])), rfl⟩

theorem few_eq (l : List (Int × Int)) (s : Sl) (h : AH) (hr : Reads h 2 s (l.map spanV)) (hn : l.length < 4611686018427387904) :
    WpC PS 15 [s.val 2] h fun v h' => h' = h ∧ ∃ s', v = s'.val 2 ∧ Reads h 2 s' ((l.take 60).map spanV) := by
  have hlen := hr.len
  refine wpc_fn (ps_ext rfl) (ps_fn fn15) rfl ?_
  unfold LF15
  simp only [argFr]
  (repeat' first
    | (show WpR _ _ _ _ _ _ _ _ _
       first
       | refine wpr_drop ?_
       | refine wpr_p (o := .mv _) (by simp only [ev_mv, opd_s, opd_c, fget, Nat.reduceEqDiff, Nat.one_ne_zero, Nat.zero_ne_one, reduceCtorEq, ↓reduceIte]; rfl) ?_
       | (refine wpr_fork (fun _ => ?_) (fun _ => ?_) <;> try (exfalso; omega))
       | (refine wpr_forkN (fun _ => ?_) (fun _ => ?_) <;> try (exfalso; omega))
       | refine wpr_run rfl ?_
       | refine wpr_pass rfl rfl ?_
       | refine wpr_passS rfl ?_
       | ((first | apply wpr_p | apply wpr_r | apply wpr_callA | apply wpr_callA0 | apply wpr_e0 | apply wpr_e | apply wpr_end0); focus ((try simp (disch := omega) only [push_cast, Nat.reduceEqDiff, ↓reduceIte, reduceCtorEq, Nat.reduceAdd, Nat.reduceMul, Nat.reduceLeDiff, hlen]); rfl))
       | refine wpr_pass0 rfl rfl ?_
       | refine wpr_pass0S rfl ?_
       | (apply wpr_end; (focus ((try simp (disch := omega) only [push_cast, Nat.reduceEqDiff, ↓reduceIte, reduceCtorEq, Nat.reduceAdd, Nat.reduceMul, Nat.reduceLeDiff, hlen]); rfl)); (focus (simp (disch := omega) only [push_cast, Nat.reduceEqDiff, ↓reduceIte, reduceCtorEq, Nat.reduceAdd, Nat.reduceMul, Nat.reduceLeDiff, hlen]; done)))
       | fail)
    | (show Wp _ _ _ _ _ _
       first
       | refine wp_seq ?_
       | refine wp_region0 ?_
       | refine wp_region ?_
       | refine wp_cond_t rfl ?_
       | refine wp_cond_f rfl ?_
       | refine wp_ret ?_
       | refine wp_skip ?_
       | refine wp_exit ?_
       | refine wp_block ?_
       | fail)
    | refine thenQ_norm ?_
    | refine thenQ_ret ?_
    | refine thenQ_exit ?_
    | refine blockQ_norm ?_
    | refine blockQ_ret ?_
    | refine blockQ_same ?_
    | refine blockQ_ne rfl ?_
    | refine loopQ_norm ?_
    | refine loopQ_ret ?_
    | refine loopQ_exit ?_
    | ((first | apply retQ_ret | apply retQ_norm | apply wpc_of); focus ((try simp (disch := omega) only [push_cast, Nat.reduceEqDiff, ↓reduceIte, reduceCtorEq, Nat.reduceAdd, Nat.reduceMul, Nat.reduceLeDiff, hlen]); rfl))
    | fail)
  · exact ⟨rfl, _, rfl, by rw [List.map_take]; exact hr.take (by simp; omega)⟩
  · exact ⟨rfl, _, rfl, by rw [List.take_of_length_le (by omega)]; exact hr⟩

theorem set_mark (l : List (Int × Int)) (m : Int × Int) (i : Nat) (hi : i < 80) :
    ((l ++ (List.replicate i m ++ List.replicate (80 - i) (0, 0))).map spanV).set (l.length + i) (spanV m) = (l ++ (List.replicate (i + 1) m ++ List.replicate (80 - (i + 1)) (0, 0))).map spanV := by
  rw [← List.map_set]
  congr 1
  rw [List.set_append_right _ _ (by omega), List.set_append_right _ _ (by simp)]
  congr 1
  simp only [List.length_replicate]
  rw [show l.length + i - l.length - i = 0 by omega, show 80 - i = (80 - (i + 1)) + 1 by omega, List.replicate_succ, List.set_cons_zero, List.replicate_succ', List.append_assoc]
  simp

theorem roomy_eq (l : List (Int × Int)) (s : Sl) (h : AH) (x y : Int) (hr : Reads h 2 s (l.map spanV)) (hn : l.length ≤ 17592186044416) :
    WpC PS 16 [s.val 2, .agg (List.toArray [.int .i32 x, .int .i32 y])] h fun v h' => ∃ s', v = s'.val 2 ∧ FOwn h h' 2 s' ((l ++ List.replicate 80 (x, y)).map spanV) := by
  have hlen := hr.len
  refine wpc_fn (ps_ext rfl) (ps_fn fn16) rfl ?_
  unfold LF16
  simp only [argFr]
  (repeat' first
    | (show WpR _ _ _ _ _ _ _ _ _
       first
       | refine wpr_drop ?_
       | refine wpr_p (o := .mv _) (by simp only [ev_mv, opd_s, opd_c, fget, Nat.reduceEqDiff, Nat.one_ne_zero, Nat.zero_ne_one, reduceCtorEq, ↓reduceIte]; rfl) ?_
       | (refine wpr_fork (fun _ => ?_) (fun _ => ?_) <;> try (exfalso; omega))
       | (refine wpr_forkN (fun _ => ?_) (fun _ => ?_) <;> try (exfalso; omega))
       | refine wpr_run rfl ?_
       | refine wpr_pass rfl rfl ?_
       | refine wpr_passS rfl ?_
       | ((first | apply wpr_p | apply wpr_r | apply wpr_callA | apply wpr_callA0 | apply wpr_e0 | apply wpr_e | apply wpr_end0); focus ((try simp (disch := omega) only [push_cast, Nat.reduceEqDiff, ↓reduceIte, reduceCtorEq, Nat.reduceAdd, Nat.reduceMul, Nat.reduceLeDiff, hlen]); rfl))
       | refine wpr_pass0 rfl rfl ?_
       | refine wpr_pass0S rfl ?_
       | (apply wpr_end; (focus ((try simp (disch := omega) only [push_cast, Nat.reduceEqDiff, ↓reduceIte, reduceCtorEq, Nat.reduceAdd, Nat.reduceMul, Nat.reduceLeDiff, hlen]); rfl)); (focus (simp (disch := omega) only [push_cast, Nat.reduceEqDiff, ↓reduceIte, reduceCtorEq, Nat.reduceAdd, Nat.reduceMul, Nat.reduceLeDiff, hlen]; done)))
       | fail)
    | (show Wp _ _ _ _ _ _
       first
       | refine wp_seq ?_
       | refine wp_region0 ?_
       | refine wp_region ?_
       | refine wp_cond_t rfl ?_
       | refine wp_cond_f rfl ?_
       | refine wp_ret ?_
       | refine wp_skip ?_
       | refine wp_exit ?_
       | refine wp_block ?_
       | fail)
    | refine thenQ_norm ?_
    | refine thenQ_ret ?_
    | refine thenQ_exit ?_
    | refine blockQ_norm ?_
    | refine blockQ_ret ?_
    | refine blockQ_same ?_
    | refine blockQ_ne rfl ?_
    | refine loopQ_norm ?_
    | refine loopQ_ret ?_
    | refine loopQ_exit ?_
    | ((first | apply retQ_ret | apply retQ_norm | apply wpc_of); focus ((try simp (disch := omega) only [push_cast, Nat.reduceEqDiff, ↓reduceIte, reduceCtorEq, Nat.reduceAdd, Nat.reduceMul, Nat.reduceLeDiff, hlen]); rfl))
    | fail)
  refine wpr_mksS (n := l.length + 80) (Kp.refl h) rfl rfl rfl (by decide) (by omega) (by omega) fun s1 h1 f1 => ?_
  (repeat' first
    | (show WpR _ _ _ _ _ _ _ _ _
       first
       | refine wpr_drop ?_
       | refine wpr_p (o := .mv _) (by simp only [ev_mv, opd_s, opd_c, fget, Nat.reduceEqDiff, Nat.one_ne_zero, Nat.zero_ne_one, reduceCtorEq, ↓reduceIte]; rfl) ?_
       | (refine wpr_fork (fun _ => ?_) (fun _ => ?_) <;> try (exfalso; omega))
       | (refine wpr_forkN (fun _ => ?_) (fun _ => ?_) <;> try (exfalso; omega))
       | refine wpr_run rfl ?_
       | refine wpr_pass rfl rfl ?_
       | refine wpr_passS rfl ?_
       | ((first | apply wpr_p | apply wpr_r | apply wpr_callA | apply wpr_callA0 | apply wpr_e0 | apply wpr_e | apply wpr_end0); focus ((try simp (disch := omega) only [push_cast, Nat.reduceEqDiff, ↓reduceIte, reduceCtorEq, Nat.reduceAdd, Nat.reduceMul, Nat.reduceLeDiff, hlen]); rfl))
       | refine wpr_pass0 rfl rfl ?_
       | refine wpr_pass0S rfl ?_
       | (apply wpr_end; (focus ((try simp (disch := omega) only [push_cast, Nat.reduceEqDiff, ↓reduceIte, reduceCtorEq, Nat.reduceAdd, Nat.reduceMul, Nat.reduceLeDiff, hlen]); rfl)); (focus (simp (disch := omega) only [push_cast, Nat.reduceEqDiff, ↓reduceIte, reduceCtorEq, Nat.reduceAdd, Nat.reduceMul, Nat.reduceLeDiff, hlen]; done)))
       | fail)
    | (show Wp _ _ _ _ _ _
       first
       | refine wp_seq ?_
       | refine wp_region0 ?_
       | refine wp_region ?_
       | refine wp_cond_t rfl ?_
       | refine wp_cond_f rfl ?_
       | refine wp_ret ?_
       | refine wp_skip ?_
       | refine wp_exit ?_
       | refine wp_block ?_
       | fail)
    | refine thenQ_norm ?_
    | refine thenQ_ret ?_
    | refine thenQ_exit ?_
    | refine blockQ_norm ?_
    | refine blockQ_ret ?_
    | refine blockQ_same ?_
    | refine blockQ_ne rfl ?_
    | refine loopQ_norm ?_
    | refine loopQ_ret ?_
    | refine loopQ_exit ?_
    | ((first | apply retQ_ret | apply retQ_norm | apply wpc_of); focus ((try simp (disch := omega) only [push_cast, Nat.reduceEqDiff, ↓reduceIte, reduceCtorEq, Nat.reduceAdd, Nat.reduceMul, Nat.reduceLeDiff, hlen]); rfl))
    | fail)
  refine wpr_copyS f1 (hr.kp f1.kp) rfl rfl (by simp) fun h2 f2 => ?_
  have hdrop : l.map spanV ++ (List.replicate (l.length + 80) [Value.int .i32 0, Value.int .i32 0]).drop (l.map spanV).length = (l ++ List.replicate 80 ((0, 0) : Int × Int)).map spanV := by
    simp [spanV, List.drop_replicate, List.map_append]
  rw [hdrop] at f2
  have hl1 : s1.len = l.length + 80 := by simpa using f2.own.1
  have hl2 : ((s1.len : Nat) : Int) = (l.length : Int) + 80 := by omega
  (repeat' first
    | (show WpR _ _ _ _ _ _ _ _ _
       first
       | refine wpr_drop ?_
       | refine wpr_p (o := .mv _) (by simp only [ev_mv, opd_s, opd_c, fget, Nat.reduceEqDiff, Nat.one_ne_zero, Nat.zero_ne_one, reduceCtorEq, ↓reduceIte]; rfl) ?_
       | (refine wpr_fork (fun _ => ?_) (fun _ => ?_) <;> try (exfalso; omega))
       | (refine wpr_forkN (fun _ => ?_) (fun _ => ?_) <;> try (exfalso; omega))
       | refine wpr_run rfl ?_
       | refine wpr_pass rfl rfl ?_
       | refine wpr_passS rfl ?_
       | ((first | apply wpr_p | apply wpr_r | apply wpr_callA | apply wpr_callA0 | apply wpr_e0 | apply wpr_e | apply wpr_end0); focus ((try simp (disch := omega) only [push_cast, Nat.reduceEqDiff, ↓reduceIte, reduceCtorEq, Nat.reduceAdd, Nat.reduceMul, Nat.reduceLeDiff, hlen]); rfl))
       | refine wpr_pass0 rfl rfl ?_
       | refine wpr_pass0S rfl ?_
       | (apply wpr_end; (focus ((try simp (disch := omega) only [push_cast, Nat.reduceEqDiff, ↓reduceIte, reduceCtorEq, Nat.reduceAdd, Nat.reduceMul, Nat.reduceLeDiff, hlen]); rfl)); (focus (simp (disch := omega) only [push_cast, Nat.reduceEqDiff, ↓reduceIte, reduceCtorEq, Nat.reduceAdd, Nat.reduceMul, Nat.reduceLeDiff, hlen]; done)))
       | fail)
    | (show Wp _ _ _ _ _ _
       first
       | refine wp_seq ?_
       | refine wp_region0 ?_
       | refine wp_region ?_
       | refine wp_cond_t rfl ?_
       | refine wp_cond_f rfl ?_
       | refine wp_ret ?_
       | refine wp_skip ?_
       | refine wp_exit ?_
       | refine wp_block ?_
       | fail)
    | refine thenQ_norm ?_
    | refine thenQ_ret ?_
    | refine thenQ_exit ?_
    | refine blockQ_norm ?_
    | refine blockQ_ret ?_
    | refine blockQ_same ?_
    | refine blockQ_ne rfl ?_
    | refine loopQ_norm ?_
    | refine loopQ_ret ?_
    | refine loopQ_exit ?_
    | ((first | apply retQ_ret | apply retQ_norm | apply wpc_of); focus ((try simp (disch := omega) only [push_cast, Nat.reduceEqDiff, ↓reduceIte, reduceCtorEq, Nat.reduceAdd, Nat.reduceMul, Nat.reduceLeDiff, hlen]); rfl))
    | fail)
  refine wp_loop (fun n fr lc h' => ∃ i : Nat, n = 80 - i ∧ i ≤ 80 ∧ fr = [(3, .pointer (some ⟨6, 0, some 1⟩)), (5, s1.val 2), (6, .int .i64 (l.length + i : Nat))] ∧ lc = [(6, .cells false [.int .i32 x, .int .i32 y])] ∧
      FOwn h h' 2 s1 ((l ++ (List.replicate i (x, y) ++ List.replicate (80 - i) (0, 0))).map spanV))
    80 ⟨0, rfl, by omega, rfl, rfl, by simpa using f2⟩ ?_
  rintro n fr lc h' ⟨i, rfl, hi, rfl, rfl, f3⟩
  (repeat' first
    | (show WpR _ _ _ _ _ _ _ _ _
       first
       | refine wpr_drop ?_
       | refine wpr_p (o := .mv _) (by simp only [ev_mv, opd_s, opd_c, fget, Nat.reduceEqDiff, Nat.one_ne_zero, Nat.zero_ne_one, reduceCtorEq, ↓reduceIte]; rfl) ?_
       | (refine wpr_fork (fun _ => ?_) (fun _ => ?_) <;> try (exfalso; omega))
       | (refine wpr_forkN (fun _ => ?_) (fun _ => ?_) <;> try (exfalso; omega))
       | refine wpr_run rfl ?_
       | refine wpr_pass rfl rfl ?_
       | refine wpr_passS rfl ?_
       | ((first | apply wpr_p | apply wpr_r | apply wpr_callA | apply wpr_callA0 | apply wpr_e0 | apply wpr_e | apply wpr_end0); focus ((try simp (disch := omega) only [push_cast, Nat.reduceEqDiff, ↓reduceIte, reduceCtorEq, Nat.reduceAdd, Nat.reduceMul, Nat.reduceLeDiff, hlen, hl2]); rfl))
       | refine wpr_pass0 rfl rfl ?_
       | refine wpr_pass0S rfl ?_
       | (apply wpr_end; (focus ((try simp (disch := omega) only [push_cast, Nat.reduceEqDiff, ↓reduceIte, reduceCtorEq, Nat.reduceAdd, Nat.reduceMul, Nat.reduceLeDiff, hlen, hl2]); rfl)); (focus (simp (disch := omega) only [push_cast, Nat.reduceEqDiff, ↓reduceIte, reduceCtorEq, Nat.reduceAdd, Nat.reduceMul, Nat.reduceLeDiff, hlen, hl2]; done)))
       | fail)
    | (show Wp _ _ _ _ _ _
       first
       | refine wp_seq ?_
       | refine wp_region0 ?_
       | refine wp_region ?_
       | refine wp_cond_t rfl ?_
       | refine wp_cond_f rfl ?_
       | refine wp_ret ?_
       | refine wp_skip ?_
       | refine wp_exit ?_
       | refine wp_block ?_
       | fail)
    | refine thenQ_norm ?_
    | refine thenQ_ret ?_
    | refine thenQ_exit ?_
    | refine blockQ_norm ?_
    | refine blockQ_ret ?_
    | refine blockQ_same ?_
    | refine blockQ_ne rfl ?_
    | refine loopQ_norm ?_
    | refine loopQ_ret ?_
    | refine loopQ_exit ?_
    | ((first | apply retQ_ret | apply retQ_norm | apply wpc_of); focus ((try simp (disch := omega) only [push_cast, Nat.reduceEqDiff, ↓reduceIte, reduceCtorEq, Nat.reduceAdd, Nat.reduceMul, Nat.reduceLeDiff, hlen, hl2]); rfl))
    | fail)
  · rename_i g
    have e1 : ((l.length : Int) + (i : Int)).toNat = l.length + i := by omega
    rw [e1]
    refine wpr_storeS (vs := [.int .i32 x, .int .i32 y]) f3 rfl rfl rfl rfl rfl (by simp; omega) fun h3 f4 => ?_
    have f5 := set_mark l (x, y) i (by omega)
    simp only [spanV] at f4 f5
    (repeat' first
    | (show WpR _ _ _ _ _ _ _ _ _
       first
       | refine wpr_drop ?_
       | refine wpr_p (o := .mv _) (by simp only [ev_mv, opd_s, opd_c, fget, Nat.reduceEqDiff, Nat.one_ne_zero, Nat.zero_ne_one, reduceCtorEq, ↓reduceIte]; rfl) ?_
       | (refine wpr_fork (fun _ => ?_) (fun _ => ?_) <;> try (exfalso; omega))
       | (refine wpr_forkN (fun _ => ?_) (fun _ => ?_) <;> try (exfalso; omega))
       | refine wpr_run rfl ?_
       | refine wpr_pass rfl rfl ?_
       | refine wpr_passS rfl ?_
       | ((first | apply wpr_p | apply wpr_r | apply wpr_callA | apply wpr_callA0 | apply wpr_e0 | apply wpr_e | apply wpr_end0); focus ((try simp (disch := omega) only [push_cast, Nat.reduceEqDiff, ↓reduceIte, reduceCtorEq, Nat.reduceAdd, Nat.reduceMul, Nat.reduceLeDiff, hlen, hl2]); rfl))
       | refine wpr_pass0 rfl rfl ?_
       | refine wpr_pass0S rfl ?_
       | (apply wpr_end; (focus ((try simp (disch := omega) only [push_cast, Nat.reduceEqDiff, ↓reduceIte, reduceCtorEq, Nat.reduceAdd, Nat.reduceMul, Nat.reduceLeDiff, hlen, hl2]); rfl)); (focus (simp (disch := omega) only [push_cast, Nat.reduceEqDiff, ↓reduceIte, reduceCtorEq, Nat.reduceAdd, Nat.reduceMul, Nat.reduceLeDiff, hlen, hl2]; done)))
       | fail)
    | (show Wp _ _ _ _ _ _
       first
       | refine wp_seq ?_
       | refine wp_region0 ?_
       | refine wp_region ?_
       | refine wp_cond_t rfl ?_
       | refine wp_cond_f rfl ?_
       | refine wp_ret ?_
       | refine wp_skip ?_
       | refine wp_exit ?_
       | refine wp_block ?_
       | fail)
    | refine thenQ_norm ?_
    | refine thenQ_ret ?_
    | refine thenQ_exit ?_
    | refine blockQ_norm ?_
    | refine blockQ_ret ?_
    | refine blockQ_same ?_
    | refine blockQ_ne rfl ?_
    | refine loopQ_norm ?_
    | refine loopQ_ret ?_
    | refine loopQ_exit ?_
    | ((first | apply retQ_ret | apply retQ_norm | apply wpc_of); focus ((try simp (disch := omega) only [push_cast, Nat.reduceEqDiff, ↓reduceIte, reduceCtorEq, Nat.reduceAdd, Nat.reduceMul, Nat.reduceLeDiff, hlen, hl2]); rfl))
    | fail)
    refine ⟨_, ?_, i + 1, rfl, by omega, ?_, rfl, ?_⟩
    · omega
    · rfl
    · rw [f5] at f4
      exact f4
  · rename_i g
    have : i = 80 := by omega
    subst this
    exact ⟨s1, rfl, by simpa using f3⟩

theorem intact_eq (l : List (Int × Int)) (m : List (Int × Int)) (s t : Sl) (h : AH) (x y : Int) (hr : Reads h 2 s (l.map spanV)) (ht : Reads h 2 t (m.map spanV)) (hn : m.length ≤ 17592186044416) (hlm : l = m ++ List.replicate 80 (x, y)) :
    callO PS 25 [s.val 2, t.val 2, .agg (List.toArray [.int .i32 x, .int .i32 y])] h = some (.bool true, h) := by
  have hlen := hr.len
  have hlen' := ht.len
  have hl80 : l.length = m.length + 80 := by rw [hlm]; simp
  have hl2 : ((s.len : Nat) : Int) = (m.length : Int) + 80 := by omega
  apply WpC.eqn
  refine wpc_fn (ps_ext rfl) (ps_fn fn25) rfl ?_
  unfold LF25
  simp only [argFr]
  (repeat' first
    | (show WpR _ _ _ _ _ _ _ _ _
       first
       | refine wpr_drop ?_
       | refine wpr_p (o := .mv _) (by simp only [ev_mv, opd_s, opd_c, fget, Nat.reduceEqDiff, Nat.one_ne_zero, Nat.zero_ne_one, reduceCtorEq, ↓reduceIte]; rfl) ?_
       | (refine wpr_fork (fun _ => ?_) (fun _ => ?_) <;> try (exfalso; omega))
       | (refine wpr_forkN (fun _ => ?_) (fun _ => ?_) <;> try (exfalso; omega))
       | refine wpr_run rfl ?_
       | refine wpr_pass rfl rfl ?_
       | refine wpr_passS rfl ?_
       | ((first | apply wpr_p | apply wpr_r | apply wpr_callA | apply wpr_callA0 | apply wpr_e0 | apply wpr_e | apply wpr_end0); focus ((try simp (disch := omega) only [push_cast, Nat.reduceEqDiff, ↓reduceIte, reduceCtorEq, Nat.reduceAdd, Nat.reduceMul, Nat.reduceLeDiff, hl2, hlen']); rfl))
       | refine wpr_pass0 rfl rfl ?_
       | refine wpr_pass0S rfl ?_
       | (apply wpr_end; (focus ((try simp (disch := omega) only [push_cast, Nat.reduceEqDiff, ↓reduceIte, reduceCtorEq, Nat.reduceAdd, Nat.reduceMul, Nat.reduceLeDiff, hl2, hlen']); rfl)); (focus (simp (disch := omega) only [push_cast, Nat.reduceEqDiff, ↓reduceIte, reduceCtorEq, Nat.reduceAdd, Nat.reduceMul, Nat.reduceLeDiff, hl2, hlen']; done)))
       | fail)
    | (show Wp _ _ _ _ _ _
       first
       | refine wp_seq ?_
       | refine wp_region0 ?_
       | refine wp_region ?_
       | refine wp_cond_t rfl ?_
       | refine wp_cond_f rfl ?_
       | refine wp_ret ?_
       | refine wp_skip ?_
       | refine wp_exit ?_
       | refine wp_block ?_
       | fail)
    | refine thenQ_norm ?_
    | refine thenQ_ret ?_
    | refine thenQ_exit ?_
    | refine blockQ_norm ?_
    | refine blockQ_ret ?_
    | refine blockQ_same ?_
    | refine blockQ_ne rfl ?_
    | refine loopQ_norm ?_
    | refine loopQ_ret ?_
    | refine loopQ_exit ?_
    | ((first | apply retQ_ret | apply retQ_norm | apply wpc_of); focus ((try simp (disch := omega) only [push_cast, Nat.reduceEqDiff, ↓reduceIte, reduceCtorEq, Nat.reduceAdd, Nat.reduceMul, Nat.reduceLeDiff, hl2, hlen']); rfl))
    | fail)
  have htk : Reads h 2 (s.take m.length) (m.map spanV) := by
    have := hr.take (k := m.length) (by simp; omega)
    rw [← List.map_take, hlm, List.take_left] at this
    exact this
  refine wpc_of (same_eq m m _ t h htk ht (by omega)) ?_
  (repeat' first
    | (show WpR _ _ _ _ _ _ _ _ _
       first
       | refine wpr_drop ?_
       | refine wpr_p (o := .mv _) (by simp only [ev_mv, opd_s, opd_c, fget, Nat.reduceEqDiff, Nat.one_ne_zero, Nat.zero_ne_one, reduceCtorEq, ↓reduceIte]; rfl) ?_
       | (refine wpr_fork (fun _ => ?_) (fun _ => ?_) <;> try (exfalso; omega))
       | (refine wpr_forkN (fun _ => ?_) (fun _ => ?_) <;> try (exfalso; omega))
       | refine wpr_run rfl ?_
       | refine wpr_pass rfl rfl ?_
       | refine wpr_passS rfl ?_
       | ((first | apply wpr_p | apply wpr_r | apply wpr_callA | apply wpr_callA0 | apply wpr_e0 | apply wpr_e | apply wpr_end0); focus ((try simp (disch := omega) only [push_cast, Nat.reduceEqDiff, ↓reduceIte, reduceCtorEq, Nat.reduceAdd, Nat.reduceMul, Nat.reduceLeDiff, hl2, hlen']); rfl))
       | refine wpr_pass0 rfl rfl ?_
       | refine wpr_pass0S rfl ?_
       | (apply wpr_end; (focus ((try simp (disch := omega) only [push_cast, Nat.reduceEqDiff, ↓reduceIte, reduceCtorEq, Nat.reduceAdd, Nat.reduceMul, Nat.reduceLeDiff, hl2, hlen']); rfl)); (focus (simp (disch := omega) only [push_cast, Nat.reduceEqDiff, ↓reduceIte, reduceCtorEq, Nat.reduceAdd, Nat.reduceMul, Nat.reduceLeDiff, hl2, hlen']; done)))
       | fail)
    | (show Wp _ _ _ _ _ _
       first
       | refine wp_seq ?_
       | refine wp_region0 ?_
       | refine wp_region ?_
       | refine wp_cond_t rfl ?_
       | refine wp_cond_f rfl ?_
       | refine wp_ret ?_
       | refine wp_skip ?_
       | refine wp_exit ?_
       | refine wp_block ?_
       | fail)
    | refine thenQ_norm ?_
    | refine thenQ_ret ?_
    | refine thenQ_exit ?_
    | refine blockQ_norm ?_
    | refine blockQ_ret ?_
    | refine blockQ_same ?_
    | refine blockQ_ne rfl ?_
    | refine loopQ_norm ?_
    | refine loopQ_ret ?_
    | refine loopQ_exit ?_
    | ((first | apply retQ_ret | apply retQ_norm | apply wpc_of); focus ((try simp (disch := omega) only [push_cast, Nat.reduceEqDiff, ↓reduceIte, reduceCtorEq, Nat.reduceAdd, Nat.reduceMul, Nat.reduceLeDiff, hl2, hlen']); rfl))
    | fail)
  refine wp_loop (fun n fr lc h' => ∃ i : Nat, n = 80 - i ∧ i ≤ 80 ∧ fr = [(0, s.val 2), (5, .pointer (some ⟨10, 0, some 1⟩)), (7, .int .i64 (m.length + i : Nat))] ∧ lc = [(10, .cells false [.int .i32 x, .int .i32 y])] ∧ h' = h)
    80 ⟨0, rfl, by omega, rfl, rfl, rfl⟩ ?_
  rintro n fr lc h' ⟨i, rfl, hi, rfl, rfl, rfl⟩
  (repeat' first
    | (show WpR _ _ _ _ _ _ _ _ _
       first
       | refine wpr_drop ?_
       | refine wpr_p (o := .mv _) (by simp only [ev_mv, opd_s, opd_c, fget, Nat.reduceEqDiff, Nat.one_ne_zero, Nat.zero_ne_one, reduceCtorEq, ↓reduceIte]; rfl) ?_
       | (refine wpr_fork (fun _ => ?_) (fun _ => ?_) <;> try (exfalso; omega))
       | (refine wpr_forkN (fun _ => ?_) (fun _ => ?_) <;> try (exfalso; omega))
       | refine wpr_run rfl ?_
       | refine wpr_pass rfl rfl ?_
       | refine wpr_passS rfl ?_
       | ((first | apply wpr_p | apply wpr_r | apply wpr_callA | apply wpr_callA0 | apply wpr_e0 | apply wpr_e | apply wpr_end0); focus ((try simp (disch := omega) only [push_cast, Nat.reduceEqDiff, ↓reduceIte, reduceCtorEq, Nat.reduceAdd, Nat.reduceMul, Nat.reduceLeDiff, hl2, rd_map hr, spanV]); rfl))
       | refine wpr_pass0 rfl rfl ?_
       | refine wpr_pass0S rfl ?_
       | (apply wpr_end; (focus ((try simp (disch := omega) only [push_cast, Nat.reduceEqDiff, ↓reduceIte, reduceCtorEq, Nat.reduceAdd, Nat.reduceMul, Nat.reduceLeDiff, hl2, rd_map hr, spanV]); rfl)); (focus (simp (disch := omega) only [push_cast, Nat.reduceEqDiff, ↓reduceIte, reduceCtorEq, Nat.reduceAdd, Nat.reduceMul, Nat.reduceLeDiff, hl2, rd_map hr, spanV]; done)))
       | fail)
    | (show Wp _ _ _ _ _ _
       first
       | refine wp_seq ?_
       | refine wp_region0 ?_
       | refine wp_region ?_
       | refine wp_cond_t rfl ?_
       | refine wp_cond_f rfl ?_
       | refine wp_ret ?_
       | refine wp_skip ?_
       | refine wp_exit ?_
       | refine wp_block ?_
       | fail)
    | refine thenQ_norm ?_
    | refine thenQ_ret ?_
    | refine thenQ_exit ?_
    | refine blockQ_norm ?_
    | refine blockQ_ret ?_
    | refine blockQ_same ?_
    | refine blockQ_ne rfl ?_
    | refine loopQ_norm ?_
    | refine loopQ_ret ?_
    | refine loopQ_exit ?_
    | ((first | apply retQ_ret | apply retQ_norm | apply wpc_of); focus ((try simp (disch := omega) only [push_cast, Nat.reduceEqDiff, ↓reduceIte, reduceCtorEq, Nat.reduceAdd, Nat.reduceMul, Nat.reduceLeDiff, hl2, rd_map hr, spanV]); rfl))
    | fail)
  · refine ⟨_, ?_, i + 1, rfl, by omega, ?_, rfl, rfl⟩
    · omega
    · rfl
  · rename_i g1 g
    have e1 : ((m.length : Int) + (i : Int)).toNat = m.length + i := by omega
    refine absurd ?_ g
    simp only [e1]
    subst hlm
    rw [List.getElem_append_right (by omega), List.getElem_replicate]
    exact ⟨rfl, rfl⟩
  · exact ⟨rfl, rfl⟩
  · exact absurd rfl ‹¬ m = m›

end Go.Proofs.Ytanpdopjgepbkaa.AM
