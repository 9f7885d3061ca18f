/- Lifted functions, each a constant. -/
import Derived.Test.YtanpdopjgepbkaaAmSl
import Derived.Test.YtanpdopjgepbkaaAmHints
import Derived.Test.YtanpdopjgepbkaaProg
set_option linter.unusedVariables false
namespace Go.Proofs.Ytanpdopjgepbkaa.AM
open Go

/-- The law's opening runs 'alive': a closed call. -/
def aliveX : List Value → AH → Option (Value × AH) := fun args h => if args.isEmpty then some (.bool true, h) else none

/-- Rows of ranks. -/
def rowV (x : Int × Int) : List Value := [.int .i64 x.1, .int .i64 x.2]
def leRow (x y : Int × Int) : Bool := decide (x.1 < y.1 ∨ x.1 = y.1 ∧ x.2 ≤ y.2)
def sortF (l : List (Int × Int)) : List (Int × Int) := l.mergeSort leRow
def rowsOf : List Value → Option (List (Int × Int))
  | [] => some []
  | .int .i64 a :: .int .i64 b :: r => (rowsOf r).map ((a, b) :: ·)
  | _ => none

/-- Rows are sorted in their place: a call of the library's sort with the closure of 'made'. -/
def sortX : List Value → AH → Option (Value × AH) := fun args h =>
  match args with
  | [.slice none n e, .func (.func g) a b] => if n = 0 ∧ e = 0 ∧ g = 88 ∧ a.size = 0 ∧ b.size = 0 then some (.tuple #[], h) else none
  | [.slice (some ⟨bk, o, none⟩) n e, .func (.func g) a b] =>
    match h.get bk with
    | some (.cells false xs) => if 0 < n ∧ n < 1000000000000000 ∧ e = 2 ∧ g = 88 ∧ a.size = 0 ∧ b.size = 0 ∧ o + n * 2 ≤ xs.length then
        (match rowsOf ((xs.drop o).take (n * 2)) with
        | some ps => some (.tuple #[], h.set bk (.cells false (xs.take o ++ (((sortF ps).map rowV).flatten ++ xs.drop (o + n * 2)))))
        | none => none) else none
    | _ => none
  | _ => none

def extS : FuncId → Option (List Value → AH → Option (Value × AH)) := fun f => if f = 14 then some aliveX else if f = 87 then some sortX else none
def withExt (q : Prg) (e : FuncId → Option (List Value → AH → Option (Value × AH))) : Prg := ⟨q.fn, e⟩
theorem withExt_fn (q : Prg) (e : FuncId → Option (List Value → AH → Option (Value × AH))) (f : FuncId) : (withExt q e).fn f = q.fn f := rfl
theorem withExt_ext (q : Prg) (e : FuncId → Option (List Value → AH → Option (Value × AH))) (f : FuncId) : (withExt q e).ext f = e f := rfl
noncomputable def PS : Prg := withExt (autoPrg Try.prog) extS
theorem ps_fn {f : FuncId} {lf : LFunc} (hf : (autoPrg Try.prog).fn f = some lf) : PS.fn f = some lf := by
  unfold PS
  rw [withExt_fn]
  exact hf
theorem ps_ext {f : FuncId} (hf : (f == 14 || f == 87) = false) : PS.ext f = none := by
  have h1 : ¬ f = 14 := by rintro rfl; cases hf
  have h2 : ¬ f = 87 := by rintro rfl; cases hf
  unfold PS
  rw [withExt_ext]
  simp only [extS, if_neg h1, if_neg h2]

def LF62 : LFunc :=
  .mk 1 [.tmp 2] (.seq (.region [.mk (some 2) (.p (.mv (.c (.bool false)))) none] [0] []) (.seq (.block 0 (.seq (.region [.mk (some 4) (.p (.mv (.s 0))) none, .mk (some 5) (.p (.bin
  .leq (.c (.int .i32 0)) (.s 4))) none, .mk (some 6) (.p (.mv (.s 5))) none, .mk (some 7) (.p (.mv (.s 0))) (some (6, true)), .mk (some 8) (.p (.bin .lss (.s 7) (.c (.int .i32
  55296)))) (some (6, true)), .mk (some 9) (.p (.pick (.s 6) (.s 8) (.c (.bool false)))) none, .mk (some 3) (.p (.mv (.s 9))) none] [0, 3] []) (.cond (.s 3) (.seq (.region [.mk
  (some 2) (.p (.mv (.c (.bool true)))) none] [2] []) .ret) (.seq (.region [.mk (some 11) (.p (.mv (.s 0))) none, .mk (some 12) (.p (.bin .lss (.c (.int .i32 57343)) (.s 11))) none,
  .mk (some 13) (.p (.mv (.s 12))) none, .mk (some 14) (.p (.mv (.s 0))) (some (13, true)), .mk (some 15) (.p (.bin .leq (.s 14) (.c (.int .i32 1114111)))) (some (13, true)), .mk
  (some 16) (.p (.pick (.s 13) (.s 15) (.c (.bool false)))) none, .mk (some 10) (.p (.mv (.s 16))) none] [10] []) (.cond (.s 10) (.seq (.region [.mk (some 2) (.p (.mv (.c (.bool
  true)))) none] [2] []) .ret) .skip))))) (.seq (.region [.mk (some 2) (.p (.mv (.c (.bool false)))) none] [2] []) .ret)))
theorem fn62 : (autoPrg Try.prog).fn 62 = some LF62 := by kernel_rfl

def LF64 : LFunc :=
  .mk 1 [.tmp 2] (.seq (.region [.mk (some 2) (.p (.mv (.c (.int .i64 0)))) none] [0] []) (.seq (.block 0 (.seq (.region [.mk (some 4) (.p (.mv (.s 0))) none, .mk (some 5) (.p (.bin
  .lss (.s 4) (.c (.int .i64 55296)))) none, .mk (some 3) (.p (.mv (.s 5))) none] [0, 3] []) (.cond (.s 3) (.seq (.region [.mk (some 6) (.p (.mv (.s 0))) none, .mk (some 7) (.p (.mm
  true [.s 6, .c (.int .i64 0)])) none, .mk (some 2) (.p (.mv (.s 7))) none] [2] []) .ret) (.seq (.region [.mk (some 9) (.p (.mv (.s 0))) none, .mk (some 10) (.p (.bin .lss (.s 9)
  (.c (.int .i64 57344)))) none, .mk (some 8) (.p (.mv (.s 10))) none] [0, 8] []) (.cond (.s 8) (.seq (.region [.mk (some 2) (.p (.mv (.c (.int .i64 55296)))) none] [2] []) .ret)
  .skip))))) (.seq (.region [.mk (some 11) (.p (.mv (.s 0))) none, .mk (some 12) (.p (.bin .sub (.s 11) (.c (.int .i64 2048)))) none, .mk (some 13) (.p (.mm false [.s 12, .c (.int
  .i64 1112064)])) none, .mk (some 2) (.p (.mv (.s 13))) none] [2] []) .ret)))
theorem fn64 : (autoPrg Try.prog).fn 64 = some LF64 := by kernel_rfl

def LF65 : LFunc :=
  .mk 1 [.tmp 2] (.seq (.region [.mk (some 2) (.p (.mv (.c (.bool false)))) none] [0] []) (.seq (.region [.mk (some 3) (.p (.mv (.s 0))) none, .mk (some 4) (.p (.bin .geq (.s 3) (.c
  (.int .i64 0)))) none, .mk (some 5) (.p (.mv (.s 4))) none, .mk (some 6) (.p (.mv (.s 0))) (some (5, true)), .mk (some 7) (.p (.bin .leq (.s 6) (.c (.int .i64 1114111)))) (some
  (5, true)), .mk (some 8) (.p (.pick (.s 5) (.s 7) (.c (.bool false)))) none, .mk (some 9) (.p (.mv (.s 8))) none, .mk (some 10) (.p (.mv (.s 0))) (some (9, true)), .mk (some 11)
  (.p (.bin .lss (.s 10) (.c (.int .i64 55296)))) (some (9, true)), .mk (some 12) (.p (.mv (.s 11))) (some (9, true)), .mk (some 13) (.p (.mv (.s 0))) (some (12, false)), .mk (some
  14) (.p (.bin .gtr (.s 13) (.c (.int .i64 57343)))) (some (12, false)), .mk (some 15) (.p (.pick (.s 12) (.c (.bool true)) (.s 14))) (some (9, true)), .mk (some 16) (.p (.pick (.s
  9) (.s 15) (.c (.bool false)))) none, .mk (some 2) (.p (.mv (.s 16))) none] [2] []) .ret))
theorem fn65 : (autoPrg Try.prog).fn 65 = some LF65 := by kernel_rfl

def LF60 : LFunc :=
  .mk 1 [.tmp 2] (.seq (.region [.mk (some 2) (.p (.mv (.c (.int .i32 0)))) none] [0] []) (.seq (.seq (.region [.mk (some 3) (.p (.mv (.s 0))) none, .mk (some 4) (.p (.bin .geq (.s
  3) (.c (.int .i64 55296)))) none] [0, 4] []) (.cond (.s 4) (.region [.mk (some 5) (.p (.mv (.s 0))) none, .mk (some 6) (.p (.bin .add (.s 5) (.c (.int .i64 2048)))) none, .mk
  (some 0) (.p (.mv (.s 6))) none] [0] []) .skip)) (.seq (.region [.mk (some 7) (.p (.mv (.s 0))) none, .mk (some 8) (.p (.conv .i32 (.s 7))) none, .mk (some 2) (.p (.mv (.s 8)))
  none] [2] []) .ret)))
theorem fn60 : (autoPrg Try.prog).fn 60 = some LF60 := by kernel_rfl

def LF71 : LFunc :=
  .mk 1 [.tmp 2] (.seq (.region [.mk (some 1) (.e (.boxL 1 2 (.s 0))) none, .mk (some 2) (.p (.mv (.c (.int .i64 0)))) none] [1] []) (.seq (.block 0 (.seq (.region [.mk (some 4) (.p
  (.faddr 0 (.s 1))) none, .mk (some 5) (.r (.load none (.s 4))) none, .mk (some 6) (.e (.call 62 [.s 5])) none, .mk (some 7) (.p (.un .not (.s 6))) none, .mk (some 8) (.p (.mv (.s
  7))) none, .mk (some 9) (.p (.faddr 1 (.s 1))) (some (8, false)), .mk (some 10) (.r (.load none (.s 9))) (some (8, false)), .mk (some 11) (.e (.call 62 [.s 10])) (some (8,
  false)), .mk (some 12) (.p (.un .not (.s 11))) (some (8, false)), .mk (some 13) (.p (.pick (.s 8) (.c (.bool true)) (.s 12))) none, .mk (some 3) (.p (.mv (.s 13))) none] [1, 3]
  []) (.cond (.s 3) (.seq (.region [.mk (some 2) (.p (.mv (.c (.int .i64 12)))) none] [2] []) .ret) (.seq (.region [.mk (some 15) (.p (.faddr 0 (.s 1))) none, .mk (some 16) (.r
  (.load none (.s 15))) none, .mk (some 17) (.p (.faddr 1 (.s 1))) none, .mk (some 18) (.r (.load none (.s 17))) none, .mk (some 19) (.p (.bin .gtr (.s 16) (.s 18))) none, .mk (some
  14) (.p (.mv (.s 19))) none] [14] []) (.cond (.s 14) (.seq (.region [.mk (some 2) (.p (.mv (.c (.int .i64 11)))) none] [2] []) .ret) .skip))))) (.seq (.region [.mk (some 2) (.p
  (.mv (.c (.int .i64 0)))) none] [2] []) .ret)))
theorem fn71 : (autoPrg Try.prog).fn 71 = some LF71 := by kernel_rfl

def LF72 : LFunc :=
  .mk 1 [.tmp 2] (.seq (.region [.mk (some 1) (.e (.boxL 1 2 (.s 0))) none, .mk (some 2) (.p (.mv (.c (.int .i64 0)))) none] [1] []) (.seq (.seq (.region [.mk (some 3) (.p (.faddr 0
  (.s 1))) none, .mk (some 4) (.r (.load none (.s 3))) none, .mk (some 5) (.p (.conv .i64 (.s 4))) none, .mk (some 6) (.e (.call 65 [.s 5])) none, .mk (some 7) (.p (.un .not (.s
  6))) none, .mk (some 8) (.p (.mv (.s 7))) none, .mk (some 9) (.p (.faddr 1 (.s 1))) (some (8, false)), .mk (some 10) (.r (.load none (.s 9))) (some (8, false)), .mk (some 11) (.p
  (.conv .i64 (.s 10))) (some (8, false)), .mk (some 12) (.e (.call 65 [.s 11])) (some (8, false)), .mk (some 13) (.p (.un .not (.s 12))) (some (8, false)), .mk (some 14) (.p (.pick
  (.s 8) (.c (.bool true)) (.s 13))) none] [1, 14] []) (.cond (.s 14) (.seq (.region [.mk (some 2) (.p (.mv (.c (.int .i64 12)))) none] [2] []) .ret) .skip)) (.seq (.seq (.region
  [.mk (some 15) (.p (.faddr 0 (.s 1))) none, .mk (some 16) (.r (.load none (.s 15))) none, .mk (some 17) (.p (.faddr 1 (.s 1))) none, .mk (some 18) (.r (.load none (.s 17))) none,
  .mk (some 19) (.p (.bin .gtr (.s 16) (.s 18))) none] [19] []) (.cond (.s 19) (.seq (.region [.mk (some 2) (.p (.mv (.c (.int .i64 11)))) none] [2] []) .ret) .skip)) (.seq (.region
  [.mk (some 2) (.p (.mv (.c (.int .i64 0)))) none] [2] []) .ret))))
theorem fn72 : (autoPrg Try.prog).fn 72 = some LF72 := by kernel_rfl

def LF74 : LFunc :=
  .mk 1 [.tmp 2] (.seq (.region [.mk (some 2) (.p (.mv (.c (.int .i32 0)))) none] [0] []) (.seq (.seq (.region [.mk (some 3) (.p (.mv (.s 0))) none, .mk (some 4) (.p (.bin .eql (.s
  3) (.c (.int .i32 55295)))) none] [0, 4] []) (.cond (.s 4) (.seq (.region [.mk (some 2) (.p (.mv (.c (.int .i32 57344)))) none] [2] []) .ret) .skip)) (.seq (.region [.mk (some 5)
  (.p (.mv (.s 0))) none, .mk (some 6) (.p (.bin .add (.s 5) (.c (.int .i32 1)))) none, .mk (some 2) (.p (.mv (.s 6))) none] [2] []) .ret)))
theorem fn74 : (autoPrg Try.prog).fn 74 = some LF74 := by kernel_rfl

def LF15 : LFunc :=
  .mk 1 [.tmp 2] (.seq (.region [.mk (some 2) (.p (.mv (.c (.slice none 0 0)))) none] [0] []) (.seq (.seq (.region [.mk (some 3) (.p (.mv (.s 0))) none, .mk (some 4) (.p (.len (.s
  3))) none, .mk (some 5) (.p (.bin .gtr (.s 4) (.c (.int .i64 60)))) none] [0, 5] []) (.cond (.s 5) (.seq (.region [.mk (some 6) (.p (.mv (.s 0))) none, .mk (some 7) (.p (.sl 2 (.s
  6) none (some (.c (.int .i64 60))) none)) none, .mk (some 2) (.p (.mv (.s 7))) none] [2] []) .ret) .skip)) (.seq (.region [.mk (some 8) (.p (.mv (.s 0))) none, .mk (some 2) (.p
  (.mv (.s 8))) none] [2] []) .ret)))
theorem fn15 : (autoPrg Try.prog).fn 15 = some LF15 := by kernel_rfl

def LF61 : LFunc :=
  .mk 1 [.tmp 2] (.seq (.region [.mk (some 1) (.e (.boxL 1 2 (.s 0))) none, .mk (some 2) (.p (.mv (.c (.int .i64 0)))) none] [1] []) (.seq (.region [.mk (some 4) (.p (.faddr 1 (.s
  1))) none, .mk (some 5) (.r (.load none (.s 4))) none, .mk (some 6) (.p (.conv .i64 (.s 5))) none, .mk (some 7) (.p (.faddr 0 (.s 1))) none, .mk (some 8) (.r (.load none (.s 7)))
  none, .mk (some 9) (.p (.conv .i64 (.s 8))) none, .mk (some 10) (.p (.bin .sub (.s 6) (.s 9))) none, .mk (some 11) (.p (.bin .add (.s 10) (.c (.int .i64 1)))) none, .mk (some 3)
  (.p (.mv (.s 11))) none] [1, 3] []) (.seq (.seq (.region [.mk (some 12) (.p (.faddr 0 (.s 1))) none, .mk (some 13) (.r (.load none (.s 12))) none, .mk (some 14) (.p (.bin .lss (.s
  13) (.c (.int .i32 55296)))) none, .mk (some 15) (.p (.mv (.s 14))) none, .mk (some 16) (.p (.faddr 1 (.s 1))) (some (15, true)), .mk (some 17) (.r (.load none (.s 16))) (some
  (15, true)), .mk (some 18) (.p (.bin .gtr (.s 17) (.c (.int .i32 57343)))) (some (15, true)), .mk (some 19) (.p (.pick (.s 15) (.s 18) (.c (.bool false)))) none] [3, 19] [])
  (.cond (.s 19) (.region [.mk (some 20) (.p (.mv (.s 3))) none, .mk (some 21) (.p (.bin .sub (.s 20) (.c (.int .i64 2048)))) none, .mk (some 3) (.p (.mv (.s 21))) none] [3] [])
  .skip)) (.seq (.region [.mk (some 22) (.p (.mv (.s 3))) none, .mk (some 2) (.p (.mv (.s 22))) none] [2] []) .ret))))
theorem fn61 : (autoPrg Try.prog).fn 61 = some LF61 := by kernel_rfl

def LF16 : LFunc :=
  .mk 2 [.tmp 4] (.seq (.region [.mk (some 3) (.e (.boxL 3 2 (.s 1))) none, .mk (some 4) (.p (.mv (.c (.slice none 0 0)))) none] [0, 3] []) (.seq (.region [.mk (some 7) (.p (.mv (.s
  0))) none, .mk (some 8) (.p (.len (.s 7))) none, .mk (some 9) (.p (.bin .add (.s 8) (.c (.int .i64 80)))) none, .mk (some 10) (.e (.mks 2 8 [.int .i32 0, .int .i32 0] (.s 9) (.s
  9))) none, .mk (some 5) (.p (.mv (.s 10))) none] [0, 3, 5] []) (.seq (.region [.mk (some 11) (.p (.mv (.s 5))) none, .mk (some 12) (.p (.mv (.s 0))) none, .mk (some 13) (.e (.copy
  2 (.s 11) (.s 12))) none] [0, 3, 5] []) (.seq (.seq (.region [.mk (some 14) (.p (.mv (.s 0))) none, .mk (some 15) (.p (.len (.s 14))) none, .mk (some 6) (.p (.mv (.s 15))) none]
  [3, 5, 6] []) (.block 0 (.loop (.seq (.seq (.region [.mk (some 16) (.p (.mv (.s 6))) none, .mk (some 17) (.p (.mv (.s 5))) none, .mk (some 18) (.p (.len (.s 17))) none, .mk (some
  19) (.p (.bin .lss (.s 16) (.s 18))) none] [3, 5, 6, 19] []) (.cond (.s 19) .skip (.exit 0))) (.seq (.block 1 (.region [.mk (some 22) (.p (.mv (.s 5))) none, .mk (some 23) (.p
  (.mv (.s 6))) none, .mk (some 24) (.r (.load (some 2) (.s 3))) none, .mk (some 25) (.p (.iaddr 2 (.s 22) (.s 23))) none, .mk none (.e (.store 2 (.s 25) (.s 24))) none] [3, 5, 6]
  [])) (.region [.mk (some 20) (.p (.mv (.s 6))) none, .mk (some 21) (.p (.bin .add (.s 20) (.c (.int .i64 1)))) none, .mk (some 6) (.p (.mv (.s 21))) none] [3, 5, 6] [])))))) (.seq
  (.region [.mk (some 26) (.p (.mv (.s 5))) none, .mk (some 4) (.p (.mv (.s 26))) none] [4] []) .ret)))))
theorem fn16 : (autoPrg Try.prog).fn 16 = some LF16 := by kernel_rfl

def LF19 : LFunc :=
  .mk 2 [.tmp 4] (.seq (.region [.mk (some 4) (.p (.mv (.c (.bool false)))) none] [0, 1] []) (.seq (.seq (.region [.mk (some 6) (.p (.mv (.s 0))) none, .mk (some 7) (.p (.len (.s
  6))) none, .mk (some 8) (.p (.mv (.s 1))) none, .mk (some 9) (.p (.len (.s 8))) none, .mk (some 10) (.p (.bin .neq (.s 7) (.s 9))) none] [0, 1, 10] []) (.cond (.s 10) (.seq
  (.region [.mk (some 4) (.p (.mv (.c (.bool false)))) none] [4] []) .ret) .skip)) (.seq (.seq (.region [.mk (some 5) (.p (.mv (.c (.int .i64 0)))) none] [0, 1, 5] []) (.block 0
  (.loop (.seq (.seq (.region [.mk (some 11) (.p (.mv (.s 5))) none, .mk (some 12) (.p (.mv (.s 0))) none, .mk (some 13) (.p (.len (.s 12))) none, .mk (some 14) (.p (.bin .lss (.s
  11) (.s 13))) none] [0, 1, 5, 14] []) (.cond (.s 14) .skip (.exit 0))) (.seq (.block 1 (.seq (.region [.mk (some 17) (.p (.mv (.s 0))) none, .mk (some 18) (.p (.mv (.s 5))) none,
  .mk (some 19) (.p (.iaddr 2 (.s 17) (.s 18))) none, .mk (some 20) (.r (.load (some 2) (.s 19))) none, .mk (some 21) (.p (.mv (.s 1))) none, .mk (some 22) (.p (.mv (.s 5))) none,
  .mk (some 23) (.p (.iaddr 2 (.s 21) (.s 22))) none, .mk (some 24) (.r (.load (some 2) (.s 23))) none, .mk (some 25) (.p (.eqA true [.int, .int] (.s 20) (.s 24))) none] [0, 1, 5,
  25] []) (.cond (.s 25) (.seq (.region [.mk (some 4) (.p (.mv (.c (.bool false)))) none] [4] []) .ret) .skip))) (.region [.mk (some 15) (.p (.mv (.s 5))) none, .mk (some 16) (.p
  (.bin .add (.s 15) (.c (.int .i64 1)))) none, .mk (some 5) (.p (.mv (.s 16))) none] [0, 1, 5] [])))))) (.seq (.region [.mk (some 4) (.p (.mv (.c (.bool true)))) none] [4] [])
  .ret))))
theorem fn19 : (autoPrg Try.prog).fn 19 = some LF19 := by kernel_rfl

def LF25 : LFunc :=
  .mk 3 [.tmp 6] (.seq (.region [.mk (some 5) (.e (.boxL 5 2 (.s 2))) none, .mk (some 6) (.p (.mv (.c (.bool false)))) none] [0, 1, 5] []) (.seq (.seq (.region [.mk (some 8) (.p
  (.mv (.s 0))) none, .mk (some 9) (.p (.len (.s 8))) none, .mk (some 10) (.p (.mv (.s 1))) none, .mk (some 11) (.p (.len (.s 10))) none, .mk (some 12) (.p (.bin .add (.s 11) (.c
  (.int .i64 80)))) none, .mk (some 13) (.p (.bin .neq (.s 9) (.s 12))) none, .mk (some 14) (.p (.mv (.s 13))) none, .mk (some 15) (.p (.mv (.s 0))) (some (14, false)), .mk (some
  16) (.p (.mv (.s 1))) (some (14, false)), .mk (some 17) (.p (.len (.s 16))) (some (14, false)), .mk (some 18) (.p (.sl 2 (.s 15) none (some (.s 17)) none)) (some (14, false)), .mk
  (some 19) (.p (.mv (.s 1))) (some (14, false)), .mk (some 20) (.e (.call 19 [.s 18, .s 19])) (some (14, false)), .mk (some 21) (.p (.un .not (.s 20))) (some (14, false)), .mk
  (some 22) (.p (.pick (.s 14) (.c (.bool true)) (.s 21))) none] [0, 1, 5, 22] []) (.cond (.s 22) (.seq (.region [.mk (some 6) (.p (.mv (.c (.bool false)))) none] [6] []) .ret)
  .skip)) (.seq (.seq (.region [.mk (some 23) (.p (.mv (.s 1))) none, .mk (some 24) (.p (.len (.s 23))) none, .mk (some 7) (.p (.mv (.s 24))) none] [0, 5, 7] []) (.block 0 (.loop
  (.seq (.seq (.region [.mk (some 25) (.p (.mv (.s 7))) none, .mk (some 26) (.p (.mv (.s 0))) none, .mk (some 27) (.p (.len (.s 26))) none, .mk (some 28) (.p (.bin .lss (.s 25) (.s
  27))) none] [0, 5, 7, 28] []) (.cond (.s 28) .skip (.exit 0))) (.seq (.block 1 (.seq (.region [.mk (some 31) (.p (.mv (.s 0))) none, .mk (some 32) (.p (.mv (.s 7))) none, .mk
  (some 33) (.p (.iaddr 2 (.s 31) (.s 32))) none, .mk (some 34) (.r (.load (some 2) (.s 33))) none, .mk (some 35) (.r (.load (some 2) (.s 5))) none, .mk (some 36) (.p (.eqA true
  [.int, .int] (.s 34) (.s 35))) none] [0, 5, 7, 36] []) (.cond (.s 36) (.seq (.region [.mk (some 6) (.p (.mv (.c (.bool false)))) none] [6] []) .ret) .skip))) (.region [.mk (some
  29) (.p (.mv (.s 7))) none, .mk (some 30) (.p (.bin .add (.s 29) (.c (.int .i64 1)))) none, .mk (some 7) (.p (.mv (.s 30))) none] [0, 5, 7] [])))))) (.seq (.region [.mk (some 6)
  (.p (.mv (.c (.bool true)))) none] [6] []) .ret))))
theorem fn25 : (autoPrg Try.prog).fn 25 = some LF25 := by kernel_rfl

def LF32 : LFunc :=
  .mk 1 [.tmp 2, .tmp 3] (.seq (.region [.mk (some 2) (.p (.mv (.c (.int .i64 0)))) none, .mk (some 3) (.p (.mv (.c (.int .i64 0)))) none] [0] []) (.seq (.seq (.region [.mk (some 7)
  (.p (.mv (.s 0))) none, .mk (some 8) (.p (.len (.s 7))) none, .mk (some 9) (.p (.mv (.c (.int .i64 0)))) none] [0, 7, 8, 9] []) (.block 0 (.loop (.seq (.region [.mk (some 10) (.p
  (.bin .lss (.s 9) (.s 8))) none] [0, 7, 8, 9, 10] []) (.seq (.cond (.s 10) .skip (.exit 0)) (.seq (.block 1 (.seq (.region [.mk (some 11) (.p (.mv (.s 9))) none, .mk (some 12) (.p
  (.iaddr 2 (.s 7) (.s 9))) none, .mk (some 13) (.r (.load (some 2) (.s 12))) none, .mk (some 5) (.e (.newL 5 [.int .i32 0, .int .i32 0])) none, .mk (some 4) (.p (.mv (.s 11)))
  none, .mk none (.e (.store 2 (.s 5) (.s 13))) none] [0, 4, 5, 7, 8, 9] []) (.seq (.seq (.region [.mk (some 14) (.r (.load (some 2) (.s 5))) none, .mk (some 15) (.e (.call 71 [.s
  14])) none, .mk (some 6) (.p (.mv (.s 15))) none] [0, 4, 5, 6, 7, 8, 9] []) (.seq (.region [.mk (some 16) (.p (.mv (.s 6))) none, .mk (some 17) (.p (.bin .neq (.s 16) (.c (.int
  .i64 0)))) none] [0, 4, 5, 6, 7, 8, 9, 17] []) (.cond (.s 17) (.seq (.region [.mk (some 18) (.p (.mv (.s 4))) none, .mk (some 19) (.p (.mv (.s 6))) none, .mk (some 2) (.p (.mv (.s
  18))) none, .mk (some 3) (.p (.mv (.s 19))) none] [2, 3] []) .ret) .skip))) (.seq (.region [.mk (some 20) (.p (.mv (.s 4))) none, .mk (some 21) (.p (.bin .gtr (.s 20) (.c (.int
  .i64 0)))) none, .mk (some 22) (.p (.mv (.s 21))) none, .mk (some 23) (.p (.faddr 0 (.s 5))) (some (22, true)), .mk (some 24) (.r (.load none (.s 23))) (some (22, true)), .mk
  (some 25) (.p (.mv (.s 0))) (some (22, true)), .mk (some 26) (.p (.mv (.s 4))) (some (22, true)), .mk (some 27) (.p (.bin .sub (.s 26) (.c (.int .i64 1)))) (some (22, true)), .mk
  (some 28) (.p (.iaddr 2 (.s 25) (.s 27))) (some (22, true)), .mk (some 29) (.p (.faddr 1 (.s 28))) (some (22, true)), .mk (some 30) (.r (.load none (.s 29))) (some (22, true)),
  .mk (some 31) (.p (.bin .leq (.s 24) (.s 30))) (some (22, true)), .mk (some 32) (.p (.pick (.s 22) (.s 31) (.c (.bool false)))) none] [0, 4, 7, 8, 9, 32] []) (.cond (.s 32) (.seq
  (.region [.mk (some 33) (.p (.mv (.s 4))) none, .mk (some 2) (.p (.mv (.s 33))) none, .mk (some 3) (.p (.mv (.c (.int .i64 13)))) none] [2, 3] []) .ret) .skip))))) (.region [.mk
  (some 34) (.p (.bin .add (.s 9) (.c (.int .i64 1)))) none, .mk (some 9) (.p (.mv (.s 34))) none] [0, 7, 8, 9] []))))))) (.seq (.region [.mk (some 2) (.p (.mv (.c (.int .i64 0))))
  none, .mk (some 3) (.p (.mv (.c (.int .i64 0)))) none] [2, 3] []) .ret)))
theorem fn32 : (autoPrg Try.prog).fn 32 = some LF32 := by kernel_rfl

def LF33 : LFunc :=
  .mk 1 [.tmp 2, .tmp 3] (.seq (.region [.mk (some 2) (.p (.mv (.c (.int .i64 0)))) none, .mk (some 3) (.p (.mv (.c (.int .i64 0)))) none] [0] []) (.seq (.seq (.region [.mk (some 4)
  (.p (.mv (.c (.int .i64 0)))) none] [0, 4] []) (.block 0 (.loop (.seq (.seq (.region [.mk (some 5) (.p (.mv (.s 4))) none, .mk (some 6) (.p (.mv (.s 0))) none, .mk (some 7) (.p
  (.len (.s 6))) none, .mk (some 8) (.p (.bin .lss (.s 5) (.s 7))) none] [0, 4, 8] []) (.cond (.s 8) .skip (.exit 0))) (.seq (.block 1 (.seq (.seq (.region [.mk (some 11) (.p (.mv
  (.s 0))) none, .mk (some 12) (.p (.mv (.s 4))) none, .mk (some 13) (.p (.iaddr 2 (.s 11) (.s 12))) none, .mk (some 14) (.r (.load (some 2) (.s 13))) none, .mk (some 15) (.e (.call
  72 [.s 14])) none, .mk (some 16) (.p (.bin .neq (.s 15) (.c (.int .i64 0)))) none] [0, 4, 16] []) (.cond (.s 16) (.seq (.region [.mk (some 17) (.p (.mv (.s 4))) none, .mk (some
  18) (.p (.mv (.s 0))) none, .mk (some 19) (.p (.mv (.s 4))) none, .mk (some 20) (.p (.iaddr 2 (.s 18) (.s 19))) none, .mk (some 21) (.r (.load (some 2) (.s 20))) none, .mk (some
  22) (.e (.call 72 [.s 21])) none, .mk (some 2) (.p (.mv (.s 17))) none, .mk (some 3) (.p (.mv (.s 22))) none] [2, 3] []) .ret) .skip)) (.seq (.region [.mk (some 23) (.p (.mv (.s
  4))) none, .mk (some 24) (.p (.bin .gtr (.s 23) (.c (.int .i64 0)))) none, .mk (some 25) (.p (.mv (.s 24))) none, .mk (some 26) (.p (.mv (.s 0))) (some (25, true)), .mk (some 27)
  (.p (.mv (.s 4))) (some (25, true)), .mk (some 28) (.p (.iaddr 2 (.s 26) (.s 27))) (some (25, true)), .mk (some 29) (.p (.faddr 0 (.s 28))) (some (25, true)), .mk (some 30) (.r
  (.load none (.s 29))) (some (25, true)), .mk (some 31) (.p (.mv (.s 0))) (some (25, true)), .mk (some 32) (.p (.mv (.s 4))) (some (25, true)), .mk (some 33) (.p (.bin .sub (.s 32)
  (.c (.int .i64 1)))) (some (25, true)), .mk (some 34) (.p (.iaddr 2 (.s 31) (.s 33))) (some (25, true)), .mk (some 35) (.p (.faddr 1 (.s 34))) (some (25, true)), .mk (some 36) (.r
  (.load none (.s 35))) (some (25, true)), .mk (some 37) (.p (.bin .leq (.s 30) (.s 36))) (some (25, true)), .mk (some 38) (.p (.pick (.s 25) (.s 37) (.c (.bool false)))) none] [0,
  4, 38] []) (.cond (.s 38) (.seq (.region [.mk (some 39) (.p (.mv (.s 4))) none, .mk (some 2) (.p (.mv (.s 39))) none, .mk (some 3) (.p (.mv (.c (.int .i64 13)))) none] [2, 3] [])
  .ret) .skip)))) (.region [.mk (some 9) (.p (.mv (.s 4))) none, .mk (some 10) (.p (.bin .add (.s 9) (.c (.int .i64 1)))) none, .mk (some 4) (.p (.mv (.s 10))) none] [0, 4] []))))))
  (.seq (.region [.mk (some 2) (.p (.mv (.c (.int .i64 0)))) none, .mk (some 3) (.p (.mv (.c (.int .i64 0)))) none] [2, 3] []) .ret)))
theorem fn33 : (autoPrg Try.prog).fn 33 = some LF33 := by kernel_rfl

def LF6 : LFunc :=
  .mk 1 [.tmp 2] (.seq (.region [.mk (some 2) (.p (.mv (.c (.bool false)))) none] [0] []) (.seq (.region [.mk (some 8) (.p (.mv (.s 0))) none, .mk (some 9) (.p (.build [.int .i32 0,
  .int .i32 0] [(0, 1, .c (.int .i32 7)), (1, 1, .c (.int .i32 7))])) none, .mk (some 10) (.e (.call 16 [.s 8, .s 9])) none, .mk (some 3) (.p (.mv (.s 10))) none] [0, 3] []) (.seq
  (.region [.mk (some 12) (.p (.mv (.s 3))) none, .mk (some 13) (.p (.mv (.s 0))) none, .mk (some 14) (.p (.len (.s 13))) none, .mk (some 15) (.p (.sl 2 (.s 12) none (some (.s 14))
  none)) none, .mk (some 16) (.e (.call 32 [.s 15])) none, .mk (some 11) (.p (.mv (.s 16))) none, .mk (some 17) (.p (.ext 0 (.s 11))) none, .mk (some 18) (.p (.ext 1 (.s 11))) none,
  .mk (some 4) (.p (.mv (.s 17))) none, .mk (some 5) (.p (.mv (.s 18))) none] [0, 3, 4, 5] []) (.seq (.region [.mk (some 20) (.p (.mv (.s 0))) none, .mk (some 21) (.e (.call 33 [.s
  20])) none, .mk (some 19) (.p (.mv (.s 21))) none, .mk (some 22) (.p (.ext 0 (.s 19))) none, .mk (some 23) (.p (.ext 1 (.s 19))) none, .mk (some 6) (.p (.mv (.s 22))) none, .mk
  (some 7) (.p (.mv (.s 23))) none] [0, 3, 4, 5, 6, 7] []) (.seq (.region [.mk (some 24) (.e (.call 14 [])) none, .mk (some 25) (.p (.mv (.s 24))) none, .mk (some 26) (.p (.mv (.s
  4))) (some (25, true)), .mk (some 27) (.p (.mv (.s 6))) (some (25, true)), .mk (some 28) (.p (.bin .eql (.s 26) (.s 27))) (some (25, true)), .mk (some 29) (.p (.pick (.s 25) (.s
  28) (.c (.bool false)))) none, .mk (some 30) (.p (.mv (.s 29))) none, .mk (some 31) (.p (.mv (.s 5))) (some (30, true)), .mk (some 32) (.p (.mv (.s 7))) (some (30, true)), .mk
  (some 33) (.p (.bin .eql (.s 31) (.s 32))) (some (30, true)), .mk (some 34) (.p (.pick (.s 30) (.s 33) (.c (.bool false)))) none, .mk (some 35) (.p (.mv (.s 34))) none, .mk (some
  36) (.p (.mv (.s 3))) (some (35, true)), .mk (some 37) (.p (.mv (.s 0))) (some (35, true)), .mk (some 38) (.p (.build [.int .i32 0, .int .i32 0] [(0, 1, .c (.int .i32 7)), (1, 1,
  .c (.int .i32 7))])) (some (35, true)), .mk (some 39) (.e (.call 25 [.s 36, .s 37, .s 38])) (some (35, true)), .mk (some 40) (.p (.pick (.s 35) (.s 39) (.c (.bool false)))) none,
  .mk (some 2) (.p (.mv (.s 40))) none] [2] []) .ret)))))
theorem fn6 : (autoPrg Try.prog).fn 6 = some LF6 := by kernel_rfl

end Go.Proofs.Ytanpdopjgepbkaa.AM
