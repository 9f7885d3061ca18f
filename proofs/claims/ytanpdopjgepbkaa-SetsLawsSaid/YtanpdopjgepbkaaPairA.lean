/- Lifted functions, each a constant: what is made of two sets. -/
import Derived.Test.YtanpdopjgepbkaaSA
set_option linter.unusedVariables false
namespace Go.Proofs.Ytanpdopjgepbkaa.AM
open Go

def LF51 : LFunc :=
  .mk 2 [.tmp 4] (.seq (.region [.mk (some 4) (.p (.mv (.c (.pointer none)))) none] [0, 1] []) (.seq (.region [.mk (some 5) (.p (.mv (.s 0))) none, .mk (some 6) (.p (.nilck (.s 5)))
  none, .mk (some 7) (.p (.faddr 0 (.s 6))) none, .mk (some 8) (.r (.load none (.s 7))) none, .mk (some 9) (.p (.mv (.s 1))) none, .mk (some 10) (.e (.call 80 [.s 9])) none, .mk
  (some 11) (.e (.litH 2 1 [.slice none 0 0] [(0, 1, .s 8), (1, 1, .s 10)])) none, .mk (some 12) (.e (.call 79 [.s 11])) none, .mk (some 13) (.e (.call 73 [.s 12])) none, .mk (some
  4) (.p (.mv (.s 13))) none] [4] [(3, 6)]) .ret))
theorem fn51 : (autoPrg Try.prog).fn 51 = some LF51 := by kernel_rfl

def LF52 : LFunc :=
  .mk 2 [.tmp 4] (.seq (.region [.mk (some 4) (.p (.mv (.c (.pointer none)))) none] [0, 1] []) (.seq (.region [.mk (some 5) (.p (.mv (.s 0))) none, .mk (some 6) (.p (.nilck (.s 5)))
  none, .mk (some 7) (.p (.faddr 0 (.s 6))) none, .mk (some 8) (.r (.load none (.s 7))) none, .mk (some 9) (.p (.mv (.s 1))) none, .mk (some 10) (.e (.call 80 [.s 9])) none, .mk
  (some 11) (.e (.call 81 [.s 8, .s 10])) none, .mk (some 12) (.e (.call 73 [.s 11])) none, .mk (some 4) (.p (.mv (.s 12))) none] [4] [(3, 6)]) .ret))
theorem fn52 : (autoPrg Try.prog).fn 52 = some LF52 := by kernel_rfl

def LF53 : LFunc :=
  .mk 2 [.tmp 4] (.seq (.region [.mk (some 4) (.p (.mv (.c (.pointer none)))) none] [0, 1] []) (.seq (.region [.mk (some 5) (.p (.mv (.s 0))) none, .mk (some 6) (.p (.nilck (.s 5)))
  none, .mk (some 7) (.p (.faddr 0 (.s 6))) none, .mk (some 8) (.r (.load none (.s 7))) none, .mk (some 9) (.p (.mv (.s 1))) none, .mk (some 10) (.e (.call 80 [.s 9])) none, .mk
  (some 11) (.e (.call 82 [.s 10])) none, .mk (some 12) (.e (.call 81 [.s 8, .s 11])) none, .mk (some 13) (.e (.call 73 [.s 12])) none, .mk (some 4) (.p (.mv (.s 13))) none] [4]
  [(3, 6), (3, 7)]) .ret))
theorem fn53 : (autoPrg Try.prog).fn 53 = some LF53 := by kernel_rfl

def LF54 : LFunc :=
  .mk 1 [.tmp 2] (.seq (.region [.mk (some 2) (.p (.mv (.c (.pointer none)))) none] [0] []) (.seq (.region [.mk (some 3) (.p (.mv (.s 0))) none, .mk (some 4) (.p (.nilck (.s 3)))
  none, .mk (some 5) (.p (.faddr 0 (.s 4))) none, .mk (some 6) (.r (.load none (.s 5))) none, .mk (some 7) (.e (.call 82 [.s 6])) none, .mk (some 8) (.e (.call 73 [.s 7])) none, .mk
  (some 2) (.p (.mv (.s 8))) none] [2] []) .ret))
theorem fn54 : (autoPrg Try.prog).fn 54 = some LF54 := by kernel_rfl

def LF55 : LFunc :=
  .mk 2 [.tmp 4] (.seq (.region [.mk (some 4) (.p (.mv (.c (.bool false)))) none] [0, 1] []) (.seq (.region [.mk (some 5) (.p (.mv (.s 0))) none, .mk (some 6) (.p (.nilck (.s 5)))
  none, .mk (some 7) (.p (.faddr 0 (.s 6))) none, .mk (some 8) (.r (.load none (.s 7))) none, .mk (some 9) (.p (.mv (.s 1))) none, .mk (some 10) (.e (.call 80 [.s 9])) none, .mk
  (some 11) (.e (.call 83 [.s 8, .s 10])) none, .mk (some 4) (.p (.mv (.s 11))) none] [4] [(3, 6)]) .ret))
theorem fn55 : (autoPrg Try.prog).fn 55 = some LF55 := by kernel_rfl

def LF79 : LFunc :=
  .mk 1 [.tmp 2] (.seq (.region [.mk (some 2) (.p (.mv (.c (.slice none 0 0)))) none] [0] []) (.seq (.region [.mk (some 3) (.p (.mv (.c (.int .i64 0)))) none] [0, 3] []) (.seq (.seq
  (.region [.mk (some 9) (.p (.mv (.s 0))) none, .mk (some 10) (.p (.len (.s 9))) none, .mk (some 11) (.p (.mv (.c (.int .i64 0)))) none] [0, 3, 9, 10, 11] []) (.block 0 (.loop
  (.seq (.region [.mk (some 12) (.p (.bin .lss (.s 11) (.s 10))) none] [0, 3, 9, 10, 11, 12] []) (.seq (.cond (.s 12) .skip (.exit 0)) (.seq (.block 1 (.seq (.region [.mk (some 13)
  (.p (.iaddr 1 (.s 9) (.s 11))) none, .mk (some 14) (.r (.load none (.s 13))) none, .mk (some 5) (.p (.mv (.s 14))) none] [0, 3, 5, 9, 10, 11] []) (.seq (.region [.mk (some 15) (.p
  (.mv (.s 3))) none, .mk (some 16) (.p (.mv (.s 5))) none, .mk (some 17) (.p (.len (.s 16))) none, .mk (some 18) (.p (.bin .add (.s 15) (.s 17))) none, .mk (some 3) (.p (.mv (.s
  18))) none] [0, 3, 9, 10, 11] []) (.seq (.region [.mk (some 19) (.p (.mv (.s 3))) none, .mk (some 20) (.p (.bin .lss (.s 19) (.c (.int .i64 0)))) none] [0, 3, 9, 10, 11, 20] [])
  (.cond (.s 20) .bad .skip))))) (.region [.mk (some 22) (.p (.bin .add (.s 11) (.c (.int .i64 1)))) none, .mk (some 11) (.p (.mv (.s 22))) none] [0, 3, 9, 10, 11] []))))))) (.seq
  (.region [.mk (some 23) (.p (.mv (.s 3))) none, .mk (some 24) (.e (.call 91 [.c (.slice none 0 0), .s 23])) none, .mk (some 6) (.p (.mv (.s 24))) none] [0, 6] []) (.seq (.seq
  (.region [.mk (some 25) (.p (.mv (.s 0))) none, .mk (some 26) (.p (.len (.s 25))) none, .mk (some 27) (.p (.mv (.c (.int .i64 0)))) none] [6, 25, 26, 27] []) (.block 2 (.loop
  (.seq (.region [.mk (some 28) (.p (.bin .lss (.s 27) (.s 26))) none] [6, 25, 26, 27, 28] []) (.seq (.cond (.s 28) .skip (.exit 2)) (.seq (.block 3 (.seq (.region [.mk (some 29)
  (.p (.iaddr 1 (.s 25) (.s 27))) none, .mk (some 30) (.r (.load none (.s 29))) none, .mk (some 8) (.p (.mv (.s 30))) none] [6, 8, 25, 26, 27] []) (.region [.mk (some 31) (.p (.mv
  (.s 6))) none, .mk (some 32) (.p (.mv (.s 8))) none, .mk (some 33) (.e (.append 2 16 (.s 31) (.s 32))) none, .mk (some 6) (.p (.mv (.s 33))) none] [6, 25, 26, 27] []))) (.region
  [.mk (some 34) (.p (.bin .add (.s 27) (.c (.int .i64 1)))) none, .mk (some 27) (.p (.mv (.s 34))) none] [6, 25, 26, 27] []))))))) (.seq (.region [.mk (some 35) (.p (.mv (.s 6)))
  none, .mk (some 2) (.p (.mv (.s 35))) none] [2] []) .ret))))))
theorem fn79 : (autoPrg Try.prog).fn 79 = some LF79 := by kernel_rfl

def LF81 : LFunc :=
  .mk 2 [.tmp 4] (.seq (.region [.mk (some 4) (.p (.mv (.c (.slice none 0 0)))) none] [0, 1] []) (.seq (.region [.mk (some 5) (.p (.mv (.c (.slice none 0 0)))) none] [0, 1, 5] [])
  (.seq (.block 0 (.loop (.seq (.seq (.region [.mk (some 6) (.p (.mv (.s 0))) none, .mk (some 7) (.p (.len (.s 6))) none, .mk (some 8) (.p (.bin .gtr (.s 7) (.c (.int .i64 0))))
  none, .mk (some 9) (.p (.mv (.s 8))) none, .mk (some 10) (.p (.mv (.s 1))) (some (9, true)), .mk (some 11) (.p (.len (.s 10))) (some (9, true)), .mk (some 12) (.p (.bin .gtr (.s
  11) (.c (.int .i64 0)))) (some (9, true)), .mk (some 13) (.p (.pick (.s 9) (.s 12) (.c (.bool false)))) none] [0, 1, 5, 13] []) (.cond (.s 13) .skip (.exit 0))) (.block 1 (.seq
  (.region [.mk (some 14) (.p (.mv (.s 5))) none, .mk (some 15) (.p (.mv (.s 0))) none, .mk (some 16) (.p (.iaddr 2 (.s 15) (.c (.int .i64 0)))) none, .mk (some 17) (.p (.faddr 0
  (.s 16))) none, .mk (some 18) (.r (.load none (.s 17))) none, .mk (some 19) (.p (.mv (.s 1))) none, .mk (some 20) (.p (.iaddr 2 (.s 19) (.c (.int .i64 0)))) none, .mk (some 21)
  (.p (.faddr 0 (.s 20))) none, .mk (some 22) (.r (.load none (.s 21))) none, .mk (some 23) (.p (.mm true [.s 18, .s 22])) none, .mk (some 24) (.p (.mv (.s 0))) none, .mk (some 25)
  (.p (.iaddr 2 (.s 24) (.c (.int .i64 0)))) none, .mk (some 26) (.p (.faddr 1 (.s 25))) none, .mk (some 27) (.r (.load none (.s 26))) none, .mk (some 28) (.p (.mv (.s 1))) none,
  .mk (some 29) (.p (.iaddr 2 (.s 28) (.c (.int .i64 0)))) none, .mk (some 30) (.p (.faddr 1 (.s 29))) none, .mk (some 31) (.r (.load none (.s 30))) none, .mk (some 32) (.p (.mm
  false [.s 27, .s 31])) none, .mk (some 33) (.p (.build [.int .i64 0, .int .i64 0] [(0, 1, .s 23), (1, 1, .s 32)])) none, .mk (some 34) (.e (.litL 34 1 2 [.int .i64 0, .int .i64 0]
  [(0, 2, .s 33)])) none, .mk (some 35) (.e (.append 2 16 (.s 14) (.s 34))) none, .mk (some 5) (.p (.mv (.s 35))) none] [0, 1, 5] []) (.seq (.region [.mk (some 36) (.p (.mv (.s 0)))
  none, .mk (some 37) (.p (.iaddr 2 (.s 36) (.c (.int .i64 0)))) none, .mk (some 38) (.p (.faddr 1 (.s 37))) none, .mk (some 39) (.r (.load none (.s 38))) none, .mk (some 40) (.p
  (.mv (.s 1))) none, .mk (some 41) (.p (.iaddr 2 (.s 40) (.c (.int .i64 0)))) none, .mk (some 42) (.p (.faddr 1 (.s 41))) none, .mk (some 43) (.r (.load none (.s 42))) none, .mk
  (some 44) (.p (.bin .lss (.s 39) (.s 43))) none] [0, 1, 5, 44] []) (.cond (.s 44) (.region [.mk (some 45) (.p (.mv (.s 0))) none, .mk (some 46) (.p (.sl 2 (.s 45) (some (.c (.int
  .i64 1))) none none)) none, .mk (some 0) (.p (.mv (.s 46))) none] [0, 1, 5] []) (.region [.mk (some 47) (.p (.mv (.s 1))) none, .mk (some 48) (.p (.sl 2 (.s 47) (some (.c (.int
  .i64 1))) none none)) none, .mk (some 1) (.p (.mv (.s 48))) none] [0, 1, 5] [])))))))) (.seq (.region [.mk (some 49) (.p (.mv (.s 5))) none, .mk (some 4) (.p (.mv (.s 49))) none]
  [4] []) .ret))))
theorem fn81 : (autoPrg Try.prog).fn 81 = some LF81 := by kernel_rfl

def LF82 : LFunc :=
  .mk 1 [.tmp 2] (.seq (.region [.mk (some 2) (.p (.mv (.c (.slice none 0 0)))) none] [0] []) (.seq (.region [.mk (some 3) (.p (.mv (.c (.slice none 0 0)))) none] [0, 3] []) (.seq
  (.region [.mk (some 4) (.p (.mv (.c (.int .i64 0)))) none] [0, 3, 4] []) (.seq (.seq (.region [.mk (some 7) (.p (.mv (.s 0))) none, .mk (some 8) (.p (.len (.s 7))) none, .mk (some
  9) (.p (.mv (.c (.int .i64 0)))) none] [3, 4, 7, 8, 9] []) (.block 0 (.loop (.seq (.region [.mk (some 10) (.p (.bin .lss (.s 9) (.s 8))) none] [3, 4, 7, 8, 9, 10] []) (.seq (.cond
  (.s 10) .skip (.exit 0)) (.seq (.block 1 (.seq (.region [.mk (some 11) (.p (.iaddr 2 (.s 7) (.s 9))) none, .mk (some 12) (.r (.load (some 2) (.s 11))) none, .mk (some 6) (.e
  (.newL 6 [.int .i64 0, .int .i64 0])) none, .mk none (.e (.store 2 (.s 6) (.s 12))) none] [3, 4, 6, 7, 8, 9] []) (.seq (.region [.mk (some 13) (.p (.mv (.s 3))) none, .mk (some
  14) (.p (.mv (.s 4))) none, .mk (some 15) (.p (.faddr 0 (.s 6))) none, .mk (some 16) (.r (.load none (.s 15))) none, .mk (some 17) (.p (.build [.int .i64 0, .int .i64 0] [(0, 1,
  .s 14), (1, 1, .s 16)])) none, .mk (some 18) (.e (.litL 18 1 2 [.int .i64 0, .int .i64 0] [(0, 2, .s 17)])) none, .mk (some 19) (.e (.append 2 16 (.s 13) (.s 18))) none, .mk (some
  3) (.p (.mv (.s 19))) none] [3, 6, 7, 8, 9] []) (.region [.mk (some 20) (.p (.faddr 1 (.s 6))) none, .mk (some 21) (.r (.load none (.s 20))) none, .mk (some 4) (.p (.mv (.s 21)))
  none] [3, 4, 7, 8, 9] [])))) (.region [.mk (some 22) (.p (.bin .add (.s 9) (.c (.int .i64 1)))) none, .mk (some 9) (.p (.mv (.s 22))) none] [3, 4, 7, 8, 9] []))))))) (.seq
  (.region [.mk (some 23) (.p (.mv (.s 3))) none, .mk (some 24) (.p (.mv (.s 4))) none, .mk (some 25) (.p (.build [.int .i64 0, .int .i64 0] [(0, 1, .s 24), (1, 1, .c (.int .i64
  1112064))])) none, .mk (some 26) (.e (.litL 26 1 2 [.int .i64 0, .int .i64 0] [(0, 2, .s 25)])) none, .mk (some 27) (.e (.append 2 16 (.s 23) (.s 26))) none, .mk (some 2) (.p (.mv
  (.s 27))) none] [2] []) .ret)))))
theorem fn82 : (autoPrg Try.prog).fn 82 = some LF82 := by kernel_rfl

def LF83 : LFunc :=
  .mk 2 [.tmp 4] (.seq (.region [.mk (some 4) (.p (.mv (.c (.bool false)))) none] [0, 1] []) (.seq (.seq (.region [.mk (some 6) (.p (.mv (.s 0))) none, .mk (some 7) (.p (.len (.s
  6))) none, .mk (some 8) (.p (.mv (.s 1))) none, .mk (some 9) (.p (.len (.s 8))) none, .mk (some 10) (.p (.bin .neq (.s 7) (.s 9))) none] [0, 1, 10] []) (.cond (.s 10) (.seq
  (.region [.mk (some 4) (.p (.mv (.c (.bool false)))) none] [4] []) .ret) .skip)) (.seq (.seq (.region [.mk (some 11) (.p (.mv (.s 0))) none, .mk (some 12) (.p (.len (.s 11)))
  none, .mk (some 13) (.p (.mv (.c (.int .i64 0)))) none] [0, 1, 12, 13] []) (.block 0 (.loop (.seq (.region [.mk (some 14) (.p (.bin .lss (.s 13) (.s 12))) none] [0, 1, 12, 13, 14]
  []) (.seq (.cond (.s 14) .skip (.exit 0)) (.seq (.block 1 (.seq (.region [.mk (some 15) (.p (.mv (.s 13))) none, .mk (some 5) (.p (.mv (.s 15))) none] [0, 1, 5, 12, 13] []) (.seq
  (.region [.mk (some 16) (.p (.mv (.s 0))) none, .mk (some 17) (.p (.mv (.s 5))) none, .mk (some 18) (.p (.iaddr 2 (.s 16) (.s 17))) none, .mk (some 19) (.r (.load (some 2) (.s
  18))) none, .mk (some 20) (.p (.mv (.s 1))) none, .mk (some 21) (.p (.mv (.s 5))) none, .mk (some 22) (.p (.iaddr 2 (.s 20) (.s 21))) none, .mk (some 23) (.r (.load (some 2) (.s
  22))) none, .mk (some 24) (.p (.eqA true [.int, .int] (.s 19) (.s 23))) none] [0, 1, 12, 13, 24] []) (.cond (.s 24) (.seq (.region [.mk (some 4) (.p (.mv (.c (.bool false))))
  none] [4] []) .ret) .skip)))) (.region [.mk (some 25) (.p (.bin .add (.s 13) (.c (.int .i64 1)))) none, .mk (some 13) (.p (.mv (.s 25))) none] [0, 1, 12, 13] []))))))) (.seq
  (.region [.mk (some 4) (.p (.mv (.c (.bool true)))) none] [4] []) .ret))))
theorem fn83 : (autoPrg Try.prog).fn 83 = some LF83 := by kernel_rfl

def LF56 : LFunc :=
  .mk 2 [.tmp 4] (.seq (.region [.mk (some 4) (.p (.mv (.c (.slice none 0 0)))) none] [0, 1] []) (.seq (.region [.mk (some 5) (.p (.mv (.c (.slice none 0 0)))) none] [0, 1, 5] [])
  (.seq (.seq (.region [.mk (some 6) (.p (.mv (.c (.int .i64 0)))) none] [0, 1, 5, 6] []) (.block 0 (.loop (.seq (.seq (.region [.mk (some 9) (.p (.mv (.s 6))) none, .mk (some 10)
  (.p (.mv (.s 0))) none, .mk (some 11) (.p (.len (.s 10))) none, .mk (some 12) (.p (.bin .lss (.s 9) (.s 11))) none] [0, 1, 5, 6, 12] []) (.cond (.s 12) .skip (.exit 0))) (.seq
  (.block 1 (.seq (.region [.mk (some 7) (.p (.mv (.c (.int .i64 0)))) none] [0, 1, 5, 6, 7] []) (.block 2 (.loop (.seq (.seq (.region [.mk (some 15) (.p (.mv (.s 7))) none, .mk
  (some 16) (.p (.mv (.s 1))) none, .mk (some 17) (.p (.len (.s 16))) none, .mk (some 18) (.p (.bin .lss (.s 15) (.s 17))) none] [0, 1, 5, 6, 7, 18] []) (.cond (.s 18) .skip (.exit
  2))) (.seq (.block 3 (.seq (.region [.mk (some 21) (.p (.mv (.s 0))) none, .mk (some 22) (.p (.mv (.s 6))) none, .mk (some 23) (.p (.iaddr 2 (.s 21) (.s 22))) none, .mk (some 24)
  (.r (.load (some 2) (.s 23))) none, .mk (some 8) (.e (.newL 8 [.int .i32 0, .int .i32 0])) none, .mk none (.e (.store 2 (.s 8) (.s 24))) none] [0, 1, 5, 6, 7, 8] []) (.seq (.seq
  (.region [.mk (some 25) (.p (.mv (.s 1))) none, .mk (some 26) (.p (.mv (.s 7))) none, .mk (some 27) (.p (.iaddr 2 (.s 25) (.s 26))) none, .mk (some 28) (.p (.faddr 0 (.s 27)))
  none, .mk (some 29) (.r (.load none (.s 28))) none, .mk (some 30) (.p (.faddr 0 (.s 8))) none, .mk (some 31) (.r (.load none (.s 30))) none, .mk (some 32) (.p (.bin .gtr (.s 29)
  (.s 31))) none] [0, 1, 5, 6, 7, 8, 32] []) (.cond (.s 32) (.region [.mk (some 33) (.p (.mv (.s 1))) none, .mk (some 34) (.p (.mv (.s 7))) none, .mk (some 35) (.p (.iaddr 2 (.s 33)
  (.s 34))) none, .mk (some 36) (.p (.faddr 0 (.s 35))) none, .mk (some 37) (.r (.load none (.s 36))) none, .mk (some 38) (.p (.faddr 0 (.s 8))) none, .mk none (.e (.store 1 (.s 38)
  (.s 37))) none] [0, 1, 5, 6, 7, 8] []) .skip)) (.seq (.seq (.region [.mk (some 39) (.p (.mv (.s 1))) none, .mk (some 40) (.p (.mv (.s 7))) none, .mk (some 41) (.p (.iaddr 2 (.s
  39) (.s 40))) none, .mk (some 42) (.p (.faddr 1 (.s 41))) none, .mk (some 43) (.r (.load none (.s 42))) none, .mk (some 44) (.p (.faddr 1 (.s 8))) none, .mk (some 45) (.r (.load
  none (.s 44))) none, .mk (some 46) (.p (.bin .lss (.s 43) (.s 45))) none] [0, 1, 5, 6, 7, 8, 46] []) (.cond (.s 46) (.region [.mk (some 47) (.p (.mv (.s 1))) none, .mk (some 48)
  (.p (.mv (.s 7))) none, .mk (some 49) (.p (.iaddr 2 (.s 47) (.s 48))) none, .mk (some 50) (.p (.faddr 1 (.s 49))) none, .mk (some 51) (.r (.load none (.s 50))) none, .mk (some 52)
  (.p (.faddr 1 (.s 8))) none, .mk none (.e (.store 1 (.s 52) (.s 51))) none] [0, 1, 5, 6, 7, 8] []) .skip)) (.seq (.region [.mk (some 53) (.p (.faddr 0 (.s 8))) none, .mk (some 54)
  (.r (.load none (.s 53))) none, .mk (some 55) (.p (.faddr 1 (.s 8))) none, .mk (some 56) (.r (.load none (.s 55))) none, .mk (some 57) (.p (.bin .leq (.s 54) (.s 56))) none] [0,
  1, 5, 6, 7, 8, 57] []) (.cond (.s 57) (.region [.mk (some 58) (.p (.mv (.s 5))) none, .mk (some 59) (.r (.load (some 2) (.s 8))) none, .mk (some 60) (.e (.litL 60 1 2 [.int .i32
  0, .int .i32 0] [(0, 2, .s 59)])) none, .mk (some 61) (.e (.append 2 8 (.s 58) (.s 60))) none, .mk (some 5) (.p (.mv (.s 61))) none] [0, 1, 5, 6, 7] []) .skip)))))) (.region [.mk
  (some 19) (.p (.mv (.s 7))) none, .mk (some 20) (.p (.bin .add (.s 19) (.c (.int .i64 1)))) none, .mk (some 7) (.p (.mv (.s 20))) none] [0, 1, 5, 6, 7] []))))))) (.region [.mk
  (some 13) (.p (.mv (.s 6))) none, .mk (some 14) (.p (.bin .add (.s 13) (.c (.int .i64 1)))) none, .mk (some 6) (.p (.mv (.s 14))) none] [0, 1, 5, 6] [])))))) (.seq (.region [.mk
  (some 62) (.p (.mv (.s 5))) none, .mk (some 63) (.e (.call 36 [.s 62])) none, .mk (some 4) (.p (.mv (.s 63))) none] [4] []) .ret))))
theorem fn56 : (autoPrg Try.prog).fn 56 = some LF56 := by kernel_rfl

def LF57 : LFunc :=
  .mk 1 [.tmp 2] (.seq (.region [.mk (some 2) (.p (.mv (.c (.slice none 0 0)))) none] [0] []) (.seq (.region [.mk (some 3) (.p (.mv (.c (.slice none 0 0)))) none] [0, 3] []) (.seq
  (.region [.mk (some 4) (.p (.mv (.c (.int .i32 0)))) none] [0, 3, 4] []) (.seq (.seq (.region [.mk (some 5) (.p (.mv (.c (.int .i64 0)))) none] [0, 3, 4, 5] []) (.block 0 (.loop
  (.seq (.seq (.region [.mk (some 7) (.p (.mv (.s 5))) none, .mk (some 8) (.p (.mv (.s 0))) none, .mk (some 9) (.p (.len (.s 8))) none, .mk (some 10) (.p (.bin .lss (.s 7) (.s 9)))
  none] [0, 3, 4, 5, 10] []) (.cond (.s 10) .skip (.exit 0))) (.seq (.block 1 (.seq (.seq (.region [.mk (some 13) (.p (.mv (.s 0))) none, .mk (some 14) (.p (.mv (.s 5))) none, .mk
  (some 15) (.p (.iaddr 2 (.s 13) (.s 14))) none, .mk (some 16) (.p (.faddr 0 (.s 15))) none, .mk (some 17) (.r (.load none (.s 16))) none, .mk (some 18) (.p (.mv (.s 4))) none, .mk
  (some 19) (.p (.bin .gtr (.s 17) (.s 18))) none] [0, 3, 4, 5, 19] []) (.cond (.s 19) (.seq (.region [.mk (some 20) (.p (.mv (.s 0))) none, .mk (some 21) (.p (.mv (.s 5))) none,
  .mk (some 22) (.p (.iaddr 2 (.s 20) (.s 21))) none, .mk (some 23) (.p (.faddr 0 (.s 22))) none, .mk (some 24) (.r (.load none (.s 23))) none, .mk (some 25) (.p (.bin .sub (.s 24)
  (.c (.int .i32 1)))) none, .mk (some 6) (.p (.mv (.s 25))) none] [0, 3, 4, 5, 6] []) (.seq (.seq (.region [.mk (some 26) (.p (.mv (.s 6))) none, .mk (some 27) (.p (.bin .eql (.s
  26) (.c (.int .i32 57343)))) none] [0, 3, 4, 5, 6, 27] []) (.cond (.s 27) (.region [.mk (some 6) (.p (.mv (.c (.int .i32 55295)))) none] [0, 3, 4, 5, 6] []) .skip)) (.region [.mk
  (some 28) (.p (.mv (.s 3))) none, .mk (some 29) (.p (.mv (.s 4))) none, .mk (some 30) (.p (.mv (.s 6))) none, .mk (some 31) (.p (.build [.int .i32 0, .int .i32 0] [(0, 1, .s 29),
  (1, 1, .s 30)])) none, .mk (some 32) (.e (.litL 32 1 2 [.int .i32 0, .int .i32 0] [(0, 2, .s 31)])) none, .mk (some 33) (.e (.append 2 8 (.s 28) (.s 32))) none, .mk (some 3) (.p
  (.mv (.s 33))) none] [0, 3, 5] []))) .skip)) (.region [.mk (some 34) (.p (.mv (.s 0))) none, .mk (some 35) (.p (.mv (.s 5))) none, .mk (some 36) (.p (.iaddr 2 (.s 34) (.s 35)))
  none, .mk (some 37) (.p (.faddr 1 (.s 36))) none, .mk (some 38) (.r (.load none (.s 37))) none, .mk (some 39) (.e (.call 74 [.s 38])) none, .mk (some 4) (.p (.mv (.s 39))) none]
  [0, 3, 4, 5] []))) (.region [.mk (some 11) (.p (.mv (.s 5))) none, .mk (some 12) (.p (.bin .add (.s 11) (.c (.int .i64 1)))) none, .mk (some 5) (.p (.mv (.s 12))) none] [0, 3, 4,
  5] [])))))) (.seq (.seq (.region [.mk (some 40) (.p (.mv (.s 4))) none, .mk (some 41) (.p (.bin .leq (.s 40) (.c (.int .i32 1114111)))) none] [3, 4, 41] []) (.cond (.s 41)
  (.region [.mk (some 42) (.p (.mv (.s 3))) none, .mk (some 43) (.p (.mv (.s 4))) none, .mk (some 44) (.p (.build [.int .i32 0, .int .i32 0] [(0, 1, .s 43), (1, 1, .c (.int .i32
  1114111))])) none, .mk (some 45) (.e (.litL 45 1 2 [.int .i32 0, .int .i32 0] [(0, 2, .s 44)])) none, .mk (some 46) (.e (.append 2 8 (.s 42) (.s 45))) none, .mk (some 3) (.p (.mv
  (.s 46))) none] [3] []) .skip)) (.seq (.region [.mk (some 47) (.p (.mv (.s 3))) none, .mk (some 2) (.p (.mv (.s 47))) none] [2] []) .ret))))))
theorem fn57 : (autoPrg Try.prog).fn 57 = some LF57 := by kernel_rfl

end Go.Proofs.Ytanpdopjgepbkaa.AM
