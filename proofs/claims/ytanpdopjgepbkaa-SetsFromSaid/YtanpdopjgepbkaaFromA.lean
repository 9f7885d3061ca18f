/- Lifted functions, each a constant: sets of numbers. -/
import Derived.Test.YtanpdopjgepbkaaSlA
set_option linter.unusedVariables false
namespace Go.Proofs.Ytanpdopjgepbkaa.AM
open Go

def LF67 : LFunc :=
  .mk 1 [.tmp 2, .tmp 3] (.seq (.region [.mk (some 2) (.p (.mv (.c (.pointer none)))) none, .mk (some 3) (.p (.mv (.c (.int .i64 0)))) none] [0] []) (.seq (.region [.mk (some 4) (.p
  (.mv (.c (.slice none 0 0)))) none] [0, 4] []) (.seq (.seq (.region [.mk (some 7) (.p (.mv (.s 0))) none, .mk (some 8) (.p (.len (.s 7))) none, .mk (some 9) (.p (.mv (.c (.int
  .i64 0)))) none] [4, 7, 8, 9] []) (.block 0 (.loop (.seq (.region [.mk (some 10) (.p (.bin .lss (.s 9) (.s 8))) none] [4, 7, 8, 9, 10] []) (.seq (.cond (.s 10) .skip (.exit 0))
  (.seq (.block 1 (.seq (.region [.mk (some 11) (.p (.iaddr 1 (.s 7) (.s 9))) none, .mk (some 12) (.r (.load none (.s 11))) none, .mk (some 6) (.p (.mv (.s 12))) none] [4, 6, 7, 8,
  9] []) (.seq (.seq (.region [.mk (some 13) (.p (.mv (.s 6))) none, .mk (some 14) (.p (.bin .lss (.s 13) (.c (.int .i64 0)))) none, .mk (some 15) (.p (.mv (.s 14))) none, .mk (some
  16) (.p (.mv (.s 6))) (some (15, false)), .mk (some 17) (.p (.bin .gtr (.s 16) (.c (.int .i64 1114111)))) (some (15, false)), .mk (some 18) (.p (.pick (.s 15) (.c (.bool true))
  (.s 17))) none, .mk (some 19) (.p (.mv (.s 18))) none, .mk (some 20) (.p (.mv (.s 6))) (some (19, false)), .mk (some 21) (.p (.conv .i32 (.s 20))) (some (19, false)), .mk (some
  22) (.e (.call 62 [.s 21])) (some (19, false)), .mk (some 23) (.p (.un .not (.s 22))) (some (19, false)), .mk (some 24) (.p (.pick (.s 19) (.c (.bool true)) (.s 23))) none] [4, 6,
  7, 8, 9, 24] []) (.cond (.s 24) (.seq (.region [.mk (some 2) (.p (.mv (.c (.pointer none)))) none, .mk (some 3) (.p (.mv (.c (.int .i64 12)))) none] [2, 3] []) .ret) .skip))
  (.region [.mk (some 25) (.p (.mv (.s 4))) none, .mk (some 26) (.p (.mv (.s 6))) none, .mk (some 27) (.e (.call 64 [.s 26])) none, .mk (some 28) (.p (.mv (.s 6))) none, .mk (some
  29) (.e (.call 64 [.s 28])) none, .mk (some 30) (.p (.bin .add (.s 29) (.c (.int .i64 1)))) none, .mk (some 31) (.p (.build [.int .i64 0, .int .i64 0] [(0, 1, .s 27), (1, 1, .s
  30)])) none, .mk (some 32) (.e (.litL 32 1 2 [.int .i64 0, .int .i64 0] [(0, 2, .s 31)])) none, .mk (some 33) (.e (.append 2 16 (.s 25) (.s 32))) none, .mk (some 4) (.p (.mv (.s
  33))) none] [4, 7, 8, 9] [])))) (.region [.mk (some 34) (.p (.bin .add (.s 9) (.c (.int .i64 1)))) none, .mk (some 9) (.p (.mv (.s 34))) none] [4, 7, 8, 9] []))))))) (.seq
  (.region [.mk (some 35) (.p (.mv (.s 4))) none, .mk (some 36) (.e (.call 73 [.s 35])) none, .mk (some 2) (.p (.mv (.s 36))) none, .mk (some 3) (.p (.mv (.c (.int .i64 0)))) none]
  [2, 3] []) .ret))))
theorem fn67 : (autoPrg Try.prog).fn 67 = some LF67 := by kernel_rfl

def LF68 : LFunc :=
  .mk 1 [.tmp 2, .tmp 3] (.seq (.region [.mk (some 2) (.p (.mv (.c (.pointer none)))) none, .mk (some 3) (.p (.mv (.c (.int .i64 0)))) none] [0] []) (.seq (.region [.mk (some 4) (.p
  (.mv (.c (.slice none 0 0)))) none] [0, 4] []) (.seq (.seq (.region [.mk (some 7) (.p (.mv (.s 0))) none, .mk (some 8) (.p (.len (.s 7))) none, .mk (some 9) (.p (.mv (.c (.int
  .i64 0)))) none] [4, 7, 8, 9] []) (.block 0 (.loop (.seq (.region [.mk (some 10) (.p (.bin .lss (.s 9) (.s 8))) none] [4, 7, 8, 9, 10] []) (.seq (.cond (.s 10) .skip (.exit 0))
  (.seq (.block 1 (.seq (.region [.mk (some 11) (.p (.iaddr 1 (.s 7) (.s 9))) none, .mk (some 12) (.r (.load none (.s 11))) none, .mk (some 6) (.p (.mv (.s 12))) none] [4, 6, 7, 8,
  9] []) (.seq (.seq (.region [.mk (some 13) (.p (.mv (.s 6))) none, .mk (some 14) (.p (.conv .i64 (.s 13))) none, .mk (some 15) (.p (.bin .lss (.s 14) (.c (.int .i64 0)))) none,
  .mk (some 16) (.p (.mv (.s 15))) none, .mk (some 17) (.p (.mv (.s 6))) (some (16, false)), .mk (some 18) (.p (.conv .i64 (.s 17))) (some (16, false)), .mk (some 19) (.p (.bin .gtr
  (.s 18) (.c (.int .i64 1114111)))) (some (16, false)), .mk (some 20) (.p (.pick (.s 16) (.c (.bool true)) (.s 19))) none, .mk (some 21) (.p (.mv (.s 20))) none, .mk (some 22) (.p
  (.mv (.s 6))) (some (21, false)), .mk (some 23) (.e (.call 62 [.s 22])) (some (21, false)), .mk (some 24) (.p (.un .not (.s 23))) (some (21, false)), .mk (some 25) (.p (.pick (.s
  21) (.c (.bool true)) (.s 24))) none] [4, 6, 7, 8, 9, 25] []) (.cond (.s 25) (.seq (.region [.mk (some 2) (.p (.mv (.c (.pointer none)))) none, .mk (some 3) (.p (.mv (.c (.int
  .i64 12)))) none] [2, 3] []) .ret) .skip)) (.region [.mk (some 26) (.p (.mv (.s 4))) none, .mk (some 27) (.p (.mv (.s 6))) none, .mk (some 28) (.p (.conv .i64 (.s 27))) none, .mk
  (some 29) (.e (.call 64 [.s 28])) none, .mk (some 30) (.p (.mv (.s 6))) none, .mk (some 31) (.p (.conv .i64 (.s 30))) none, .mk (some 32) (.e (.call 64 [.s 31])) none, .mk (some
  33) (.p (.bin .add (.s 32) (.c (.int .i64 1)))) none, .mk (some 34) (.p (.build [.int .i64 0, .int .i64 0] [(0, 1, .s 29), (1, 1, .s 33)])) none, .mk (some 35) (.e (.litL 35 1 2
  [.int .i64 0, .int .i64 0] [(0, 2, .s 34)])) none, .mk (some 36) (.e (.append 2 16 (.s 26) (.s 35))) none, .mk (some 4) (.p (.mv (.s 36))) none] [4, 7, 8, 9] [])))) (.region [.mk
  (some 37) (.p (.bin .add (.s 9) (.c (.int .i64 1)))) none, .mk (some 9) (.p (.mv (.s 37))) none] [4, 7, 8, 9] []))))))) (.seq (.region [.mk (some 38) (.p (.mv (.s 4))) none, .mk
  (some 39) (.e (.call 73 [.s 38])) none, .mk (some 2) (.p (.mv (.s 39))) none, .mk (some 3) (.p (.mv (.c (.int .i64 0)))) none] [2, 3] []) .ret))))
theorem fn68 : (autoPrg Try.prog).fn 68 = some LF68 := by kernel_rfl

def LF69 : LFunc :=
  .mk 1 [.tmp 2, .tmp 3] (.seq (.region [.mk (some 2) (.p (.mv (.c (.pointer none)))) none, .mk (some 3) (.p (.mv (.c (.int .i64 0)))) none] [0] []) (.seq (.region [.mk (some 4) (.p
  (.mv (.c (.slice none 0 0)))) none] [0, 4] []) (.seq (.seq (.region [.mk (some 7) (.p (.mv (.s 0))) none, .mk (some 8) (.p (.len (.s 7))) none, .mk (some 9) (.p (.mv (.c (.int
  .i64 0)))) none] [4, 7, 8, 9] []) (.block 0 (.loop (.seq (.region [.mk (some 10) (.p (.bin .lss (.s 9) (.s 8))) none] [4, 7, 8, 9, 10] []) (.seq (.cond (.s 10) .skip (.exit 0))
  (.seq (.block 1 (.seq (.region [.mk (some 11) (.p (.iaddr 1 (.s 7) (.s 9))) none, .mk (some 12) (.r (.load none (.s 11))) none, .mk (some 6) (.p (.mv (.s 12))) none] [4, 6, 7, 8,
  9] []) (.seq (.seq (.region [.mk (some 13) (.p (.mv (.s 6))) none, .mk (some 14) (.p (.conv .i64 (.s 13))) none, .mk (some 15) (.p (.bin .lss (.s 14) (.c (.int .i64 0)))) none,
  .mk (some 16) (.p (.mv (.s 15))) none, .mk (some 17) (.p (.mv (.s 6))) (some (16, false)), .mk (some 18) (.p (.conv .i64 (.s 17))) (some (16, false)), .mk (some 19) (.p (.bin .gtr
  (.s 18) (.c (.int .i64 1114111)))) (some (16, false)), .mk (some 20) (.p (.pick (.s 16) (.c (.bool true)) (.s 19))) none, .mk (some 21) (.p (.mv (.s 20))) none, .mk (some 22) (.p
  (.mv (.s 6))) (some (21, false)), .mk (some 23) (.p (.conv .i32 (.s 22))) (some (21, false)), .mk (some 24) (.e (.call 62 [.s 23])) (some (21, false)), .mk (some 25) (.p (.un .not
  (.s 24))) (some (21, false)), .mk (some 26) (.p (.pick (.s 21) (.c (.bool true)) (.s 25))) none] [4, 6, 7, 8, 9, 26] []) (.cond (.s 26) (.seq (.region [.mk (some 2) (.p (.mv (.c
  (.pointer none)))) none, .mk (some 3) (.p (.mv (.c (.int .i64 12)))) none] [2, 3] []) .ret) .skip)) (.region [.mk (some 27) (.p (.mv (.s 4))) none, .mk (some 28) (.p (.mv (.s 6)))
  none, .mk (some 29) (.p (.conv .i64 (.s 28))) none, .mk (some 30) (.e (.call 64 [.s 29])) none, .mk (some 31) (.p (.mv (.s 6))) none, .mk (some 32) (.p (.conv .i64 (.s 31))) none,
  .mk (some 33) (.e (.call 64 [.s 32])) none, .mk (some 34) (.p (.bin .add (.s 33) (.c (.int .i64 1)))) none, .mk (some 35) (.p (.build [.int .i64 0, .int .i64 0] [(0, 1, .s 30),
  (1, 1, .s 34)])) none, .mk (some 36) (.e (.litL 36 1 2 [.int .i64 0, .int .i64 0] [(0, 2, .s 35)])) none, .mk (some 37) (.e (.append 2 16 (.s 27) (.s 36))) none, .mk (some 4) (.p
  (.mv (.s 37))) none] [4, 7, 8, 9] [])))) (.region [.mk (some 38) (.p (.bin .add (.s 9) (.c (.int .i64 1)))) none, .mk (some 9) (.p (.mv (.s 38))) none] [4, 7, 8, 9] [])))))))
  (.seq (.region [.mk (some 39) (.p (.mv (.s 4))) none, .mk (some 40) (.e (.call 73 [.s 39])) none, .mk (some 2) (.p (.mv (.s 40))) none, .mk (some 3) (.p (.mv (.c (.int .i64 0))))
  none] [2, 3] []) .ret))))
theorem fn69 : (autoPrg Try.prog).fn 69 = some LF69 := by kernel_rfl

def LF70 : LFunc :=
  .mk 1 [.tmp 2, .tmp 3] (.seq (.region [.mk (some 2) (.p (.mv (.c (.pointer none)))) none, .mk (some 3) (.p (.mv (.c (.int .i64 0)))) none] [0] []) (.seq (.region [.mk (some 4) (.p
  (.mv (.c (.slice none 0 0)))) none] [0, 4] []) (.seq (.seq (.region [.mk (some 7) (.p (.mv (.s 0))) none, .mk (some 8) (.p (.len (.s 7))) none, .mk (some 9) (.p (.mv (.c (.int
  .i64 0)))) none] [4, 7, 8, 9] []) (.block 0 (.loop (.seq (.region [.mk (some 10) (.p (.bin .lss (.s 9) (.s 8))) none] [4, 7, 8, 9, 10] []) (.seq (.cond (.s 10) .skip (.exit 0))
  (.seq (.block 1 (.seq (.region [.mk (some 11) (.p (.iaddr 1 (.s 7) (.s 9))) none, .mk (some 12) (.r (.load none (.s 11))) none, .mk (some 6) (.p (.mv (.s 12))) none] [4, 6, 7, 8,
  9] []) (.seq (.seq (.region [.mk (some 13) (.p (.mv (.s 6))) none, .mk (some 14) (.p (.conv .i64 (.s 13))) none, .mk (some 15) (.p (.bin .lss (.s 14) (.c (.int .i64 0)))) none,
  .mk (some 16) (.p (.mv (.s 15))) none, .mk (some 17) (.p (.mv (.s 6))) (some (16, false)), .mk (some 18) (.p (.conv .i64 (.s 17))) (some (16, false)), .mk (some 19) (.p (.bin .gtr
  (.s 18) (.c (.int .i64 1114111)))) (some (16, false)), .mk (some 20) (.p (.pick (.s 16) (.c (.bool true)) (.s 19))) none, .mk (some 21) (.p (.mv (.s 20))) none, .mk (some 22) (.p
  (.mv (.s 6))) (some (21, false)), .mk (some 23) (.p (.conv .i32 (.s 22))) (some (21, false)), .mk (some 24) (.e (.call 62 [.s 23])) (some (21, false)), .mk (some 25) (.p (.un .not
  (.s 24))) (some (21, false)), .mk (some 26) (.p (.pick (.s 21) (.c (.bool true)) (.s 25))) none] [4, 6, 7, 8, 9, 26] []) (.cond (.s 26) (.seq (.region [.mk (some 2) (.p (.mv (.c
  (.pointer none)))) none, .mk (some 3) (.p (.mv (.c (.int .i64 12)))) none] [2, 3] []) .ret) .skip)) (.region [.mk (some 27) (.p (.mv (.s 4))) none, .mk (some 28) (.p (.mv (.s 6)))
  none, .mk (some 29) (.p (.conv .i64 (.s 28))) none, .mk (some 30) (.e (.call 64 [.s 29])) none, .mk (some 31) (.p (.mv (.s 6))) none, .mk (some 32) (.p (.conv .i64 (.s 31))) none,
  .mk (some 33) (.e (.call 64 [.s 32])) none, .mk (some 34) (.p (.bin .add (.s 33) (.c (.int .i64 1)))) none, .mk (some 35) (.p (.build [.int .i64 0, .int .i64 0] [(0, 1, .s 30),
  (1, 1, .s 34)])) none, .mk (some 36) (.e (.litL 36 1 2 [.int .i64 0, .int .i64 0] [(0, 2, .s 35)])) none, .mk (some 37) (.e (.append 2 16 (.s 27) (.s 36))) none, .mk (some 4) (.p
  (.mv (.s 37))) none] [4, 7, 8, 9] [])))) (.region [.mk (some 38) (.p (.bin .add (.s 9) (.c (.int .i64 1)))) none, .mk (some 9) (.p (.mv (.s 38))) none] [4, 7, 8, 9] [])))))))
  (.seq (.region [.mk (some 39) (.p (.mv (.s 4))) none, .mk (some 40) (.e (.call 73 [.s 39])) none, .mk (some 2) (.p (.mv (.s 40))) none, .mk (some 3) (.p (.mv (.c (.int .i64 0))))
  none] [2, 3] []) .ret))))
theorem fn70 : (autoPrg Try.prog).fn 70 = some LF70 := by kernel_rfl

def LF28 : LFunc :=
  .mk 1 [.tmp 2] (.seq (.region [.mk (some 2) (.p (.mv (.c (.bool false)))) none] [0] []) (.seq (.region [.mk (some 3) (.p (.mv (.c (.slice none 0 0)))) none] [0, 3] []) (.seq
  (.region [.mk (some 4) (.p (.mv (.c (.int .i64 0)))) none] [0, 3, 4] []) (.seq (.seq (.region [.mk (some 5) (.p (.mv (.c (.int .i64 0)))) none] [0, 3, 4, 5] []) (.block 0 (.loop
  (.seq (.seq (.region [.mk (some 9) (.p (.mv (.s 5))) none, .mk (some 10) (.p (.mv (.s 0))) none, .mk (some 11) (.p (.len (.s 10))) none, .mk (some 12) (.p (.bin .lss (.s 9) (.s
  11))) none] [0, 3, 4, 5, 12] []) (.cond (.s 12) .skip (.exit 0))) (.seq (.block 1 (.seq (.region [.mk (some 15) (.p (.mv (.s 0))) none, .mk (some 16) (.p (.mv (.s 5))) none, .mk
  (some 17) (.p (.iaddr 1 (.s 15) (.s 16))) none, .mk (some 18) (.r (.load none (.s 17))) none, .mk (some 6) (.p (.mv (.s 18))) none] [0, 3, 4, 5, 6] []) (.seq (.seq (.region [.mk
  (some 19) (.p (.mv (.s 6))) none, .mk (some 20) (.p (.bin .lss (.s 19) (.c (.int .i64 0)))) none, .mk (some 21) (.p (.mv (.s 20))) none, .mk (some 22) (.p (.mv (.s 6))) (some (21,
  false)), .mk (some 23) (.p (.bin .gtr (.s 22) (.c (.int .i64 1114111)))) (some (21, false)), .mk (some 24) (.p (.pick (.s 21) (.c (.bool true)) (.s 23))) none, .mk (some 25) (.p
  (.mv (.s 24))) none, .mk (some 26) (.p (.mv (.s 6))) (some (25, false)), .mk (some 27) (.e (.call 65 [.s 26])) (some (25, false)), .mk (some 28) (.p (.un .not (.s 27))) (some (25,
  false)), .mk (some 29) (.p (.pick (.s 25) (.c (.bool true)) (.s 28))) none] [0, 3, 4, 5, 29] []) (.cond (.s 29) (.region [.mk (some 4) (.p (.mv (.c (.int .i64 12)))) none] [0, 3,
  4, 5] []) .skip)) (.region [.mk (some 30) (.p (.mv (.s 3))) none, .mk (some 31) (.p (.mv (.s 0))) none, .mk (some 32) (.p (.mv (.s 5))) none, .mk (some 33) (.p (.iaddr 1 (.s 31)
  (.s 32))) none, .mk (some 34) (.r (.load none (.s 33))) none, .mk (some 35) (.p (.conv .i32 (.s 34))) none, .mk (some 36) (.p (.mv (.s 0))) none, .mk (some 37) (.p (.mv (.s 5)))
  none, .mk (some 38) (.p (.iaddr 1 (.s 36) (.s 37))) none, .mk (some 39) (.r (.load none (.s 38))) none, .mk (some 40) (.p (.conv .i32 (.s 39))) none, .mk (some 41) (.p (.build
  [.int .i32 0, .int .i32 0] [(0, 1, .s 35), (1, 1, .s 40)])) none, .mk (some 42) (.e (.litL 42 1 2 [.int .i32 0, .int .i32 0] [(0, 2, .s 41)])) none, .mk (some 43) (.e (.append 2 8
  (.s 30) (.s 42))) none, .mk (some 3) (.p (.mv (.s 43))) none] [0, 3, 4, 5] [])))) (.region [.mk (some 13) (.p (.mv (.s 5))) none, .mk (some 14) (.p (.bin .add (.s 13) (.c (.int
  .i64 1)))) none, .mk (some 5) (.p (.mv (.s 14))) none] [0, 3, 4, 5] [])))))) (.seq (.region [.mk (some 45) (.p (.mv (.s 0))) none, .mk (some 46) (.e (.call 67 [.s 45])) none, .mk
  (some 44) (.p (.mv (.s 46))) none, .mk (some 47) (.p (.ext 0 (.s 44))) none, .mk (some 48) (.p (.ext 1 (.s 44))) none, .mk (some 7) (.p (.mv (.s 47))) none, .mk (some 8) (.p (.mv
  (.s 48))) none] [3, 4, 7, 8] []) (.seq (.seq (.region [.mk (some 49) (.p (.mv (.s 8))) none, .mk (some 50) (.p (.mv (.s 4))) none, .mk (some 51) (.p (.bin .neq (.s 49) (.s 50)))
  none, .mk (some 52) (.p (.mv (.s 51))) none, .mk (some 53) (.p (.mv (.s 7))) (some (52, false)), .mk (some 54) (.p (.eqk true .ptr (.s 53) (.c (.pointer none)))) (some (52,
  false)), .mk (some 55) (.p (.mv (.s 4))) (some (52, false)), .mk (some 56) (.p (.bin .eql (.s 55) (.c (.int .i64 0)))) (some (52, false)), .mk (some 57) (.p (.eqk true .bool (.s
  54) (.s 56))) (some (52, false)), .mk (some 58) (.p (.pick (.s 52) (.c (.bool true)) (.s 57))) none] [3, 7, 58] []) (.cond (.s 58) (.seq (.region [.mk (some 2) (.p (.mv (.c (.bool
  false)))) none] [2] []) .ret) .skip)) (.seq (.region [.mk (some 59) (.p (.mv (.s 7))) none, .mk (some 60) (.p (.eqk false .ptr (.s 59) (.c (.pointer none)))) none, .mk (some 61)
  (.p (.mv (.s 60))) none, .mk (some 62) (.p (.mv (.s 7))) (some (61, false)), .mk (some 63) (.e (.call 18 [.s 62])) (some (61, false)), .mk (some 64) (.p (.mv (.s 3))) (some (61,
  false)), .mk (some 65) (.e (.call 36 [.s 64])) (some (61, false)), .mk (some 66) (.e (.call 19 [.s 63, .s 65])) (some (61, false)), .mk (some 67) (.p (.pick (.s 61) (.c (.bool
  true)) (.s 66))) none, .mk (some 2) (.p (.mv (.s 67))) none] [2] []) .ret)))))))
theorem fn28 : (autoPrg Try.prog).fn 28 = some LF28 := by kernel_rfl

def LF29 : LFunc :=
  .mk 1 [.tmp 2] (.seq (.region [.mk (some 2) (.p (.mv (.c (.bool false)))) none] [0] []) (.seq (.region [.mk (some 3) (.p (.mv (.c (.slice none 0 0)))) none] [0, 3] []) (.seq
  (.region [.mk (some 4) (.p (.mv (.c (.int .i64 0)))) none] [0, 3, 4] []) (.seq (.seq (.region [.mk (some 5) (.p (.mv (.c (.int .i64 0)))) none] [0, 3, 4, 5] []) (.block 0 (.loop
  (.seq (.seq (.region [.mk (some 9) (.p (.mv (.s 5))) none, .mk (some 10) (.p (.mv (.s 0))) none, .mk (some 11) (.p (.len (.s 10))) none, .mk (some 12) (.p (.bin .lss (.s 9) (.s
  11))) none] [0, 3, 4, 5, 12] []) (.cond (.s 12) .skip (.exit 0))) (.seq (.block 1 (.seq (.region [.mk (some 15) (.p (.mv (.s 0))) none, .mk (some 16) (.p (.mv (.s 5))) none, .mk
  (some 17) (.p (.iaddr 1 (.s 15) (.s 16))) none, .mk (some 18) (.r (.load none (.s 17))) none, .mk (some 19) (.p (.conv .i64 (.s 18))) none, .mk (some 6) (.p (.mv (.s 19))) none]
  [0, 3, 4, 5, 6] []) (.seq (.seq (.region [.mk (some 20) (.p (.mv (.s 6))) none, .mk (some 21) (.p (.bin .lss (.s 20) (.c (.int .i64 0)))) none, .mk (some 22) (.p (.mv (.s 21)))
  none, .mk (some 23) (.p (.mv (.s 6))) (some (22, false)), .mk (some 24) (.p (.bin .gtr (.s 23) (.c (.int .i64 1114111)))) (some (22, false)), .mk (some 25) (.p (.pick (.s 22) (.c
  (.bool true)) (.s 24))) none, .mk (some 26) (.p (.mv (.s 25))) none, .mk (some 27) (.p (.mv (.s 6))) (some (26, false)), .mk (some 28) (.e (.call 65 [.s 27])) (some (26, false)),
  .mk (some 29) (.p (.un .not (.s 28))) (some (26, false)), .mk (some 30) (.p (.pick (.s 26) (.c (.bool true)) (.s 29))) none] [0, 3, 4, 5, 30] []) (.cond (.s 30) (.region [.mk
  (some 4) (.p (.mv (.c (.int .i64 12)))) none] [0, 3, 4, 5] []) .skip)) (.region [.mk (some 31) (.p (.mv (.s 3))) none, .mk (some 32) (.p (.mv (.s 0))) none, .mk (some 33) (.p (.mv
  (.s 5))) none, .mk (some 34) (.p (.iaddr 1 (.s 32) (.s 33))) none, .mk (some 35) (.r (.load none (.s 34))) none, .mk (some 36) (.p (.mv (.s 0))) none, .mk (some 37) (.p (.mv (.s
  5))) none, .mk (some 38) (.p (.iaddr 1 (.s 36) (.s 37))) none, .mk (some 39) (.r (.load none (.s 38))) none, .mk (some 40) (.p (.build [.int .i32 0, .int .i32 0] [(0, 1, .s 35),
  (1, 1, .s 39)])) none, .mk (some 41) (.e (.litL 41 1 2 [.int .i32 0, .int .i32 0] [(0, 2, .s 40)])) none, .mk (some 42) (.e (.append 2 8 (.s 31) (.s 41))) none, .mk (some 3) (.p
  (.mv (.s 42))) none] [0, 3, 4, 5] [])))) (.region [.mk (some 13) (.p (.mv (.s 5))) none, .mk (some 14) (.p (.bin .add (.s 13) (.c (.int .i64 1)))) none, .mk (some 5) (.p (.mv (.s
  14))) none] [0, 3, 4, 5] [])))))) (.seq (.region [.mk (some 44) (.p (.mv (.s 0))) none, .mk (some 45) (.e (.call 68 [.s 44])) none, .mk (some 43) (.p (.mv (.s 45))) none, .mk
  (some 46) (.p (.ext 0 (.s 43))) none, .mk (some 47) (.p (.ext 1 (.s 43))) none, .mk (some 7) (.p (.mv (.s 46))) none, .mk (some 8) (.p (.mv (.s 47))) none] [3, 4, 7, 8] []) (.seq
  (.seq (.region [.mk (some 48) (.p (.mv (.s 8))) none, .mk (some 49) (.p (.mv (.s 4))) none, .mk (some 50) (.p (.bin .neq (.s 48) (.s 49))) none, .mk (some 51) (.p (.mv (.s 50)))
  none, .mk (some 52) (.p (.mv (.s 7))) (some (51, false)), .mk (some 53) (.p (.eqk true .ptr (.s 52) (.c (.pointer none)))) (some (51, false)), .mk (some 54) (.p (.mv (.s 4)))
  (some (51, false)), .mk (some 55) (.p (.bin .eql (.s 54) (.c (.int .i64 0)))) (some (51, false)), .mk (some 56) (.p (.eqk true .bool (.s 53) (.s 55))) (some (51, false)), .mk
  (some 57) (.p (.pick (.s 51) (.c (.bool true)) (.s 56))) none] [3, 7, 57] []) (.cond (.s 57) (.seq (.region [.mk (some 2) (.p (.mv (.c (.bool false)))) none] [2] []) .ret) .skip))
  (.seq (.region [.mk (some 58) (.p (.mv (.s 7))) none, .mk (some 59) (.p (.eqk false .ptr (.s 58) (.c (.pointer none)))) none, .mk (some 60) (.p (.mv (.s 59))) none, .mk (some 61)
  (.p (.mv (.s 7))) (some (60, false)), .mk (some 62) (.e (.call 18 [.s 61])) (some (60, false)), .mk (some 63) (.p (.mv (.s 3))) (some (60, false)), .mk (some 64) (.e (.call 36 [.s
  63])) (some (60, false)), .mk (some 65) (.e (.call 19 [.s 62, .s 64])) (some (60, false)), .mk (some 66) (.p (.pick (.s 60) (.c (.bool true)) (.s 65))) none, .mk (some 2) (.p (.mv
  (.s 66))) none] [2] []) .ret)))))))
theorem fn29 : (autoPrg Try.prog).fn 29 = some LF29 := by kernel_rfl

def LF30 : LFunc :=
  .mk 1 [.tmp 2] (.seq (.region [.mk (some 2) (.p (.mv (.c (.bool false)))) none] [0] []) (.seq (.region [.mk (some 3) (.p (.mv (.c (.slice none 0 0)))) none] [0, 3] []) (.seq
  (.region [.mk (some 4) (.p (.mv (.c (.int .i64 0)))) none] [0, 3, 4] []) (.seq (.seq (.region [.mk (some 5) (.p (.mv (.c (.int .i64 0)))) none] [0, 3, 4, 5] []) (.block 0 (.loop
  (.seq (.seq (.region [.mk (some 9) (.p (.mv (.s 5))) none, .mk (some 10) (.p (.mv (.s 0))) none, .mk (some 11) (.p (.len (.s 10))) none, .mk (some 12) (.p (.bin .lss (.s 9) (.s
  11))) none] [0, 3, 4, 5, 12] []) (.cond (.s 12) .skip (.exit 0))) (.seq (.block 1 (.seq (.region [.mk (some 15) (.p (.mv (.s 0))) none, .mk (some 16) (.p (.mv (.s 5))) none, .mk
  (some 17) (.p (.iaddr 1 (.s 15) (.s 16))) none, .mk (some 18) (.r (.load none (.s 17))) none, .mk (some 19) (.p (.conv .i64 (.s 18))) none, .mk (some 6) (.p (.mv (.s 19))) none]
  [0, 3, 4, 5, 6] []) (.seq (.seq (.region [.mk (some 20) (.p (.mv (.s 6))) none, .mk (some 21) (.p (.bin .lss (.s 20) (.c (.int .i64 0)))) none, .mk (some 22) (.p (.mv (.s 21)))
  none, .mk (some 23) (.p (.mv (.s 6))) (some (22, false)), .mk (some 24) (.p (.bin .gtr (.s 23) (.c (.int .i64 1114111)))) (some (22, false)), .mk (some 25) (.p (.pick (.s 22) (.c
  (.bool true)) (.s 24))) none, .mk (some 26) (.p (.mv (.s 25))) none, .mk (some 27) (.p (.mv (.s 6))) (some (26, false)), .mk (some 28) (.e (.call 65 [.s 27])) (some (26, false)),
  .mk (some 29) (.p (.un .not (.s 28))) (some (26, false)), .mk (some 30) (.p (.pick (.s 26) (.c (.bool true)) (.s 29))) none] [0, 3, 4, 5, 30] []) (.cond (.s 30) (.region [.mk
  (some 4) (.p (.mv (.c (.int .i64 12)))) none] [0, 3, 4, 5] []) .skip)) (.region [.mk (some 31) (.p (.mv (.s 3))) none, .mk (some 32) (.p (.mv (.s 0))) none, .mk (some 33) (.p (.mv
  (.s 5))) none, .mk (some 34) (.p (.iaddr 1 (.s 32) (.s 33))) none, .mk (some 35) (.r (.load none (.s 34))) none, .mk (some 36) (.p (.conv .i32 (.s 35))) none, .mk (some 37) (.p
  (.mv (.s 0))) none, .mk (some 38) (.p (.mv (.s 5))) none, .mk (some 39) (.p (.iaddr 1 (.s 37) (.s 38))) none, .mk (some 40) (.r (.load none (.s 39))) none, .mk (some 41) (.p
  (.conv .i32 (.s 40))) none, .mk (some 42) (.p (.build [.int .i32 0, .int .i32 0] [(0, 1, .s 36), (1, 1, .s 41)])) none, .mk (some 43) (.e (.litL 43 1 2 [.int .i32 0, .int .i32 0]
  [(0, 2, .s 42)])) none, .mk (some 44) (.e (.append 2 8 (.s 31) (.s 43))) none, .mk (some 3) (.p (.mv (.s 44))) none] [0, 3, 4, 5] [])))) (.region [.mk (some 13) (.p (.mv (.s 5)))
  none, .mk (some 14) (.p (.bin .add (.s 13) (.c (.int .i64 1)))) none, .mk (some 5) (.p (.mv (.s 14))) none] [0, 3, 4, 5] [])))))) (.seq (.region [.mk (some 46) (.p (.mv (.s 0)))
  none, .mk (some 47) (.e (.call 69 [.s 46])) none, .mk (some 45) (.p (.mv (.s 47))) none, .mk (some 48) (.p (.ext 0 (.s 45))) none, .mk (some 49) (.p (.ext 1 (.s 45))) none, .mk
  (some 7) (.p (.mv (.s 48))) none, .mk (some 8) (.p (.mv (.s 49))) none] [3, 4, 7, 8] []) (.seq (.seq (.region [.mk (some 50) (.p (.mv (.s 8))) none, .mk (some 51) (.p (.mv (.s
  4))) none, .mk (some 52) (.p (.bin .neq (.s 50) (.s 51))) none, .mk (some 53) (.p (.mv (.s 52))) none, .mk (some 54) (.p (.mv (.s 7))) (some (53, false)), .mk (some 55) (.p (.eqk
  true .ptr (.s 54) (.c (.pointer none)))) (some (53, false)), .mk (some 56) (.p (.mv (.s 4))) (some (53, false)), .mk (some 57) (.p (.bin .eql (.s 56) (.c (.int .i64 0)))) (some
  (53, false)), .mk (some 58) (.p (.eqk true .bool (.s 55) (.s 57))) (some (53, false)), .mk (some 59) (.p (.pick (.s 53) (.c (.bool true)) (.s 58))) none] [3, 7, 59] []) (.cond (.s
  59) (.seq (.region [.mk (some 2) (.p (.mv (.c (.bool false)))) none] [2] []) .ret) .skip)) (.seq (.region [.mk (some 60) (.p (.mv (.s 7))) none, .mk (some 61) (.p (.eqk false .ptr
  (.s 60) (.c (.pointer none)))) none, .mk (some 62) (.p (.mv (.s 61))) none, .mk (some 63) (.p (.mv (.s 7))) (some (62, false)), .mk (some 64) (.e (.call 18 [.s 63])) (some (62,
  false)), .mk (some 65) (.p (.mv (.s 3))) (some (62, false)), .mk (some 66) (.e (.call 36 [.s 65])) (some (62, false)), .mk (some 67) (.e (.call 19 [.s 64, .s 66])) (some (62,
  false)), .mk (some 68) (.p (.pick (.s 62) (.c (.bool true)) (.s 67))) none, .mk (some 2) (.p (.mv (.s 68))) none] [2] []) .ret)))))))
theorem fn30 : (autoPrg Try.prog).fn 30 = some LF30 := by kernel_rfl

def LF31 : LFunc :=
  .mk 1 [.tmp 2] (.seq (.region [.mk (some 2) (.p (.mv (.c (.bool false)))) none] [0] []) (.seq (.region [.mk (some 3) (.p (.mv (.c (.slice none 0 0)))) none] [0, 3] []) (.seq
  (.region [.mk (some 4) (.p (.mv (.c (.int .i64 0)))) none] [0, 3, 4] []) (.seq (.seq (.region [.mk (some 5) (.p (.mv (.c (.int .i64 0)))) none] [0, 3, 4, 5] []) (.block 0 (.loop
  (.seq (.seq (.region [.mk (some 9) (.p (.mv (.s 5))) none, .mk (some 10) (.p (.mv (.s 0))) none, .mk (some 11) (.p (.len (.s 10))) none, .mk (some 12) (.p (.bin .lss (.s 9) (.s
  11))) none] [0, 3, 4, 5, 12] []) (.cond (.s 12) .skip (.exit 0))) (.seq (.block 1 (.seq (.region [.mk (some 15) (.p (.mv (.s 0))) none, .mk (some 16) (.p (.mv (.s 5))) none, .mk
  (some 17) (.p (.iaddr 1 (.s 15) (.s 16))) none, .mk (some 18) (.r (.load none (.s 17))) none, .mk (some 19) (.p (.conv .i64 (.s 18))) none, .mk (some 6) (.p (.mv (.s 19))) none]
  [0, 3, 4, 5, 6] []) (.seq (.seq (.region [.mk (some 20) (.p (.mv (.s 6))) none, .mk (some 21) (.p (.bin .lss (.s 20) (.c (.int .i64 0)))) none, .mk (some 22) (.p (.mv (.s 21)))
  none, .mk (some 23) (.p (.mv (.s 6))) (some (22, false)), .mk (some 24) (.p (.bin .gtr (.s 23) (.c (.int .i64 1114111)))) (some (22, false)), .mk (some 25) (.p (.pick (.s 22) (.c
  (.bool true)) (.s 24))) none, .mk (some 26) (.p (.mv (.s 25))) none, .mk (some 27) (.p (.mv (.s 6))) (some (26, false)), .mk (some 28) (.e (.call 65 [.s 27])) (some (26, false)),
  .mk (some 29) (.p (.un .not (.s 28))) (some (26, false)), .mk (some 30) (.p (.pick (.s 26) (.c (.bool true)) (.s 29))) none] [0, 3, 4, 5, 30] []) (.cond (.s 30) (.region [.mk
  (some 4) (.p (.mv (.c (.int .i64 12)))) none] [0, 3, 4, 5] []) .skip)) (.region [.mk (some 31) (.p (.mv (.s 3))) none, .mk (some 32) (.p (.mv (.s 0))) none, .mk (some 33) (.p (.mv
  (.s 5))) none, .mk (some 34) (.p (.iaddr 1 (.s 32) (.s 33))) none, .mk (some 35) (.r (.load none (.s 34))) none, .mk (some 36) (.p (.conv .i32 (.s 35))) none, .mk (some 37) (.p
  (.mv (.s 0))) none, .mk (some 38) (.p (.mv (.s 5))) none, .mk (some 39) (.p (.iaddr 1 (.s 37) (.s 38))) none, .mk (some 40) (.r (.load none (.s 39))) none, .mk (some 41) (.p
  (.conv .i32 (.s 40))) none, .mk (some 42) (.p (.build [.int .i32 0, .int .i32 0] [(0, 1, .s 36), (1, 1, .s 41)])) none, .mk (some 43) (.e (.litL 43 1 2 [.int .i32 0, .int .i32 0]
  [(0, 2, .s 42)])) none, .mk (some 44) (.e (.append 2 8 (.s 31) (.s 43))) none, .mk (some 3) (.p (.mv (.s 44))) none] [0, 3, 4, 5] [])))) (.region [.mk (some 13) (.p (.mv (.s 5)))
  none, .mk (some 14) (.p (.bin .add (.s 13) (.c (.int .i64 1)))) none, .mk (some 5) (.p (.mv (.s 14))) none] [0, 3, 4, 5] [])))))) (.seq (.region [.mk (some 46) (.p (.mv (.s 0)))
  none, .mk (some 47) (.e (.call 70 [.s 46])) none, .mk (some 45) (.p (.mv (.s 47))) none, .mk (some 48) (.p (.ext 0 (.s 45))) none, .mk (some 49) (.p (.ext 1 (.s 45))) none, .mk
  (some 7) (.p (.mv (.s 48))) none, .mk (some 8) (.p (.mv (.s 49))) none] [3, 4, 7, 8] []) (.seq (.seq (.region [.mk (some 50) (.p (.mv (.s 8))) none, .mk (some 51) (.p (.mv (.s
  4))) none, .mk (some 52) (.p (.bin .neq (.s 50) (.s 51))) none, .mk (some 53) (.p (.mv (.s 52))) none, .mk (some 54) (.p (.mv (.s 7))) (some (53, false)), .mk (some 55) (.p (.eqk
  true .ptr (.s 54) (.c (.pointer none)))) (some (53, false)), .mk (some 56) (.p (.mv (.s 4))) (some (53, false)), .mk (some 57) (.p (.bin .eql (.s 56) (.c (.int .i64 0)))) (some
  (53, false)), .mk (some 58) (.p (.eqk true .bool (.s 55) (.s 57))) (some (53, false)), .mk (some 59) (.p (.pick (.s 53) (.c (.bool true)) (.s 58))) none] [3, 7, 59] []) (.cond (.s
  59) (.seq (.region [.mk (some 2) (.p (.mv (.c (.bool false)))) none] [2] []) .ret) .skip)) (.seq (.region [.mk (some 60) (.p (.mv (.s 7))) none, .mk (some 61) (.p (.eqk false .ptr
  (.s 60) (.c (.pointer none)))) none, .mk (some 62) (.p (.mv (.s 61))) none, .mk (some 63) (.p (.mv (.s 7))) (some (62, false)), .mk (some 64) (.e (.call 18 [.s 63])) (some (62,
  false)), .mk (some 65) (.p (.mv (.s 3))) (some (62, false)), .mk (some 66) (.e (.call 36 [.s 65])) (some (62, false)), .mk (some 67) (.e (.call 19 [.s 64, .s 66])) (some (62,
  false)), .mk (some 68) (.p (.pick (.s 62) (.c (.bool true)) (.s 67))) none, .mk (some 2) (.p (.mv (.s 68))) none] [2] []) .ret)))))))
theorem fn31 : (autoPrg Try.prog).fn 31 = some LF31 := by kernel_rfl

def LF5 : LFunc :=
  .mk 1 [.tmp 2] (.seq (.region [.mk (some 2) (.p (.mv (.c (.bool false)))) none] [0] []) (.seq (.seq (.region [.mk (some 7) (.p (.mv (.s 0))) none, .mk (some 8) (.p (.len (.s 7)))
  none, .mk (some 9) (.p (.bin .gtr (.s 8) (.c (.int .i64 60)))) none] [0, 9] []) (.cond (.s 9) (.region [.mk (some 10) (.p (.mv (.s 0))) none, .mk (some 11) (.p (.sl 1 (.s 10) none
  (some (.c (.int .i64 60))) none)) none, .mk (some 0) (.p (.mv (.s 11))) none] [0] []) .skip)) (.seq (.region [.mk (some 3) (.p (.mv (.c (.slice none 0 0)))) none] [0, 3] []) (.seq
  (.region [.mk (some 4) (.p (.mv (.c (.slice none 0 0)))) none] [0, 3, 4] []) (.seq (.region [.mk (some 5) (.p (.mv (.c (.slice none 0 0)))) none] [0, 3, 4, 5] []) (.seq (.seq
  (.region [.mk (some 6) (.p (.mv (.c (.int .i64 0)))) none] [0, 3, 4, 5, 6] []) (.block 0 (.loop (.seq (.seq (.region [.mk (some 12) (.p (.mv (.s 6))) none, .mk (some 13) (.p (.mv
  (.s 0))) none, .mk (some 14) (.p (.len (.s 13))) none, .mk (some 15) (.p (.bin .lss (.s 12) (.s 14))) none] [0, 3, 4, 5, 6, 15] []) (.cond (.s 15) .skip (.exit 0))) (.seq (.block
  1 (.seq (.region [.mk (some 18) (.p (.mv (.s 3))) none, .mk (some 19) (.p (.mv (.s 0))) none, .mk (some 20) (.p (.mv (.s 6))) none, .mk (some 21) (.p (.iaddr 1 (.s 19) (.s 20)))
  none, .mk (some 22) (.r (.load none (.s 21))) none, .mk (some 23) (.p (.conv .i32 (.s 22))) none, .mk (some 24) (.e (.litL 24 1 1 [.int .i32 0] [(0, 1, .s 23)])) none, .mk (some
  25) (.e (.append 1 4 (.s 18) (.s 24))) none, .mk (some 3) (.p (.mv (.s 25))) none] [0, 3, 4, 5, 6] []) (.seq (.region [.mk (some 26) (.p (.mv (.s 4))) none, .mk (some 27) (.p (.mv
  (.s 0))) none, .mk (some 28) (.p (.mv (.s 6))) none, .mk (some 29) (.p (.iaddr 1 (.s 27) (.s 28))) none, .mk (some 30) (.r (.load none (.s 29))) none, .mk (some 31) (.p (.conv
  .u32 (.s 30))) none, .mk (some 32) (.e (.litL 32 1 1 [.int .u32 0] [(0, 1, .s 31)])) none, .mk (some 33) (.e (.append 1 4 (.s 26) (.s 32))) none, .mk (some 4) (.p (.mv (.s 33)))
  none] [0, 3, 4, 5, 6] []) (.region [.mk (some 34) (.p (.mv (.s 5))) none, .mk (some 35) (.p (.mv (.s 0))) none, .mk (some 36) (.p (.mv (.s 6))) none, .mk (some 37) (.p (.iaddr 1
  (.s 35) (.s 36))) none, .mk (some 38) (.r (.load none (.s 37))) none, .mk (some 39) (.p (.conv .u32 (.s 38))) none, .mk (some 40) (.e (.litL 40 1 1 [.int .u32 0] [(0, 1, .s 39)]))
  none, .mk (some 41) (.e (.append 1 4 (.s 34) (.s 40))) none, .mk (some 5) (.p (.mv (.s 41))) none] [0, 3, 4, 5, 6] [])))) (.region [.mk (some 16) (.p (.mv (.s 6))) none, .mk (some
  17) (.p (.bin .add (.s 16) (.c (.int .i64 1)))) none, .mk (some 6) (.p (.mv (.s 17))) none] [0, 3, 4, 5, 6] [])))))) (.seq (.region [.mk (some 42) (.e (.call 14 [])) none, .mk
  (some 43) (.p (.mv (.s 42))) none, .mk (some 44) (.p (.mv (.s 0))) (some (43, true)), .mk (some 45) (.e (.call 28 [.s 44])) (some (43, true)), .mk (some 46) (.p (.pick (.s 43) (.s
  45) (.c (.bool false)))) none, .mk (some 47) (.p (.mv (.s 46))) none, .mk (some 48) (.p (.mv (.s 3))) (some (47, true)), .mk (some 49) (.e (.call 29 [.s 48])) (some (47, true)),
  .mk (some 50) (.p (.pick (.s 47) (.s 49) (.c (.bool false)))) none, .mk (some 51) (.p (.mv (.s 50))) none, .mk (some 52) (.p (.mv (.s 4))) (some (51, true)), .mk (some 53) (.e
  (.call 30 [.s 52])) (some (51, true)), .mk (some 54) (.p (.pick (.s 51) (.s 53) (.c (.bool false)))) none, .mk (some 55) (.p (.mv (.s 54))) none, .mk (some 56) (.p (.mv (.s 5)))
  (some (55, true)), .mk (some 57) (.e (.call 31 [.s 56])) (some (55, true)), .mk (some 58) (.p (.pick (.s 55) (.s 57) (.c (.bool false)))) none, .mk (some 2) (.p (.mv (.s 58)))
  none] [2] []) .ret)))))))
theorem fn5 : (autoPrg Try.prog).fn 5 = some LF5 := by kernel_rfl

end Go.Proofs.Ytanpdopjgepbkaa.AM
