/- Lifted functions, each a constant: sets made and told. -/
import Derived.Test.YtanpdopjgepbkaaSA
set_option linter.unusedVariables false
namespace Go.Proofs.Ytanpdopjgepbkaa.AM
open Go

def LF73 : LFunc :=
  .mk 1 [.tmp 2] (.seq (.region [.mk (some 2) (.p (.mv (.c (.pointer none)))) none] [0] []) (.seq (.region [.mk (some 7) (.p (.mv (.s 0))) none, .mk (some 8) (.e (.call 87 [.s 7, .c
  (.func (.func 88) (Array.mk []) (Array.mk []))])) none] [0] []) (.seq (.region [.mk (some 9) (.p (.build [.slice none 0 0] [])) none, .mk (some 10) (.e (.boxH 1 (.s 9))) none, .mk
  (some 3) (.p (.mv (.s 10))) none] [0, 3] []) (.seq (.seq (.region [.mk (some 11) (.p (.mv (.s 0))) none, .mk (some 12) (.p (.len (.s 11))) none, .mk (some 13) (.p (.mv (.c (.int
  .i64 0)))) none] [3, 11, 12, 13] []) (.block 0 (.loop (.seq (.region [.mk (some 14) (.p (.bin .lss (.s 13) (.s 12))) none] [3, 11, 12, 13, 14] []) (.seq (.cond (.s 14) .skip
  (.exit 0)) (.seq (.block 1 (.seq (.region [.mk (some 15) (.p (.iaddr 2 (.s 11) (.s 13))) none, .mk (some 16) (.r (.load (some 2) (.s 15))) none, .mk (some 5) (.e (.newL 5 [.int
  .i64 0, .int .i64 0])) none, .mk none (.e (.store 2 (.s 5) (.s 16))) none] [3, 5, 11, 12, 13] []) (.seq (.region [.mk (some 17) (.p (.mv (.s 3))) none, .mk (some 18) (.p (.nilck
  (.s 17))) none, .mk (some 19) (.p (.faddr 0 (.s 18))) none, .mk (some 20) (.r (.load none (.s 19))) none, .mk (some 21) (.p (.len (.s 20))) none, .mk (some 6) (.p (.mv (.s 21)))
  none] [3, 5, 6, 11, 12, 13] []) (.block 2 (.seq (.region [.mk (some 33) (.p (.faddr 0 (.s 5))) none, .mk (some 34) (.r (.load none (.s 33))) none, .mk (some 35) (.p (.faddr 1 (.s
  5))) none, .mk (some 36) (.r (.load none (.s 35))) none, .mk (some 37) (.p (.bin .geq (.s 34) (.s 36))) none, .mk (some 32) (.p (.mv (.s 37))) none] [3, 5, 6, 11, 12, 13, 32] [])
  (.cond (.s 32) .skip (.seq (.region [.mk (some 39) (.p (.mv (.s 6))) none, .mk (some 40) (.p (.bin .gtr (.s 39) (.c (.int .i64 0)))) none, .mk (some 41) (.p (.mv (.s 40))) none,
  .mk (some 42) (.p (.faddr 0 (.s 5))) (some (41, true)), .mk (some 43) (.r (.load none (.s 42))) (some (41, true)), .mk (some 44) (.p (.mv (.s 3))) (some (41, true)), .mk (some 45)
  (.p (.nilck (.s 44))) (some (41, true)), .mk (some 46) (.p (.faddr 0 (.s 45))) (some (41, true)), .mk (some 47) (.r (.load none (.s 46))) (some (41, true)), .mk (some 48) (.p (.mv
  (.s 6))) (some (41, true)), .mk (some 49) (.p (.bin .sub (.s 48) (.c (.int .i64 1)))) (some (41, true)), .mk (some 50) (.p (.iaddr 2 (.s 47) (.s 49))) (some (41, true)), .mk (some
  51) (.p (.faddr 1 (.s 50))) (some (41, true)), .mk (some 52) (.r (.load none (.s 51))) (some (41, true)), .mk (some 53) (.p (.bin .leq (.s 43) (.s 52))) (some (41, true)), .mk
  (some 54) (.p (.pick (.s 41) (.s 53) (.c (.bool false)))) none, .mk (some 38) (.p (.mv (.s 54))) none] [3, 5, 6, 11, 12, 13, 38] []) (.cond (.s 38) (.region [.mk (some 55) (.p
  (.mv (.s 3))) none, .mk (some 56) (.p (.nilck (.s 55))) none, .mk (some 57) (.p (.faddr 0 (.s 56))) none, .mk (some 58) (.r (.load none (.s 57))) none, .mk (some 59) (.p (.mv (.s
  6))) none, .mk (some 60) (.p (.bin .sub (.s 59) (.c (.int .i64 1)))) none, .mk (some 61) (.p (.mv (.s 3))) none, .mk (some 62) (.p (.nilck (.s 61))) none, .mk (some 63) (.p
  (.faddr 0 (.s 62))) none, .mk (some 64) (.r (.load none (.s 63))) none, .mk (some 65) (.p (.mv (.s 6))) none, .mk (some 66) (.p (.bin .sub (.s 65) (.c (.int .i64 1)))) none, .mk
  (some 67) (.p (.iaddr 2 (.s 64) (.s 66))) none, .mk (some 68) (.p (.faddr 1 (.s 67))) none, .mk (some 69) (.r (.load none (.s 68))) none, .mk (some 70) (.p (.faddr 1 (.s 5)))
  none, .mk (some 71) (.r (.load none (.s 70))) none, .mk (some 72) (.p (.mm true [.s 69, .s 71])) none, .mk (some 73) (.p (.iaddr 2 (.s 58) (.s 60))) none, .mk (some 74) (.p
  (.faddr 1 (.s 73))) none, .mk none (.e (.store 1 (.s 74) (.s 72))) none] [3, 11, 12, 13] []) (.region [.mk (some 22) (.p (.mv (.s 3))) none, .mk (some 23) (.p (.mv (.s 3))) none,
  .mk (some 24) (.p (.nilck (.s 23))) none, .mk (some 25) (.p (.faddr 0 (.s 24))) none, .mk (some 26) (.r (.load none (.s 25))) none, .mk (some 27) (.r (.load (some 2) (.s 5)))
  none, .mk (some 28) (.e (.litL 28 1 2 [.int .i64 0, .int .i64 0] [(0, 2, .s 27)])) none, .mk (some 29) (.e (.append 2 16 (.s 26) (.s 28))) none, .mk (some 30) (.p (.nilck (.s
  22))) none, .mk (some 31) (.p (.faddr 0 (.s 30))) none, .mk none (.e (.store 1 (.s 31) (.s 29))) none] [3, 11, 12, 13] [(4, 7)]))))))))) (.region [.mk (some 75) (.p (.bin .add (.s
  13) (.c (.int .i64 1)))) none, .mk (some 13) (.p (.mv (.s 75))) none] [3, 11, 12, 13] []))))))) (.seq (.region [.mk (some 76) (.p (.mv (.s 3))) none, .mk (some 2) (.p (.mv (.s
  76))) none] [2] []) .ret)))))
theorem fn73 : (autoPrg Try.prog).fn 73 = some LF73 := by kernel_rfl

def LF58 : LFunc :=
  .mk 1 [.tmp 2, .tmp 3] (.seq (.region [.mk (some 2) (.p (.mv (.c (.pointer none)))) none, .mk (some 3) (.p (.mv (.c (.int .i64 0)))) none] [0] []) (.seq (.region [.mk (some 4) (.p
  (.mv (.c (.slice none 0 0)))) none] [0, 4] []) (.seq (.region [.mk (some 5) (.p (.mv (.c (.int .i64 0)))) none] [0, 4, 5] []) (.seq (.seq (.region [.mk (some 9) (.p (.mv (.s 0)))
  none, .mk (some 10) (.p (.len (.s 9))) none, .mk (some 11) (.p (.mv (.c (.int .i64 0)))) none] [4, 5, 9, 10, 11] []) (.block 0 (.loop (.seq (.region [.mk (some 12) (.p (.bin .lss
  (.s 11) (.s 10))) none] [4, 5, 9, 10, 11, 12] []) (.seq (.cond (.s 12) .skip (.exit 0)) (.seq (.block 1 (.seq (.region [.mk (some 13) (.p (.iaddr 2 (.s 9) (.s 11))) none, .mk
  (some 14) (.r (.load (some 2) (.s 13))) none, .mk (some 7) (.e (.newL 7 [.int .i32 0, .int .i32 0])) none, .mk none (.e (.store 2 (.s 7) (.s 14))) none] [4, 5, 7, 9, 10, 11] [])
  (.seq (.seq (.region [.mk (some 15) (.r (.load (some 2) (.s 7))) none, .mk (some 16) (.e (.call 71 [.s 15])) none, .mk (some 8) (.p (.mv (.s 16))) none] [4, 5, 7, 8, 9, 10, 11]
  []) (.seq (.region [.mk (some 17) (.p (.mv (.s 8))) none, .mk (some 18) (.p (.bin .eql (.s 17) (.c (.int .i64 12)))) none, .mk (some 19) (.p (.mv (.s 18))) none, .mk (some 20) (.p
  (.mv (.s 8))) (some (19, false)), .mk (some 21) (.p (.bin .neq (.s 20) (.c (.int .i64 0)))) (some (19, false)), .mk (some 22) (.p (.mv (.s 21))) (some (19, false)), .mk (some 23)
  (.p (.mv (.s 5))) (some (22, true)), .mk (some 24) (.p (.bin .eql (.s 23) (.c (.int .i64 0)))) (some (22, true)), .mk (some 25) (.p (.pick (.s 22) (.s 24) (.c (.bool false))))
  (some (19, false)), .mk (some 26) (.p (.pick (.s 19) (.c (.bool true)) (.s 25))) none] [4, 5, 7, 8, 9, 10, 11, 26] []) (.cond (.s 26) (.seq (.region [.mk (some 27) (.p (.mv (.s
  8))) none, .mk (some 5) (.p (.mv (.s 27))) none] [4, 5, 7, 8, 9, 10, 11] []) (.seq (.region [.mk (some 28) (.p (.mv (.s 8))) none, .mk (some 29) (.p (.bin .eql (.s 28) (.c (.int
  .i64 12)))) none] [4, 5, 7, 9, 10, 11, 29] []) (.cond (.s 29) (.exit 0) .skip))) .skip))) (.region [.mk (some 30) (.p (.mv (.s 4))) none, .mk (some 31) (.p (.faddr 0 (.s 7)))
  none, .mk (some 32) (.r (.load none (.s 31))) none, .mk (some 33) (.p (.conv .i64 (.s 32))) none, .mk (some 34) (.e (.call 64 [.s 33])) none, .mk (some 35) (.p (.faddr 1 (.s 7)))
  none, .mk (some 36) (.r (.load none (.s 35))) none, .mk (some 37) (.p (.conv .i64 (.s 36))) none, .mk (some 38) (.e (.call 64 [.s 37])) none, .mk (some 39) (.p (.bin .add (.s 38)
  (.c (.int .i64 1)))) none, .mk (some 40) (.p (.build [.int .i64 0, .int .i64 0] [(0, 1, .s 34), (1, 1, .s 39)])) none, .mk (some 41) (.e (.litL 41 1 2 [.int .i64 0, .int .i64 0]
  [(0, 2, .s 40)])) none, .mk (some 42) (.e (.append 2 16 (.s 30) (.s 41))) none, .mk (some 4) (.p (.mv (.s 42))) none] [4, 5, 9, 10, 11] [(6, 0)])))) (.region [.mk (some 43) (.p
  (.bin .add (.s 11) (.c (.int .i64 1)))) none, .mk (some 11) (.p (.mv (.s 43))) none] [4, 5, 9, 10, 11] []))))))) (.seq (.seq (.region [.mk (some 44) (.p (.mv (.s 5))) none, .mk
  (some 45) (.p (.bin .neq (.s 44) (.c (.int .i64 0)))) none] [4, 5, 45] []) (.cond (.s 45) (.seq (.region [.mk (some 46) (.p (.mv (.s 5))) none, .mk (some 2) (.p (.mv (.c (.pointer
  none)))) none, .mk (some 3) (.p (.mv (.s 46))) none] [2, 3] []) .ret) .skip)) (.seq (.region [.mk (some 47) (.p (.mv (.s 4))) none, .mk (some 48) (.e (.call 73 [.s 47])) none, .mk
  (some 2) (.p (.mv (.s 48))) none, .mk (some 3) (.p (.mv (.c (.int .i64 0)))) none] [2, 3] []) .ret))))))
theorem fn58 : (autoPrg Try.prog).fn 58 = some LF58 := by kernel_rfl

def LF17 : LFunc :=
  .mk 1 [.tmp 2, .tmp 3, .tmp 4] (.seq (.region [.mk (some 2) (.p (.mv (.c (.pointer none)))) none, .mk (some 3) (.p (.mv (.c (.slice none 0 0)))) none, .mk (some 4) (.p (.mv (.c
  (.bool false)))) none] [0] []) (.seq (.region [.mk (some 8) (.p (.mv (.s 0))) none, .mk (some 9) (.e (.call 58 [.s 8])) none, .mk (some 7) (.p (.mv (.s 9))) none, .mk (some 10)
  (.p (.ext 0 (.s 7))) none, .mk (some 11) (.p (.ext 1 (.s 7))) none, .mk (some 5) (.p (.mv (.s 10))) none, .mk (some 6) (.p (.mv (.s 11))) none] [0, 5, 6] []) (.seq (.seq (.region
  [.mk (some 12) (.p (.mv (.s 6))) none, .mk (some 13) (.p (.mv (.s 0))) none, .mk (some 14) (.e (.call 59 [.s 13])) none, .mk (some 15) (.p (.bin .neq (.s 12) (.s 14))) none, .mk
  (some 16) (.p (.mv (.s 15))) none, .mk (some 17) (.p (.mv (.s 5))) (some (16, false)), .mk (some 18) (.p (.eqk true .ptr (.s 17) (.c (.pointer none)))) (some (16, false)), .mk
  (some 19) (.p (.mv (.s 6))) (some (16, false)), .mk (some 20) (.p (.bin .eql (.s 19) (.c (.int .i64 0)))) (some (16, false)), .mk (some 21) (.p (.eqk true .bool (.s 18) (.s 20)))
  (some (16, false)), .mk (some 22) (.p (.pick (.s 16) (.c (.bool true)) (.s 21))) none] [0, 5, 22] []) (.cond (.s 22) (.seq (.region [.mk (some 2) (.p (.mv (.c (.pointer none))))
  none, .mk (some 3) (.p (.mv (.c (.slice none 0 0)))) none, .mk (some 4) (.p (.mv (.c (.bool false)))) none] [2, 3, 4] []) .ret) .skip)) (.seq (.seq (.region [.mk (some 23) (.p
  (.mv (.s 5))) none, .mk (some 24) (.p (.eqk false .ptr (.s 23) (.c (.pointer none)))) none] [0, 5, 24] []) (.cond (.s 24) (.seq (.region [.mk (some 2) (.p (.mv (.c (.pointer
  none)))) none, .mk (some 3) (.p (.mv (.c (.slice none 0 0)))) none, .mk (some 4) (.p (.mv (.c (.bool true)))) none] [2, 3, 4] []) .ret) .skip)) (.seq (.region [.mk (some 25) (.p
  (.mv (.s 5))) none, .mk (some 26) (.p (.mv (.s 0))) none, .mk (some 27) (.e (.call 36 [.s 26])) none, .mk (some 2) (.p (.mv (.s 25))) none, .mk (some 3) (.p (.mv (.s 27))) none,
  .mk (some 4) (.p (.mv (.c (.bool true)))) none] [2, 3, 4] []) .ret)))))
theorem fn17 : (autoPrg Try.prog).fn 17 = some LF17 := by kernel_rfl

def LF18 : LFunc :=
  .mk 1 [.tmp 2] (.seq (.region [.mk (some 2) (.p (.mv (.c (.slice none 0 0)))) none] [0] []) (.seq (.region [.mk (some 3) (.p (.mv (.c (.slice none 0 0)))) none] [0, 3] []) (.seq
  (.seq (.region [.mk (some 6) (.p (.mv (.s 0))) none, .mk (some 7) (.p (.nilck (.s 6))) none, .mk (some 8) (.p (.faddr 0 (.s 7))) none, .mk (some 9) (.r (.load none (.s 8))) none,
  .mk (some 10) (.p (.len (.s 9))) none, .mk (some 11) (.p (.mv (.c (.int .i64 0)))) none] [3, 9, 10, 11] []) (.block 0 (.loop (.seq (.region [.mk (some 12) (.p (.bin .lss (.s 11)
  (.s 10))) none] [3, 9, 10, 11, 12] []) (.seq (.cond (.s 12) .skip (.exit 0)) (.seq (.block 1 (.seq (.region [.mk (some 13) (.p (.iaddr 2 (.s 9) (.s 11))) none, .mk (some 14) (.r
  (.load (some 2) (.s 13))) none, .mk (some 5) (.e (.newL 5 [.int .i64 0, .int .i64 0])) none, .mk none (.e (.store 2 (.s 5) (.s 14))) none] [3, 5, 9, 10, 11] []) (.region [.mk
  (some 15) (.p (.mv (.s 3))) none, .mk (some 16) (.p (.faddr 0 (.s 5))) none, .mk (some 17) (.r (.load none (.s 16))) none, .mk (some 18) (.e (.call 60 [.s 17])) none, .mk (some
  19) (.p (.faddr 1 (.s 5))) none, .mk (some 20) (.r (.load none (.s 19))) none, .mk (some 21) (.p (.bin .sub (.s 20) (.c (.int .i64 1)))) none, .mk (some 22) (.e (.call 60 [.s
  21])) none, .mk (some 23) (.p (.build [.int .i32 0, .int .i32 0] [(0, 1, .s 18), (1, 1, .s 22)])) none, .mk (some 24) (.e (.litL 24 1 2 [.int .i32 0, .int .i32 0] [(0, 2, .s
  23)])) none, .mk (some 25) (.e (.append 2 8 (.s 15) (.s 24))) none, .mk (some 3) (.p (.mv (.s 25))) none] [3, 9, 10, 11] [(5, 0)]))) (.region [.mk (some 26) (.p (.bin .add (.s 11)
  (.c (.int .i64 1)))) none, .mk (some 11) (.p (.mv (.s 26))) none] [3, 9, 10, 11] []))))))) (.seq (.region [.mk (some 27) (.p (.mv (.s 3))) none, .mk (some 2) (.p (.mv (.s 27)))
  none] [2] []) .ret))))
theorem fn18 : (autoPrg Try.prog).fn 18 = some LF18 := by kernel_rfl

def LF20 : LFunc :=
  .mk 1 [.tmp 2] (.seq (.region [.mk (some 2) (.p (.mv (.c (.int .i64 0)))) none] [0] []) (.seq (.region [.mk (some 3) (.p (.mv (.c (.int .i64 0)))) none] [0, 3] []) (.seq (.seq
  (.region [.mk (some 6) (.p (.mv (.s 0))) none, .mk (some 7) (.p (.nilck (.s 6))) none, .mk (some 8) (.p (.faddr 0 (.s 7))) none, .mk (some 9) (.r (.load none (.s 8))) none, .mk
  (some 10) (.p (.len (.s 9))) none, .mk (some 11) (.p (.mv (.c (.int .i64 0)))) none] [3, 9, 10, 11] []) (.block 0 (.loop (.seq (.region [.mk (some 12) (.p (.bin .lss (.s 11) (.s
  10))) none] [3, 9, 10, 11, 12] []) (.seq (.cond (.s 12) .skip (.exit 0)) (.seq (.block 1 (.seq (.region [.mk (some 13) (.p (.iaddr 2 (.s 9) (.s 11))) none, .mk (some 14) (.r
  (.load (some 2) (.s 13))) none, .mk (some 5) (.e (.newL 5 [.int .i64 0, .int .i64 0])) none, .mk none (.e (.store 2 (.s 5) (.s 14))) none] [3, 5, 9, 10, 11] []) (.region [.mk
  (some 15) (.p (.mv (.s 3))) none, .mk (some 16) (.p (.faddr 1 (.s 5))) none, .mk (some 17) (.r (.load none (.s 16))) none, .mk (some 18) (.p (.faddr 0 (.s 5))) none, .mk (some 19)
  (.r (.load none (.s 18))) none, .mk (some 20) (.p (.bin .sub (.s 17) (.s 19))) none, .mk (some 21) (.p (.bin .add (.s 15) (.s 20))) none, .mk (some 3) (.p (.mv (.s 21))) none] [3,
  9, 10, 11] []))) (.region [.mk (some 22) (.p (.bin .add (.s 11) (.c (.int .i64 1)))) none, .mk (some 11) (.p (.mv (.s 22))) none] [3, 9, 10, 11] []))))))) (.seq (.region [.mk
  (some 23) (.p (.mv (.s 3))) none, .mk (some 2) (.p (.mv (.s 23))) none] [2] []) .ret))))
theorem fn20 : (autoPrg Try.prog).fn 20 = some LF20 := by kernel_rfl

def LF21 : LFunc :=
  .mk 1 [.tmp 2] (.seq (.region [.mk (some 2) (.p (.mv (.c (.int .i64 0)))) none] [0] []) (.seq (.region [.mk (some 3) (.p (.mv (.c (.int .i64 0)))) none] [0, 3] []) (.seq (.seq
  (.region [.mk (some 4) (.p (.mv (.c (.int .i64 0)))) none] [0, 3, 4] []) (.block 0 (.loop (.seq (.seq (.region [.mk (some 5) (.p (.mv (.s 4))) none, .mk (some 6) (.p (.mv (.s 0)))
  none, .mk (some 7) (.p (.len (.s 6))) none, .mk (some 8) (.p (.bin .lss (.s 5) (.s 7))) none] [0, 3, 4, 8] []) (.cond (.s 8) .skip (.exit 0))) (.seq (.block 1 (.region [.mk (some
  11) (.p (.mv (.s 3))) none, .mk (some 12) (.p (.mv (.s 0))) none, .mk (some 13) (.p (.mv (.s 4))) none, .mk (some 14) (.p (.iaddr 2 (.s 12) (.s 13))) none, .mk (some 15) (.r
  (.load (some 2) (.s 14))) none, .mk (some 16) (.e (.call 61 [.s 15])) none, .mk (some 17) (.p (.bin .add (.s 11) (.s 16))) none, .mk (some 3) (.p (.mv (.s 17))) none] [0, 3, 4]
  [])) (.region [.mk (some 9) (.p (.mv (.s 4))) none, .mk (some 10) (.p (.bin .add (.s 9) (.c (.int .i64 1)))) none, .mk (some 4) (.p (.mv (.s 10))) none] [0, 3, 4] [])))))) (.seq
  (.region [.mk (some 18) (.p (.mv (.s 3))) none, .mk (some 2) (.p (.mv (.s 18))) none] [2] []) .ret))))
theorem fn21 : (autoPrg Try.prog).fn 21 = some LF21 := by kernel_rfl

def LF22 : LFunc :=
  .mk 2 [.tmp 4] (.seq (.region [.mk (some 4) (.p (.mv (.c (.bool false)))) none] [0, 1] []) (.seq (.region [.mk (some 5) (.p (.mv (.s 1))) none, .mk (some 6) (.e (.call 62 [.s 5]))
  none, .mk (some 7) (.p (.mv (.s 6))) none, .mk (some 8) (.p (.mv (.s 0))) (some (7, true)), .mk (some 9) (.p (.mv (.s 1))) (some (7, true)), .mk (some 10) (.p (.conv .i64 (.s 9)))
  (some (7, true)), .mk (some 11) (.e (.call 64 [.s 10])) (some (7, true)), .mk (some 12) (.e (.call 63 [.s 8, .s 11])) (some (7, true)), .mk (some 13) (.p (.pick (.s 7) (.s 12) (.c
  (.bool false)))) none, .mk (some 4) (.p (.mv (.s 13))) none] [4] []) .ret))
theorem fn22 : (autoPrg Try.prog).fn 22 = some LF22 := by kernel_rfl

def LF63 : LFunc :=
  .mk 2 [.tmp 4] (.seq (.region [.mk (some 4) (.p (.mv (.c (.bool false)))) none] [0, 1] []) (.seq (.region [.mk (some 8) (.p (.mv (.s 0))) none, .mk (some 9) (.p (.nilck (.s 8)))
  none, .mk (some 10) (.p (.faddr 0 (.s 9))) none, .mk (some 11) (.r (.load none (.s 10))) none, .mk (some 12) (.p (.mv (.s 1))) none, .mk (some 13) (.e (.call 84 [.s 11, .s 12, .c
  (.func (.func 85) (Array.mk []) (Array.mk []))])) none, .mk (some 7) (.p (.mv (.s 13))) none, .mk (some 14) (.p (.ext 0 (.s 7))) none, .mk (some 15) (.p (.ext 1 (.s 7))) none, .mk
  (some 5) (.p (.mv (.s 14))) none, .mk (some 6) (.p (.mv (.s 15))) none] [0, 1, 5, 6] []) (.seq (.region [.mk (some 16) (.p (.mv (.s 6))) none, .mk (some 17) (.p (.mv (.s 16)))
  none, .mk (some 18) (.p (.mv (.s 5))) (some (17, false)), .mk (some 19) (.p (.bin .gtr (.s 18) (.c (.int .i64 0)))) (some (17, false)), .mk (some 20) (.p (.mv (.s 19))) (some (17,
  false)), .mk (some 21) (.p (.mv (.s 1))) (some (20, true)), .mk (some 22) (.p (.mv (.s 0))) (some (20, true)), .mk (some 23) (.p (.nilck (.s 22))) (some (20, true)), .mk (some 24)
  (.p (.faddr 0 (.s 23))) (some (20, true)), .mk (some 25) (.r (.load none (.s 24))) (some (20, true)), .mk (some 26) (.p (.mv (.s 5))) (some (20, true)), .mk (some 27) (.p (.bin
  .sub (.s 26) (.c (.int .i64 1)))) (some (20, true)), .mk (some 28) (.p (.iaddr 2 (.s 25) (.s 27))) (some (20, true)), .mk (some 29) (.p (.faddr 1 (.s 28))) (some (20, true)), .mk
  (some 30) (.r (.load none (.s 29))) (some (20, true)), .mk (some 31) (.p (.bin .lss (.s 21) (.s 30))) (some (20, true)), .mk (some 32) (.p (.pick (.s 20) (.s 31) (.c (.bool
  false)))) (some (17, false)), .mk (some 33) (.p (.pick (.s 17) (.c (.bool true)) (.s 32))) none, .mk (some 4) (.p (.mv (.s 33))) none] [4] []) .ret)))
theorem fn63 : (autoPrg Try.prog).fn 63 = some LF63 := by kernel_rfl

def LF23 : LFunc :=
  .mk 2 [.tmp 4] (.seq (.region [.mk (some 4) (.p (.mv (.c (.bool false)))) none] [0, 1] []) (.seq (.seq (.region [.mk (some 5) (.p (.mv (.c (.int .i64 0)))) none] [0, 1, 5] [])
  (.block 0 (.loop (.seq (.seq (.region [.mk (some 6) (.p (.mv (.s 5))) none, .mk (some 7) (.p (.mv (.s 0))) none, .mk (some 8) (.p (.len (.s 7))) none, .mk (some 9) (.p (.bin .lss
  (.s 6) (.s 8))) none] [0, 1, 5, 9] []) (.cond (.s 9) .skip (.exit 0))) (.seq (.block 1 (.seq (.region [.mk (some 12) (.p (.mv (.s 1))) none, .mk (some 13) (.e (.call 65 [.s 12]))
  none, .mk (some 14) (.p (.mv (.s 13))) none, .mk (some 15) (.p (.mv (.s 0))) (some (14, true)), .mk (some 16) (.p (.mv (.s 5))) (some (14, true)), .mk (some 17) (.p (.iaddr 2 (.s
  15) (.s 16))) (some (14, true)), .mk (some 18) (.p (.faddr 0 (.s 17))) (some (14, true)), .mk (some 19) (.r (.load none (.s 18))) (some (14, true)), .mk (some 20) (.p (.conv .i64
  (.s 19))) (some (14, true)), .mk (some 21) (.p (.mv (.s 1))) (some (14, true)), .mk (some 22) (.p (.bin .leq (.s 20) (.s 21))) (some (14, true)), .mk (some 23) (.p (.pick (.s 14)
  (.s 22) (.c (.bool false)))) none, .mk (some 24) (.p (.mv (.s 23))) none, .mk (some 25) (.p (.mv (.s 1))) (some (24, true)), .mk (some 26) (.p (.mv (.s 0))) (some (24, true)), .mk
  (some 27) (.p (.mv (.s 5))) (some (24, true)), .mk (some 28) (.p (.iaddr 2 (.s 26) (.s 27))) (some (24, true)), .mk (some 29) (.p (.faddr 1 (.s 28))) (some (24, true)), .mk (some
  30) (.r (.load none (.s 29))) (some (24, true)), .mk (some 31) (.p (.conv .i64 (.s 30))) (some (24, true)), .mk (some 32) (.p (.bin .leq (.s 25) (.s 31))) (some (24, true)), .mk
  (some 33) (.p (.pick (.s 24) (.s 32) (.c (.bool false)))) none] [0, 1, 5, 33] []) (.cond (.s 33) (.seq (.region [.mk (some 4) (.p (.mv (.c (.bool true)))) none] [4] []) .ret)
  .skip))) (.region [.mk (some 10) (.p (.mv (.s 5))) none, .mk (some 11) (.p (.bin .add (.s 10) (.c (.int .i64 1)))) none, .mk (some 5) (.p (.mv (.s 11))) none] [0, 1, 5] []))))))
  (.seq (.region [.mk (some 4) (.p (.mv (.c (.bool false)))) none] [4] []) .ret)))
theorem fn23 : (autoPrg Try.prog).fn 23 = some LF23 := by kernel_rfl

def LF59 : LFunc :=
  .mk 1 [.tmp 2] (.seq (.region [.mk (some 2) (.p (.mv (.c (.int .i64 0)))) none] [0] []) (.seq (.seq (.region [.mk (some 3) (.p (.mv (.c (.int .i64 0)))) none] [0, 3] []) (.block 0
  (.loop (.seq (.seq (.region [.mk (some 5) (.p (.mv (.s 3))) none, .mk (some 6) (.p (.mv (.s 0))) none, .mk (some 7) (.p (.len (.s 6))) none, .mk (some 8) (.p (.bin .lss (.s 5) (.s
  7))) none] [0, 3, 8] []) (.cond (.s 8) .skip (.exit 0))) (.seq (.block 1 (.seq (.region [.mk (some 11) (.p (.mv (.s 0))) none, .mk (some 12) (.p (.mv (.s 3))) none, .mk (some 13)
  (.p (.iaddr 2 (.s 11) (.s 12))) none, .mk (some 14) (.r (.load (some 2) (.s 13))) none, .mk (some 15) (.e (.call 72 [.s 14])) none, .mk (some 16) (.p (.bin .eql (.s 15) (.c (.int
  .i64 12)))) none] [0, 3, 16] []) (.cond (.s 16) (.seq (.region [.mk (some 2) (.p (.mv (.c (.int .i64 12)))) none] [2] []) .ret) .skip))) (.region [.mk (some 9) (.p (.mv (.s 3)))
  none, .mk (some 10) (.p (.bin .add (.s 9) (.c (.int .i64 1)))) none, .mk (some 3) (.p (.mv (.s 10))) none] [0, 3] [])))))) (.seq (.seq (.region [.mk (some 4) (.p (.mv (.c (.int
  .i64 0)))) none] [0, 4] []) (.block 2 (.loop (.seq (.seq (.region [.mk (some 17) (.p (.mv (.s 4))) none, .mk (some 18) (.p (.mv (.s 0))) none, .mk (some 19) (.p (.len (.s 18)))
  none, .mk (some 20) (.p (.bin .lss (.s 17) (.s 19))) none] [0, 4, 20] []) (.cond (.s 20) .skip (.exit 2))) (.seq (.block 3 (.seq (.region [.mk (some 23) (.p (.mv (.s 0))) none,
  .mk (some 24) (.p (.mv (.s 4))) none, .mk (some 25) (.p (.iaddr 2 (.s 23) (.s 24))) none, .mk (some 26) (.r (.load (some 2) (.s 25))) none, .mk (some 27) (.e (.call 72 [.s 26]))
  none, .mk (some 28) (.p (.bin .eql (.s 27) (.c (.int .i64 11)))) none] [0, 4, 28] []) (.cond (.s 28) (.seq (.region [.mk (some 2) (.p (.mv (.c (.int .i64 11)))) none] [2] [])
  .ret) .skip))) (.region [.mk (some 21) (.p (.mv (.s 4))) none, .mk (some 22) (.p (.bin .add (.s 21) (.c (.int .i64 1)))) none, .mk (some 4) (.p (.mv (.s 22))) none] [0, 4]
  [])))))) (.seq (.region [.mk (some 2) (.p (.mv (.c (.int .i64 0)))) none] [2] []) .ret))))
theorem fn59 : (autoPrg Try.prog).fn 59 = some LF59 := by kernel_rfl

def LF36 : LFunc :=
  .mk 1 [.tmp 2] (.seq (.region [.mk (some 2) (.p (.mv (.c (.slice none 0 0)))) none] [0] []) (.seq (.region [.mk (some 3) (.p (.mv (.c (.slice none 0 0)))) none] [0, 3] []) (.seq
  (.region [.mk (some 4) (.p (.mv (.c (.int .i32 0)))) none] [0, 3, 4] []) (.block 0 (.loop (.block 1 (.seq (.region [.mk (some 5) (.p (.mv (.c (.int .i32 1114112)))) none] [0, 3,
  4, 5] []) (.seq (.seq (.region [.mk (some 6) (.p (.mv (.c (.int .i64 0)))) none] [0, 3, 4, 5, 6] []) (.block 2 (.loop (.seq (.seq (.region [.mk (some 11) (.p (.mv (.s 6))) none,
  .mk (some 12) (.p (.mv (.s 0))) none, .mk (some 13) (.p (.len (.s 12))) none, .mk (some 14) (.p (.bin .lss (.s 11) (.s 13))) none] [0, 3, 4, 5, 6, 14] []) (.cond (.s 14) .skip
  (.exit 2))) (.seq (.block 3 (.seq (.region [.mk (some 17) (.p (.mv (.s 0))) none, .mk (some 18) (.p (.mv (.s 6))) none, .mk (some 19) (.p (.iaddr 2 (.s 17) (.s 18))) none, .mk
  (some 20) (.p (.faddr 0 (.s 19))) none, .mk (some 21) (.r (.load none (.s 20))) none, .mk (some 7) (.p (.mv (.s 21))) none] [0, 3, 4, 5, 6, 7] []) (.seq (.seq (.region [.mk (some
  22) (.p (.mv (.s 7))) none, .mk (some 23) (.p (.mv (.s 4))) none, .mk (some 24) (.p (.bin .lss (.s 22) (.s 23))) none] [0, 3, 4, 5, 6, 7, 24] []) (.cond (.s 24) (.region [.mk
  (some 25) (.p (.mv (.s 4))) none, .mk (some 7) (.p (.mv (.s 25))) none] [0, 3, 4, 5, 6, 7] []) .skip)) (.seq (.region [.mk (some 26) (.p (.mv (.s 7))) none, .mk (some 27) (.p (.mv
  (.s 0))) none, .mk (some 28) (.p (.mv (.s 6))) none, .mk (some 29) (.p (.iaddr 2 (.s 27) (.s 28))) none, .mk (some 30) (.p (.faddr 1 (.s 29))) none, .mk (some 31) (.r (.load none
  (.s 30))) none, .mk (some 32) (.p (.bin .leq (.s 26) (.s 31))) none, .mk (some 33) (.p (.mv (.s 32))) none, .mk (some 34) (.p (.mv (.s 7))) (some (33, true)), .mk (some 35) (.p
  (.mv (.s 5))) (some (33, true)), .mk (some 36) (.p (.bin .lss (.s 34) (.s 35))) (some (33, true)), .mk (some 37) (.p (.pick (.s 33) (.s 36) (.c (.bool false)))) none, .mk (some
  38) (.p (.mv (.s 37))) none, .mk (some 39) (.p (.mv (.s 7))) (some (38, true)), .mk (some 40) (.p (.bin .lss (.s 39) (.c (.int .i32 55296)))) (some (38, true)), .mk (some 41) (.p
  (.mv (.s 40))) (some (38, true)), .mk (some 42) (.p (.mv (.s 7))) (some (41, false)), .mk (some 43) (.p (.bin .gtr (.s 42) (.c (.int .i32 57343)))) (some (41, false)), .mk (some
  44) (.p (.pick (.s 41) (.c (.bool true)) (.s 43))) (some (38, true)), .mk (some 45) (.p (.pick (.s 38) (.s 44) (.c (.bool false)))) none] [0, 3, 4, 5, 6, 7, 45] []) (.cond (.s 45)
  (.region [.mk (some 46) (.p (.mv (.s 7))) none, .mk (some 5) (.p (.mv (.s 46))) none] [0, 3, 4, 5, 6] []) .skip))))) (.region [.mk (some 15) (.p (.mv (.s 6))) none, .mk (some 16)
  (.p (.bin .add (.s 15) (.c (.int .i64 1)))) none, .mk (some 6) (.p (.mv (.s 16))) none] [0, 3, 4, 5, 6] [])))))) (.seq (.seq (.region [.mk (some 47) (.p (.mv (.s 5))) none, .mk
  (some 48) (.p (.bin .gtr (.s 47) (.c (.int .i32 1114111)))) none] [0, 3, 5, 48] []) (.cond (.s 48) (.seq (.region [.mk (some 49) (.p (.mv (.s 3))) none, .mk (some 2) (.p (.mv (.s
  49))) none] [2] []) .ret) .skip)) (.seq (.region [.mk (some 50) (.p (.mv (.s 5))) none, .mk (some 8) (.p (.mv (.s 50))) none] [0, 3, 5, 8] []) (.seq (.region [.mk (some 9) (.p
  (.mv (.c (.bool true)))) none] [0, 3, 5, 8, 9] []) (.seq (.block 4 (.loop (.seq (.seq (.region [.mk (some 51) (.p (.mv (.s 9))) none] [0, 3, 5, 8, 51] []) (.cond (.s 51) .skip
  (.exit 4))) (.block 5 (.seq (.region [.mk (some 9) (.p (.mv (.c (.bool false)))) none] [0, 3, 5, 8, 9] []) (.seq (.region [.mk (some 10) (.p (.mv (.c (.int .i64 0)))) none] [0, 3,
  5, 8, 9, 10] []) (.block 6 (.loop (.seq (.seq (.region [.mk (some 52) (.p (.mv (.s 10))) none, .mk (some 53) (.p (.mv (.s 0))) none, .mk (some 54) (.p (.len (.s 53))) none, .mk
  (some 55) (.p (.bin .lss (.s 52) (.s 54))) none] [0, 3, 5, 8, 9, 10, 55] []) (.cond (.s 55) .skip (.exit 6))) (.seq (.block 7 (.seq (.region [.mk (some 58) (.p (.mv (.s 0))) none,
  .mk (some 59) (.p (.mv (.s 10))) none, .mk (some 60) (.p (.iaddr 2 (.s 58) (.s 59))) none, .mk (some 61) (.p (.faddr 0 (.s 60))) none, .mk (some 62) (.r (.load none (.s 61)))
  none, .mk (some 63) (.p (.mv (.s 8))) none, .mk (some 64) (.e (.call 74 [.s 63])) none, .mk (some 65) (.p (.bin .leq (.s 62) (.s 64))) none, .mk (some 66) (.p (.mv (.s 65))) none,
  .mk (some 67) (.p (.mv (.s 0))) (some (66, true)), .mk (some 68) (.p (.mv (.s 10))) (some (66, true)), .mk (some 69) (.p (.iaddr 2 (.s 67) (.s 68))) (some (66, true)), .mk (some
  70) (.p (.faddr 1 (.s 69))) (some (66, true)), .mk (some 71) (.r (.load none (.s 70))) (some (66, true)), .mk (some 72) (.p (.mv (.s 8))) (some (66, true)), .mk (some 73) (.p
  (.bin .gtr (.s 71) (.s 72))) (some (66, true)), .mk (some 74) (.p (.pick (.s 66) (.s 73) (.c (.bool false)))) none] [0, 3, 5, 8, 9, 10, 74] [(4, 7)]) (.cond (.s 74) (.seq (.region
  [.mk (some 75) (.p (.mv (.s 0))) none, .mk (some 76) (.p (.mv (.s 10))) none, .mk (some 77) (.p (.iaddr 2 (.s 75) (.s 76))) none, .mk (some 78) (.p (.faddr 1 (.s 77))) none, .mk
  (some 79) (.r (.load none (.s 78))) none, .mk (some 8) (.p (.mv (.s 79))) none] [0, 3, 5, 8, 10] []) (.region [.mk (some 9) (.p (.mv (.c (.bool true)))) none] [0, 3, 5, 8, 9, 10]
  [])) .skip))) (.region [.mk (some 56) (.p (.mv (.s 10))) none, .mk (some 57) (.p (.bin .add (.s 56) (.c (.int .i64 1)))) none, .mk (some 10) (.p (.mv (.s 57))) none] [0, 3, 5, 8,
  9, 10] []))))))))))) (.seq (.region [.mk (some 80) (.p (.mv (.s 3))) none, .mk (some 81) (.p (.mv (.s 5))) none, .mk (some 82) (.p (.mv (.s 8))) none, .mk (some 83) (.p (.build
  [.int .i32 0, .int .i32 0] [(0, 1, .s 81), (1, 1, .s 82)])) none, .mk (some 84) (.e (.litL 84 1 2 [.int .i32 0, .int .i32 0] [(0, 2, .s 83)])) none, .mk (some 85) (.e (.append 2 8
  (.s 80) (.s 84))) none, .mk (some 3) (.p (.mv (.s 85))) none] [0, 3, 8] []) (.region [.mk (some 86) (.p (.mv (.s 8))) none, .mk (some 87) (.e (.call 74 [.s 86])) none, .mk (some
  4) (.p (.mv (.s 87))) none] [0, 3, 4] []))))))))))))))
theorem fn36 : (autoPrg Try.prog).fn 36 = some LF36 := by kernel_rfl

def LF4 : LFunc :=
  .mk 1 [.tmp 2] (.seq (.region [.mk (some 2) (.p (.mv (.c (.bool false)))) none] [0] []) (.seq (.seq (.region [.mk (some 9) (.e (.call 14 [])) none, .mk (some 10) (.p (.un .not (.s
  9))) none] [0, 10] []) (.cond (.s 10) (.seq (.region [.mk (some 2) (.p (.mv (.c (.bool false)))) none] [2] []) .ret) .skip)) (.seq (.region [.mk (some 11) (.p (.mv (.s 0))) none,
  .mk (some 12) (.e (.call 15 [.s 11])) none, .mk (some 13) (.e (.append 2 8 (.c (.slice none 0 0)) (.s 12))) none, .mk (some 0) (.p (.mv (.s 13))) none] [0] []) (.seq (.region [.mk
  (some 15) (.p (.mv (.s 0))) none, .mk (some 16) (.e (.call 17 [.s 15])) none, .mk (some 14) (.p (.mv (.s 16))) none, .mk (some 17) (.p (.ext 0 (.s 14))) none, .mk (some 18) (.p
  (.ext 1 (.s 14))) none, .mk (some 19) (.p (.ext 2 (.s 14))) none, .mk (some 3) (.p (.mv (.s 17))) none, .mk (some 4) (.p (.mv (.s 18))) none, .mk (some 5) (.p (.mv (.s 19))) none]
  [0, 3, 4, 5] []) (.seq (.seq (.region [.mk (some 20) (.p (.mv (.s 5))) none, .mk (some 21) (.p (.un .not (.s 20))) none, .mk (some 22) (.p (.mv (.s 21))) none, .mk (some 23) (.p
  (.mv (.s 3))) (some (22, false)), .mk (some 24) (.p (.eqk false .ptr (.s 23) (.c (.pointer none)))) (some (22, false)), .mk (some 25) (.p (.pick (.s 22) (.c (.bool true)) (.s
  24))) none] [0, 3, 4, 5, 25] []) (.cond (.s 25) (.seq (.region [.mk (some 26) (.p (.mv (.s 5))) none, .mk (some 2) (.p (.mv (.s 26))) none] [2] []) .ret) .skip)) (.seq (.seq
  (.region [.mk (some 6) (.p (.mv (.c (.int .i64 0)))) none] [0, 3, 4, 6] []) (.block 0 (.loop (.seq (.seq (.region [.mk (some 27) (.p (.mv (.s 6))) none, .mk (some 28) (.p (.mv (.s
  0))) none, .mk (some 29) (.p (.len (.s 28))) none, .mk (some 30) (.p (.bin .lss (.s 27) (.s 29))) none] [0, 3, 4, 6, 30] []) (.cond (.s 30) .skip (.exit 0))) (.seq (.block 1
  (.region [.mk (some 33) (.p (.mv (.s 0))) none, .mk (some 34) (.p (.mv (.s 6))) none, .mk (some 35) (.p (.build [.int .i32 0, .int .i32 0] [])) none, .mk (some 36) (.p (.iaddr 2
  (.s 33) (.s 34))) none, .mk none (.e (.store 2 (.s 36) (.s 35))) none] [0, 3, 4, 6] [])) (.region [.mk (some 31) (.p (.mv (.s 6))) none, .mk (some 32) (.p (.bin .add (.s 31) (.c
  (.int .i64 1)))) none, .mk (some 6) (.p (.mv (.s 32))) none] [0, 3, 4, 6] [])))))) (.seq (.region [.mk (some 37) (.p (.mv (.s 3))) none, .mk (some 38) (.e (.call 18 [.s 37]))
  none, .mk (some 7) (.p (.mv (.s 38))) none] [3, 4, 7] []) (.seq (.seq (.region [.mk (some 8) (.p (.mv (.c (.int .i64 0)))) none] [3, 4, 7, 8] []) (.block 2 (.loop (.seq (.seq
  (.region [.mk (some 39) (.p (.mv (.s 8))) none, .mk (some 40) (.p (.mv (.s 7))) none, .mk (some 41) (.p (.len (.s 40))) none, .mk (some 42) (.p (.bin .lss (.s 39) (.s 41))) none]
  [3, 4, 7, 8, 42] []) (.cond (.s 42) .skip (.exit 2))) (.seq (.block 3 (.region [.mk (some 45) (.p (.mv (.s 7))) none, .mk (some 46) (.p (.mv (.s 8))) none, .mk (some 47) (.p
  (.build [.int .i32 0, .int .i32 0] [])) none, .mk (some 48) (.p (.iaddr 2 (.s 45) (.s 46))) none, .mk none (.e (.store 2 (.s 48) (.s 47))) none] [3, 4, 7, 8] [])) (.region [.mk
  (some 43) (.p (.mv (.s 8))) none, .mk (some 44) (.p (.bin .add (.s 43) (.c (.int .i64 1)))) none, .mk (some 8) (.p (.mv (.s 44))) none] [3, 4, 7, 8] [])))))) (.seq (.region [.mk
  (some 49) (.p (.mv (.s 3))) none, .mk (some 50) (.e (.call 18 [.s 49])) none, .mk (some 51) (.p (.mv (.s 4))) none, .mk (some 52) (.e (.call 19 [.s 50, .s 51])) none, .mk (some
  53) (.p (.mv (.s 52))) none, .mk (some 54) (.p (.mv (.s 3))) (some (53, true)), .mk (some 55) (.e (.call 20 [.s 54])) (some (53, true)), .mk (some 56) (.p (.mv (.s 4))) (some (53,
  true)), .mk (some 57) (.e (.call 21 [.s 56])) (some (53, true)), .mk (some 58) (.p (.bin .eql (.s 55) (.s 57))) (some (53, true)), .mk (some 59) (.p (.pick (.s 53) (.s 58) (.c
  (.bool false)))) none, .mk (some 2) (.p (.mv (.s 59))) none] [2] []) .ret)))))))))
theorem fn4 : (autoPrg Try.prog).fn 4 = some LF4 := by kernel_rfl

def LF37 : LFunc :=
  .mk 2 [.tmp 4, .tmp 5] (.seq (.region [.mk (some 4) (.p (.mv (.c (.int .i32 0)))) none, .mk (some 5) (.p (.mv (.c (.bool false)))) none] [0, 1] []) (.seq (.seq (.region [.mk (some
  8) (.p (.mv (.s 1))) none, .mk (some 9) (.p (.bin .lss (.s 8) (.c (.int .i64 0)))) none] [0, 1, 9] []) (.cond (.s 9) (.seq (.region [.mk (some 4) (.p (.mv (.c (.int .i32 0))))
  none, .mk (some 5) (.p (.mv (.c (.bool false)))) none] [4, 5] []) .ret) .skip)) (.seq (.seq (.region [.mk (some 10) (.p (.mv (.s 0))) none, .mk (some 11) (.p (.nilck (.s 10)))
  none, .mk (some 12) (.p (.faddr 0 (.s 11))) none, .mk (some 13) (.r (.load none (.s 12))) none, .mk (some 14) (.p (.len (.s 13))) none, .mk (some 15) (.p (.mv (.c (.int .i64 0))))
  none] [1, 13, 14, 15] []) (.block 0 (.loop (.seq (.region [.mk (some 16) (.p (.bin .lss (.s 15) (.s 14))) none] [1, 13, 14, 15, 16] []) (.seq (.cond (.s 16) .skip (.exit 0)) (.seq
  (.block 1 (.seq (.region [.mk (some 17) (.p (.iaddr 2 (.s 13) (.s 15))) none, .mk (some 18) (.r (.load (some 2) (.s 17))) none, .mk (some 7) (.e (.newL 7 [.int .i64 0, .int .i64
  0])) none, .mk none (.e (.store 2 (.s 7) (.s 18))) none] [1, 7, 13, 14, 15] []) (.seq (.seq (.region [.mk (some 19) (.p (.mv (.s 1))) none, .mk (some 20) (.p (.faddr 1 (.s 7)))
  none, .mk (some 21) (.r (.load none (.s 20))) none, .mk (some 22) (.p (.faddr 0 (.s 7))) none, .mk (some 23) (.r (.load none (.s 22))) none, .mk (some 24) (.p (.bin .sub (.s 21)
  (.s 23))) none, .mk (some 25) (.p (.bin .lss (.s 19) (.s 24))) none] [1, 7, 13, 14, 15, 25] []) (.cond (.s 25) (.seq (.region [.mk (some 26) (.p (.faddr 0 (.s 7))) none, .mk (some
  27) (.r (.load none (.s 26))) none, .mk (some 28) (.p (.mv (.s 1))) none, .mk (some 29) (.p (.bin .add (.s 27) (.s 28))) none, .mk (some 30) (.e (.call 60 [.s 29])) none, .mk
  (some 4) (.p (.mv (.s 30))) none, .mk (some 5) (.p (.mv (.c (.bool true)))) none] [4, 5] []) .ret) .skip)) (.region [.mk (some 31) (.p (.mv (.s 1))) none, .mk (some 32) (.p
  (.faddr 1 (.s 7))) none, .mk (some 33) (.r (.load none (.s 32))) none, .mk (some 34) (.p (.faddr 0 (.s 7))) none, .mk (some 35) (.r (.load none (.s 34))) none, .mk (some 36) (.p
  (.bin .sub (.s 33) (.s 35))) none, .mk (some 37) (.p (.bin .sub (.s 31) (.s 36))) none, .mk (some 1) (.p (.mv (.s 37))) none] [1, 13, 14, 15] [])))) (.region [.mk (some 38) (.p
  (.bin .add (.s 15) (.c (.int .i64 1)))) none, .mk (some 15) (.p (.mv (.s 38))) none] [1, 13, 14, 15] []))))))) (.seq (.region [.mk (some 4) (.p (.mv (.c (.int .i32 0)))) none, .mk
  (some 5) (.p (.mv (.c (.bool false)))) none] [4, 5] []) .ret))))
theorem fn37 : (autoPrg Try.prog).fn 37 = some LF37 := by kernel_rfl

def LF38 : LFunc :=
  .mk 2 [.tmp 4] (.seq (.region [.mk (some 4) (.p (.mv (.c (.int .i32 0)))) none] [0, 1] []) (.seq (.seq (.region [.mk (some 7) (.p (.mv (.s 1))) none, .mk (some 8) (.p (.bin .lss
  (.s 7) (.c (.int .i64 0)))) none] [0, 1, 8] []) (.cond (.s 8) (.seq (.region [.mk (some 4) (.p (.mv (.c (.int .i32 (-1))))) none] [4] []) .ret) .skip)) (.seq (.seq (.region [.mk
  (some 5) (.p (.mv (.c (.int .i64 0)))) none] [0, 1, 5] []) (.block 0 (.loop (.seq (.seq (.region [.mk (some 9) (.p (.mv (.s 5))) none, .mk (some 10) (.p (.mv (.s 0))) none, .mk
  (some 11) (.p (.len (.s 10))) none, .mk (some 12) (.p (.bin .lss (.s 9) (.s 11))) none] [0, 1, 5, 12] []) (.cond (.s 12) .skip (.exit 0))) (.seq (.block 1 (.seq (.seq (.region
  [.mk (some 15) (.p (.mv (.s 1))) none, .mk (some 16) (.p (.mv (.s 0))) none, .mk (some 17) (.p (.mv (.s 5))) none, .mk (some 18) (.p (.iaddr 2 (.s 16) (.s 17))) none, .mk (some
  19) (.r (.load (some 2) (.s 18))) none, .mk (some 20) (.e (.call 61 [.s 19])) none, .mk (some 21) (.p (.bin .lss (.s 15) (.s 20))) none] [0, 1, 5, 21] []) (.cond (.s 21) (.seq
  (.region [.mk (some 22) (.p (.mv (.s 0))) none, .mk (some 23) (.p (.mv (.s 5))) none, .mk (some 24) (.p (.iaddr 2 (.s 22) (.s 23))) none, .mk (some 25) (.p (.faddr 0 (.s 24)))
  none, .mk (some 26) (.r (.load none (.s 25))) none, .mk (some 27) (.p (.conv .i64 (.s 26))) none, .mk (some 28) (.p (.mv (.s 1))) none, .mk (some 29) (.p (.bin .add (.s 27) (.s
  28))) none, .mk (some 6) (.p (.mv (.s 29))) none] [0, 5, 6] []) (.seq (.seq (.region [.mk (some 30) (.p (.mv (.s 0))) none, .mk (some 31) (.p (.mv (.s 5))) none, .mk (some 32) (.p
  (.iaddr 2 (.s 30) (.s 31))) none, .mk (some 33) (.p (.faddr 0 (.s 32))) none, .mk (some 34) (.r (.load none (.s 33))) none, .mk (some 35) (.p (.bin .lss (.s 34) (.c (.int .i32
  55296)))) none, .mk (some 36) (.p (.mv (.s 35))) none, .mk (some 37) (.p (.mv (.s 6))) (some (36, true)), .mk (some 38) (.p (.bin .geq (.s 37) (.c (.int .i64 55296)))) (some (36,
  true)), .mk (some 39) (.p (.pick (.s 36) (.s 38) (.c (.bool false)))) none] [6, 39] []) (.cond (.s 39) (.region [.mk (some 40) (.p (.mv (.s 6))) none, .mk (some 41) (.p (.bin .add
  (.s 40) (.c (.int .i64 2048)))) none, .mk (some 6) (.p (.mv (.s 41))) none] [6] []) .skip)) (.seq (.region [.mk (some 42) (.p (.mv (.s 6))) none, .mk (some 43) (.p (.conv .i32 (.s
  42))) none, .mk (some 4) (.p (.mv (.s 43))) none] [4] []) .ret))) .skip)) (.region [.mk (some 44) (.p (.mv (.s 1))) none, .mk (some 45) (.p (.mv (.s 0))) none, .mk (some 46) (.p
  (.mv (.s 5))) none, .mk (some 47) (.p (.iaddr 2 (.s 45) (.s 46))) none, .mk (some 48) (.r (.load (some 2) (.s 47))) none, .mk (some 49) (.e (.call 61 [.s 48])) none, .mk (some 50)
  (.p (.bin .sub (.s 44) (.s 49))) none, .mk (some 1) (.p (.mv (.s 50))) none] [0, 1, 5] []))) (.region [.mk (some 13) (.p (.mv (.s 5))) none, .mk (some 14) (.p (.bin .add (.s 13)
  (.c (.int .i64 1)))) none, .mk (some 5) (.p (.mv (.s 14))) none] [0, 1, 5] [])))))) (.seq (.region [.mk (some 4) (.p (.mv (.c (.int .i32 (-1))))) none] [4] []) .ret))))
theorem fn38 : (autoPrg Try.prog).fn 38 = some LF38 := by kernel_rfl

def LF39 : LFunc :=
  .mk 2 [.tmp 4, .tmp 5] (.seq (.region [.mk (some 4) (.p (.mv (.c (.int .i32 0)))) none, .mk (some 5) (.p (.mv (.c (.bool false)))) none] [0, 1] []) (.seq (.seq (.region [.mk (some
  6) (.p (.mv (.s 1))) none, .mk (some 7) (.p (.bin .eql (.s 6) (.c (.int .i32 2147483647)))) none] [0, 1, 7] []) (.cond (.s 7) (.seq (.region [.mk (some 4) (.p (.mv (.c (.int .i32
  0)))) none, .mk (some 5) (.p (.mv (.c (.bool false)))) none] [4, 5] []) .ret) .skip)) (.seq (.region [.mk (some 8) (.p (.mv (.s 0))) none, .mk (some 9) (.p (.mv (.s 0))) none, .mk
  (some 10) (.p (.mv (.s 1))) none, .mk (some 11) (.p (.bin .add (.s 10) (.c (.int .i32 1)))) none, .mk (some 12) (.e (.call 41 [.s 9, .s 11])) none, .mk (some 13) (.e (.call 37 [.s
  8, .s 12])) none, .mk (some 14) (.p (.ext 0 (.s 13))) none, .mk (some 15) (.p (.ext 1 (.s 13))) none, .mk (some 4) (.p (.mv (.s 14))) none, .mk (some 5) (.p (.mv (.s 15))) none]
  [4, 5] []) .ret)))
theorem fn39 : (autoPrg Try.prog).fn 39 = some LF39 := by kernel_rfl

def LF40 : LFunc :=
  .mk 2 [.tmp 4] (.seq (.region [.mk (some 4) (.p (.mv (.c (.int .i32 0)))) none] [0, 1] []) (.seq (.seq (.region [.mk (some 5) (.p (.mv (.c (.int .i64 0)))) none] [0, 1, 5] [])
  (.block 0 (.loop (.seq (.seq (.region [.mk (some 7) (.p (.mv (.s 5))) none, .mk (some 8) (.p (.mv (.s 0))) none, .mk (some 9) (.p (.len (.s 8))) none, .mk (some 10) (.p (.bin .lss
  (.s 7) (.s 9))) none] [0, 1, 5, 10] []) (.cond (.s 10) .skip (.exit 0))) (.seq (.block 1 (.seq (.seq (.region [.mk (some 13) (.p (.mv (.s 0))) none, .mk (some 14) (.p (.mv (.s
  5))) none, .mk (some 15) (.p (.iaddr 2 (.s 13) (.s 14))) none, .mk (some 16) (.p (.faddr 0 (.s 15))) none, .mk (some 17) (.r (.load none (.s 16))) none, .mk (some 18) (.p (.mv (.s
  1))) none, .mk (some 19) (.p (.bin .gtr (.s 17) (.s 18))) none] [0, 1, 5, 19] []) (.cond (.s 19) (.seq (.region [.mk (some 20) (.p (.mv (.s 0))) none, .mk (some 21) (.p (.mv (.s
  5))) none, .mk (some 22) (.p (.iaddr 2 (.s 20) (.s 21))) none, .mk (some 23) (.p (.faddr 0 (.s 22))) none, .mk (some 24) (.r (.load none (.s 23))) none, .mk (some 4) (.p (.mv (.s
  24))) none] [4] []) .ret) .skip)) (.seq (.region [.mk (some 25) (.p (.mv (.s 0))) none, .mk (some 26) (.p (.mv (.s 5))) none, .mk (some 27) (.p (.iaddr 2 (.s 25) (.s 26))) none,
  .mk (some 28) (.p (.faddr 1 (.s 27))) none, .mk (some 29) (.r (.load none (.s 28))) none, .mk (some 30) (.p (.mv (.s 1))) none, .mk (some 31) (.p (.bin .gtr (.s 29) (.s 30)))
  none] [0, 1, 5, 31] []) (.cond (.s 31) (.seq (.region [.mk (some 32) (.p (.mv (.s 1))) none, .mk (some 33) (.e (.call 74 [.s 32])) none, .mk (some 6) (.p (.mv (.s 33))) none] [6]
  []) (.seq (.seq (.region [.mk (some 34) (.p (.mv (.s 6))) none, .mk (some 35) (.p (.bin .geq (.s 34) (.c (.int .i32 55296)))) none, .mk (some 36) (.p (.mv (.s 35))) none, .mk
  (some 37) (.p (.mv (.s 6))) (some (36, true)), .mk (some 38) (.p (.bin .leq (.s 37) (.c (.int .i32 57343)))) (some (36, true)), .mk (some 39) (.p (.pick (.s 36) (.s 38) (.c (.bool
  false)))) none] [6, 39] []) (.cond (.s 39) (.region [.mk (some 6) (.p (.mv (.c (.int .i32 57344)))) none] [6] []) .skip)) (.seq (.region [.mk (some 40) (.p (.mv (.s 6))) none, .mk
  (some 4) (.p (.mv (.s 40))) none] [4] []) .ret))) .skip)))) (.region [.mk (some 11) (.p (.mv (.s 5))) none, .mk (some 12) (.p (.bin .add (.s 11) (.c (.int .i64 1)))) none, .mk
  (some 5) (.p (.mv (.s 12))) none] [0, 1, 5] [])))))) (.seq (.region [.mk (some 4) (.p (.mv (.c (.int .i32 (-1))))) none] [4] []) .ret)))
theorem fn40 : (autoPrg Try.prog).fn 40 = some LF40 := by kernel_rfl

def LF41 : LFunc :=
  .mk 2 [.tmp 4] (.seq (.region [.mk (some 4) (.p (.mv (.c (.int .i64 0)))) none] [0, 1] []) (.seq (.region [.mk (some 9) (.p (.mv (.s 1))) none, .mk (some 10) (.p (.conv .i64 (.s
  9))) none, .mk (some 11) (.e (.call 64 [.s 10])) none, .mk (some 5) (.p (.mv (.c (.int .i64 0)))) none, .mk (some 6) (.p (.mv (.s 11))) none] [0, 5, 6] []) (.seq (.seq (.region
  [.mk (some 12) (.p (.mv (.s 0))) none, .mk (some 13) (.p (.nilck (.s 12))) none, .mk (some 14) (.p (.faddr 0 (.s 13))) none, .mk (some 15) (.r (.load none (.s 14))) none, .mk
  (some 16) (.p (.len (.s 15))) none, .mk (some 17) (.p (.mv (.c (.int .i64 0)))) none] [5, 6, 15, 16, 17] []) (.block 0 (.loop (.seq (.region [.mk (some 18) (.p (.bin .lss (.s 17)
  (.s 16))) none] [5, 6, 15, 16, 17, 18] []) (.seq (.cond (.s 18) .skip (.exit 0)) (.seq (.block 1 (.seq (.region [.mk (some 19) (.p (.iaddr 2 (.s 15) (.s 17))) none, .mk (some 20)
  (.r (.load (some 2) (.s 19))) none, .mk (some 8) (.e (.newL 8 [.int .i64 0, .int .i64 0])) none, .mk none (.e (.store 2 (.s 8) (.s 20))) none] [5, 6, 8, 15, 16, 17] []) (.region
  [.mk (some 21) (.p (.mv (.s 5))) none, .mk (some 22) (.p (.faddr 1 (.s 8))) none, .mk (some 23) (.r (.load none (.s 22))) none, .mk (some 24) (.p (.mv (.s 6))) none, .mk (some 25)
  (.p (.mm false [.s 23, .s 24])) none, .mk (some 26) (.p (.faddr 0 (.s 8))) none, .mk (some 27) (.r (.load none (.s 26))) none, .mk (some 28) (.p (.bin .sub (.s 25) (.s 27))) none,
  .mk (some 29) (.p (.mm true [.s 28, .c (.int .i64 0)])) none, .mk (some 30) (.p (.bin .add (.s 21) (.s 29))) none, .mk (some 5) (.p (.mv (.s 30))) none] [5, 6, 15, 16, 17] [])))
  (.region [.mk (some 31) (.p (.bin .add (.s 17) (.c (.int .i64 1)))) none, .mk (some 17) (.p (.mv (.s 31))) none] [5, 6, 15, 16, 17] []))))))) (.seq (.region [.mk (some 32) (.p
  (.mv (.s 5))) none, .mk (some 4) (.p (.mv (.s 32))) none] [4] []) .ret))))
theorem fn41 : (autoPrg Try.prog).fn 41 = some LF41 := by kernel_rfl

def LF42 : LFunc :=
  .mk 2 [.tmp 4] (.seq (.region [.mk (some 4) (.p (.mv (.c (.int .i64 0)))) none] [0, 1] []) (.seq (.region [.mk (some 5) (.p (.mv (.c (.int .i64 0)))) none] [0, 1, 5] []) (.seq
  (.seq (.region [.mk (some 6) (.p (.mv (.c (.int .i64 0)))) none] [0, 1, 5, 6] []) (.block 0 (.loop (.seq (.seq (.region [.mk (some 8) (.p (.mv (.s 6))) none, .mk (some 9) (.p (.mv
  (.s 0))) none, .mk (some 10) (.p (.len (.s 9))) none, .mk (some 11) (.p (.bin .lss (.s 8) (.s 10))) none] [0, 1, 5, 6, 11] []) (.cond (.s 11) .skip (.exit 0))) (.seq (.block 1
  (.seq (.seq (.region [.mk (some 14) (.p (.mv (.s 0))) none, .mk (some 15) (.p (.mv (.s 6))) none, .mk (some 16) (.p (.iaddr 2 (.s 14) (.s 15))) none, .mk (some 17) (.p (.faddr 0
  (.s 16))) none, .mk (some 18) (.r (.load none (.s 17))) none, .mk (some 19) (.p (.mv (.s 1))) none, .mk (some 20) (.p (.bin .geq (.s 18) (.s 19))) none] [0, 1, 5, 6, 20] [])
  (.cond (.s 20) (.exit 1) .skip)) (.seq (.region [.mk (some 21) (.p (.mv (.s 0))) none, .mk (some 22) (.p (.mv (.s 6))) none, .mk (some 23) (.p (.iaddr 2 (.s 21) (.s 22))) none,
  .mk (some 24) (.r (.load (some 2) (.s 23))) none, .mk (some 7) (.e (.newL 7 [.int .i32 0, .int .i32 0])) none, .mk none (.e (.store 2 (.s 7) (.s 24))) none] [0, 1, 5, 6, 7] [])
  (.seq (.seq (.region [.mk (some 25) (.p (.faddr 1 (.s 7))) none, .mk (some 26) (.r (.load none (.s 25))) none, .mk (some 27) (.p (.mv (.s 1))) none, .mk (some 28) (.p (.bin .geq
  (.s 26) (.s 27))) none] [0, 1, 5, 6, 7, 28] []) (.cond (.s 28) (.region [.mk (some 29) (.p (.mv (.s 1))) none, .mk (some 30) (.p (.bin .sub (.s 29) (.c (.int .i32 1)))) none, .mk
  (some 31) (.p (.faddr 1 (.s 7))) none, .mk none (.e (.store 1 (.s 31) (.s 30))) none] [0, 1, 5, 6, 7] []) .skip)) (.seq (.seq (.region [.mk (some 32) (.p (.faddr 1 (.s 7))) none,
  .mk (some 33) (.r (.load none (.s 32))) none, .mk (some 34) (.p (.bin .geq (.s 33) (.c (.int .i32 55296)))) none, .mk (some 35) (.p (.mv (.s 34))) none, .mk (some 36) (.p (.faddr
  1 (.s 7))) (some (35, true)), .mk (some 37) (.r (.load none (.s 36))) (some (35, true)), .mk (some 38) (.p (.bin .leq (.s 37) (.c (.int .i32 57343)))) (some (35, true)), .mk (some
  39) (.p (.pick (.s 35) (.s 38) (.c (.bool false)))) none] [0, 1, 5, 6, 7, 39] []) (.cond (.s 39) (.region [.mk (some 40) (.p (.faddr 1 (.s 7))) none, .mk none (.e (.store 1 (.s
  40) (.c (.int .i32 55295)))) none] [0, 1, 5, 6, 7] []) .skip)) (.region [.mk (some 41) (.p (.mv (.s 5))) none, .mk (some 42) (.r (.load (some 2) (.s 7))) none, .mk (some 43) (.e
  (.call 61 [.s 42])) none, .mk (some 44) (.p (.bin .add (.s 41) (.s 43))) none, .mk (some 5) (.p (.mv (.s 44))) none] [0, 1, 5, 6] [])))))) (.region [.mk (some 12) (.p (.mv (.s
  6))) none, .mk (some 13) (.p (.bin .add (.s 12) (.c (.int .i64 1)))) none, .mk (some 6) (.p (.mv (.s 13))) none] [0, 1, 5, 6] [])))))) (.seq (.region [.mk (some 45) (.p (.mv (.s
  5))) none, .mk (some 4) (.p (.mv (.s 45))) none] [4] []) .ret))))
theorem fn42 : (autoPrg Try.prog).fn 42 = some LF42 := by kernel_rfl

def LF8 : LFunc :=
  .mk 3 [.tmp 6] (.seq (.region [.mk (some 6) (.p (.mv (.c (.bool false)))) none] [0, 1, 2] []) (.seq (.seq (.region [.mk (some 16) (.e (.call 14 [])) none, .mk (some 17) (.p (.un
  .not (.s 16))) none] [0, 1, 2, 17] []) (.cond (.s 17) (.seq (.region [.mk (some 6) (.p (.mv (.c (.bool false)))) none] [6] []) .ret) .skip)) (.seq (.region [.mk (some 19) (.p (.mv
  (.s 0))) none, .mk (some 20) (.e (.call 15 [.s 19])) none, .mk (some 21) (.e (.call 17 [.s 20])) none, .mk (some 18) (.p (.mv (.s 21))) none, .mk (some 22) (.p (.ext 0 (.s 18)))
  none, .mk (some 23) (.p (.ext 1 (.s 18))) none, .mk (some 24) (.p (.ext 2 (.s 18))) none, .mk (some 7) (.p (.mv (.s 22))) none, .mk (some 8) (.p (.mv (.s 23))) none, .mk (some 9)
  (.p (.mv (.s 24))) none] [1, 2, 7, 8, 9] []) (.seq (.seq (.region [.mk (some 25) (.p (.mv (.s 9))) none, .mk (some 26) (.p (.un .not (.s 25))) none, .mk (some 27) (.p (.mv (.s
  26))) none, .mk (some 28) (.p (.mv (.s 7))) (some (27, false)), .mk (some 29) (.p (.eqk false .ptr (.s 28) (.c (.pointer none)))) (some (27, false)), .mk (some 30) (.p (.pick (.s
  27) (.c (.bool true)) (.s 29))) none] [1, 2, 7, 8, 9, 30] []) (.cond (.s 30) (.seq (.region [.mk (some 31) (.p (.mv (.s 9))) none, .mk (some 6) (.p (.mv (.s 31))) none] [6] [])
  .ret) .skip)) (.seq (.region [.mk (some 33) (.p (.mv (.s 7))) none, .mk (some 34) (.p (.mv (.s 1))) none, .mk (some 35) (.e (.call 37 [.s 33, .s 34])) none, .mk (some 32) (.p (.mv
  (.s 35))) none, .mk (some 36) (.p (.ext 0 (.s 32))) none, .mk (some 37) (.p (.ext 1 (.s 32))) none, .mk (some 10) (.p (.mv (.s 36))) none, .mk (some 11) (.p (.mv (.s 37))) none]
  [1, 2, 7, 8, 10, 11] []) (.seq (.region [.mk (some 38) (.p (.mv (.s 8))) none, .mk (some 39) (.p (.mv (.s 1))) none, .mk (some 40) (.e (.call 38 [.s 38, .s 39])) none, .mk (some
  12) (.p (.mv (.s 40))) none] [2, 7, 8, 10, 11, 12] []) (.seq (.region [.mk (some 42) (.p (.mv (.s 7))) none, .mk (some 43) (.p (.mv (.s 2))) none, .mk (some 44) (.e (.call 39 [.s
  42, .s 43])) none, .mk (some 41) (.p (.mv (.s 44))) none, .mk (some 45) (.p (.ext 0 (.s 41))) none, .mk (some 46) (.p (.ext 1 (.s 41))) none, .mk (some 13) (.p (.mv (.s 45)))
  none, .mk (some 14) (.p (.mv (.s 46))) none] [2, 7, 8, 10, 11, 12, 13, 14] []) (.seq (.region [.mk (some 47) (.p (.mv (.s 8))) none, .mk (some 48) (.p (.mv (.s 2))) none, .mk
  (some 49) (.e (.call 40 [.s 47, .s 48])) none, .mk (some 15) (.p (.mv (.s 49))) none] [2, 7, 8, 10, 11, 12, 13, 14, 15] []) (.seq (.seq (.region [.mk (some 50) (.p (.mv (.s 11)))
  none, .mk (some 51) (.p (.mv (.s 12))) none, .mk (some 52) (.p (.bin .geq (.s 51) (.c (.int .i32 0)))) none, .mk (some 53) (.p (.eqk true .bool (.s 50) (.s 52))) none, .mk (some
  54) (.p (.mv (.s 53))) none, .mk (some 55) (.p (.mv (.s 11))) (some (54, false)), .mk (some 56) (.p (.mv (.s 55))) (some (54, false)), .mk (some 57) (.p (.mv (.s 10))) (some (56,
  true)), .mk (some 58) (.p (.mv (.s 12))) (some (56, true)), .mk (some 59) (.p (.bin .neq (.s 57) (.s 58))) (some (56, true)), .mk (some 60) (.p (.pick (.s 56) (.s 59) (.c (.bool
  false)))) (some (54, false)), .mk (some 61) (.p (.pick (.s 54) (.c (.bool true)) (.s 60))) none, .mk (some 62) (.p (.mv (.s 61))) none, .mk (some 63) (.p (.mv (.s 11))) (some (62,
  false)), .mk (some 64) (.p (.un .not (.s 63))) (some (62, false)), .mk (some 65) (.p (.mv (.s 64))) (some (62, false)), .mk (some 66) (.p (.mv (.s 10))) (some (65, true)), .mk
  (some 67) (.p (.bin .neq (.s 66) (.c (.int .i32 0)))) (some (65, true)), .mk (some 68) (.p (.pick (.s 65) (.s 67) (.c (.bool false)))) (some (62, false)), .mk (some 69) (.p (.pick
  (.s 62) (.c (.bool true)) (.s 68))) none, .mk (some 70) (.p (.mv (.s 69))) none, .mk (some 71) (.p (.mv (.s 14))) (some (70, false)), .mk (some 72) (.p (.mv (.s 15))) (some (70,
  false)), .mk (some 73) (.p (.bin .geq (.s 72) (.c (.int .i32 0)))) (some (70, false)), .mk (some 74) (.p (.eqk true .bool (.s 71) (.s 73))) (some (70, false)), .mk (some 75) (.p
  (.pick (.s 70) (.c (.bool true)) (.s 74))) none, .mk (some 76) (.p (.mv (.s 75))) none, .mk (some 77) (.p (.mv (.s 14))) (some (76, false)), .mk (some 78) (.p (.mv (.s 77))) (some
  (76, false)), .mk (some 79) (.p (.mv (.s 13))) (some (78, true)), .mk (some 80) (.p (.mv (.s 15))) (some (78, true)), .mk (some 81) (.p (.bin .neq (.s 79) (.s 80))) (some (78,
  true)), .mk (some 82) (.p (.pick (.s 78) (.s 81) (.c (.bool false)))) (some (76, false)), .mk (some 83) (.p (.pick (.s 76) (.c (.bool true)) (.s 82))) none, .mk (some 84) (.p (.mv
  (.s 83))) none, .mk (some 85) (.p (.mv (.s 14))) (some (84, false)), .mk (some 86) (.p (.un .not (.s 85))) (some (84, false)), .mk (some 87) (.p (.mv (.s 86))) (some (84, false)),
  .mk (some 88) (.p (.mv (.s 13))) (some (87, true)), .mk (some 89) (.p (.bin .neq (.s 88) (.c (.int .i32 0)))) (some (87, true)), .mk (some 90) (.p (.pick (.s 87) (.s 89) (.c
  (.bool false)))) (some (84, false)), .mk (some 91) (.p (.pick (.s 84) (.c (.bool true)) (.s 90))) none] [2, 7, 8, 91] []) (.cond (.s 91) (.seq (.region [.mk (some 6) (.p (.mv (.c
  (.bool false)))) none] [6] []) .ret) .skip)) (.seq (.region [.mk (some 92) (.p (.mv (.s 7))) none, .mk (some 93) (.p (.mv (.s 2))) none, .mk (some 94) (.e (.call 41 [.s 92, .s
  93])) none, .mk (some 95) (.p (.mv (.s 8))) none, .mk (some 96) (.p (.mv (.s 2))) none, .mk (some 97) (.e (.call 42 [.s 95, .s 96])) none, .mk (some 98) (.p (.bin .eql (.s 94) (.s
  97))) none, .mk (some 6) (.p (.mv (.s 98))) none] [6] []) .ret))))))))))
theorem fn8 : (autoPrg Try.prog).fn 8 = some LF8 := by kernel_rfl

def LF43 : LFunc :=
  .mk 1 [.tmp 2] (.seq (.region [.mk (some 2) (.p (.mv (.c (.pointer none)))) none] [0] []) (.seq (.region [.mk (some 3) (.p (.mv (.c (.slice none 0 0)))) none] [0, 3] []) (.seq
  (.seq (.region [.mk (some 4) (.p (.mv (.c (.int .i64 0)))) none] [0, 3, 4] []) (.block 0 (.loop (.seq (.seq (.region [.mk (some 9) (.p (.mv (.s 4))) none, .mk (some 10) (.p (.mv
  (.s 0))) none, .mk (some 11) (.p (.len (.s 10))) none, .mk (some 12) (.p (.bin .lss (.s 9) (.s 11))) none] [0, 3, 4, 12] []) (.cond (.s 12) .skip (.exit 0))) (.seq (.block 1 (.seq
  (.region [.mk (some 16) (.p (.mv (.s 0))) none, .mk (some 17) (.p (.mv (.s 4))) none, .mk (some 18) (.p (.iaddr 2 (.s 16) (.s 17))) none, .mk (some 19) (.r (.load (some 2) (.s
  18))) none, .mk (some 20) (.e (.litH 1 2 [.int .i32 0, .int .i32 0] [(0, 2, .s 19)])) none, .mk (some 21) (.e (.call 58 [.s 20])) none, .mk (some 15) (.p (.mv (.s 21))) none, .mk
  (some 22) (.p (.ext 0 (.s 15))) none, .mk (some 23) (.p (.ext 1 (.s 15))) none, .mk (some 5) (.p (.mv (.s 22))) none, .mk (some 6) (.p (.mv (.s 23))) none] [0, 3, 4, 5, 6] [])
  (.seq (.region [.mk (some 24) (.p (.mv (.s 6))) none, .mk (some 25) (.p (.bin .eql (.s 24) (.c (.int .i64 0)))) none, .mk (some 26) (.p (.mv (.s 25))) none, .mk (some 27) (.p (.mv
  (.s 5))) (some (26, true)), .mk (some 28) (.p (.eqk true .ptr (.s 27) (.c (.pointer none)))) (some (26, true)), .mk (some 29) (.p (.pick (.s 26) (.s 28) (.c (.bool false)))) none]
  [0, 3, 4, 29] []) (.cond (.s 29) (.region [.mk (some 30) (.p (.mv (.s 3))) none, .mk (some 31) (.p (.mv (.s 0))) none, .mk (some 32) (.p (.mv (.s 4))) none, .mk (some 33) (.p
  (.iaddr 2 (.s 31) (.s 32))) none, .mk (some 34) (.r (.load (some 2) (.s 33))) none, .mk (some 35) (.e (.litL 35 1 2 [.int .i32 0, .int .i32 0] [(0, 2, .s 34)])) none, .mk (some
  36) (.e (.append 2 8 (.s 30) (.s 35))) none, .mk (some 3) (.p (.mv (.s 36))) none] [0, 3, 4] []) .skip)))) (.region [.mk (some 13) (.p (.mv (.s 4))) none, .mk (some 14) (.p (.bin
  .add (.s 13) (.c (.int .i64 1)))) none, .mk (some 4) (.p (.mv (.s 14))) none] [0, 3, 4] [])))))) (.seq (.region [.mk (some 38) (.p (.mv (.s 3))) none, .mk (some 39) (.e (.call 58
  [.s 38])) none, .mk (some 37) (.p (.mv (.s 39))) none, .mk (some 40) (.p (.ext 0 (.s 37))) none, .mk (some 41) (.p (.ext 1 (.s 37))) none, .mk (some 7) (.p (.mv (.s 40))) none,
  .mk (some 8) (.p (.mv (.s 41))) none] [7] []) (.seq (.region [.mk (some 42) (.p (.mv (.s 7))) none, .mk (some 2) (.p (.mv (.s 42))) none] [2] []) .ret)))))
theorem fn43 : (autoPrg Try.prog).fn 43 = some LF43 := by kernel_rfl

def LF80 : LFunc :=
  .mk 1 [.tmp 2] (.seq (.region [.mk (some 2) (.p (.mv (.c (.slice none 0 0)))) none] [0] []) (.seq (.seq (.region [.mk (some 3) (.p (.mv (.s 0))) none, .mk (some 4) (.p (.eqk false
  .ptr (.s 3) (.c (.pointer none)))) none] [0, 4] []) (.cond (.s 4) (.seq (.region [.mk (some 2) (.p (.mv (.c (.slice none 0 0)))) none] [2] []) .ret) .skip)) (.seq (.region [.mk
  (some 5) (.p (.mv (.s 0))) none, .mk (some 6) (.p (.nilck (.s 5))) none, .mk (some 7) (.p (.faddr 0 (.s 6))) none, .mk (some 8) (.r (.load none (.s 7))) none, .mk (some 2) (.p
  (.mv (.s 8))) none] [2] []) .ret)))
theorem fn80 : (autoPrg Try.prog).fn 80 = some LF80 := by kernel_rfl

end Go.Proofs.Ytanpdopjgepbkaa.AM
/- A set is made of rows. -/
set_option linter.unusedVariables false
set_option linter.unusedSimpArgs false
namespace Go.Proofs.Ytanpdopjgepbkaa.AM
open Go

theorem rowsOf_flat : ∀ l : List (Int × Int), rowsOf (l.map rowV).flatten = some l
  | [] => rfl
  | (a, b) :: l => by
    have := rowsOf_flat l
    simp only [List.map_cons, List.flatten_cons, rowV, List.cons_append, List.nil_append, rowsOf, this, Option.map_some]

theorem sortF_length (l : List (Int × Int)) : (sortF l).length = l.length := by unfold sortF; exact List.length_mergeSort l

/-- The rows are sorted in their place. -/
theorem sort_eq {h0 h : AH} {s : Sl} {rows : List (Int × Int)} (f : FOwn h0 h 2 s (rows.map rowV)) (hn : rows.length < 1000000000000000) (hs : s = .nil ∨ 0 < rows.length) :
    WpC PS 87 [s.val 2, .func (.func 88) (Array.mk []) (Array.mk [])] h fun v h' => v = .tuple #[] ∧ FOwn h0 h' 2 s ((sortF rows).map rowV) := by
  have hext : PS.ext 87 = some sortX := by unfold PS; rw [withExt_ext]; rfl
  obtain ⟨own, kp, new⟩ := f
  cases s with
  | nil =>
    have hr : rows = [] := List.eq_nil_of_length_eq_zero (by have := own.1; simpa [Sl.len] using this.symm)
    subst hr
    exact ⟨_, _, by rw [callO_ext hext]; rfl, rfl, by simpa [sortF] using FOwn.nil (e := 2) kp⟩
  | «at» b o n =>
    have hl : 0 < rows.length := hs.resolve_left (by simp)
    obtain ⟨h1, h2, pre, h3, h4⟩ := own
    simp only [Sl.len, List.length_map] at h1
    subst h1
    have hfl := flatten_len h2
    rw [List.length_map] at hfl
    refine ⟨.tuple #[], h.set b (.cells false (pre ++ ((sortF rows).map rowV).flatten)), ?_, rfl, ⟨⟨by simp [Sl.len, sortF_length], fun x hx => by obtain ⟨y, _, rfl⟩ := List.mem_map.1 hx; rfl, pre, AH.get_set_same _ (AH.get_lt h3), h4⟩,
      ⟨kp.1, fun b' hb' => (AH.get_set_ne _ (fun e => by have := new b rfl; omega)).trans (kp.2 b' hb')⟩, new⟩⟩
    rw [callO_ext hext]
    have e1 : (pre ++ (rows.map rowV).flatten).drop o = (rows.map rowV).flatten := by rw [← h4, List.drop_left]
    have e2 : (pre ++ (rows.map rowV).flatten).take o = pre := by rw [← h4, List.take_left]
    have e3 : (pre ++ (rows.map rowV).flatten).drop (o + rows.length * 2) = [] := List.drop_eq_nil_of_le (by simp only [List.length_append, hfl, h4]; omega)
    have e4 : ((rows.map rowV).flatten).take (rows.length * 2) = (rows.map rowV).flatten := List.take_of_length_le (by omega)
    show sortX [.slice (some ⟨b, o, none⟩) rows.length 2, .func (.func 88) (Array.mk []) (Array.mk [])] h = _
    simp only [sortX, h3, e1, e2, e3, e4, rowsOf_flat, List.append_nil]
    rw [if_pos ⟨hl, hn, trivial, trivial, rfl, rfl, by simp only [List.length_append, hfl, h4]; omega⟩]

/-! ### made -/

def addRow (acc : List (Int × Int)) (x : Int × Int) : List (Int × Int) :=
  if x.2 ≤ x.1 then acc
  else if h : 0 < acc.length then (if x.1 ≤ (acc[acc.length - 1]).2 then acc.set (acc.length - 1) ((acc[acc.length - 1]).1, max (acc[acc.length - 1]).2 x.2) else acc ++ [x]) else acc ++ [x]
def madeF (rows : List (Int × Int)) : List (Int × Int) := (sortF rows).foldl addRow []

/-- A set's rows, read. -/
def SetR (h : AH) (b : Nat) (rows : List (Int × Int)) : Prop := ∃ t : Sl, h.get b = some (.cells false [t.val 2]) ∧ Reads h 2 t (rows.map rowV)

/-- .. all of it laid since a heap. -/
def SetF (h0 h : AH) (b : Nat) (rows : List (Int × Int)) : Prop := ∃ t : Sl, h.get b = some (.cells false [t.val 2]) ∧ h0.n ≤ b ∧ Reads h 2 t (rows.map rowV) ∧ ∀ x, t.blk = some x → h0.n ≤ x
theorem SetF.set {h0 h : AH} {b : Nat} {rows : List (Int × Int)} (r : SetF h0 h b rows) : SetR h b rows := let ⟨t, h1, _, h2, _⟩ := r; ⟨t, h1, h2⟩
theorem Reads.same {h h' : AH} {e : Nat} {s : Sl} {xss : List (List Value)} (r : Reads h e s xss) (k : ∀ b, s.blk = some b → h'.get b = h.get b) : Reads h' e s xss := by
  refine ⟨r.1, r.2.1, ?_⟩
  have := r.2.2
  cases s with
  | nil => trivial
  | «at» b o n => exact this.imp id fun ⟨ro, pre, post, h1, h2⟩ => ⟨ro, pre, post, by rw [k b rfl]; exact h1, h2⟩
theorem SetF.keep {h0 h h' : AH} {b : Nat} {rows : List (Int × Int)} (r : SetF h0 h b rows) (k : ∀ x, h0.n ≤ x → h'.get x = h.get x) : SetF h0 h' b rows :=
  let ⟨t, h1, h2, h3, h4⟩ := r
  ⟨t, by rw [k b h2]; exact h1, h2, h3.same fun x hx => k x (h4 x hx), h4⟩
theorem SetF.kp {h0 h h' : AH} {b : Nat} {rows : List (Int × Int)} (r : SetF h0 h b rows) (k : Kp h h') : SetF h0 h' b rows :=
  let ⟨t, h1, h2, h3, h4⟩ := r
  ⟨t, k.get h1, h2, h3.kp k, h4⟩

theorem SetR.kp {h0 h : AH} {b : Nat} {rows : List (Int × Int)} (r : SetR h0 b rows) (k : Kp h0 h) : SetR h b rows := let ⟨t, h1, h2⟩ := r; ⟨t, k.get h1, h2.kp k⟩

theorem addRow_length (acc : List (Int × Int)) (x : Int × Int) : (addRow acc x).length ≤ acc.length + 1 := by
  unfold addRow
  split
  · omega
  · split
    · split
      · simp
      · simp
    · simp

theorem foldl_length (l : List (Int × Int)) : ∀ acc : List (Int × Int), (l.foldl addRow acc).length ≤ acc.length + l.length := by
  induction l with
  | nil => intro acc; simp
  | cons x r ih =>
    intro acc
    simp only [List.foldl_cons, List.length_cons]
    have := ih (addRow acc x)
    have := addRow_length acc x
    omega

theorem map_set_hi (l : List (Int × Int)) {j : Nat} (hj : j < l.length) {m : Int} : (l.map rowV).set j (((l.map rowV)[j]'(by simpa using hj)).set 1 (.int .i64 m)) = (l.set j (l[j].1, m)).map rowV := by
  rw [List.map_set]
  congr 1
  simp [rowV]

theorem made_spec {h0 h : AH} {s : Sl} {rows : List (Int × Int)} (f : FOwn h0 h 2 s (rows.map rowV)) (hn : rows.length < 1000000000000) (hs : s = .nil ∨ 0 < rows.length) :
    WpC PS 73 [s.val 2] h fun v h' => ∃ b, v = .pointer (some ⟨b, 0, none⟩) ∧ SetF h0 h' b (madeF rows) ∧ Kp h0 h' := by
  have hlen := f.reads.len
  refine wpc_fn (ps_ext rfl) (ps_fn fn73) rfl ?_
  unfold LF73
  simp only [argFr]
  (repeat' first
    | (show WpR _ _ _ _ _ _ _ _ _
       first
       | refine wpr_drop ?_
       | refine wpr_p (o := .mv _) (by simp only [ev_mv, opd_s, opd_c, fget, Nat.reduceEqDiff, Nat.one_ne_zero, Nat.zero_ne_one, reduceCtorEq, ↓reduceIte]; rfl) ?_
       | (refine wpr_fork (fun _ => ?_) (fun _ => ?_) <;> try (exfalso; omega))
       | (refine wpr_forkN (fun _ => ?_) (fun _ => ?_) <;> try (exfalso; omega))
       | refine wpr_run rfl ?_
       | refine wpr_pass rfl rfl ?_
       | refine wpr_passS rfl ?_
       | ((first | apply wpr_p | apply wpr_r | apply wpr_callA | apply wpr_callA0 | apply wpr_e0 | apply wpr_e | apply wpr_end0); focus ((try simp (disch := omega) only [push_cast, Nat.reduceEqDiff, ↓reduceIte, reduceCtorEq, Nat.reduceAdd, Nat.reduceMul, Nat.reduceLeDiff, hlen]); rfl))
       | refine wpr_pass0 rfl rfl ?_
       | refine wpr_pass0S rfl ?_
       | (apply wpr_end; (focus ((try simp (disch := omega) only [push_cast, Nat.reduceEqDiff, ↓reduceIte, reduceCtorEq, Nat.reduceAdd, Nat.reduceMul, Nat.reduceLeDiff, hlen]); rfl)); (focus (simp (disch := omega) only [push_cast, Nat.reduceEqDiff, ↓reduceIte, reduceCtorEq, Nat.reduceAdd, Nat.reduceMul, Nat.reduceLeDiff, hlen]; done)))
       | fail)
    | (show Wp _ _ _ _ _ _
       first
       | refine wp_seq ?_
       | refine wp_region0 ?_
       | refine wp_region ?_
       | refine wp_cond_t rfl ?_
       | refine wp_cond_f rfl ?_
       | refine wp_ret ?_
       | refine wp_skip ?_
       | refine wp_exit ?_
       | refine wp_block ?_
       | fail)
    | refine thenQ_norm ?_
    | refine thenQ_ret ?_
    | refine thenQ_exit ?_
    | refine blockQ_norm ?_
    | refine blockQ_ret ?_
    | refine blockQ_same ?_
    | refine blockQ_ne rfl ?_
    | refine loopQ_norm ?_
    | refine loopQ_ret ?_
    | refine loopQ_exit ?_
    | ((first | apply retQ_ret | apply retQ_norm | apply wpc_of); focus ((try simp (disch := omega) only [push_cast, Nat.reduceEqDiff, ↓reduceIte, reduceCtorEq, Nat.reduceAdd, Nat.reduceMul, Nat.reduceLeDiff, hlen]); rfl))
    | fail)
  refine (sort_eq f (by omega) hs).mono ?_
  rintro v h1 ⟨rfl, f1⟩
  (repeat' first
    | (show WpR _ _ _ _ _ _ _ _ _
       first
       | refine wpr_drop ?_
       | refine wpr_p (o := .mv _) (by simp only [ev_mv, opd_s, opd_c, fget, Nat.reduceEqDiff, Nat.one_ne_zero, Nat.zero_ne_one, reduceCtorEq, ↓reduceIte]; rfl) ?_
       | (refine wpr_fork (fun _ => ?_) (fun _ => ?_) <;> try (exfalso; omega))
       | (refine wpr_forkN (fun _ => ?_) (fun _ => ?_) <;> try (exfalso; omega))
       | refine wpr_run rfl ?_
       | refine wpr_pass rfl rfl ?_
       | refine wpr_passS rfl ?_
       | ((first | apply wpr_p | apply wpr_r | apply wpr_callA | apply wpr_callA0 | apply wpr_e0 | apply wpr_e | apply wpr_end0); focus ((try simp (disch := omega) only [push_cast, Nat.reduceEqDiff, ↓reduceIte, reduceCtorEq, Nat.reduceAdd, Nat.reduceMul, Nat.reduceLeDiff, hlen]); rfl))
       | refine wpr_pass0 rfl rfl ?_
       | refine wpr_pass0S rfl ?_
       | (apply wpr_end; (focus ((try simp (disch := omega) only [push_cast, Nat.reduceEqDiff, ↓reduceIte, reduceCtorEq, Nat.reduceAdd, Nat.reduceMul, Nat.reduceLeDiff, hlen]); rfl)); (focus (simp (disch := omega) only [push_cast, Nat.reduceEqDiff, ↓reduceIte, reduceCtorEq, Nat.reduceAdd, Nat.reduceMul, Nat.reduceLeDiff, hlen]; done)))
       | fail)
    | (show Wp _ _ _ _ _ _
       first
       | refine wp_seq ?_
       | refine wp_region0 ?_
       | refine wp_region ?_
       | refine wp_cond_t rfl ?_
       | refine wp_cond_f rfl ?_
       | refine wp_ret ?_
       | refine wp_skip ?_
       | refine wp_exit ?_
       | refine wp_block ?_
       | fail)
    | refine thenQ_norm ?_
    | refine thenQ_ret ?_
    | refine thenQ_exit ?_
    | refine blockQ_norm ?_
    | refine blockQ_ret ?_
    | refine blockQ_same ?_
    | refine blockQ_ne rfl ?_
    | refine loopQ_norm ?_
    | refine loopQ_ret ?_
    | refine loopQ_exit ?_
    | ((first | apply retQ_ret | apply retQ_norm | apply wpc_of); focus ((try simp (disch := omega) only [push_cast, Nat.reduceEqDiff, ↓reduceIte, reduceCtorEq, Nat.reduceAdd, Nat.reduceMul, Nat.reduceLeDiff, hlen]); rfl))
    | fail)
  have hSl := sortF_length rows
  have hsb : ∀ x, s.blk = some x → x < h1.n := fun x hx => by
    obtain ⟨_, _, h3⟩ := f1.own
    cases s with
    | nil => cases hx
    | «at» b o n =>
      obtain ⟨pre, h4, _⟩ := h3
      injection hx with hx
      subst hx
      exact AH.get_lt h4
  have hb0 : h0.n ≤ h1.n := f1.kp.1
  refine wp_loop (fun n fr lc h => ∃ (i : Nat) (t : Sl) (acc : List (Int × Int)), n = rows.length - i ∧ i ≤ rows.length ∧ fr = [(3, .pointer (some ⟨h1.n, 0, none⟩)), (11, s.val 2), (12, .int .i64 rows.length), (13, .int .i64 i)] ∧ lc = [] ∧
      h.get h1.n = some (.cells false [t.val 2]) ∧ acc = ((sortF rows).take i).foldl addRow [] ∧ acc.length ≤ i ∧ Own h 2 t (acc.map rowV) ∧ (∀ x, t.blk = some x → h1.n < x) ∧ Kp h1 h)
    rows.length ⟨0, .nil, [], rfl, Nat.zero_le _, rfl, rfl, AH.get_push_same _ _, rfl, Nat.le_refl _, ⟨rfl, by simp, trivial⟩, (fun x hx => by cases hx), ⟨by simp, fun b hb => AH.get_push_ne _ (by omega)⟩⟩ ?_
  rintro n fr lc h2 ⟨i, t, acc, rfl, hi, rfl, rfl, hget, hacc, haccl, hown, htb, hkp⟩
  have htl : t.len = acc.length := by simpa using hown.1
  have hrd : Reads h2 2 s ((sortF rows).map rowV) := f1.reads.kp hkp
  have hrl : s.len = (sortF rows).length := by omega
  have hlt : h1.n < h2.n := AH.get_lt hget
  have hnb : t.blk ≠ some h1.n := fun e => by have := htb _ e; omega
  rcases Nat.lt_or_ge i rows.length with hil | hil
  · have hstep : ((sortF rows).take (i + 1)).foldl addRow [] = addRow acc (sortF rows)[i] := by
      rw [hacc, List.take_succ_eq_append_getElem (by omega), List.foldl_append]
      rfl
    generalize hx : (sortF rows)[i] = x at hstep
    have hxr : ∀ lc, Mem.rd ⟨lc, h2⟩ (s.adr 2 i) 2 = some (rowV x) := fun lc => by rw [← hx]; exact rd_map hrd (by omega)
    (repeat' first
    | (show WpR _ _ _ _ _ _ _ _ _
       first
       | refine wpr_drop ?_
       | refine wpr_p (o := .mv _) (by simp only [ev_mv, opd_s, opd_c, fget, Nat.reduceEqDiff, Nat.one_ne_zero, Nat.zero_ne_one, reduceCtorEq, ↓reduceIte]; rfl) ?_
       | (refine wpr_fork (fun _ => ?_) (fun _ => ?_) <;> try (exfalso; omega))
       | (refine wpr_forkN (fun _ => ?_) (fun _ => ?_) <;> try (exfalso; omega))
       | refine wpr_run rfl ?_
       | refine wpr_pass rfl rfl ?_
       | refine wpr_passS rfl ?_
       | ((first | apply wpr_p | apply wpr_r | apply wpr_callA | apply wpr_callA0 | apply wpr_e0 | apply wpr_e | apply wpr_end0); focus ((try simp (disch := omega) only [push_cast, Nat.reduceEqDiff, ↓reduceIte, reduceCtorEq, Nat.reduceAdd, Nat.reduceMul, Nat.reduceLeDiff, hlen, hget, hxr, rd_mapc hown.reads, rowV, htl]); rfl))
       | refine wpr_pass0 rfl rfl ?_
       | refine wpr_pass0S rfl ?_
       | (apply wpr_end; (focus ((try simp (disch := omega) only [push_cast, Nat.reduceEqDiff, ↓reduceIte, reduceCtorEq, Nat.reduceAdd, Nat.reduceMul, Nat.reduceLeDiff, hlen, hget, hxr, rd_mapc hown.reads, rowV, htl]); rfl)); (focus (simp (disch := omega) only [push_cast, Nat.reduceEqDiff, ↓reduceIte, reduceCtorEq, Nat.reduceAdd, Nat.reduceMul, Nat.reduceLeDiff, hlen, hget, hxr, rd_mapc hown.reads, rowV, htl]; done)))
       | fail)
    | (show Wp _ _ _ _ _ _
       first
       | refine wp_seq ?_
       | refine wp_region0 ?_
       | refine wp_region ?_
       | refine wp_cond_t rfl ?_
       | refine wp_cond_f rfl ?_
       | refine wp_ret ?_
       | refine wp_skip ?_
       | refine wp_exit ?_
       | refine wp_block ?_
       | fail)
    | refine thenQ_norm ?_
    | refine thenQ_ret ?_
    | refine thenQ_exit ?_
    | refine blockQ_norm ?_
    | refine blockQ_ret ?_
    | refine blockQ_same ?_
    | refine blockQ_ne rfl ?_
    | refine loopQ_norm ?_
    | refine loopQ_ret ?_
    | refine loopQ_exit ?_
    | ((first | apply retQ_ret | apply retQ_norm | apply wpc_of); focus ((try simp (disch := omega) only [push_cast, Nat.reduceEqDiff, ↓reduceIte, reduceCtorEq, Nat.reduceAdd, Nat.reduceMul, Nat.reduceLeDiff, hlen, hget, hxr, rd_mapc hown.reads, rowV, htl]); rfl))
    | fail)
    · rename_i g1 g2
      refine ⟨_, ?_, i + 1, t, acc, rfl, by omega, rfl, rfl, hget, ?_, by omega, hown, htb, hkp⟩
      · omega
      · rw [hstep, addRow, if_pos g2]
    · rename_i g1 g2 g3 g4
      refine wpr_store1R (v := .int .i64 (max acc[((acc.length : Int) - 1).toNat].2 x.2)) hown rfl rfl rfl (by simp; omega) (by decide) fun h3 ho3 hn3 hk3 => ?_
      (repeat' first
    | (show WpR _ _ _ _ _ _ _ _ _
       first
       | refine wpr_drop ?_
       | refine wpr_p (o := .mv _) (by simp only [ev_mv, opd_s, opd_c, fget, Nat.reduceEqDiff, Nat.one_ne_zero, Nat.zero_ne_one, reduceCtorEq, ↓reduceIte]; rfl) ?_
       | (refine wpr_fork (fun _ => ?_) (fun _ => ?_) <;> try (exfalso; omega))
       | (refine wpr_forkN (fun _ => ?_) (fun _ => ?_) <;> try (exfalso; omega))
       | refine wpr_run rfl ?_
       | refine wpr_pass rfl rfl ?_
       | refine wpr_passS rfl ?_
       | ((first | apply wpr_p | apply wpr_r | apply wpr_callA | apply wpr_callA0 | apply wpr_e0 | apply wpr_e | apply wpr_end0); focus ((try simp (disch := omega) only [push_cast, Nat.reduceEqDiff, ↓reduceIte, reduceCtorEq, Nat.reduceAdd, Nat.reduceMul, Nat.reduceLeDiff]); rfl))
       | refine wpr_pass0 rfl rfl ?_
       | refine wpr_pass0S rfl ?_
       | (apply wpr_end; (focus ((try simp (disch := omega) only [push_cast, Nat.reduceEqDiff, ↓reduceIte, reduceCtorEq, Nat.reduceAdd, Nat.reduceMul, Nat.reduceLeDiff]); rfl)); (focus (simp (disch := omega) only [push_cast, Nat.reduceEqDiff, ↓reduceIte, reduceCtorEq, Nat.reduceAdd, Nat.reduceMul, Nat.reduceLeDiff]; done)))
       | fail)
    | (show Wp _ _ _ _ _ _
       first
       | refine wp_seq ?_
       | refine wp_region0 ?_
       | refine wp_region ?_
       | refine wp_cond_t rfl ?_
       | refine wp_cond_f rfl ?_
       | refine wp_ret ?_
       | refine wp_skip ?_
       | refine wp_exit ?_
       | refine wp_block ?_
       | fail)
    | refine thenQ_norm ?_
    | refine thenQ_ret ?_
    | refine thenQ_exit ?_
    | refine blockQ_norm ?_
    | refine blockQ_ret ?_
    | refine blockQ_same ?_
    | refine blockQ_ne rfl ?_
    | refine loopQ_norm ?_
    | refine loopQ_ret ?_
    | refine loopQ_exit ?_
    | ((first | apply retQ_ret | apply retQ_norm | apply wpc_of); focus ((try simp (disch := omega) only [push_cast, Nat.reduceEqDiff, ↓reduceIte, reduceCtorEq, Nat.reduceAdd, Nat.reduceMul, Nat.reduceLeDiff]); rfl))
    | fail)
      have e1 : ((acc.length : Int) - 1).toNat = acc.length - 1 := by omega
      refine ⟨_, ?_, i + 1, t, addRow acc x, rfl, by omega, rfl, rfl, ?_, hstep.symm, ?_, ?_, htb, ?_⟩
      · omega
      · rw [hk3 _ hnb]; exact hget
      · have := addRow_length acc x; omega
      · simp only [e1] at ho3 g4
        rw [addRow, if_neg g2, dif_pos (by omega), if_pos g4]
        rw [← map_set_hi acc (by omega)]
        exact ho3
      · exact ⟨by have := hkp.1; omega, fun b hb => (hk3 b (fun e => by have := htb _ e; omega)).trans (hkp.2 b hb)⟩
    all_goals try (exfalso; omega)
    all_goals
      have e1 : ((acc.length : Int) - 1).toNat = acc.length - 1 := by omega
      simp only [e1] at *
      have happ : addRow acc x = acc ++ [x] := by
        unfold addRow
        repeat' split
        all_goals first | rfl | contradiction | omega
      refine wpr_appendR (yss := [rowV x]) (k := 1) hown rfl rfl rfl rfl (by simp [rowV]) (by decide) (by decide) (by decide) (by simp; omega) fun t' h3 ho3 hb3 hn3 hk3 => ?_
      have hget3 : h3.get h1.n = some (.cells false [t.val 2]) := by rw [hk3 _ hlt hnb]; exact hget
      (repeat' first
    | (show WpR _ _ _ _ _ _ _ _ _
       first
       | refine wpr_drop ?_
       | refine wpr_p (o := .mv _) (by simp only [ev_mv, opd_s, opd_c, fget, Nat.reduceEqDiff, Nat.one_ne_zero, Nat.zero_ne_one, reduceCtorEq, ↓reduceIte]; rfl) ?_
       | (refine wpr_fork (fun _ => ?_) (fun _ => ?_) <;> try (exfalso; omega))
       | (refine wpr_forkN (fun _ => ?_) (fun _ => ?_) <;> try (exfalso; omega))
       | refine wpr_run rfl ?_
       | refine wpr_pass rfl rfl ?_
       | refine wpr_passS rfl ?_
       | ((first | apply wpr_p | apply wpr_r | apply wpr_callA | apply wpr_callA0 | apply wpr_e0 | apply wpr_e | apply wpr_end0); focus ((try simp (disch := omega) only [push_cast, Nat.reduceEqDiff, ↓reduceIte, reduceCtorEq, Nat.reduceAdd, Nat.reduceMul, Nat.reduceLeDiff, hget3, hget]); rfl))
       | refine wpr_pass0 rfl rfl ?_
       | refine wpr_pass0S rfl ?_
       | (apply wpr_end; (focus ((try simp (disch := omega) only [push_cast, Nat.reduceEqDiff, ↓reduceIte, reduceCtorEq, Nat.reduceAdd, Nat.reduceMul, Nat.reduceLeDiff, hget3, hget]); rfl)); (focus (simp (disch := omega) only [push_cast, Nat.reduceEqDiff, ↓reduceIte, reduceCtorEq, Nat.reduceAdd, Nat.reduceMul, Nat.reduceLeDiff, hget3, hget]; done)))
       | fail)
    | (show Wp _ _ _ _ _ _
       first
       | refine wp_seq ?_
       | refine wp_region0 ?_
       | refine wp_region ?_
       | refine wp_cond_t rfl ?_
       | refine wp_cond_f rfl ?_
       | refine wp_ret ?_
       | refine wp_skip ?_
       | refine wp_exit ?_
       | refine wp_block ?_
       | fail)
    | refine thenQ_norm ?_
    | refine thenQ_ret ?_
    | refine thenQ_exit ?_
    | refine blockQ_norm ?_
    | refine blockQ_ret ?_
    | refine blockQ_same ?_
    | refine blockQ_ne rfl ?_
    | refine loopQ_norm ?_
    | refine loopQ_ret ?_
    | refine loopQ_exit ?_
    | ((first | apply retQ_ret | apply retQ_norm | apply wpc_of); focus ((try simp (disch := omega) only [push_cast, Nat.reduceEqDiff, ↓reduceIte, reduceCtorEq, Nat.reduceAdd, Nat.reduceMul, Nat.reduceLeDiff, hget3, hget]); rfl))
    | fail)
      have hlt3 : h1.n < h3.n := by omega
      refine ⟨_, ?_, i + 1, t', addRow acc x, rfl, by omega, rfl, rfl, AH.get_set_same _ hlt3, hstep.symm, ?_, ?_, (fun y hy => by rw [hb3] at hy; injection hy with hy; omega), ?_⟩
      · omega
      · have := addRow_length acc x; omega
      · rw [happ, List.map_append]
        refine ⟨ho3.1, ho3.2.1, ?_⟩
        have h33 := ho3.2.2
        cases t' with
        | nil => trivial
        | «at» bb oo nn =>
          injection hb3 with hb3
          obtain ⟨pre, q1, q2⟩ := h33
          exact ⟨pre, by rw [AH.get_set_ne _ (by omega)]; exact q1, q2⟩
      · exact ⟨by have := hkp.1; simp; omega, fun b hb => ((AH.get_set_ne _ (by omega)).trans (hk3 b (by omega) (fun e => by have := htb _ e; omega))).trans (hkp.2 b hb)⟩
  · (repeat' first
    | (show WpR _ _ _ _ _ _ _ _ _
       first
       | refine wpr_drop ?_
       | refine wpr_p (o := .mv _) (by simp only [ev_mv, opd_s, opd_c, fget, Nat.reduceEqDiff, Nat.one_ne_zero, Nat.zero_ne_one, reduceCtorEq, ↓reduceIte]; rfl) ?_
       | (refine wpr_fork (fun _ => ?_) (fun _ => ?_) <;> try (exfalso; omega))
       | (refine wpr_forkN (fun _ => ?_) (fun _ => ?_) <;> try (exfalso; omega))
       | refine wpr_run rfl ?_
       | refine wpr_pass rfl rfl ?_
       | refine wpr_passS rfl ?_
       | ((first | apply wpr_p | apply wpr_r | apply wpr_callA | apply wpr_callA0 | apply wpr_e0 | apply wpr_e | apply wpr_end0); focus ((try simp (disch := omega) only [push_cast, Nat.reduceEqDiff, ↓reduceIte, reduceCtorEq, Nat.reduceAdd, Nat.reduceMul, Nat.reduceLeDiff, hlen]); rfl))
       | refine wpr_pass0 rfl rfl ?_
       | refine wpr_pass0S rfl ?_
       | (apply wpr_end; (focus ((try simp (disch := omega) only [push_cast, Nat.reduceEqDiff, ↓reduceIte, reduceCtorEq, Nat.reduceAdd, Nat.reduceMul, Nat.reduceLeDiff, hlen]); rfl)); (focus (simp (disch := omega) only [push_cast, Nat.reduceEqDiff, ↓reduceIte, reduceCtorEq, Nat.reduceAdd, Nat.reduceMul, Nat.reduceLeDiff, hlen]; done)))
       | fail)
    | (show Wp _ _ _ _ _ _
       first
       | refine wp_seq ?_
       | refine wp_region0 ?_
       | refine wp_region ?_
       | refine wp_cond_t rfl ?_
       | refine wp_cond_f rfl ?_
       | refine wp_ret ?_
       | refine wp_skip ?_
       | refine wp_exit ?_
       | refine wp_block ?_
       | fail)
    | refine thenQ_norm ?_
    | refine thenQ_ret ?_
    | refine thenQ_exit ?_
    | refine blockQ_norm ?_
    | refine blockQ_ret ?_
    | refine blockQ_same ?_
    | refine blockQ_ne rfl ?_
    | refine loopQ_norm ?_
    | refine loopQ_ret ?_
    | refine loopQ_exit ?_
    | ((first | apply retQ_ret | apply retQ_norm | apply wpc_of); focus ((try simp (disch := omega) only [push_cast, Nat.reduceEqDiff, ↓reduceIte, reduceCtorEq, Nat.reduceAdd, Nat.reduceMul, Nat.reduceLeDiff, hlen]); rfl))
    | fail)
    refine ⟨h1.n, rfl, ⟨t, hget, hb0, ?_, fun x hx => by have := htb x hx; omega⟩, f1.kp.trans hkp⟩
    have : (sortF rows).take i = sortF rows := List.take_of_length_le (by omega)
    rw [this] at hacc
    have hm : madeF rows = acc := hacc.symm
    rw [hm]
    exact hown.reads

end Go.Proofs.Ytanpdopjgepbkaa.AM

/- Of: a set of spans, or why there is none. -/
set_option linter.unusedVariables false
set_option linter.unusedSimpArgs false
namespace Go.Proofs.Ytanpdopjgepbkaa.AM
open Go

def I32 (n : Int) : Prop := -2147483648 ≤ n ∧ n < 2147483648
def Span32 (l : List (Int × Int)) : Prop := ∀ x ∈ l, (-2147483648 ≤ x.1 ∧ x.1 < 2147483648) ∧ (-2147483648 ≤ x.2 ∧ x.2 < 2147483648)

def ofAt (l : List (Int × Int)) (i : Nat) (why : Int) : Int :=
  if hi : i < l.length then
    if wrongF l[i] = 12 then 12
    else if wrongF l[i] ≠ 0 ∧ why = 0 then ofAt l (i + 1) (wrongF l[i]) else ofAt l (i + 1) why
  else why
termination_by l.length - i

def rowOf (x : Int × Int) : Int × Int := (rankF x.1, rankF x.2 + 1)

theorem rankF_lo (n : Int) : 0 ≤ rankF n := by unfold rankF; split; · omega
                                               · split <;> omega
theorem rankF_hi (n : Int) : rankF n ≤ 1112064 := by unfold rankF; split; · omega
                                                     · split <;> omega

theorem of_spec (l : List (Int × Int)) (s : Sl) (h : AH) (hr : Reads h 2 s (l.map spanV)) (hn : l.length < 1000000000) (hb : Span32 l) :
    WpC PS 58 [s.val 2] h fun v h' => Kp h h' ∧ ((ofAt l 0 0 ≠ 0 ∧ v = .tuple (List.toArray [.pointer none, .int .i64 (ofAt l 0 0)])) ∨
      (ofAt l 0 0 = 0 ∧ ∃ b, v = .tuple (List.toArray [.pointer (some ⟨b, 0, none⟩), .int .i64 0]) ∧ SetF h h' b (madeF (l.map rowOf)))) := by
  have hlen := hr.len
  refine wpc_fn (ps_ext rfl) (ps_fn fn58) rfl ?_
  unfold LF58
  simp only [argFr]
  (repeat' first
    | (show WpR _ _ _ _ _ _ _ _ _
       first
       | refine wpr_drop ?_
       | refine wpr_p (o := .mv _) (by simp only [ev_mv, opd_s, opd_c, fget, Nat.reduceEqDiff, Nat.one_ne_zero, Nat.zero_ne_one, reduceCtorEq, ↓reduceIte]; rfl) ?_
       | (refine wpr_fork (fun _ => ?_) (fun _ => ?_) <;> try (exfalso; omega))
       | (refine wpr_forkN (fun _ => ?_) (fun _ => ?_) <;> try (exfalso; omega))
       | refine wpr_run rfl ?_
       | refine wpr_pass rfl rfl ?_
       | refine wpr_passS rfl ?_
       | ((first | apply wpr_p | apply wpr_r | apply wpr_callA | apply wpr_callA0 | apply wpr_e0 | apply wpr_e | apply wpr_end0); focus ((try simp (disch := omega) only [push_cast, Nat.reduceEqDiff, ↓reduceIte, reduceCtorEq, Nat.reduceAdd, Nat.reduceMul, Nat.reduceLeDiff, hlen]); rfl))
       | refine wpr_pass0 rfl rfl ?_
       | refine wpr_pass0S rfl ?_
       | (apply wpr_end; (focus ((try simp (disch := omega) only [push_cast, Nat.reduceEqDiff, ↓reduceIte, reduceCtorEq, Nat.reduceAdd, Nat.reduceMul, Nat.reduceLeDiff, hlen]); rfl)); (focus (simp (disch := omega) only [push_cast, Nat.reduceEqDiff, ↓reduceIte, reduceCtorEq, Nat.reduceAdd, Nat.reduceMul, Nat.reduceLeDiff, hlen]; done)))
       | fail)
    | (show Wp _ _ _ _ _ _
       first
       | refine wp_seq ?_
       | refine wp_region0 ?_
       | refine wp_region ?_
       | refine wp_cond_t rfl ?_
       | refine wp_cond_f rfl ?_
       | refine wp_ret ?_
       | refine wp_skip ?_
       | refine wp_exit ?_
       | refine wp_block ?_
       | fail)
    | refine thenQ_norm ?_
    | refine thenQ_ret ?_
    | refine thenQ_exit ?_
    | refine blockQ_norm ?_
    | refine blockQ_ret ?_
    | refine blockQ_same ?_
    | refine blockQ_ne rfl ?_
    | refine loopQ_norm ?_
    | refine loopQ_ret ?_
    | refine loopQ_exit ?_
    | ((first | apply retQ_ret | apply retQ_norm | apply wpc_of); focus ((try simp (disch := omega) only [push_cast, Nat.reduceEqDiff, ↓reduceIte, reduceCtorEq, Nat.reduceAdd, Nat.reduceMul, Nat.reduceLeDiff, hlen]); rfl))
    | fail)
  refine wp_loop (fun n fr lc h1 => ∃ (i : Nat) (t : Sl) (why : Int), n = l.length - i ∧ i ≤ l.length ∧ fr = [(4, t.val 2), (5, .int .i64 why), (9, s.val 2), (10, .int .i64 l.length), (11, .int .i64 i)] ∧ lc = [] ∧
      FOwn h h1 2 t (((l.take i).map rowOf).map rowV) ∧ (t = .nil ∨ 0 < i) ∧ ofAt l i why = ofAt l 0 0)
    l.length ⟨0, .nil, 0, rfl, Nat.zero_le _, rfl, rfl, FOwn.nil (Kp.refl h), .inl rfl, rfl⟩ ?_
  rintro n fr lc h1 ⟨i, t, why, rfl, hi, rfl, rfl, f1, ht, hI⟩
  have htl := f1.reads.len
  have hr1 := hr.kp f1.kp
  rcases Nat.lt_or_ge i l.length with hil | hil
  · have hbi := hb l[i] (List.getElem_mem hil)
    generalize hx : l[i] = x at hbi
    have hxr : ∀ lc, Mem.rd ⟨lc, h1⟩ (s.adr 2 i) 2 = some (spanV x) := fun lc => by rw [← hx]; exact rd_map hr1 hil
    have hk1 := rankF_lo x.2
    have hk2 := rankF_hi x.2
    have hstep : ofAt l i why = if wrongF x = 12 then 12 else if wrongF x ≠ 0 ∧ why = 0 then ofAt l (i + 1) (wrongF x) else ofAt l (i + 1) why := by
      rw [ofAt, dif_pos hil, hx]
    have hw : wrongF (x.1, x.2) = wrongF x := rfl
    have hap : (((l.take i).map rowOf).map rowV) ++ [rowV (rowOf x)] = ((l.take (i + 1)).map rowOf).map rowV := by
      rw [List.take_succ_eq_append_getElem hil, hx]; simp
    (repeat' first
    | (show WpR _ _ _ _ _ _ _ _ _
       first
       | refine wpr_drop ?_
       | refine wpr_p (o := .mv _) (by simp only [ev_mv, opd_s, opd_c, fget, Nat.reduceEqDiff, Nat.one_ne_zero, Nat.zero_ne_one, reduceCtorEq, ↓reduceIte]; rfl) ?_
       | (refine wpr_fork (fun _ => ?_) (fun _ => ?_) <;> try (exfalso; omega))
       | (refine wpr_forkN (fun _ => ?_) (fun _ => ?_) <;> try (exfalso; omega))
       | refine wpr_run rfl ?_
       | refine wpr_pass rfl rfl ?_
       | refine wpr_passS rfl ?_
       | ((first | apply wpr_p | apply wpr_r | apply wpr_callA | apply wpr_callA0 | apply wpr_e0 | apply wpr_e | apply wpr_end0); focus ((try simp (disch := omega) only [push_cast, Nat.reduceEqDiff, ↓reduceIte, reduceCtorEq, Nat.reduceAdd, Nat.reduceMul, Nat.reduceLeDiff, hlen, hxr, spanV, hw]); rfl))
       | refine wpr_pass0 rfl rfl ?_
       | refine wpr_pass0S rfl ?_
       | (apply wpr_end; (focus ((try simp (disch := omega) only [push_cast, Nat.reduceEqDiff, ↓reduceIte, reduceCtorEq, Nat.reduceAdd, Nat.reduceMul, Nat.reduceLeDiff, hlen, hxr, spanV, hw]); rfl)); (focus (simp (disch := omega) only [push_cast, Nat.reduceEqDiff, ↓reduceIte, reduceCtorEq, Nat.reduceAdd, Nat.reduceMul, Nat.reduceLeDiff, hlen, hxr, spanV, hw]; done)))
       | fail)
    | (show Wp _ _ _ _ _ _
       first
       | refine wp_seq ?_
       | refine wp_region0 ?_
       | refine wp_region ?_
       | refine wp_cond_t rfl ?_
       | refine wp_cond_f rfl ?_
       | refine wp_ret ?_
       | refine wp_skip ?_
       | refine wp_exit ?_
       | refine wp_block ?_
       | fail)
    | refine thenQ_norm ?_
    | refine thenQ_ret ?_
    | refine thenQ_exit ?_
    | refine blockQ_norm ?_
    | refine blockQ_ret ?_
    | refine blockQ_same ?_
    | refine blockQ_ne rfl ?_
    | refine loopQ_norm ?_
    | refine loopQ_ret ?_
    | refine loopQ_exit ?_
    | ((first | apply retQ_ret | apply retQ_norm | apply wpc_of); focus ((try simp (disch := omega) only [push_cast, Nat.reduceEqDiff, ↓reduceIte, reduceCtorEq, Nat.reduceAdd, Nat.reduceMul, Nat.reduceLeDiff, hlen, hxr, spanV, hw]); rfl))
    | fail)
    all_goals first
      | (refine wpr_appendS (yss := [rowV (rowOf x)]) (k := 1) f1 rfl rfl rfl rfl (by simp [rowV]) (by decide) (by decide) (by decide) (by simp; omega) fun t' h3 f3 => ?_
         rw [hap] at f3
         (repeat' first
    | (show WpR _ _ _ _ _ _ _ _ _
       first
       | refine wpr_drop ?_
       | refine wpr_p (o := .mv _) (by simp only [ev_mv, opd_s, opd_c, fget, Nat.reduceEqDiff, Nat.one_ne_zero, Nat.zero_ne_one, reduceCtorEq, ↓reduceIte]; rfl) ?_
       | (refine wpr_fork (fun _ => ?_) (fun _ => ?_) <;> try (exfalso; omega))
       | (refine wpr_forkN (fun _ => ?_) (fun _ => ?_) <;> try (exfalso; omega))
       | refine wpr_run rfl ?_
       | refine wpr_pass rfl rfl ?_
       | refine wpr_passS rfl ?_
       | ((first | apply wpr_p | apply wpr_r | apply wpr_callA | apply wpr_callA0 | apply wpr_e0 | apply wpr_e | apply wpr_end0); focus ((try simp (disch := omega) only [push_cast, Nat.reduceEqDiff, ↓reduceIte, reduceCtorEq, Nat.reduceAdd, Nat.reduceMul, Nat.reduceLeDiff]); rfl))
       | refine wpr_pass0 rfl rfl ?_
       | refine wpr_pass0S rfl ?_
       | (apply wpr_end; (focus ((try simp (disch := omega) only [push_cast, Nat.reduceEqDiff, ↓reduceIte, reduceCtorEq, Nat.reduceAdd, Nat.reduceMul, Nat.reduceLeDiff]); rfl)); (focus (simp (disch := omega) only [push_cast, Nat.reduceEqDiff, ↓reduceIte, reduceCtorEq, Nat.reduceAdd, Nat.reduceMul, Nat.reduceLeDiff]; done)))
       | fail)
    | (show Wp _ _ _ _ _ _
       first
       | refine wp_seq ?_
       | refine wp_region0 ?_
       | refine wp_region ?_
       | refine wp_cond_t rfl ?_
       | refine wp_cond_f rfl ?_
       | refine wp_ret ?_
       | refine wp_skip ?_
       | refine wp_exit ?_
       | refine wp_block ?_
       | fail)
    | refine thenQ_norm ?_
    | refine thenQ_ret ?_
    | refine thenQ_exit ?_
    | refine blockQ_norm ?_
    | refine blockQ_ret ?_
    | refine blockQ_same ?_
    | refine blockQ_ne rfl ?_
    | refine loopQ_norm ?_
    | refine loopQ_ret ?_
    | refine loopQ_exit ?_
    | ((first | apply retQ_ret | apply retQ_norm | apply wpc_of); focus ((try simp (disch := omega) only [push_cast, Nat.reduceEqDiff, ↓reduceIte, reduceCtorEq, Nat.reduceAdd, Nat.reduceMul, Nat.reduceLeDiff]); rfl))
    | fail)
         refine ⟨_, ?_, i + 1, t', _, rfl, by omega, rfl, rfl, f3, .inr (by omega), ?_⟩
         · omega
         · rw [← hI, hstep, if_neg (by assumption)]
           first
             | rw [if_pos ⟨by assumption, by assumption⟩]
             | rw [if_neg (fun hc => by first | exact absurd hc.1 (by assumption) | exact absurd hc.2 (by assumption) | omega)])
      | skip
    · rename_i g1 g2 g3 g4
      have e : ofAt l 0 0 = 12 := by rw [← hI, hstep, if_pos g2]
      exact ⟨f1.kp, .inl ⟨by omega, by rw [e, g2]⟩⟩
  · have e1 : ofAt l 0 0 = why := by rw [← hI, ofAt, dif_neg (by omega)]
    have hall : l.take i = l := List.take_of_length_le (by omega)
    rw [hall] at f1
    (repeat' first
    | (show WpR _ _ _ _ _ _ _ _ _
       first
       | refine wpr_drop ?_
       | refine wpr_p (o := .mv _) (by simp only [ev_mv, opd_s, opd_c, fget, Nat.reduceEqDiff, Nat.one_ne_zero, Nat.zero_ne_one, reduceCtorEq, ↓reduceIte]; rfl) ?_
       | (refine wpr_fork (fun _ => ?_) (fun _ => ?_) <;> try (exfalso; omega))
       | (refine wpr_forkN (fun _ => ?_) (fun _ => ?_) <;> try (exfalso; omega))
       | refine wpr_run rfl ?_
       | refine wpr_pass rfl rfl ?_
       | refine wpr_passS rfl ?_
       | ((first | apply wpr_p | apply wpr_r | apply wpr_callA | apply wpr_callA0 | apply wpr_e0 | apply wpr_e | apply wpr_end0); focus ((try simp (disch := omega) only [push_cast, Nat.reduceEqDiff, ↓reduceIte, reduceCtorEq, Nat.reduceAdd, Nat.reduceMul, Nat.reduceLeDiff, hlen]); rfl))
       | refine wpr_pass0 rfl rfl ?_
       | refine wpr_pass0S rfl ?_
       | (apply wpr_end; (focus ((try simp (disch := omega) only [push_cast, Nat.reduceEqDiff, ↓reduceIte, reduceCtorEq, Nat.reduceAdd, Nat.reduceMul, Nat.reduceLeDiff, hlen]); rfl)); (focus (simp (disch := omega) only [push_cast, Nat.reduceEqDiff, ↓reduceIte, reduceCtorEq, Nat.reduceAdd, Nat.reduceMul, Nat.reduceLeDiff, hlen]; done)))
       | fail)
    | (show Wp _ _ _ _ _ _
       first
       | refine wp_seq ?_
       | refine wp_region0 ?_
       | refine wp_region ?_
       | refine wp_cond_t rfl ?_
       | refine wp_cond_f rfl ?_
       | refine wp_ret ?_
       | refine wp_skip ?_
       | refine wp_exit ?_
       | refine wp_block ?_
       | fail)
    | refine thenQ_norm ?_
    | refine thenQ_ret ?_
    | refine thenQ_exit ?_
    | refine blockQ_norm ?_
    | refine blockQ_ret ?_
    | refine blockQ_same ?_
    | refine blockQ_ne rfl ?_
    | refine loopQ_norm ?_
    | refine loopQ_ret ?_
    | refine loopQ_exit ?_
    | ((first | apply retQ_ret | apply retQ_norm | apply wpc_of); focus ((try simp (disch := omega) only [push_cast, Nat.reduceEqDiff, ↓reduceIte, reduceCtorEq, Nat.reduceAdd, Nat.reduceMul, Nat.reduceLeDiff, hlen]); rfl))
    | fail)
    · refine (made_spec f1 (by simp; omega) (ht.imp id fun h => by simp; omega)).mono ?_
      rintro v h2 ⟨b, rfl, hs, hk⟩
      (repeat' first
    | (show WpR _ _ _ _ _ _ _ _ _
       first
       | refine wpr_drop ?_
       | refine wpr_p (o := .mv _) (by simp only [ev_mv, opd_s, opd_c, fget, Nat.reduceEqDiff, Nat.one_ne_zero, Nat.zero_ne_one, reduceCtorEq, ↓reduceIte]; rfl) ?_
       | (refine wpr_fork (fun _ => ?_) (fun _ => ?_) <;> try (exfalso; omega))
       | (refine wpr_forkN (fun _ => ?_) (fun _ => ?_) <;> try (exfalso; omega))
       | refine wpr_run rfl ?_
       | refine wpr_pass rfl rfl ?_
       | refine wpr_passS rfl ?_
       | ((first | apply wpr_p | apply wpr_r | apply wpr_callA | apply wpr_callA0 | apply wpr_e0 | apply wpr_e | apply wpr_end0); focus ((try simp (disch := omega) only [push_cast, Nat.reduceEqDiff, ↓reduceIte, reduceCtorEq, Nat.reduceAdd, Nat.reduceMul, Nat.reduceLeDiff]); rfl))
       | refine wpr_pass0 rfl rfl ?_
       | refine wpr_pass0S rfl ?_
       | (apply wpr_end; (focus ((try simp (disch := omega) only [push_cast, Nat.reduceEqDiff, ↓reduceIte, reduceCtorEq, Nat.reduceAdd, Nat.reduceMul, Nat.reduceLeDiff]); rfl)); (focus (simp (disch := omega) only [push_cast, Nat.reduceEqDiff, ↓reduceIte, reduceCtorEq, Nat.reduceAdd, Nat.reduceMul, Nat.reduceLeDiff]; done)))
       | fail)
    | (show Wp _ _ _ _ _ _
       first
       | refine wp_seq ?_
       | refine wp_region0 ?_
       | refine wp_region ?_
       | refine wp_cond_t rfl ?_
       | refine wp_cond_f rfl ?_
       | refine wp_ret ?_
       | refine wp_skip ?_
       | refine wp_exit ?_
       | refine wp_block ?_
       | fail)
    | refine thenQ_norm ?_
    | refine thenQ_ret ?_
    | refine thenQ_exit ?_
    | refine blockQ_norm ?_
    | refine blockQ_ret ?_
    | refine blockQ_same ?_
    | refine blockQ_ne rfl ?_
    | refine loopQ_norm ?_
    | refine loopQ_ret ?_
    | refine loopQ_exit ?_
    | ((first | apply retQ_ret | apply retQ_norm | apply wpc_of); focus ((try simp (disch := omega) only [push_cast, Nat.reduceEqDiff, ↓reduceIte, reduceCtorEq, Nat.reduceAdd, Nat.reduceMul, Nat.reduceLeDiff]); rfl))
    | fail)
      exact ⟨hk, .inr ⟨by omega, b, rfl, hs⟩⟩
    · exact ⟨f1.kp, .inl ⟨by omega, by rw [e1]⟩⟩

end Go.Proofs.Ytanpdopjgepbkaa.AM

/- Rows that are made of rows: apart, rising, of the same numbers. Plain mathematics. -/
set_option linter.unusedVariables false
set_option linter.unusedSimpArgs false
namespace Go.Proofs.Ytanpdopjgepbkaa.AM

/-- A number is in one of the rows. -/
def InR (z : Int) (l : List (Int × Int)) : Prop := ∃ x ∈ l, x.1 ≤ z ∧ z < x.2
/-- Rows that are not empty, rising, apart and not touching. -/
structure Canon (l : List (Int × Int)) : Prop where
  ne : ∀ x ∈ l, x.1 < x.2
  sep : l.Pairwise fun x y => x.2 < y.1

theorem InR.append {z : Int} {l m : List (Int × Int)} : InR z (l ++ m) ↔ InR z l ∨ InR z m := by
  constructor
  · rintro ⟨x, hx, h⟩
    rcases List.mem_append.1 hx with h' | h'
    · exact .inl ⟨x, h', h⟩
    · exact .inr ⟨x, h', h⟩
  · rintro (⟨x, hx, h⟩ | ⟨x, hx, h⟩)
    · exact ⟨x, List.mem_append_left _ hx, h⟩
    · exact ⟨x, List.mem_append_right _ hx, h⟩
theorem InR.one {z : Int} {x : Int × Int} : InR z [x] ↔ x.1 ≤ z ∧ z < x.2 :=
  ⟨fun ⟨y, hy, h⟩ => by rw [List.mem_singleton.1 hy] at h; exact h, fun h => ⟨x, by simp, h⟩⟩
theorem InR.nil {z : Int} : ¬ InR z [] := fun ⟨x, hx, _⟩ => by cases hx
theorem InR.cons {z : Int} {x : Int × Int} {l : List (Int × Int)} : InR z (x :: l) ↔ (x.1 ≤ z ∧ z < x.2) ∨ InR z l := by
  rw [← List.singleton_append, InR.append, InR.one]

theorem addRow_nil (x : Int × Int) : addRow [] x = if x.2 ≤ x.1 then [] else [x] := by
  unfold addRow; split
  · rfl
  · simp
theorem addRow_concat (l : List (Int × Int)) (a x : Int × Int) : addRow (l ++ [a]) x = if x.2 ≤ x.1 then l ++ [a] else if x.1 ≤ a.2 then l ++ [(a.1, max a.2 x.2)] else l ++ [a] ++ [x] := by
  unfold addRow
  by_cases h : x.2 ≤ x.1
  · rw [if_pos h, if_pos h]
  · rw [if_neg h, if_neg h]
    simp

theorem canon_concat {l : List (Int × Int)} {a : Int × Int} : Canon (l ++ [a]) ↔ Canon l ∧ a.1 < a.2 ∧ ∀ x ∈ l, x.2 < a.1 := by
  constructor
  · rintro ⟨h1, h2⟩
    rw [List.pairwise_append] at h2
    exact ⟨⟨fun x hx => h1 x (List.mem_append_left _ hx), h2.1⟩, h1 a (by simp), fun x hx => h2.2.2 x hx a (by simp)⟩
  · rintro ⟨⟨h1, h2⟩, h3, h4⟩
    refine ⟨fun x hx => ?_, List.pairwise_append.2 ⟨h2, by simp, fun x hx y hy => ?_⟩⟩
    · rcases List.mem_append.1 hx with h | h
      · exact h1 x h
      · rw [List.mem_singleton.1 h]; exact h3
    · rw [List.mem_singleton.1 hy]; exact h4 x hx

theorem addRow_spec {acc : List (Int × Int)} {x : Int × Int} (hc : Canon acc) (hle : ∀ a ∈ acc, a.1 ≤ x.1) :
    Canon (addRow acc x) ∧ (∀ z, InR z (addRow acc x) ↔ InR z acc ∨ (x.1 ≤ z ∧ z < x.2)) ∧ ∀ y : Int, x.1 ≤ y → ∀ a ∈ addRow acc x, a.1 ≤ y := by
  rcases List.eq_nil_or_concat acc with rfl | ⟨l, a, rfl⟩
  · rw [addRow_nil]
    split
    · refine ⟨hc, fun z => ?_, fun y _ a ha => by cases ha⟩
      constructor
      · exact .inl
      · rintro (h | h)
        · exact h
        · omega
    · refine ⟨⟨by simp; omega, by simp⟩, fun z => by rw [InR.one]; simp [InR.nil], fun y hy a ha => by rw [List.mem_singleton.1 ha]; exact hy⟩
  · rw [List.concat_eq_append] at *
    rw [addRow_concat]
    obtain ⟨c1, c2, c3⟩ := canon_concat.1 hc
    have ha := hle a (by simp)
    split
    · refine ⟨hc, fun z => ⟨.inl, ?_⟩, fun y hy b hb => Int.le_trans (hle b hb) hy⟩
      rintro (h | h)
      · exact h
      · omega
    · split
      · refine ⟨canon_concat.2 ⟨c1, by simp only; omega, c3⟩, fun z => ?_, fun y hy b hb => ?_⟩
        · rw [InR.append, InR.append, InR.one, InR.one]
          simp only
          constructor
          · rintro (h | h)
            · exact .inl (.inl h)
            · by_cases h' : z < a.2
              · exact .inl (.inr ⟨h.1, h'⟩)
              · exact .inr (by omega)
          · rintro ((h | h) | h)
            · exact .inl h
            · exact .inr (by omega)
            · exact .inr (by omega)
        · rcases List.mem_append.1 hb with h | h
          · exact Int.le_trans (hle b (List.mem_append_left _ h)) hy
          · rw [List.mem_singleton.1 h]; simp only; omega
      · refine ⟨canon_concat.2 ⟨hc, by omega, fun b hb => ?_⟩, fun z => by rw [InR.append, InR.one], fun y hy b hb => ?_⟩
        · rcases List.mem_append.1 hb with h | h
          · have := c3 b h; omega
          · rw [List.mem_singleton.1 h]; omega
        · rcases List.mem_append.1 hb with h | h
          · exact Int.le_trans (hle b h) hy
          · rw [List.mem_singleton.1 h]; exact hy

theorem foldl_spec : ∀ (L acc : List (Int × Int)), Canon acc → (L.Pairwise fun x y => x.1 ≤ y.1) → (∀ a ∈ acc, ∀ y ∈ L, a.1 ≤ y.1) →
    Canon (L.foldl addRow acc) ∧ ∀ z, InR z (L.foldl addRow acc) ↔ InR z acc ∨ InR z L
  | [], acc, hc, _, _ => ⟨hc, fun z => by simp [InR.nil]⟩
  | x :: L, acc, hc, hp, hle => by
    obtain ⟨p1, p2⟩ := List.pairwise_cons.1 hp
    obtain ⟨a1, a2, a3⟩ := addRow_spec (x := x) hc fun a ha => hle a ha x (by simp)
    obtain ⟨b1, b2⟩ := foldl_spec L (addRow acc x) a1 p2 fun a ha y hy => a3 y.1 (p1 y hy) a ha
    refine ⟨b1, fun z => ?_⟩
    simp only [List.foldl_cons]
    rw [b2, a2, InR.cons, or_assoc]

theorem sortF_sorted (l : List (Int × Int)) : (sortF l).Pairwise fun x y => x.1 ≤ y.1 := by
  have h := List.pairwise_mergeSort (le := leRow) (fun a b c h1 h2 => by simp only [leRow, decide_eq_true_eq] at *; omega)
    (fun a b => by simp only [leRow, Bool.or_eq_true, decide_eq_true_eq]; omega) l
  exact h.imp fun h => by simp only [leRow, decide_eq_true_eq] at h; omega
theorem sortF_mem (l : List (Int × Int)) (x : Int × Int) : x ∈ sortF l ↔ x ∈ l := List.mem_mergeSort

theorem madeF_canon (l : List (Int × Int)) : Canon (madeF l) := (foldl_spec (sortF l) [] ⟨by simp, by simp⟩ (sortF_sorted l) (by simp)).1
theorem madeF_in (l : List (Int × Int)) (z : Int) : InR z (madeF l) ↔ InR z l := by
  have := (foldl_spec (sortF l) [] ⟨by simp, by simp⟩ (sortF_sorted l) (by simp)).2 z
  unfold madeF
  rw [this]
  simp only [InR.nil, false_or]
  exact ⟨fun ⟨x, hx, h⟩ => ⟨x, (sortF_mem l x).1 hx, h⟩, fun ⟨x, hx, h⟩ => ⟨x, (sortF_mem l x).2 hx, h⟩⟩
theorem madeF_length (l : List (Int × Int)) : (madeF l).length ≤ l.length := by
  have := foldl_length (sortF l) []
  have h2 := sortF_length l
  unfold madeF
  simp at this
  omega

/-- All rows lie within. -/
def Within (lo hi : Int) (l : List (Int × Int)) : Prop := ∀ x ∈ l, lo ≤ x.1 ∧ x.2 ≤ hi

theorem Canon.within {l : List (Int × Int)} (hc : Canon l) {lo hi : Int} (h : ∀ z, InR z l → lo ≤ z ∧ z < hi) : Within lo hi l := fun x hx => by
  have h1 := h x.1 ⟨x, hx, Int.le_refl _, hc.ne x hx⟩
  have h2 := h (x.2 - 1) ⟨x, hx, by have := hc.ne x hx; omega, by omega⟩
  omega
theorem madeF_within {l : List (Int × Int)} {lo hi : Int} (h : Within lo hi l) : Within lo hi (madeF l) :=
  (madeF_canon l).within fun z hz => by
    obtain ⟨x, hx, h1⟩ := (madeF_in l z).1 hz
    have := h x hx
    omega

theorem Canon.tail {x : Int × Int} {l : List (Int × Int)} (h : Canon (x :: l)) : Canon l := ⟨fun y hy => h.ne y (List.mem_cons_of_mem _ hy), (List.pairwise_cons.1 h.sep).2⟩
theorem Canon.head_lt {x : Int × Int} {l : List (Int × Int)} (h : Canon (x :: l)) {z : Int} (hz : InR z l) : x.2 < z := by
  obtain ⟨y, hy, h1⟩ := hz
  have := (List.pairwise_cons.1 h.sep).1 y hy
  omega

/-- Rows apart are one list just if they have the same numbers. -/
theorem Canon.ext : ∀ {l m : List (Int × Int)}, Canon l → Canon m → (∀ z, InR z l ↔ InR z m) → l = m
  | [], [], _, _, _ => rfl
  | [], y :: m, _, hm, h => absurd ((h y.1).2 (InR.cons.2 (.inl ⟨Int.le_refl _, hm.ne y (by simp)⟩))) InR.nil
  | x :: l, [], hl, _, h => absurd ((h x.1).1 (InR.cons.2 (.inl ⟨Int.le_refl _, hl.ne x (by simp)⟩))) InR.nil
  | x :: l, y :: m, hl, hm, h => by
    have hx := hl.ne x (by simp)
    have hy := hm.ne y (by simp)
    -- the beginnings
    have e1 : x.1 = y.1 := by
      have a := (h x.1).1 (InR.cons.2 (.inl ⟨Int.le_refl _, hx⟩))
      have b := (h y.1).2 (InR.cons.2 (.inl ⟨Int.le_refl _, hy⟩))
      rcases InR.cons.1 a with a | a <;> rcases InR.cons.1 b with b | b
      · omega
      · have := hl.head_lt b; omega
      · have := hm.head_lt a; omega
      · have := hl.head_lt b; have := hm.head_lt a; omega
    have e2 : x.2 = y.2 := by
      rcases Int.lt_trichotomy x.2 y.2 with hlt | he | hgt
      · exfalso
        have a := (h x.2).2 (InR.cons.2 (.inl ⟨by omega, hlt⟩))
        rcases InR.cons.1 a with a | a
        · omega
        · have := hl.head_lt a; omega
      · exact he
      · exfalso
        have a := (h y.2).1 (InR.cons.2 (.inl ⟨by omega, hgt⟩))
        rcases InR.cons.1 a with a | a
        · omega
        · have := hm.head_lt a; omega
    have exy : x = y := Prod.ext e1 e2
    subst exy
    congr 1
    refine Canon.ext hl.tail hm.tail fun z => ⟨fun hz => ?_, fun hz => ?_⟩
    · rcases InR.cons.1 ((h z).1 (InR.cons.2 (.inr hz))) with a | a
      · have := hl.head_lt hz; omega
      · exact a
    · rcases InR.cons.1 ((h z).2 (InR.cons.2 (.inr hz))) with a | a
      · have := hm.head_lt hz; omega
      · exact a

end Go.Proofs.Ytanpdopjgepbkaa.AM

/- What a set tells: its size, its spans; and the document's. -/
set_option linter.unusedVariables false
set_option linter.unusedSimpArgs false
namespace Go.Proofs.Ytanpdopjgepbkaa.AM
open Go

/-! ### Why there is none -/

theorem wrongF_cases (x : Int × Int) : wrongF x = 0 ∨ wrongF x = 11 ∨ wrongF x = 12 := by
  unfold wrongF; split
  · exact .inr (.inr rfl)
  · split
    · exact .inr (.inl rfl)
    · exact .inl rfl

theorem ofAt_12 (l : List (Int × Int)) : ∀ (k i : Nat) (why : Int), l.length - i = k → (∃ x ∈ l.drop i, wrongF x = 12) → ofAt l i why = 12
  | 0, i, why, hk, ⟨x, hx, _⟩ => by rw [List.drop_of_length_le (by omega)] at hx; cases hx
  | k + 1, i, why, hk, ⟨x, hx, h⟩ => by
    have hil : i < l.length := by omega
    rw [ofAt, dif_pos hil]
    rw [List.drop_eq_getElem_cons hil] at hx
    split
    · rfl
    · rename_i hne
      have hx' : x ∈ l.drop (i + 1) := by
        rcases List.mem_cons.1 hx with e | h'
        · subst e; exact absurd h hne
        · exact h'
      split <;> exact ofAt_12 l k (i + 1) _ (by omega) ⟨x, hx', h⟩
theorem ofAt_why (l : List (Int × Int)) : ∀ (k i : Nat) (why : Int), l.length - i = k → (∀ x ∈ l.drop i, wrongF x ≠ 12) → ofAt l i why = if why = 0 then (if ∃ x ∈ l.drop i, wrongF x = 11 then 11 else 0) else why
  | 0, i, why, hk, h => by
    rw [ofAt, dif_neg (by omega), List.drop_of_length_le (by omega)]
    by_cases hw : why = 0
    · rw [if_pos hw, hw]; simp
    · rw [if_neg hw]
  | k + 1, i, why, hk, h => by
    have hil : i < l.length := by omega
    rw [List.drop_eq_getElem_cons hil] at h ⊢
    have h0 := h l[i] List.mem_cons_self
    have ih := fun w => ofAt_why l k (i + 1) w (by omega) fun x hx => h x (List.mem_cons_of_mem _ hx)
    rw [ofAt, dif_pos hil, if_neg h0]
    by_cases hw : why = 0
    · subst hw
      by_cases hz : wrongF l[i] = 0
      · rw [if_neg (fun hc => hc.1 hz), ih, if_pos rfl, if_pos rfl]
        have : (∃ x ∈ l[i] :: l.drop (i + 1), wrongF x = 11) ↔ ∃ x ∈ l.drop (i + 1), wrongF x = 11 := by
          constructor
          · rintro ⟨x, hx, e⟩
            rcases List.mem_cons.1 hx with e' | h'
            · subst e'; omega
            · exact ⟨x, h', e⟩
          · rintro ⟨x, hx, e⟩; exact ⟨x, List.mem_cons_of_mem _ hx, e⟩
        simp only [this]
      · have h11 : wrongF l[i] = 11 := by rcases wrongF_cases l[i] with e | e | e <;> omega
        rw [if_pos ⟨hz, rfl⟩, ih, if_neg hz, if_pos rfl, if_pos ⟨l[i], List.mem_cons_self, h11⟩, h11]
    · rw [if_neg (fun hc => hw hc.2), ih, if_neg hw, if_neg hw]

theorem refOf_eq (l : List (Int × Int)) (s : Sl) (h : AH) (hr : Reads h 2 s (l.map spanV)) (hn : l.length < 1000000000) (hb : Span32 l) : callO PS 59 [s.val 2] h = some (.int .i64 (ofAt l 0 0), h) := by
  have hlen := hr.len
  apply WpC.eqn
  refine wpc_fn (ps_ext rfl) (ps_fn fn59) rfl ?_
  unfold LF59
  simp only [argFr]
  (repeat' first
    | (show WpR _ _ _ _ _ _ _ _ _
       first
       | refine wpr_drop ?_
       | refine wpr_p (o := .mv _) (by simp only [ev_mv, opd_s, opd_c, fget, Nat.reduceEqDiff, Nat.one_ne_zero, Nat.zero_ne_one, reduceCtorEq, ↓reduceIte]; rfl) ?_
       | (refine wpr_fork (fun _ => ?_) (fun _ => ?_) <;> try (exfalso; omega))
       | (refine wpr_forkN (fun _ => ?_) (fun _ => ?_) <;> try (exfalso; omega))
       | refine wpr_run rfl ?_
       | refine wpr_pass rfl rfl ?_
       | refine wpr_passS rfl ?_
       | ((first | apply wpr_p | apply wpr_r | apply wpr_callA | apply wpr_callA0 | apply wpr_e0 | apply wpr_e | apply wpr_end0); focus ((try simp (disch := omega) only [push_cast, Nat.reduceEqDiff, ↓reduceIte, reduceCtorEq, Nat.reduceAdd, Nat.reduceMul, Nat.reduceLeDiff, hlen]); rfl))
       | refine wpr_pass0 rfl rfl ?_
       | refine wpr_pass0S rfl ?_
       | (apply wpr_end; (focus ((try simp (disch := omega) only [push_cast, Nat.reduceEqDiff, ↓reduceIte, reduceCtorEq, Nat.reduceAdd, Nat.reduceMul, Nat.reduceLeDiff, hlen]); rfl)); (focus (simp (disch := omega) only [push_cast, Nat.reduceEqDiff, ↓reduceIte, reduceCtorEq, Nat.reduceAdd, Nat.reduceMul, Nat.reduceLeDiff, hlen]; done)))
       | fail)
    | (show Wp _ _ _ _ _ _
       first
       | refine wp_seq ?_
       | refine wp_region0 ?_
       | refine wp_region ?_
       | refine wp_cond_t rfl ?_
       | refine wp_cond_f rfl ?_
       | refine wp_ret ?_
       | refine wp_skip ?_
       | refine wp_exit ?_
       | refine wp_block ?_
       | fail)
    | refine thenQ_norm ?_
    | refine thenQ_ret ?_
    | refine thenQ_exit ?_
    | refine blockQ_norm ?_
    | refine blockQ_ret ?_
    | refine blockQ_same ?_
    | refine blockQ_ne rfl ?_
    | refine loopQ_norm ?_
    | refine loopQ_ret ?_
    | refine loopQ_exit ?_
    | ((first | apply retQ_ret | apply retQ_norm | apply wpc_of); focus ((try simp (disch := omega) only [push_cast, Nat.reduceEqDiff, ↓reduceIte, reduceCtorEq, Nat.reduceAdd, Nat.reduceMul, Nat.reduceLeDiff, hlen]); rfl))
    | fail)
  refine wp_loop (fun n fr lc h1 => ∃ (i : Nat), n = l.length - i ∧ i ≤ l.length ∧ fr = [(0, s.val 2), (3, .int .i64 i)] ∧ lc = [] ∧ h1 = h ∧ ∀ x ∈ l.take i, wrongF x ≠ 12)
    l.length ⟨0, rfl, Nat.zero_le _, rfl, rfl, rfl, by simp⟩ ?_
  rintro n fr lc h1 ⟨i, rfl, hi, rfl, rfl, rfl, hI⟩
  rcases Nat.lt_or_ge i l.length with hil | hil
  · have hbi := hb l[i] (List.getElem_mem hil)
    have hmem : l[i] ∈ l := List.getElem_mem hil
    have htk : l.take (i + 1) = l.take i ++ [l[i]] := List.take_succ_eq_append_getElem hil
    generalize hx : l[i] = x at hbi hmem htk
    have hxr : ∀ lc, Mem.rd ⟨lc, h1⟩ (s.adr 2 i) 2 = some (spanV x) := fun lc => by rw [← hx]; exact rd_map hr hil
    have hw : wrongF (x.1, x.2) = wrongF x := rfl
    (repeat' first
    | (show WpR _ _ _ _ _ _ _ _ _
       first
       | refine wpr_drop ?_
       | refine wpr_p (o := .mv _) (by simp only [ev_mv, opd_s, opd_c, fget, Nat.reduceEqDiff, Nat.one_ne_zero, Nat.zero_ne_one, reduceCtorEq, ↓reduceIte]; rfl) ?_
       | (refine wpr_fork (fun _ => ?_) (fun _ => ?_) <;> try (exfalso; omega))
       | (refine wpr_forkN (fun _ => ?_) (fun _ => ?_) <;> try (exfalso; omega))
       | refine wpr_run rfl ?_
       | refine wpr_pass rfl rfl ?_
       | refine wpr_passS rfl ?_
       | ((first | apply wpr_p | apply wpr_r | apply wpr_callA | apply wpr_callA0 | apply wpr_e0 | apply wpr_e | apply wpr_end0); focus ((try simp (disch := omega) only [push_cast, Nat.reduceEqDiff, ↓reduceIte, reduceCtorEq, Nat.reduceAdd, Nat.reduceMul, Nat.reduceLeDiff, hlen, hxr, spanV, hw]); rfl))
       | refine wpr_pass0 rfl rfl ?_
       | refine wpr_pass0S rfl ?_
       | (apply wpr_end; (focus ((try simp (disch := omega) only [push_cast, Nat.reduceEqDiff, ↓reduceIte, reduceCtorEq, Nat.reduceAdd, Nat.reduceMul, Nat.reduceLeDiff, hlen, hxr, spanV, hw]); rfl)); (focus (simp (disch := omega) only [push_cast, Nat.reduceEqDiff, ↓reduceIte, reduceCtorEq, Nat.reduceAdd, Nat.reduceMul, Nat.reduceLeDiff, hlen, hxr, spanV, hw]; done)))
       | fail)
    | (show Wp _ _ _ _ _ _
       first
       | refine wp_seq ?_
       | refine wp_region0 ?_
       | refine wp_region ?_
       | refine wp_cond_t rfl ?_
       | refine wp_cond_f rfl ?_
       | refine wp_ret ?_
       | refine wp_skip ?_
       | refine wp_exit ?_
       | refine wp_block ?_
       | fail)
    | refine thenQ_norm ?_
    | refine thenQ_ret ?_
    | refine thenQ_exit ?_
    | refine blockQ_norm ?_
    | refine blockQ_ret ?_
    | refine blockQ_same ?_
    | refine blockQ_ne rfl ?_
    | refine loopQ_norm ?_
    | refine loopQ_ret ?_
    | refine loopQ_exit ?_
    | ((first | apply retQ_ret | apply retQ_norm | apply wpc_of); focus ((try simp (disch := omega) only [push_cast, Nat.reduceEqDiff, ↓reduceIte, reduceCtorEq, Nat.reduceAdd, Nat.reduceMul, Nat.reduceLeDiff, hlen, hxr, spanV, hw]); rfl))
    | fail)
    · rename_i g1 g2
      exact ⟨by rw [ofAt_12 l l.length 0 0 (by omega) ⟨x, by simpa using hmem, g2⟩], rfl⟩
    · rename_i g1 g2
      refine ⟨_, ?_, i + 1, rfl, by omega, rfl, rfl, rfl, fun y hy => ?_⟩
      · omega
      · rw [htk] at hy
        rcases List.mem_append.1 hy with h | h
        · exact hI y h
        · rw [List.mem_singleton.1 h]; exact g2
  · have hall : l.take i = l := List.take_of_length_le (by omega)
    rw [hall] at hI
    (repeat' first
    | (show WpR _ _ _ _ _ _ _ _ _
       first
       | refine wpr_drop ?_
       | refine wpr_p (o := .mv _) (by simp only [ev_mv, opd_s, opd_c, fget, Nat.reduceEqDiff, Nat.one_ne_zero, Nat.zero_ne_one, reduceCtorEq, ↓reduceIte]; rfl) ?_
       | (refine wpr_fork (fun _ => ?_) (fun _ => ?_) <;> try (exfalso; omega))
       | (refine wpr_forkN (fun _ => ?_) (fun _ => ?_) <;> try (exfalso; omega))
       | refine wpr_run rfl ?_
       | refine wpr_pass rfl rfl ?_
       | refine wpr_passS rfl ?_
       | ((first | apply wpr_p | apply wpr_r | apply wpr_callA | apply wpr_callA0 | apply wpr_e0 | apply wpr_e | apply wpr_end0); focus ((try simp (disch := omega) only [push_cast, Nat.reduceEqDiff, ↓reduceIte, reduceCtorEq, Nat.reduceAdd, Nat.reduceMul, Nat.reduceLeDiff, hlen]); rfl))
       | refine wpr_pass0 rfl rfl ?_
       | refine wpr_pass0S rfl ?_
       | (apply wpr_end; (focus ((try simp (disch := omega) only [push_cast, Nat.reduceEqDiff, ↓reduceIte, reduceCtorEq, Nat.reduceAdd, Nat.reduceMul, Nat.reduceLeDiff, hlen]); rfl)); (focus (simp (disch := omega) only [push_cast, Nat.reduceEqDiff, ↓reduceIte, reduceCtorEq, Nat.reduceAdd, Nat.reduceMul, Nat.reduceLeDiff, hlen]; done)))
       | fail)
    | (show Wp _ _ _ _ _ _
       first
       | refine wp_seq ?_
       | refine wp_region0 ?_
       | refine wp_region ?_
       | refine wp_cond_t rfl ?_
       | refine wp_cond_f rfl ?_
       | refine wp_ret ?_
       | refine wp_skip ?_
       | refine wp_exit ?_
       | refine wp_block ?_
       | fail)
    | refine thenQ_norm ?_
    | refine thenQ_ret ?_
    | refine thenQ_exit ?_
    | refine blockQ_norm ?_
    | refine blockQ_ret ?_
    | refine blockQ_same ?_
    | refine blockQ_ne rfl ?_
    | refine loopQ_norm ?_
    | refine loopQ_ret ?_
    | refine loopQ_exit ?_
    | ((first | apply retQ_ret | apply retQ_norm | apply wpc_of); focus ((try simp (disch := omega) only [push_cast, Nat.reduceEqDiff, ↓reduceIte, reduceCtorEq, Nat.reduceAdd, Nat.reduceMul, Nat.reduceLeDiff, hlen]); rfl))
    | fail)
    refine wp_loop (fun n fr lc h1' => ∃ (i : Nat), n = l.length - i ∧ i ≤ l.length ∧ fr = [(0, s.val 2), (4, .int .i64 i)] ∧ lc = [] ∧ h1' = h1 ∧ ∀ x ∈ l.take i, wrongF x ≠ 11)
      l.length ⟨0, rfl, Nat.zero_le _, rfl, rfl, rfl, by simp⟩ ?_
    rintro n fr lc h2 ⟨j, rfl, hj, rfl, rfl, rfl, hJ⟩
    have hof := ofAt_why l l.length 0 0 (by omega) (by simpa using hI)
    simp only [List.drop_zero, if_true] at hof
    rcases Nat.lt_or_ge j l.length with hjl | hjl
    · have hbi := hb l[j] (List.getElem_mem hjl)
      have hmem : l[j] ∈ l := List.getElem_mem hjl
      have htk : l.take (j + 1) = l.take j ++ [l[j]] := List.take_succ_eq_append_getElem hjl
      generalize hx : l[j] = x at hbi hmem htk
      have hxr : ∀ lc, Mem.rd ⟨lc, h2⟩ (s.adr 2 j) 2 = some (spanV x) := fun lc => by rw [← hx]; exact rd_map hr hjl
      have hw : wrongF (x.1, x.2) = wrongF x := rfl
      (repeat' first
    | (show WpR _ _ _ _ _ _ _ _ _
       first
       | refine wpr_drop ?_
       | refine wpr_p (o := .mv _) (by simp only [ev_mv, opd_s, opd_c, fget, Nat.reduceEqDiff, Nat.one_ne_zero, Nat.zero_ne_one, reduceCtorEq, ↓reduceIte]; rfl) ?_
       | (refine wpr_fork (fun _ => ?_) (fun _ => ?_) <;> try (exfalso; omega))
       | (refine wpr_forkN (fun _ => ?_) (fun _ => ?_) <;> try (exfalso; omega))
       | refine wpr_run rfl ?_
       | refine wpr_pass rfl rfl ?_
       | refine wpr_passS rfl ?_
       | ((first | apply wpr_p | apply wpr_r | apply wpr_callA | apply wpr_callA0 | apply wpr_e0 | apply wpr_e | apply wpr_end0); focus ((try simp (disch := omega) only [push_cast, Nat.reduceEqDiff, ↓reduceIte, reduceCtorEq, Nat.reduceAdd, Nat.reduceMul, Nat.reduceLeDiff, hlen, hxr, spanV, hw]); rfl))
       | refine wpr_pass0 rfl rfl ?_
       | refine wpr_pass0S rfl ?_
       | (apply wpr_end; (focus ((try simp (disch := omega) only [push_cast, Nat.reduceEqDiff, ↓reduceIte, reduceCtorEq, Nat.reduceAdd, Nat.reduceMul, Nat.reduceLeDiff, hlen, hxr, spanV, hw]); rfl)); (focus (simp (disch := omega) only [push_cast, Nat.reduceEqDiff, ↓reduceIte, reduceCtorEq, Nat.reduceAdd, Nat.reduceMul, Nat.reduceLeDiff, hlen, hxr, spanV, hw]; done)))
       | fail)
    | (show Wp _ _ _ _ _ _
       first
       | refine wp_seq ?_
       | refine wp_region0 ?_
       | refine wp_region ?_
       | refine wp_cond_t rfl ?_
       | refine wp_cond_f rfl ?_
       | refine wp_ret ?_
       | refine wp_skip ?_
       | refine wp_exit ?_
       | refine wp_block ?_
       | fail)
    | refine thenQ_norm ?_
    | refine thenQ_ret ?_
    | refine thenQ_exit ?_
    | refine blockQ_norm ?_
    | refine blockQ_ret ?_
    | refine blockQ_same ?_
    | refine blockQ_ne rfl ?_
    | refine loopQ_norm ?_
    | refine loopQ_ret ?_
    | refine loopQ_exit ?_
    | ((first | apply retQ_ret | apply retQ_norm | apply wpc_of); focus ((try simp (disch := omega) only [push_cast, Nat.reduceEqDiff, ↓reduceIte, reduceCtorEq, Nat.reduceAdd, Nat.reduceMul, Nat.reduceLeDiff, hlen, hxr, spanV, hw]); rfl))
    | fail)
      · rename_i g1 g2
        exact ⟨by rw [hof, if_pos ⟨x, hmem, g2⟩], rfl⟩
      · rename_i g1 g2
        refine ⟨_, ?_, j + 1, rfl, by omega, rfl, rfl, rfl, fun y hy => ?_⟩
        · omega
        · rw [htk] at hy
          rcases List.mem_append.1 hy with h | h
          · exact hJ y h
          · rw [List.mem_singleton.1 h]; exact g2
    · have hall : l.take j = l := List.take_of_length_le (by omega)
      rw [hall] at hJ
      (repeat' first
    | (show WpR _ _ _ _ _ _ _ _ _
       first
       | refine wpr_drop ?_
       | refine wpr_p (o := .mv _) (by simp only [ev_mv, opd_s, opd_c, fget, Nat.reduceEqDiff, Nat.one_ne_zero, Nat.zero_ne_one, reduceCtorEq, ↓reduceIte]; rfl) ?_
       | (refine wpr_fork (fun _ => ?_) (fun _ => ?_) <;> try (exfalso; omega))
       | (refine wpr_forkN (fun _ => ?_) (fun _ => ?_) <;> try (exfalso; omega))
       | refine wpr_run rfl ?_
       | refine wpr_pass rfl rfl ?_
       | refine wpr_passS rfl ?_
       | ((first | apply wpr_p | apply wpr_r | apply wpr_callA | apply wpr_callA0 | apply wpr_e0 | apply wpr_e | apply wpr_end0); focus ((try simp (disch := omega) only [push_cast, Nat.reduceEqDiff, ↓reduceIte, reduceCtorEq, Nat.reduceAdd, Nat.reduceMul, Nat.reduceLeDiff, hlen]); rfl))
       | refine wpr_pass0 rfl rfl ?_
       | refine wpr_pass0S rfl ?_
       | (apply wpr_end; (focus ((try simp (disch := omega) only [push_cast, Nat.reduceEqDiff, ↓reduceIte, reduceCtorEq, Nat.reduceAdd, Nat.reduceMul, Nat.reduceLeDiff, hlen]); rfl)); (focus (simp (disch := omega) only [push_cast, Nat.reduceEqDiff, ↓reduceIte, reduceCtorEq, Nat.reduceAdd, Nat.reduceMul, Nat.reduceLeDiff, hlen]; done)))
       | fail)
    | (show Wp _ _ _ _ _ _
       first
       | refine wp_seq ?_
       | refine wp_region0 ?_
       | refine wp_region ?_
       | refine wp_cond_t rfl ?_
       | refine wp_cond_f rfl ?_
       | refine wp_ret ?_
       | refine wp_skip ?_
       | refine wp_exit ?_
       | refine wp_block ?_
       | fail)
    | refine thenQ_norm ?_
    | refine thenQ_ret ?_
    | refine thenQ_exit ?_
    | refine blockQ_norm ?_
    | refine blockQ_ret ?_
    | refine blockQ_same ?_
    | refine blockQ_ne rfl ?_
    | refine loopQ_norm ?_
    | refine loopQ_ret ?_
    | refine loopQ_exit ?_
    | ((first | apply retQ_ret | apply retQ_norm | apply wpc_of); focus ((try simp (disch := omega) only [push_cast, Nat.reduceEqDiff, ↓reduceIte, reduceCtorEq, Nat.reduceAdd, Nat.reduceMul, Nat.reduceLeDiff, hlen]); rfl))
    | fail)
      exact ⟨by rw [hof, if_neg (fun ⟨x, hx, e⟩ => hJ x hx e)], rfl⟩

/-! ### How many -/

def sizeR : List (Int × Int) → Int
  | [] => 0
  | x :: r => x.2 - x.1 + sizeR r
theorem sizeR_append (l m : List (Int × Int)) : sizeR (l ++ m) = sizeR l + sizeR m := by
  induction l with
  | nil => simp [sizeR]
  | cons x r ih => simp only [List.cons_append, sizeR, ih]; omega
theorem sizeR_bound {l : List (Int × Int)} (h : ∀ x ∈ l, 0 ≤ x.1 ∧ x.1 ≤ x.2 ∧ x.2 ≤ 1112064) : 0 ≤ sizeR l ∧ sizeR l ≤ l.length * 1112064 := by
  induction l with
  | nil => simp [sizeR]
  | cons x r ih =>
    have h1 := h x (by simp)
    have h2 := ih fun y hy => h y (List.mem_cons_of_mem _ hy)
    simp only [sizeR, List.length_cons]
    omega

theorem sizeSet_eq {rows : List (Int × Int)} {b : Nat} {h : AH} (hs : SetR h b rows) (hr0 : ∀ x ∈ rows, 0 ≤ x.1 ∧ x.1 ≤ x.2 ∧ x.2 ≤ 1112064) (hn : rows.length < 1000000000) :
    callO PS 20 [.pointer (some ⟨b, 0, none⟩)] h = some (.int .i64 (sizeR rows), h) := by
  obtain ⟨s, hg, hr⟩ := hs
  have hlen := hr.len
  apply WpC.eqn
  refine wpc_fn (ps_ext rfl) (ps_fn fn20) rfl ?_
  unfold LF20
  simp only [argFr]
  (repeat' first
    | (show WpR _ _ _ _ _ _ _ _ _
       first
       | refine wpr_drop ?_
       | refine wpr_p (o := .mv _) (by simp only [ev_mv, opd_s, opd_c, fget, Nat.reduceEqDiff, Nat.one_ne_zero, Nat.zero_ne_one, reduceCtorEq, ↓reduceIte]; rfl) ?_
       | (refine wpr_fork (fun _ => ?_) (fun _ => ?_) <;> try (exfalso; omega))
       | (refine wpr_forkN (fun _ => ?_) (fun _ => ?_) <;> try (exfalso; omega))
       | refine wpr_run rfl ?_
       | refine wpr_pass rfl rfl ?_
       | refine wpr_passS rfl ?_
       | ((first | apply wpr_p | apply wpr_r | apply wpr_callA | apply wpr_callA0 | apply wpr_e0 | apply wpr_e | apply wpr_end0); focus ((try simp (disch := omega) only [push_cast, Nat.reduceEqDiff, ↓reduceIte, reduceCtorEq, Nat.reduceAdd, Nat.reduceMul, Nat.reduceLeDiff, hlen, hg]); rfl))
       | refine wpr_pass0 rfl rfl ?_
       | refine wpr_pass0S rfl ?_
       | (apply wpr_end; (focus ((try simp (disch := omega) only [push_cast, Nat.reduceEqDiff, ↓reduceIte, reduceCtorEq, Nat.reduceAdd, Nat.reduceMul, Nat.reduceLeDiff, hlen, hg]); rfl)); (focus (simp (disch := omega) only [push_cast, Nat.reduceEqDiff, ↓reduceIte, reduceCtorEq, Nat.reduceAdd, Nat.reduceMul, Nat.reduceLeDiff, hlen, hg]; done)))
       | fail)
    | (show Wp _ _ _ _ _ _
       first
       | refine wp_seq ?_
       | refine wp_region0 ?_
       | refine wp_region ?_
       | refine wp_cond_t rfl ?_
       | refine wp_cond_f rfl ?_
       | refine wp_ret ?_
       | refine wp_skip ?_
       | refine wp_exit ?_
       | refine wp_block ?_
       | fail)
    | refine thenQ_norm ?_
    | refine thenQ_ret ?_
    | refine thenQ_exit ?_
    | refine blockQ_norm ?_
    | refine blockQ_ret ?_
    | refine blockQ_same ?_
    | refine blockQ_ne rfl ?_
    | refine loopQ_norm ?_
    | refine loopQ_ret ?_
    | refine loopQ_exit ?_
    | ((first | apply retQ_ret | apply retQ_norm | apply wpc_of); focus ((try simp (disch := omega) only [push_cast, Nat.reduceEqDiff, ↓reduceIte, reduceCtorEq, Nat.reduceAdd, Nat.reduceMul, Nat.reduceLeDiff, hlen, hg]); rfl))
    | fail)
  refine wp_loop (fun n fr lc h1 => ∃ (i : Nat), n = rows.length - i ∧ i ≤ rows.length ∧ fr = [(3, .int .i64 (sizeR (rows.take i))), (9, s.val 2), (10, .int .i64 rows.length), (11, .int .i64 i)] ∧ lc = [] ∧ h1 = h)
    rows.length ⟨0, rfl, Nat.zero_le _, rfl, rfl, rfl⟩ ?_
  rintro n fr lc h1 ⟨i, rfl, hi, rfl, rfl, rfl⟩
  have hbd := sizeR_bound (l := rows.take i) fun x hx => hr0 x (List.mem_of_mem_take hx)
  have htl : (rows.take i).length ≤ rows.length := by rw [List.length_take]; omega
  rcases Nat.lt_or_ge i rows.length with hil | hil
  · have hb := hr0 rows[i] (List.getElem_mem hil)
    have htk : rows.take (i + 1) = rows.take i ++ [rows[i]] := List.take_succ_eq_append_getElem hil
    generalize hx : rows[i] = x at hb htk
    have hxr : ∀ lc, Mem.rd ⟨lc, h1⟩ (s.adr 2 i) 2 = some (rowV x) := fun lc => by rw [← hx]; exact rd_map hr hil
    have hst : sizeR (rows.take (i + 1)) = sizeR (rows.take i) + (x.2 - x.1) := by rw [htk, sizeR_append]; simp [sizeR]
    (repeat' first
    | (show WpR _ _ _ _ _ _ _ _ _
       first
       | refine wpr_drop ?_
       | refine wpr_p (o := .mv _) (by simp only [ev_mv, opd_s, opd_c, fget, Nat.reduceEqDiff, Nat.one_ne_zero, Nat.zero_ne_one, reduceCtorEq, ↓reduceIte]; rfl) ?_
       | (refine wpr_fork (fun _ => ?_) (fun _ => ?_) <;> try (exfalso; omega))
       | (refine wpr_forkN (fun _ => ?_) (fun _ => ?_) <;> try (exfalso; omega))
       | refine wpr_run rfl ?_
       | refine wpr_pass rfl rfl ?_
       | refine wpr_passS rfl ?_
       | ((first | apply wpr_p | apply wpr_r | apply wpr_callA | apply wpr_callA0 | apply wpr_e0 | apply wpr_e | apply wpr_end0); focus ((try simp (disch := omega) only [push_cast, Nat.reduceEqDiff, ↓reduceIte, reduceCtorEq, Nat.reduceAdd, Nat.reduceMul, Nat.reduceLeDiff, hlen, hxr, rowV]); rfl))
       | refine wpr_pass0 rfl rfl ?_
       | refine wpr_pass0S rfl ?_
       | (apply wpr_end; (focus ((try simp (disch := omega) only [push_cast, Nat.reduceEqDiff, ↓reduceIte, reduceCtorEq, Nat.reduceAdd, Nat.reduceMul, Nat.reduceLeDiff, hlen, hxr, rowV]); rfl)); (focus (simp (disch := omega) only [push_cast, Nat.reduceEqDiff, ↓reduceIte, reduceCtorEq, Nat.reduceAdd, Nat.reduceMul, Nat.reduceLeDiff, hlen, hxr, rowV]; done)))
       | fail)
    | (show Wp _ _ _ _ _ _
       first
       | refine wp_seq ?_
       | refine wp_region0 ?_
       | refine wp_region ?_
       | refine wp_cond_t rfl ?_
       | refine wp_cond_f rfl ?_
       | refine wp_ret ?_
       | refine wp_skip ?_
       | refine wp_exit ?_
       | refine wp_block ?_
       | fail)
    | refine thenQ_norm ?_
    | refine thenQ_ret ?_
    | refine thenQ_exit ?_
    | refine blockQ_norm ?_
    | refine blockQ_ret ?_
    | refine blockQ_same ?_
    | refine blockQ_ne rfl ?_
    | refine loopQ_norm ?_
    | refine loopQ_ret ?_
    | refine loopQ_exit ?_
    | ((first | apply retQ_ret | apply retQ_norm | apply wpc_of); focus ((try simp (disch := omega) only [push_cast, Nat.reduceEqDiff, ↓reduceIte, reduceCtorEq, Nat.reduceAdd, Nat.reduceMul, Nat.reduceLeDiff, hlen, hxr, rowV]); rfl))
    | fail)
    refine ⟨_, ?_, i + 1, rfl, by omega, ?_, rfl, rfl⟩
    · omega
    · rw [hst]; rfl
  · have hall : rows.take i = rows := List.take_of_length_le (by omega)
    (repeat' first
    | (show WpR _ _ _ _ _ _ _ _ _
       first
       | refine wpr_drop ?_
       | refine wpr_p (o := .mv _) (by simp only [ev_mv, opd_s, opd_c, fget, Nat.reduceEqDiff, Nat.one_ne_zero, Nat.zero_ne_one, reduceCtorEq, ↓reduceIte]; rfl) ?_
       | (refine wpr_fork (fun _ => ?_) (fun _ => ?_) <;> try (exfalso; omega))
       | (refine wpr_forkN (fun _ => ?_) (fun _ => ?_) <;> try (exfalso; omega))
       | refine wpr_run rfl ?_
       | refine wpr_pass rfl rfl ?_
       | refine wpr_passS rfl ?_
       | ((first | apply wpr_p | apply wpr_r | apply wpr_callA | apply wpr_callA0 | apply wpr_e0 | apply wpr_e | apply wpr_end0); focus ((try simp (disch := omega) only [push_cast, Nat.reduceEqDiff, ↓reduceIte, reduceCtorEq, Nat.reduceAdd, Nat.reduceMul, Nat.reduceLeDiff, hlen]); rfl))
       | refine wpr_pass0 rfl rfl ?_
       | refine wpr_pass0S rfl ?_
       | (apply wpr_end; (focus ((try simp (disch := omega) only [push_cast, Nat.reduceEqDiff, ↓reduceIte, reduceCtorEq, Nat.reduceAdd, Nat.reduceMul, Nat.reduceLeDiff, hlen]); rfl)); (focus (simp (disch := omega) only [push_cast, Nat.reduceEqDiff, ↓reduceIte, reduceCtorEq, Nat.reduceAdd, Nat.reduceMul, Nat.reduceLeDiff, hlen]; done)))
       | fail)
    | (show Wp _ _ _ _ _ _
       first
       | refine wp_seq ?_
       | refine wp_region0 ?_
       | refine wp_region ?_
       | refine wp_cond_t rfl ?_
       | refine wp_cond_f rfl ?_
       | refine wp_ret ?_
       | refine wp_skip ?_
       | refine wp_exit ?_
       | refine wp_block ?_
       | fail)
    | refine thenQ_norm ?_
    | refine thenQ_ret ?_
    | refine thenQ_exit ?_
    | refine blockQ_norm ?_
    | refine blockQ_ret ?_
    | refine blockQ_same ?_
    | refine blockQ_ne rfl ?_
    | refine loopQ_norm ?_
    | refine loopQ_ret ?_
    | refine loopQ_exit ?_
    | ((first | apply retQ_ret | apply retQ_norm | apply wpc_of); focus ((try simp (disch := omega) only [push_cast, Nat.reduceEqDiff, ↓reduceIte, reduceCtorEq, Nat.reduceAdd, Nat.reduceMul, Nat.reduceLeDiff, hlen]); rfl))
    | fail)
    exact ⟨by rw [hall], rfl⟩

def sizeS : List (Int × Int) → Int
  | [] => 0
  | x :: r => sizeF x + sizeS r
theorem sizeS_append (l m : List (Int × Int)) : sizeS (l ++ m) = sizeS l + sizeS m := by
  induction l with
  | nil => simp [sizeS]
  | cons x r ih => simp only [List.cons_append, sizeS, ih]; omega
theorem sizeS_bound {l : List (Int × Int)} (h : ∀ x ∈ l, 0 ≤ x.1 ∧ x.1 ≤ 1114111 ∧ 0 ≤ x.2 ∧ x.2 ≤ 1114111) : -(l.length * 2000000) ≤ sizeS l ∧ sizeS l ≤ l.length * 2000000 := by
  induction l with
  | nil => simp [sizeS]
  | cons x r ih =>
    have h1 := h x (by simp)
    have h2 := ih fun y hy => h y (List.mem_cons_of_mem _ hy)
    have h3 : -2000000 ≤ sizeF x ∧ sizeF x ≤ 2000000 := by unfold sizeF; split <;> omega
    simp only [sizeS, List.length_cons]
    omega

theorem refSize_eq {l : List (Int × Int)} {s : Sl} {h : AH} (hr : Reads h 2 s (l.map spanV)) (hn : l.length < 1000000000) (hb : ∀ x ∈ l, 0 ≤ x.1 ∧ x.1 ≤ 1114111 ∧ 0 ≤ x.2 ∧ x.2 ≤ 1114111) :
    callO PS 21 [s.val 2] h = some (.int .i64 (sizeS l), h) := by
  have hlen := hr.len
  apply WpC.eqn
  refine wpc_fn (ps_ext rfl) (ps_fn fn21) rfl ?_
  unfold LF21
  simp only [argFr]
  (repeat' first
    | (show WpR _ _ _ _ _ _ _ _ _
       first
       | refine wpr_drop ?_
       | refine wpr_p (o := .mv _) (by simp only [ev_mv, opd_s, opd_c, fget, Nat.reduceEqDiff, Nat.one_ne_zero, Nat.zero_ne_one, reduceCtorEq, ↓reduceIte]; rfl) ?_
       | (refine wpr_fork (fun _ => ?_) (fun _ => ?_) <;> try (exfalso; omega))
       | (refine wpr_forkN (fun _ => ?_) (fun _ => ?_) <;> try (exfalso; omega))
       | refine wpr_run rfl ?_
       | refine wpr_pass rfl rfl ?_
       | refine wpr_passS rfl ?_
       | ((first | apply wpr_p | apply wpr_r | apply wpr_callA | apply wpr_callA0 | apply wpr_e0 | apply wpr_e | apply wpr_end0); focus ((try simp (disch := omega) only [push_cast, Nat.reduceEqDiff, ↓reduceIte, reduceCtorEq, Nat.reduceAdd, Nat.reduceMul, Nat.reduceLeDiff, hlen]); rfl))
       | refine wpr_pass0 rfl rfl ?_
       | refine wpr_pass0S rfl ?_
       | (apply wpr_end; (focus ((try simp (disch := omega) only [push_cast, Nat.reduceEqDiff, ↓reduceIte, reduceCtorEq, Nat.reduceAdd, Nat.reduceMul, Nat.reduceLeDiff, hlen]); rfl)); (focus (simp (disch := omega) only [push_cast, Nat.reduceEqDiff, ↓reduceIte, reduceCtorEq, Nat.reduceAdd, Nat.reduceMul, Nat.reduceLeDiff, hlen]; done)))
       | fail)
    | (show Wp _ _ _ _ _ _
       first
       | refine wp_seq ?_
       | refine wp_region0 ?_
       | refine wp_region ?_
       | refine wp_cond_t rfl ?_
       | refine wp_cond_f rfl ?_
       | refine wp_ret ?_
       | refine wp_skip ?_
       | refine wp_exit ?_
       | refine wp_block ?_
       | fail)
    | refine thenQ_norm ?_
    | refine thenQ_ret ?_
    | refine thenQ_exit ?_
    | refine blockQ_norm ?_
    | refine blockQ_ret ?_
    | refine blockQ_same ?_
    | refine blockQ_ne rfl ?_
    | refine loopQ_norm ?_
    | refine loopQ_ret ?_
    | refine loopQ_exit ?_
    | ((first | apply retQ_ret | apply retQ_norm | apply wpc_of); focus ((try simp (disch := omega) only [push_cast, Nat.reduceEqDiff, ↓reduceIte, reduceCtorEq, Nat.reduceAdd, Nat.reduceMul, Nat.reduceLeDiff, hlen]); rfl))
    | fail)
  refine wp_loop (fun n fr lc h1 => ∃ (i : Nat), n = l.length - i ∧ i ≤ l.length ∧ fr = [(0, s.val 2), (3, .int .i64 (sizeS (l.take i))), (4, .int .i64 i)] ∧ lc = [] ∧ h1 = h)
    l.length ⟨0, rfl, Nat.zero_le _, rfl, rfl, rfl⟩ ?_
  rintro n fr lc h1 ⟨i, rfl, hi, rfl, rfl, rfl⟩
  have hbd := sizeS_bound (l := l.take i) fun x hx => hb x (List.mem_of_mem_take hx)
  have htl : (l.take i).length ≤ l.length := by rw [List.length_take]; omega
  rcases Nat.lt_or_ge i l.length with hil | hil
  · have hb := hb l[i] (List.getElem_mem hil)
    have htk : l.take (i + 1) = l.take i ++ [l[i]] := List.take_succ_eq_append_getElem hil
    generalize hx : l[i] = x at hb htk
    have hxr : ∀ lc, Mem.rd ⟨lc, h1⟩ (s.adr 2 i) 2 = some (spanV x) := fun lc => by rw [← hx]; exact rd_map hr hil
    have hst : sizeS (l.take (i + 1)) = sizeS (l.take i) + sizeF x := by rw [htk, sizeS_append]; simp [sizeS]
    have h3 : -2000000 ≤ sizeF x ∧ sizeF x ≤ 2000000 := by unfold sizeF; split <;> omega
    have hw : sizeF (x.1, x.2) = sizeF x := rfl
    (repeat' first
    | (show WpR _ _ _ _ _ _ _ _ _
       first
       | refine wpr_drop ?_
       | refine wpr_p (o := .mv _) (by simp only [ev_mv, opd_s, opd_c, fget, Nat.reduceEqDiff, Nat.one_ne_zero, Nat.zero_ne_one, reduceCtorEq, ↓reduceIte]; rfl) ?_
       | (refine wpr_fork (fun _ => ?_) (fun _ => ?_) <;> try (exfalso; omega))
       | (refine wpr_forkN (fun _ => ?_) (fun _ => ?_) <;> try (exfalso; omega))
       | refine wpr_run rfl ?_
       | refine wpr_pass rfl rfl ?_
       | refine wpr_passS rfl ?_
       | ((first | apply wpr_p | apply wpr_r | apply wpr_callA | apply wpr_callA0 | apply wpr_e0 | apply wpr_e | apply wpr_end0); focus ((try simp (disch := omega) only [push_cast, Nat.reduceEqDiff, ↓reduceIte, reduceCtorEq, Nat.reduceAdd, Nat.reduceMul, Nat.reduceLeDiff, hlen, hxr, spanV, hw]); rfl))
       | refine wpr_pass0 rfl rfl ?_
       | refine wpr_pass0S rfl ?_
       | (apply wpr_end; (focus ((try simp (disch := omega) only [push_cast, Nat.reduceEqDiff, ↓reduceIte, reduceCtorEq, Nat.reduceAdd, Nat.reduceMul, Nat.reduceLeDiff, hlen, hxr, spanV, hw]); rfl)); (focus (simp (disch := omega) only [push_cast, Nat.reduceEqDiff, ↓reduceIte, reduceCtorEq, Nat.reduceAdd, Nat.reduceMul, Nat.reduceLeDiff, hlen, hxr, spanV, hw]; done)))
       | fail)
    | (show Wp _ _ _ _ _ _
       first
       | refine wp_seq ?_
       | refine wp_region0 ?_
       | refine wp_region ?_
       | refine wp_cond_t rfl ?_
       | refine wp_cond_f rfl ?_
       | refine wp_ret ?_
       | refine wp_skip ?_
       | refine wp_exit ?_
       | refine wp_block ?_
       | fail)
    | refine thenQ_norm ?_
    | refine thenQ_ret ?_
    | refine thenQ_exit ?_
    | refine blockQ_norm ?_
    | refine blockQ_ret ?_
    | refine blockQ_same ?_
    | refine blockQ_ne rfl ?_
    | refine loopQ_norm ?_
    | refine loopQ_ret ?_
    | refine loopQ_exit ?_
    | ((first | apply retQ_ret | apply retQ_norm | apply wpc_of); focus ((try simp (disch := omega) only [push_cast, Nat.reduceEqDiff, ↓reduceIte, reduceCtorEq, Nat.reduceAdd, Nat.reduceMul, Nat.reduceLeDiff, hlen, hxr, spanV, hw]); rfl))
    | fail)
    refine ⟨_, ?_, i + 1, rfl, by omega, ?_, rfl, rfl⟩
    · omega
    · rw [hst]; rfl
  · have hall : l.take i = l := List.take_of_length_le (by omega)
    (repeat' first
    | (show WpR _ _ _ _ _ _ _ _ _
       first
       | refine wpr_drop ?_
       | refine wpr_p (o := .mv _) (by simp only [ev_mv, opd_s, opd_c, fget, Nat.reduceEqDiff, Nat.one_ne_zero, Nat.zero_ne_one, reduceCtorEq, ↓reduceIte]; rfl) ?_
       | (refine wpr_fork (fun _ => ?_) (fun _ => ?_) <;> try (exfalso; omega))
       | (refine wpr_forkN (fun _ => ?_) (fun _ => ?_) <;> try (exfalso; omega))
       | refine wpr_run rfl ?_
       | refine wpr_pass rfl rfl ?_
       | refine wpr_passS rfl ?_
       | ((first | apply wpr_p | apply wpr_r | apply wpr_callA | apply wpr_callA0 | apply wpr_e0 | apply wpr_e | apply wpr_end0); focus ((try simp (disch := omega) only [push_cast, Nat.reduceEqDiff, ↓reduceIte, reduceCtorEq, Nat.reduceAdd, Nat.reduceMul, Nat.reduceLeDiff, hlen]); rfl))
       | refine wpr_pass0 rfl rfl ?_
       | refine wpr_pass0S rfl ?_
       | (apply wpr_end; (focus ((try simp (disch := omega) only [push_cast, Nat.reduceEqDiff, ↓reduceIte, reduceCtorEq, Nat.reduceAdd, Nat.reduceMul, Nat.reduceLeDiff, hlen]); rfl)); (focus (simp (disch := omega) only [push_cast, Nat.reduceEqDiff, ↓reduceIte, reduceCtorEq, Nat.reduceAdd, Nat.reduceMul, Nat.reduceLeDiff, hlen]; done)))
       | fail)
    | (show Wp _ _ _ _ _ _
       first
       | refine wp_seq ?_
       | refine wp_region0 ?_
       | refine wp_region ?_
       | refine wp_cond_t rfl ?_
       | refine wp_cond_f rfl ?_
       | refine wp_ret ?_
       | refine wp_skip ?_
       | refine wp_exit ?_
       | refine wp_block ?_
       | fail)
    | refine thenQ_norm ?_
    | refine thenQ_ret ?_
    | refine thenQ_exit ?_
    | refine blockQ_norm ?_
    | refine blockQ_ret ?_
    | refine blockQ_same ?_
    | refine blockQ_ne rfl ?_
    | refine loopQ_norm ?_
    | refine loopQ_ret ?_
    | refine loopQ_exit ?_
    | ((first | apply retQ_ret | apply retQ_norm | apply wpc_of); focus ((try simp (disch := omega) only [push_cast, Nat.reduceEqDiff, ↓reduceIte, reduceCtorEq, Nat.reduceAdd, Nat.reduceMul, Nat.reduceLeDiff, hlen]); rfl))
    | fail)
    exact ⟨by rw [hall], rfl⟩

/-! ### Which spans -/

def spanOf (x : Int × Int) : Int × Int := (runeF x.1, runeF (x.2 - 1))

theorem spans_spec {rows : List (Int × Int)} {b : Nat} {h : AH} (hs : SetR h b rows) (hr0 : ∀ x ∈ rows, 0 ≤ x.1 ∧ x.1 ≤ x.2 ∧ x.2 ≤ 1112064) (hn : rows.length < 1000000000) :
    WpC PS 18 [.pointer (some ⟨b, 0, none⟩)] h fun v h' => ∃ t, v = Sl.val 2 t ∧ FOwn h h' 2 t ((rows.map spanOf).map spanV) := by
  obtain ⟨s, hg, hr⟩ := hs
  have hlen := hr.len
  refine wpc_fn (ps_ext rfl) (ps_fn fn18) rfl ?_
  unfold LF18
  simp only [argFr]
  (repeat' first
    | (show WpR _ _ _ _ _ _ _ _ _
       first
       | refine wpr_drop ?_
       | refine wpr_p (o := .mv _) (by simp only [ev_mv, opd_s, opd_c, fget, Nat.reduceEqDiff, Nat.one_ne_zero, Nat.zero_ne_one, reduceCtorEq, ↓reduceIte]; rfl) ?_
       | (refine wpr_fork (fun _ => ?_) (fun _ => ?_) <;> try (exfalso; omega))
       | (refine wpr_forkN (fun _ => ?_) (fun _ => ?_) <;> try (exfalso; omega))
       | refine wpr_run rfl ?_
       | refine wpr_pass rfl rfl ?_
       | refine wpr_passS rfl ?_
       | ((first | apply wpr_p | apply wpr_r | apply wpr_callA | apply wpr_callA0 | apply wpr_e0 | apply wpr_e | apply wpr_end0); focus ((try simp (disch := omega) only [push_cast, Nat.reduceEqDiff, ↓reduceIte, reduceCtorEq, Nat.reduceAdd, Nat.reduceMul, Nat.reduceLeDiff, hlen, hg]); rfl))
       | refine wpr_pass0 rfl rfl ?_
       | refine wpr_pass0S rfl ?_
       | (apply wpr_end; (focus ((try simp (disch := omega) only [push_cast, Nat.reduceEqDiff, ↓reduceIte, reduceCtorEq, Nat.reduceAdd, Nat.reduceMul, Nat.reduceLeDiff, hlen, hg]); rfl)); (focus (simp (disch := omega) only [push_cast, Nat.reduceEqDiff, ↓reduceIte, reduceCtorEq, Nat.reduceAdd, Nat.reduceMul, Nat.reduceLeDiff, hlen, hg]; done)))
       | fail)
    | (show Wp _ _ _ _ _ _
       first
       | refine wp_seq ?_
       | refine wp_region0 ?_
       | refine wp_region ?_
       | refine wp_cond_t rfl ?_
       | refine wp_cond_f rfl ?_
       | refine wp_ret ?_
       | refine wp_skip ?_
       | refine wp_exit ?_
       | refine wp_block ?_
       | fail)
    | refine thenQ_norm ?_
    | refine thenQ_ret ?_
    | refine thenQ_exit ?_
    | refine blockQ_norm ?_
    | refine blockQ_ret ?_
    | refine blockQ_same ?_
    | refine blockQ_ne rfl ?_
    | refine loopQ_norm ?_
    | refine loopQ_ret ?_
    | refine loopQ_exit ?_
    | ((first | apply retQ_ret | apply retQ_norm | apply wpc_of); focus ((try simp (disch := omega) only [push_cast, Nat.reduceEqDiff, ↓reduceIte, reduceCtorEq, Nat.reduceAdd, Nat.reduceMul, Nat.reduceLeDiff, hlen, hg]); rfl))
    | fail)
  refine wp_loop (fun n fr lc h1 => ∃ (i : Nat) (t : Sl), n = rows.length - i ∧ i ≤ rows.length ∧ fr = [(3, t.val 2), (9, s.val 2), (10, .int .i64 rows.length), (11, .int .i64 i)] ∧ lc = [] ∧ FOwn h h1 2 t (((rows.take i).map spanOf).map spanV))
    rows.length ⟨0, .nil, rfl, Nat.zero_le _, rfl, rfl, FOwn.nil (Kp.refl h)⟩ ?_
  rintro n fr lc h1 ⟨i, t, rfl, hi, rfl, rfl, f1⟩
  have hr1 := hr.kp f1.kp
  rcases Nat.lt_or_ge i rows.length with hil | hil
  · have hb := hr0 rows[i] (List.getElem_mem hil)
    have htk : ((rows.take (i + 1)).map spanOf).map spanV = ((rows.take i).map spanOf).map spanV ++ [spanV (spanOf rows[i])] := by
      rw [List.take_succ_eq_append_getElem hil, List.map_append, List.map_append]; rfl
    generalize hx : rows[i] = x at hb htk
    have hxr : ∀ lc, Mem.rd ⟨lc, h1⟩ (s.adr 2 i) 2 = some (rowV x) := fun lc => by rw [← hx]; exact rd_map hr1 hil
    (repeat' first
    | (show WpR _ _ _ _ _ _ _ _ _
       first
       | refine wpr_drop ?_
       | refine wpr_p (o := .mv _) (by simp only [ev_mv, opd_s, opd_c, fget, Nat.reduceEqDiff, Nat.one_ne_zero, Nat.zero_ne_one, reduceCtorEq, ↓reduceIte]; rfl) ?_
       | (refine wpr_fork (fun _ => ?_) (fun _ => ?_) <;> try (exfalso; omega))
       | (refine wpr_forkN (fun _ => ?_) (fun _ => ?_) <;> try (exfalso; omega))
       | refine wpr_run rfl ?_
       | refine wpr_pass rfl rfl ?_
       | refine wpr_passS rfl ?_
       | ((first | apply wpr_p | apply wpr_r | apply wpr_callA | apply wpr_callA0 | apply wpr_e0 | apply wpr_e | apply wpr_end0); focus ((try simp (disch := omega) only [push_cast, Nat.reduceEqDiff, ↓reduceIte, reduceCtorEq, Nat.reduceAdd, Nat.reduceMul, Nat.reduceLeDiff, hlen, hxr, rowV]); rfl))
       | refine wpr_pass0 rfl rfl ?_
       | refine wpr_pass0S rfl ?_
       | (apply wpr_end; (focus ((try simp (disch := omega) only [push_cast, Nat.reduceEqDiff, ↓reduceIte, reduceCtorEq, Nat.reduceAdd, Nat.reduceMul, Nat.reduceLeDiff, hlen, hxr, rowV]); rfl)); (focus (simp (disch := omega) only [push_cast, Nat.reduceEqDiff, ↓reduceIte, reduceCtorEq, Nat.reduceAdd, Nat.reduceMul, Nat.reduceLeDiff, hlen, hxr, rowV]; done)))
       | fail)
    | (show Wp _ _ _ _ _ _
       first
       | refine wp_seq ?_
       | refine wp_region0 ?_
       | refine wp_region ?_
       | refine wp_cond_t rfl ?_
       | refine wp_cond_f rfl ?_
       | refine wp_ret ?_
       | refine wp_skip ?_
       | refine wp_exit ?_
       | refine wp_block ?_
       | fail)
    | refine thenQ_norm ?_
    | refine thenQ_ret ?_
    | refine thenQ_exit ?_
    | refine blockQ_norm ?_
    | refine blockQ_ret ?_
    | refine blockQ_same ?_
    | refine blockQ_ne rfl ?_
    | refine loopQ_norm ?_
    | refine loopQ_ret ?_
    | refine loopQ_exit ?_
    | ((first | apply retQ_ret | apply retQ_norm | apply wpc_of); focus ((try simp (disch := omega) only [push_cast, Nat.reduceEqDiff, ↓reduceIte, reduceCtorEq, Nat.reduceAdd, Nat.reduceMul, Nat.reduceLeDiff, hlen, hxr, rowV]); rfl))
    | fail)
    refine wpr_appendS (yss := [spanV (spanOf x)]) (k := 1) f1 rfl rfl rfl rfl (by simp [spanV]) (by decide) (by decide) (by decide) (by simp; omega) fun t' h3 f3 => ?_
    rw [← htk] at f3
    (repeat' first
    | (show WpR _ _ _ _ _ _ _ _ _
       first
       | refine wpr_drop ?_
       | refine wpr_p (o := .mv _) (by simp only [ev_mv, opd_s, opd_c, fget, Nat.reduceEqDiff, Nat.one_ne_zero, Nat.zero_ne_one, reduceCtorEq, ↓reduceIte]; rfl) ?_
       | (refine wpr_fork (fun _ => ?_) (fun _ => ?_) <;> try (exfalso; omega))
       | (refine wpr_forkN (fun _ => ?_) (fun _ => ?_) <;> try (exfalso; omega))
       | refine wpr_run rfl ?_
       | refine wpr_pass rfl rfl ?_
       | refine wpr_passS rfl ?_
       | ((first | apply wpr_p | apply wpr_r | apply wpr_callA | apply wpr_callA0 | apply wpr_e0 | apply wpr_e | apply wpr_end0); focus ((try simp (disch := omega) only [push_cast, Nat.reduceEqDiff, ↓reduceIte, reduceCtorEq, Nat.reduceAdd, Nat.reduceMul, Nat.reduceLeDiff]); rfl))
       | refine wpr_pass0 rfl rfl ?_
       | refine wpr_pass0S rfl ?_
       | (apply wpr_end; (focus ((try simp (disch := omega) only [push_cast, Nat.reduceEqDiff, ↓reduceIte, reduceCtorEq, Nat.reduceAdd, Nat.reduceMul, Nat.reduceLeDiff]); rfl)); (focus (simp (disch := omega) only [push_cast, Nat.reduceEqDiff, ↓reduceIte, reduceCtorEq, Nat.reduceAdd, Nat.reduceMul, Nat.reduceLeDiff]; done)))
       | fail)
    | (show Wp _ _ _ _ _ _
       first
       | refine wp_seq ?_
       | refine wp_region0 ?_
       | refine wp_region ?_
       | refine wp_cond_t rfl ?_
       | refine wp_cond_f rfl ?_
       | refine wp_ret ?_
       | refine wp_skip ?_
       | refine wp_exit ?_
       | refine wp_block ?_
       | fail)
    | refine thenQ_norm ?_
    | refine thenQ_ret ?_
    | refine thenQ_exit ?_
    | refine blockQ_norm ?_
    | refine blockQ_ret ?_
    | refine blockQ_same ?_
    | refine blockQ_ne rfl ?_
    | refine loopQ_norm ?_
    | refine loopQ_ret ?_
    | refine loopQ_exit ?_
    | ((first | apply retQ_ret | apply retQ_norm | apply wpc_of); focus ((try simp (disch := omega) only [push_cast, Nat.reduceEqDiff, ↓reduceIte, reduceCtorEq, Nat.reduceAdd, Nat.reduceMul, Nat.reduceLeDiff]); rfl))
    | fail)
    refine ⟨_, ?_, i + 1, t', rfl, by omega, rfl, rfl, f3⟩
    omega
  · have hall : rows.take i = rows := List.take_of_length_le (by omega)
    (repeat' first
    | (show WpR _ _ _ _ _ _ _ _ _
       first
       | refine wpr_drop ?_
       | refine wpr_p (o := .mv _) (by simp only [ev_mv, opd_s, opd_c, fget, Nat.reduceEqDiff, Nat.one_ne_zero, Nat.zero_ne_one, reduceCtorEq, ↓reduceIte]; rfl) ?_
       | (refine wpr_fork (fun _ => ?_) (fun _ => ?_) <;> try (exfalso; omega))
       | (refine wpr_forkN (fun _ => ?_) (fun _ => ?_) <;> try (exfalso; omega))
       | refine wpr_run rfl ?_
       | refine wpr_pass rfl rfl ?_
       | refine wpr_passS rfl ?_
       | ((first | apply wpr_p | apply wpr_r | apply wpr_callA | apply wpr_callA0 | apply wpr_e0 | apply wpr_e | apply wpr_end0); focus ((try simp (disch := omega) only [push_cast, Nat.reduceEqDiff, ↓reduceIte, reduceCtorEq, Nat.reduceAdd, Nat.reduceMul, Nat.reduceLeDiff, hlen]); rfl))
       | refine wpr_pass0 rfl rfl ?_
       | refine wpr_pass0S rfl ?_
       | (apply wpr_end; (focus ((try simp (disch := omega) only [push_cast, Nat.reduceEqDiff, ↓reduceIte, reduceCtorEq, Nat.reduceAdd, Nat.reduceMul, Nat.reduceLeDiff, hlen]); rfl)); (focus (simp (disch := omega) only [push_cast, Nat.reduceEqDiff, ↓reduceIte, reduceCtorEq, Nat.reduceAdd, Nat.reduceMul, Nat.reduceLeDiff, hlen]; done)))
       | fail)
    | (show Wp _ _ _ _ _ _
       first
       | refine wp_seq ?_
       | refine wp_region0 ?_
       | refine wp_region ?_
       | refine wp_cond_t rfl ?_
       | refine wp_cond_f rfl ?_
       | refine wp_ret ?_
       | refine wp_skip ?_
       | refine wp_exit ?_
       | refine wp_block ?_
       | fail)
    | refine thenQ_norm ?_
    | refine thenQ_ret ?_
    | refine thenQ_exit ?_
    | refine blockQ_norm ?_
    | refine blockQ_ret ?_
    | refine blockQ_same ?_
    | refine blockQ_ne rfl ?_
    | refine loopQ_norm ?_
    | refine loopQ_ret ?_
    | refine loopQ_exit ?_
    | ((first | apply retQ_ret | apply retQ_norm | apply wpc_of); focus ((try simp (disch := omega) only [push_cast, Nat.reduceEqDiff, ↓reduceIte, reduceCtorEq, Nat.reduceAdd, Nat.reduceMul, Nat.reduceLeDiff, hlen]); rfl))
    | fail)
    rw [hall] at f1
    exact ⟨t, rfl, f1⟩

end Go.Proofs.Ytanpdopjgepbkaa.AM
