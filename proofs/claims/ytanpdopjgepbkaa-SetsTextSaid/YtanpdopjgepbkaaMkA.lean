/- Lifted functions, each a constant: sets made and told. -/
import Derived.Test.YtanpdopjgepbkaaSlA
set_option linter.unusedVariables false
namespace Go.Proofs.Ytanpdopjgepbkaa.AM
open Go

def LF73 : LFunc :=
  .mk 1 [.tmp 2] (.seq (.region [.mk (some 2) (.p (.mv (.c (.pointer none)))) none] [0] []) (.seq (.region [.mk (some 7) (.p (.mv (.s 0))) none, .mk (some 8) (.e (.call 87 [.s 7, .c
  (.func (.func 88) (Array.mk []) (Array.mk []))])) none] [0] []) (.seq (.region [.mk (some 9) (.p (.build [.slice none 0 0] [])) none, .mk (some 10) (.e (.boxH 1 (.s 9))) none, .mk
  (some 3) (.p (.mv (.s 10))) none] [0, 3] []) (.seq (.seq (.region [.mk (some 11) (.p (.mv (.s 0))) none, .mk (some 12) (.p (.len (.s 11))) none, .mk (some 13) (.p (.mv (.c (.int
  .i64 0)))) none] [3, 11, 12, 13] []) (.block 0 (.loop (.seq (.region [.mk (some 14) (.p (.bin .lss (.s 13) (.s 12))) none] [3, 11, 12, 13, 14] []) (.seq (.cond (.s 14) .skip
  (.exit 0)) (.seq (.block 1 (.seq (.region [.mk (some 15) (.p (.iaddr 2 (.s 11) (.s 13))) none, .mk (some 16) (.r (.load (some 2) (.s 15))) none, .mk (some 5) (.e (.newL 5 [.int
  .i64 0, .int .i64 0])) none, .mk none (.e (.store 2 (.s 5) (.s 16))) none] [3, 5, 11, 12, 13] []) (.seq (.region [.mk (some 17) (.p (.mv (.s 3))) none, .mk (some 18) (.p (.nilck
  (.s 17))) none, .mk (some 19) (.p (.faddr 0 (.s 18))) none, .mk (some 20) (.r (.load none (.s 19))) none, .mk (some 21) (.p (.len (.s 20))) none, .mk (some 6) (.p (.mv (.s 21)))
  none] [3, 5, 6, 11, 12, 13] []) (.block 2 (.seq (.region [.mk (some 33) (.p (.faddr 0 (.s 5))) none, .mk (some 34) (.r (.load none (.s 33))) none, .mk (some 35) (.p (.faddr 1 (.s
  5))) none, .mk (some 36) (.r (.load none (.s 35))) none, .mk (some 37) (.p (.bin .geq (.s 34) (.s 36))) none, .mk (some 32) (.p (.mv (.s 37))) none] [3, 5, 6, 11, 12, 13, 32] [])
  (.cond (.s 32) .skip (.seq (.region [.mk (some 39) (.p (.mv (.s 6))) none, .mk (some 40) (.p (.bin .gtr (.s 39) (.c (.int .i64 0)))) none, .mk (some 41) (.p (.mv (.s 40))) none,
  .mk (some 42) (.p (.faddr 0 (.s 5))) (some (41, true)), .mk (some 43) (.r (.load none (.s 42))) (some (41, true)), .mk (some 44) (.p (.mv (.s 3))) (some (41, true)), .mk (some 45)
  (.p (.nilck (.s 44))) (some (41, true)), .mk (some 46) (.p (.faddr 0 (.s 45))) (some (41, true)), .mk (some 47) (.r (.load none (.s 46))) (some (41, true)), .mk (some 48) (.p (.mv
  (.s 6))) (some (41, true)), .mk (some 49) (.p (.bin .sub (.s 48) (.c (.int .i64 1)))) (some (41, true)), .mk (some 50) (.p (.iaddr 2 (.s 47) (.s 49))) (some (41, true)), .mk (some
  51) (.p (.faddr 1 (.s 50))) (some (41, true)), .mk (some 52) (.r (.load none (.s 51))) (some (41, true)), .mk (some 53) (.p (.bin .leq (.s 43) (.s 52))) (some (41, true)), .mk
  (some 54) (.p (.pick (.s 41) (.s 53) (.c (.bool false)))) none, .mk (some 38) (.p (.mv (.s 54))) none] [3, 5, 6, 11, 12, 13, 38] []) (.cond (.s 38) (.region [.mk (some 55) (.p
  (.mv (.s 3))) none, .mk (some 56) (.p (.nilck (.s 55))) none, .mk (some 57) (.p (.faddr 0 (.s 56))) none, .mk (some 58) (.r (.load none (.s 57))) none, .mk (some 59) (.p (.mv (.s
  6))) none, .mk (some 60) (.p (.bin .sub (.s 59) (.c (.int .i64 1)))) none, .mk (some 61) (.p (.mv (.s 3))) none, .mk (some 62) (.p (.nilck (.s 61))) none, .mk (some 63) (.p
  (.faddr 0 (.s 62))) none, .mk (some 64) (.r (.load none (.s 63))) none, .mk (some 65) (.p (.mv (.s 6))) none, .mk (some 66) (.p (.bin .sub (.s 65) (.c (.int .i64 1)))) none, .mk
  (some 67) (.p (.iaddr 2 (.s 64) (.s 66))) none, .mk (some 68) (.p (.faddr 1 (.s 67))) none, .mk (some 69) (.r (.load none (.s 68))) none, .mk (some 70) (.p (.faddr 1 (.s 5)))
  none, .mk (some 71) (.r (.load none (.s 70))) none, .mk (some 72) (.p (.mm true [.s 69, .s 71])) none, .mk (some 73) (.p (.iaddr 2 (.s 58) (.s 60))) none, .mk (some 74) (.p
  (.faddr 1 (.s 73))) none, .mk none (.e (.store 1 (.s 74) (.s 72))) none] [3, 11, 12, 13] []) (.region [.mk (some 22) (.p (.mv (.s 3))) none, .mk (some 23) (.p (.mv (.s 3))) none,
  .mk (some 24) (.p (.nilck (.s 23))) none, .mk (some 25) (.p (.faddr 0 (.s 24))) none, .mk (some 26) (.r (.load none (.s 25))) none, .mk (some 27) (.r (.load (some 2) (.s 5)))
  none, .mk (some 28) (.e (.litL 28 1 2 [.int .i64 0, .int .i64 0] [(0, 2, .s 27)])) none, .mk (some 29) (.e (.append 2 16 (.s 26) (.s 28))) none, .mk (some 30) (.p (.nilck (.s
  22))) none, .mk (some 31) (.p (.faddr 0 (.s 30))) none, .mk none (.e (.store 1 (.s 31) (.s 29))) none] [3, 11, 12, 13] [(4, 7)]))))))))) (.region [.mk (some 75) (.p (.bin .add (.s
  13) (.c (.int .i64 1)))) none, .mk (some 13) (.p (.mv (.s 75))) none] [3, 11, 12, 13] []))))))) (.seq (.region [.mk (some 76) (.p (.mv (.s 3))) none, .mk (some 2) (.p (.mv (.s
  76))) none] [2] []) .ret)))))
theorem fn73 : (autoPrg Try.prog).fn 73 = some LF73 := by kernel_rfl

def LF58 : LFunc :=
  .mk 1 [.tmp 2, .tmp 3] (.seq (.region [.mk (some 2) (.p (.mv (.c (.pointer none)))) none, .mk (some 3) (.p (.mv (.c (.int .i64 0)))) none] [0] []) (.seq (.region [.mk (some 4) (.p
  (.mv (.c (.slice none 0 0)))) none] [0, 4] []) (.seq (.region [.mk (some 5) (.p (.mv (.c (.int .i64 0)))) none] [0, 4, 5] []) (.seq (.seq (.region [.mk (some 9) (.p (.mv (.s 0)))
  none, .mk (some 10) (.p (.len (.s 9))) none, .mk (some 11) (.p (.mv (.c (.int .i64 0)))) none] [4, 5, 9, 10, 11] []) (.block 0 (.loop (.seq (.region [.mk (some 12) (.p (.bin .lss
  (.s 11) (.s 10))) none] [4, 5, 9, 10, 11, 12] []) (.seq (.cond (.s 12) .skip (.exit 0)) (.seq (.block 1 (.seq (.region [.mk (some 13) (.p (.iaddr 2 (.s 9) (.s 11))) none, .mk
  (some 14) (.r (.load (some 2) (.s 13))) none, .mk (some 7) (.e (.newL 7 [.int .i32 0, .int .i32 0])) none, .mk none (.e (.store 2 (.s 7) (.s 14))) none] [4, 5, 7, 9, 10, 11] [])
  (.seq (.seq (.region [.mk (some 15) (.r (.load (some 2) (.s 7))) none, .mk (some 16) (.e (.call 71 [.s 15])) none, .mk (some 8) (.p (.mv (.s 16))) none] [4, 5, 7, 8, 9, 10, 11]
  []) (.seq (.region [.mk (some 17) (.p (.mv (.s 8))) none, .mk (some 18) (.p (.bin .eql (.s 17) (.c (.int .i64 12)))) none, .mk (some 19) (.p (.mv (.s 18))) none, .mk (some 20) (.p
  (.mv (.s 8))) (some (19, false)), .mk (some 21) (.p (.bin .neq (.s 20) (.c (.int .i64 0)))) (some (19, false)), .mk (some 22) (.p (.mv (.s 21))) (some (19, false)), .mk (some 23)
  (.p (.mv (.s 5))) (some (22, true)), .mk (some 24) (.p (.bin .eql (.s 23) (.c (.int .i64 0)))) (some (22, true)), .mk (some 25) (.p (.pick (.s 22) (.s 24) (.c (.bool false))))
  (some (19, false)), .mk (some 26) (.p (.pick (.s 19) (.c (.bool true)) (.s 25))) none] [4, 5, 7, 8, 9, 10, 11, 26] []) (.cond (.s 26) (.seq (.region [.mk (some 27) (.p (.mv (.s
  8))) none, .mk (some 5) (.p (.mv (.s 27))) none] [4, 5, 7, 8, 9, 10, 11] []) (.seq (.region [.mk (some 28) (.p (.mv (.s 8))) none, .mk (some 29) (.p (.bin .eql (.s 28) (.c (.int
  .i64 12)))) none] [4, 5, 7, 9, 10, 11, 29] []) (.cond (.s 29) (.exit 0) .skip))) .skip))) (.region [.mk (some 30) (.p (.mv (.s 4))) none, .mk (some 31) (.p (.faddr 0 (.s 7)))
  none, .mk (some 32) (.r (.load none (.s 31))) none, .mk (some 33) (.p (.conv .i64 (.s 32))) none, .mk (some 34) (.e (.call 64 [.s 33])) none, .mk (some 35) (.p (.faddr 1 (.s 7)))
  none, .mk (some 36) (.r (.load none (.s 35))) none, .mk (some 37) (.p (.conv .i64 (.s 36))) none, .mk (some 38) (.e (.call 64 [.s 37])) none, .mk (some 39) (.p (.bin .add (.s 38)
  (.c (.int .i64 1)))) none, .mk (some 40) (.p (.build [.int .i64 0, .int .i64 0] [(0, 1, .s 34), (1, 1, .s 39)])) none, .mk (some 41) (.e (.litL 41 1 2 [.int .i64 0, .int .i64 0]
  [(0, 2, .s 40)])) none, .mk (some 42) (.e (.append 2 16 (.s 30) (.s 41))) none, .mk (some 4) (.p (.mv (.s 42))) none] [4, 5, 9, 10, 11] [(6, 0)])))) (.region [.mk (some 43) (.p
  (.bin .add (.s 11) (.c (.int .i64 1)))) none, .mk (some 11) (.p (.mv (.s 43))) none] [4, 5, 9, 10, 11] []))))))) (.seq (.seq (.region [.mk (some 44) (.p (.mv (.s 5))) none, .mk
  (some 45) (.p (.bin .neq (.s 44) (.c (.int .i64 0)))) none] [4, 5, 45] []) (.cond (.s 45) (.seq (.region [.mk (some 46) (.p (.mv (.s 5))) none, .mk (some 2) (.p (.mv (.c (.pointer
  none)))) none, .mk (some 3) (.p (.mv (.s 46))) none] [2, 3] []) .ret) .skip)) (.seq (.region [.mk (some 47) (.p (.mv (.s 4))) none, .mk (some 48) (.e (.call 73 [.s 47])) none, .mk
  (some 2) (.p (.mv (.s 48))) none, .mk (some 3) (.p (.mv (.c (.int .i64 0)))) none] [2, 3] []) .ret))))))
theorem fn58 : (autoPrg Try.prog).fn 58 = some LF58 := by kernel_rfl

def LF17 : LFunc :=
  .mk 1 [.tmp 2, .tmp 3, .tmp 4] (.seq (.region [.mk (some 2) (.p (.mv (.c (.pointer none)))) none, .mk (some 3) (.p (.mv (.c (.slice none 0 0)))) none, .mk (some 4) (.p (.mv (.c
  (.bool false)))) none] [0] []) (.seq (.region [.mk (some 8) (.p (.mv (.s 0))) none, .mk (some 9) (.e (.call 58 [.s 8])) none, .mk (some 7) (.p (.mv (.s 9))) none, .mk (some 10)
  (.p (.ext 0 (.s 7))) none, .mk (some 11) (.p (.ext 1 (.s 7))) none, .mk (some 5) (.p (.mv (.s 10))) none, .mk (some 6) (.p (.mv (.s 11))) none] [0, 5, 6] []) (.seq (.seq (.region
  [.mk (some 12) (.p (.mv (.s 6))) none, .mk (some 13) (.p (.mv (.s 0))) none, .mk (some 14) (.e (.call 59 [.s 13])) none, .mk (some 15) (.p (.bin .neq (.s 12) (.s 14))) none, .mk
  (some 16) (.p (.mv (.s 15))) none, .mk (some 17) (.p (.mv (.s 5))) (some (16, false)), .mk (some 18) (.p (.eqk true .ptr (.s 17) (.c (.pointer none)))) (some (16, false)), .mk
  (some 19) (.p (.mv (.s 6))) (some (16, false)), .mk (some 20) (.p (.bin .eql (.s 19) (.c (.int .i64 0)))) (some (16, false)), .mk (some 21) (.p (.eqk true .bool (.s 18) (.s 20)))
  (some (16, false)), .mk (some 22) (.p (.pick (.s 16) (.c (.bool true)) (.s 21))) none] [0, 5, 22] []) (.cond (.s 22) (.seq (.region [.mk (some 2) (.p (.mv (.c (.pointer none))))
  none, .mk (some 3) (.p (.mv (.c (.slice none 0 0)))) none, .mk (some 4) (.p (.mv (.c (.bool false)))) none] [2, 3, 4] []) .ret) .skip)) (.seq (.seq (.region [.mk (some 23) (.p
  (.mv (.s 5))) none, .mk (some 24) (.p (.eqk false .ptr (.s 23) (.c (.pointer none)))) none] [0, 5, 24] []) (.cond (.s 24) (.seq (.region [.mk (some 2) (.p (.mv (.c (.pointer
  none)))) none, .mk (some 3) (.p (.mv (.c (.slice none 0 0)))) none, .mk (some 4) (.p (.mv (.c (.bool true)))) none] [2, 3, 4] []) .ret) .skip)) (.seq (.region [.mk (some 25) (.p
  (.mv (.s 5))) none, .mk (some 26) (.p (.mv (.s 0))) none, .mk (some 27) (.e (.call 36 [.s 26])) none, .mk (some 2) (.p (.mv (.s 25))) none, .mk (some 3) (.p (.mv (.s 27))) none,
  .mk (some 4) (.p (.mv (.c (.bool true)))) none] [2, 3, 4] []) .ret)))))
theorem fn17 : (autoPrg Try.prog).fn 17 = some LF17 := by kernel_rfl

def LF18 : LFunc :=
  .mk 1 [.tmp 2] (.seq (.region [.mk (some 2) (.p (.mv (.c (.slice none 0 0)))) none] [0] []) (.seq (.region [.mk (some 3) (.p (.mv (.c (.slice none 0 0)))) none] [0, 3] []) (.seq
  (.seq (.region [.mk (some 6) (.p (.mv (.s 0))) none, .mk (some 7) (.p (.nilck (.s 6))) none, .mk (some 8) (.p (.faddr 0 (.s 7))) none, .mk (some 9) (.r (.load none (.s 8))) none,
  .mk (some 10) (.p (.len (.s 9))) none, .mk (some 11) (.p (.mv (.c (.int .i64 0)))) none] [3, 9, 10, 11] []) (.block 0 (.loop (.seq (.region [.mk (some 12) (.p (.bin .lss (.s 11)
  (.s 10))) none] [3, 9, 10, 11, 12] []) (.seq (.cond (.s 12) .skip (.exit 0)) (.seq (.block 1 (.seq (.region [.mk (some 13) (.p (.iaddr 2 (.s 9) (.s 11))) none, .mk (some 14) (.r
  (.load (some 2) (.s 13))) none, .mk (some 5) (.e (.newL 5 [.int .i64 0, .int .i64 0])) none, .mk none (.e (.store 2 (.s 5) (.s 14))) none] [3, 5, 9, 10, 11] []) (.region [.mk
  (some 15) (.p (.mv (.s 3))) none, .mk (some 16) (.p (.faddr 0 (.s 5))) none, .mk (some 17) (.r (.load none (.s 16))) none, .mk (some 18) (.e (.call 60 [.s 17])) none, .mk (some
  19) (.p (.faddr 1 (.s 5))) none, .mk (some 20) (.r (.load none (.s 19))) none, .mk (some 21) (.p (.bin .sub (.s 20) (.c (.int .i64 1)))) none, .mk (some 22) (.e (.call 60 [.s
  21])) none, .mk (some 23) (.p (.build [.int .i32 0, .int .i32 0] [(0, 1, .s 18), (1, 1, .s 22)])) none, .mk (some 24) (.e (.litL 24 1 2 [.int .i32 0, .int .i32 0] [(0, 2, .s
  23)])) none, .mk (some 25) (.e (.append 2 8 (.s 15) (.s 24))) none, .mk (some 3) (.p (.mv (.s 25))) none] [3, 9, 10, 11] [(5, 0)]))) (.region [.mk (some 26) (.p (.bin .add (.s 11)
  (.c (.int .i64 1)))) none, .mk (some 11) (.p (.mv (.s 26))) none] [3, 9, 10, 11] []))))))) (.seq (.region [.mk (some 27) (.p (.mv (.s 3))) none, .mk (some 2) (.p (.mv (.s 27)))
  none] [2] []) .ret))))
theorem fn18 : (autoPrg Try.prog).fn 18 = some LF18 := by kernel_rfl

def LF20 : LFunc :=
  .mk 1 [.tmp 2] (.seq (.region [.mk (some 2) (.p (.mv (.c (.int .i64 0)))) none] [0] []) (.seq (.region [.mk (some 3) (.p (.mv (.c (.int .i64 0)))) none] [0, 3] []) (.seq (.seq
  (.region [.mk (some 6) (.p (.mv (.s 0))) none, .mk (some 7) (.p (.nilck (.s 6))) none, .mk (some 8) (.p (.faddr 0 (.s 7))) none, .mk (some 9) (.r (.load none (.s 8))) none, .mk
  (some 10) (.p (.len (.s 9))) none, .mk (some 11) (.p (.mv (.c (.int .i64 0)))) none] [3, 9, 10, 11] []) (.block 0 (.loop (.seq (.region [.mk (some 12) (.p (.bin .lss (.s 11) (.s
  10))) none] [3, 9, 10, 11, 12] []) (.seq (.cond (.s 12) .skip (.exit 0)) (.seq (.block 1 (.seq (.region [.mk (some 13) (.p (.iaddr 2 (.s 9) (.s 11))) none, .mk (some 14) (.r
  (.load (some 2) (.s 13))) none, .mk (some 5) (.e (.newL 5 [.int .i64 0, .int .i64 0])) none, .mk none (.e (.store 2 (.s 5) (.s 14))) none] [3, 5, 9, 10, 11] []) (.region [.mk
  (some 15) (.p (.mv (.s 3))) none, .mk (some 16) (.p (.faddr 1 (.s 5))) none, .mk (some 17) (.r (.load none (.s 16))) none, .mk (some 18) (.p (.faddr 0 (.s 5))) none, .mk (some 19)
  (.r (.load none (.s 18))) none, .mk (some 20) (.p (.bin .sub (.s 17) (.s 19))) none, .mk (some 21) (.p (.bin .add (.s 15) (.s 20))) none, .mk (some 3) (.p (.mv (.s 21))) none] [3,
  9, 10, 11] []))) (.region [.mk (some 22) (.p (.bin .add (.s 11) (.c (.int .i64 1)))) none, .mk (some 11) (.p (.mv (.s 22))) none] [3, 9, 10, 11] []))))))) (.seq (.region [.mk
  (some 23) (.p (.mv (.s 3))) none, .mk (some 2) (.p (.mv (.s 23))) none] [2] []) .ret))))
theorem fn20 : (autoPrg Try.prog).fn 20 = some LF20 := by kernel_rfl

def LF21 : LFunc :=
  .mk 1 [.tmp 2] (.seq (.region [.mk (some 2) (.p (.mv (.c (.int .i64 0)))) none] [0] []) (.seq (.region [.mk (some 3) (.p (.mv (.c (.int .i64 0)))) none] [0, 3] []) (.seq (.seq
  (.region [.mk (some 4) (.p (.mv (.c (.int .i64 0)))) none] [0, 3, 4] []) (.block 0 (.loop (.seq (.seq (.region [.mk (some 5) (.p (.mv (.s 4))) none, .mk (some 6) (.p (.mv (.s 0)))
  none, .mk (some 7) (.p (.len (.s 6))) none, .mk (some 8) (.p (.bin .lss (.s 5) (.s 7))) none] [0, 3, 4, 8] []) (.cond (.s 8) .skip (.exit 0))) (.seq (.block 1 (.region [.mk (some
  11) (.p (.mv (.s 3))) none, .mk (some 12) (.p (.mv (.s 0))) none, .mk (some 13) (.p (.mv (.s 4))) none, .mk (some 14) (.p (.iaddr 2 (.s 12) (.s 13))) none, .mk (some 15) (.r
  (.load (some 2) (.s 14))) none, .mk (some 16) (.e (.call 61 [.s 15])) none, .mk (some 17) (.p (.bin .add (.s 11) (.s 16))) none, .mk (some 3) (.p (.mv (.s 17))) none] [0, 3, 4]
  [])) (.region [.mk (some 9) (.p (.mv (.s 4))) none, .mk (some 10) (.p (.bin .add (.s 9) (.c (.int .i64 1)))) none, .mk (some 4) (.p (.mv (.s 10))) none] [0, 3, 4] [])))))) (.seq
  (.region [.mk (some 18) (.p (.mv (.s 3))) none, .mk (some 2) (.p (.mv (.s 18))) none] [2] []) .ret))))
theorem fn21 : (autoPrg Try.prog).fn 21 = some LF21 := by kernel_rfl

def LF22 : LFunc :=
  .mk 2 [.tmp 4] (.seq (.region [.mk (some 4) (.p (.mv (.c (.bool false)))) none] [0, 1] []) (.seq (.region [.mk (some 5) (.p (.mv (.s 1))) none, .mk (some 6) (.e (.call 62 [.s 5]))
  none, .mk (some 7) (.p (.mv (.s 6))) none, .mk (some 8) (.p (.mv (.s 0))) (some (7, true)), .mk (some 9) (.p (.mv (.s 1))) (some (7, true)), .mk (some 10) (.p (.conv .i64 (.s 9)))
  (some (7, true)), .mk (some 11) (.e (.call 64 [.s 10])) (some (7, true)), .mk (some 12) (.e (.call 63 [.s 8, .s 11])) (some (7, true)), .mk (some 13) (.p (.pick (.s 7) (.s 12) (.c
  (.bool false)))) none, .mk (some 4) (.p (.mv (.s 13))) none] [4] []) .ret))
theorem fn22 : (autoPrg Try.prog).fn 22 = some LF22 := by kernel_rfl

def LF63 : LFunc :=
  .mk 2 [.tmp 4] (.seq (.region [.mk (some 4) (.p (.mv (.c (.bool false)))) none] [0, 1] []) (.seq (.region [.mk (some 8) (.p (.mv (.s 0))) none, .mk (some 9) (.p (.nilck (.s 8)))
  none, .mk (some 10) (.p (.faddr 0 (.s 9))) none, .mk (some 11) (.r (.load none (.s 10))) none, .mk (some 12) (.p (.mv (.s 1))) none, .mk (some 13) (.e (.call 84 [.s 11, .s 12, .c
  (.func (.func 85) (Array.mk []) (Array.mk []))])) none, .mk (some 7) (.p (.mv (.s 13))) none, .mk (some 14) (.p (.ext 0 (.s 7))) none, .mk (some 15) (.p (.ext 1 (.s 7))) none, .mk
  (some 5) (.p (.mv (.s 14))) none, .mk (some 6) (.p (.mv (.s 15))) none] [0, 1, 5, 6] []) (.seq (.region [.mk (some 16) (.p (.mv (.s 6))) none, .mk (some 17) (.p (.mv (.s 16)))
  none, .mk (some 18) (.p (.mv (.s 5))) (some (17, false)), .mk (some 19) (.p (.bin .gtr (.s 18) (.c (.int .i64 0)))) (some (17, false)), .mk (some 20) (.p (.mv (.s 19))) (some (17,
  false)), .mk (some 21) (.p (.mv (.s 1))) (some (20, true)), .mk (some 22) (.p (.mv (.s 0))) (some (20, true)), .mk (some 23) (.p (.nilck (.s 22))) (some (20, true)), .mk (some 24)
  (.p (.faddr 0 (.s 23))) (some (20, true)), .mk (some 25) (.r (.load none (.s 24))) (some (20, true)), .mk (some 26) (.p (.mv (.s 5))) (some (20, true)), .mk (some 27) (.p (.bin
  .sub (.s 26) (.c (.int .i64 1)))) (some (20, true)), .mk (some 28) (.p (.iaddr 2 (.s 25) (.s 27))) (some (20, true)), .mk (some 29) (.p (.faddr 1 (.s 28))) (some (20, true)), .mk
  (some 30) (.r (.load none (.s 29))) (some (20, true)), .mk (some 31) (.p (.bin .lss (.s 21) (.s 30))) (some (20, true)), .mk (some 32) (.p (.pick (.s 20) (.s 31) (.c (.bool
  false)))) (some (17, false)), .mk (some 33) (.p (.pick (.s 17) (.c (.bool true)) (.s 32))) none, .mk (some 4) (.p (.mv (.s 33))) none] [4] []) .ret)))
theorem fn63 : (autoPrg Try.prog).fn 63 = some LF63 := by kernel_rfl

def LF23 : LFunc :=
  .mk 2 [.tmp 4] (.seq (.region [.mk (some 4) (.p (.mv (.c (.bool false)))) none] [0, 1] []) (.seq (.seq (.region [.mk (some 5) (.p (.mv (.c (.int .i64 0)))) none] [0, 1, 5] [])
  (.block 0 (.loop (.seq (.seq (.region [.mk (some 6) (.p (.mv (.s 5))) none, .mk (some 7) (.p (.mv (.s 0))) none, .mk (some 8) (.p (.len (.s 7))) none, .mk (some 9) (.p (.bin .lss
  (.s 6) (.s 8))) none] [0, 1, 5, 9] []) (.cond (.s 9) .skip (.exit 0))) (.seq (.block 1 (.seq (.region [.mk (some 12) (.p (.mv (.s 1))) none, .mk (some 13) (.e (.call 65 [.s 12]))
  none, .mk (some 14) (.p (.mv (.s 13))) none, .mk (some 15) (.p (.mv (.s 0))) (some (14, true)), .mk (some 16) (.p (.mv (.s 5))) (some (14, true)), .mk (some 17) (.p (.iaddr 2 (.s
  15) (.s 16))) (some (14, true)), .mk (some 18) (.p (.faddr 0 (.s 17))) (some (14, true)), .mk (some 19) (.r (.load none (.s 18))) (some (14, true)), .mk (some 20) (.p (.conv .i64
  (.s 19))) (some (14, true)), .mk (some 21) (.p (.mv (.s 1))) (some (14, true)), .mk (some 22) (.p (.bin .leq (.s 20) (.s 21))) (some (14, true)), .mk (some 23) (.p (.pick (.s 14)
  (.s 22) (.c (.bool false)))) none, .mk (some 24) (.p (.mv (.s 23))) none, .mk (some 25) (.p (.mv (.s 1))) (some (24, true)), .mk (some 26) (.p (.mv (.s 0))) (some (24, true)), .mk
  (some 27) (.p (.mv (.s 5))) (some (24, true)), .mk (some 28) (.p (.iaddr 2 (.s 26) (.s 27))) (some (24, true)), .mk (some 29) (.p (.faddr 1 (.s 28))) (some (24, true)), .mk (some
  30) (.r (.load none (.s 29))) (some (24, true)), .mk (some 31) (.p (.conv .i64 (.s 30))) (some (24, true)), .mk (some 32) (.p (.bin .leq (.s 25) (.s 31))) (some (24, true)), .mk
  (some 33) (.p (.pick (.s 24) (.s 32) (.c (.bool false)))) none] [0, 1, 5, 33] []) (.cond (.s 33) (.seq (.region [.mk (some 4) (.p (.mv (.c (.bool true)))) none] [4] []) .ret)
  .skip))) (.region [.mk (some 10) (.p (.mv (.s 5))) none, .mk (some 11) (.p (.bin .add (.s 10) (.c (.int .i64 1)))) none, .mk (some 5) (.p (.mv (.s 11))) none] [0, 1, 5] []))))))
  (.seq (.region [.mk (some 4) (.p (.mv (.c (.bool false)))) none] [4] []) .ret)))
theorem fn23 : (autoPrg Try.prog).fn 23 = some LF23 := by kernel_rfl

def LF59 : LFunc :=
  .mk 1 [.tmp 2] (.seq (.region [.mk (some 2) (.p (.mv (.c (.int .i64 0)))) none] [0] []) (.seq (.seq (.region [.mk (some 3) (.p (.mv (.c (.int .i64 0)))) none] [0, 3] []) (.block 0
  (.loop (.seq (.seq (.region [.mk (some 5) (.p (.mv (.s 3))) none, .mk (some 6) (.p (.mv (.s 0))) none, .mk (some 7) (.p (.len (.s 6))) none, .mk (some 8) (.p (.bin .lss (.s 5) (.s
  7))) none] [0, 3, 8] []) (.cond (.s 8) .skip (.exit 0))) (.seq (.block 1 (.seq (.region [.mk (some 11) (.p (.mv (.s 0))) none, .mk (some 12) (.p (.mv (.s 3))) none, .mk (some 13)
  (.p (.iaddr 2 (.s 11) (.s 12))) none, .mk (some 14) (.r (.load (some 2) (.s 13))) none, .mk (some 15) (.e (.call 72 [.s 14])) none, .mk (some 16) (.p (.bin .eql (.s 15) (.c (.int
  .i64 12)))) none] [0, 3, 16] []) (.cond (.s 16) (.seq (.region [.mk (some 2) (.p (.mv (.c (.int .i64 12)))) none] [2] []) .ret) .skip))) (.region [.mk (some 9) (.p (.mv (.s 3)))
  none, .mk (some 10) (.p (.bin .add (.s 9) (.c (.int .i64 1)))) none, .mk (some 3) (.p (.mv (.s 10))) none] [0, 3] [])))))) (.seq (.seq (.region [.mk (some 4) (.p (.mv (.c (.int
  .i64 0)))) none] [0, 4] []) (.block 2 (.loop (.seq (.seq (.region [.mk (some 17) (.p (.mv (.s 4))) none, .mk (some 18) (.p (.mv (.s 0))) none, .mk (some 19) (.p (.len (.s 18)))
  none, .mk (some 20) (.p (.bin .lss (.s 17) (.s 19))) none] [0, 4, 20] []) (.cond (.s 20) .skip (.exit 2))) (.seq (.block 3 (.seq (.region [.mk (some 23) (.p (.mv (.s 0))) none,
  .mk (some 24) (.p (.mv (.s 4))) none, .mk (some 25) (.p (.iaddr 2 (.s 23) (.s 24))) none, .mk (some 26) (.r (.load (some 2) (.s 25))) none, .mk (some 27) (.e (.call 72 [.s 26]))
  none, .mk (some 28) (.p (.bin .eql (.s 27) (.c (.int .i64 11)))) none] [0, 4, 28] []) (.cond (.s 28) (.seq (.region [.mk (some 2) (.p (.mv (.c (.int .i64 11)))) none] [2] [])
  .ret) .skip))) (.region [.mk (some 21) (.p (.mv (.s 4))) none, .mk (some 22) (.p (.bin .add (.s 21) (.c (.int .i64 1)))) none, .mk (some 4) (.p (.mv (.s 22))) none] [0, 4]
  [])))))) (.seq (.region [.mk (some 2) (.p (.mv (.c (.int .i64 0)))) none] [2] []) .ret))))
theorem fn59 : (autoPrg Try.prog).fn 59 = some LF59 := by kernel_rfl

def LF36 : LFunc :=
  .mk 1 [.tmp 2] (.seq (.region [.mk (some 2) (.p (.mv (.c (.slice none 0 0)))) none] [0] []) (.seq (.region [.mk (some 3) (.p (.mv (.c (.slice none 0 0)))) none] [0, 3] []) (.seq
  (.region [.mk (some 4) (.p (.mv (.c (.int .i32 0)))) none] [0, 3, 4] []) (.block 0 (.loop (.block 1 (.seq (.region [.mk (some 5) (.p (.mv (.c (.int .i32 1114112)))) none] [0, 3,
  4, 5] []) (.seq (.seq (.region [.mk (some 6) (.p (.mv (.c (.int .i64 0)))) none] [0, 3, 4, 5, 6] []) (.block 2 (.loop (.seq (.seq (.region [.mk (some 11) (.p (.mv (.s 6))) none,
  .mk (some 12) (.p (.mv (.s 0))) none, .mk (some 13) (.p (.len (.s 12))) none, .mk (some 14) (.p (.bin .lss (.s 11) (.s 13))) none] [0, 3, 4, 5, 6, 14] []) (.cond (.s 14) .skip
  (.exit 2))) (.seq (.block 3 (.seq (.region [.mk (some 17) (.p (.mv (.s 0))) none, .mk (some 18) (.p (.mv (.s 6))) none, .mk (some 19) (.p (.iaddr 2 (.s 17) (.s 18))) none, .mk
  (some 20) (.p (.faddr 0 (.s 19))) none, .mk (some 21) (.r (.load none (.s 20))) none, .mk (some 7) (.p (.mv (.s 21))) none] [0, 3, 4, 5, 6, 7] []) (.seq (.seq (.region [.mk (some
  22) (.p (.mv (.s 7))) none, .mk (some 23) (.p (.mv (.s 4))) none, .mk (some 24) (.p (.bin .lss (.s 22) (.s 23))) none] [0, 3, 4, 5, 6, 7, 24] []) (.cond (.s 24) (.region [.mk
  (some 25) (.p (.mv (.s 4))) none, .mk (some 7) (.p (.mv (.s 25))) none] [0, 3, 4, 5, 6, 7] []) .skip)) (.seq (.region [.mk (some 26) (.p (.mv (.s 7))) none, .mk (some 27) (.p (.mv
  (.s 0))) none, .mk (some 28) (.p (.mv (.s 6))) none, .mk (some 29) (.p (.iaddr 2 (.s 27) (.s 28))) none, .mk (some 30) (.p (.faddr 1 (.s 29))) none, .mk (some 31) (.r (.load none
  (.s 30))) none, .mk (some 32) (.p (.bin .leq (.s 26) (.s 31))) none, .mk (some 33) (.p (.mv (.s 32))) none, .mk (some 34) (.p (.mv (.s 7))) (some (33, true)), .mk (some 35) (.p
  (.mv (.s 5))) (some (33, true)), .mk (some 36) (.p (.bin .lss (.s 34) (.s 35))) (some (33, true)), .mk (some 37) (.p (.pick (.s 33) (.s 36) (.c (.bool false)))) none, .mk (some
  38) (.p (.mv (.s 37))) none, .mk (some 39) (.p (.mv (.s 7))) (some (38, true)), .mk (some 40) (.p (.bin .lss (.s 39) (.c (.int .i32 55296)))) (some (38, true)), .mk (some 41) (.p
  (.mv (.s 40))) (some (38, true)), .mk (some 42) (.p (.mv (.s 7))) (some (41, false)), .mk (some 43) (.p (.bin .gtr (.s 42) (.c (.int .i32 57343)))) (some (41, false)), .mk (some
  44) (.p (.pick (.s 41) (.c (.bool true)) (.s 43))) (some (38, true)), .mk (some 45) (.p (.pick (.s 38) (.s 44) (.c (.bool false)))) none] [0, 3, 4, 5, 6, 7, 45] []) (.cond (.s 45)
  (.region [.mk (some 46) (.p (.mv (.s 7))) none, .mk (some 5) (.p (.mv (.s 46))) none] [0, 3, 4, 5, 6] []) .skip))))) (.region [.mk (some 15) (.p (.mv (.s 6))) none, .mk (some 16)
  (.p (.bin .add (.s 15) (.c (.int .i64 1)))) none, .mk (some 6) (.p (.mv (.s 16))) none] [0, 3, 4, 5, 6] [])))))) (.seq (.seq (.region [.mk (some 47) (.p (.mv (.s 5))) none, .mk
  (some 48) (.p (.bin .gtr (.s 47) (.c (.int .i32 1114111)))) none] [0, 3, 5, 48] []) (.cond (.s 48) (.seq (.region [.mk (some 49) (.p (.mv (.s 3))) none, .mk (some 2) (.p (.mv (.s
  49))) none] [2] []) .ret) .skip)) (.seq (.region [.mk (some 50) (.p (.mv (.s 5))) none, .mk (some 8) (.p (.mv (.s 50))) none] [0, 3, 5, 8] []) (.seq (.region [.mk (some 9) (.p
  (.mv (.c (.bool true)))) none] [0, 3, 5, 8, 9] []) (.seq (.block 4 (.loop (.seq (.seq (.region [.mk (some 51) (.p (.mv (.s 9))) none] [0, 3, 5, 8, 51] []) (.cond (.s 51) .skip
  (.exit 4))) (.block 5 (.seq (.region [.mk (some 9) (.p (.mv (.c (.bool false)))) none] [0, 3, 5, 8, 9] []) (.seq (.region [.mk (some 10) (.p (.mv (.c (.int .i64 0)))) none] [0, 3,
  5, 8, 9, 10] []) (.block 6 (.loop (.seq (.seq (.region [.mk (some 52) (.p (.mv (.s 10))) none, .mk (some 53) (.p (.mv (.s 0))) none, .mk (some 54) (.p (.len (.s 53))) none, .mk
  (some 55) (.p (.bin .lss (.s 52) (.s 54))) none] [0, 3, 5, 8, 9, 10, 55] []) (.cond (.s 55) .skip (.exit 6))) (.seq (.block 7 (.seq (.region [.mk (some 58) (.p (.mv (.s 0))) none,
  .mk (some 59) (.p (.mv (.s 10))) none, .mk (some 60) (.p (.iaddr 2 (.s 58) (.s 59))) none, .mk (some 61) (.p (.faddr 0 (.s 60))) none, .mk (some 62) (.r (.load none (.s 61)))
  none, .mk (some 63) (.p (.mv (.s 8))) none, .mk (some 64) (.e (.call 74 [.s 63])) none, .mk (some 65) (.p (.bin .leq (.s 62) (.s 64))) none, .mk (some 66) (.p (.mv (.s 65))) none,
  .mk (some 67) (.p (.mv (.s 0))) (some (66, true)), .mk (some 68) (.p (.mv (.s 10))) (some (66, true)), .mk (some 69) (.p (.iaddr 2 (.s 67) (.s 68))) (some (66, true)), .mk (some
  70) (.p (.faddr 1 (.s 69))) (some (66, true)), .mk (some 71) (.r (.load none (.s 70))) (some (66, true)), .mk (some 72) (.p (.mv (.s 8))) (some (66, true)), .mk (some 73) (.p
  (.bin .gtr (.s 71) (.s 72))) (some (66, true)), .mk (some 74) (.p (.pick (.s 66) (.s 73) (.c (.bool false)))) none] [0, 3, 5, 8, 9, 10, 74] [(4, 7)]) (.cond (.s 74) (.seq (.region
  [.mk (some 75) (.p (.mv (.s 0))) none, .mk (some 76) (.p (.mv (.s 10))) none, .mk (some 77) (.p (.iaddr 2 (.s 75) (.s 76))) none, .mk (some 78) (.p (.faddr 1 (.s 77))) none, .mk
  (some 79) (.r (.load none (.s 78))) none, .mk (some 8) (.p (.mv (.s 79))) none] [0, 3, 5, 8, 10] []) (.region [.mk (some 9) (.p (.mv (.c (.bool true)))) none] [0, 3, 5, 8, 9, 10]
  [])) .skip))) (.region [.mk (some 56) (.p (.mv (.s 10))) none, .mk (some 57) (.p (.bin .add (.s 56) (.c (.int .i64 1)))) none, .mk (some 10) (.p (.mv (.s 57))) none] [0, 3, 5, 8,
  9, 10] []))))))))))) (.seq (.region [.mk (some 80) (.p (.mv (.s 3))) none, .mk (some 81) (.p (.mv (.s 5))) none, .mk (some 82) (.p (.mv (.s 8))) none, .mk (some 83) (.p (.build
  [.int .i32 0, .int .i32 0] [(0, 1, .s 81), (1, 1, .s 82)])) none, .mk (some 84) (.e (.litL 84 1 2 [.int .i32 0, .int .i32 0] [(0, 2, .s 83)])) none, .mk (some 85) (.e (.append 2 8
  (.s 80) (.s 84))) none, .mk (some 3) (.p (.mv (.s 85))) none] [0, 3, 8] []) (.region [.mk (some 86) (.p (.mv (.s 8))) none, .mk (some 87) (.e (.call 74 [.s 86])) none, .mk (some
  4) (.p (.mv (.s 87))) none] [0, 3, 4] []))))))))))))))
theorem fn36 : (autoPrg Try.prog).fn 36 = some LF36 := by kernel_rfl

def LF4 : LFunc :=
  .mk 1 [.tmp 2] (.seq (.region [.mk (some 2) (.p (.mv (.c (.bool false)))) none] [0] []) (.seq (.seq (.region [.mk (some 9) (.e (.call 14 [])) none, .mk (some 10) (.p (.un .not (.s
  9))) none] [0, 10] []) (.cond (.s 10) (.seq (.region [.mk (some 2) (.p (.mv (.c (.bool false)))) none] [2] []) .ret) .skip)) (.seq (.region [.mk (some 11) (.p (.mv (.s 0))) none,
  .mk (some 12) (.e (.call 15 [.s 11])) none, .mk (some 13) (.e (.append 2 8 (.c (.slice none 0 0)) (.s 12))) none, .mk (some 0) (.p (.mv (.s 13))) none] [0] []) (.seq (.region [.mk
  (some 15) (.p (.mv (.s 0))) none, .mk (some 16) (.e (.call 17 [.s 15])) none, .mk (some 14) (.p (.mv (.s 16))) none, .mk (some 17) (.p (.ext 0 (.s 14))) none, .mk (some 18) (.p
  (.ext 1 (.s 14))) none, .mk (some 19) (.p (.ext 2 (.s 14))) none, .mk (some 3) (.p (.mv (.s 17))) none, .mk (some 4) (.p (.mv (.s 18))) none, .mk (some 5) (.p (.mv (.s 19))) none]
  [0, 3, 4, 5] []) (.seq (.seq (.region [.mk (some 20) (.p (.mv (.s 5))) none, .mk (some 21) (.p (.un .not (.s 20))) none, .mk (some 22) (.p (.mv (.s 21))) none, .mk (some 23) (.p
  (.mv (.s 3))) (some (22, false)), .mk (some 24) (.p (.eqk false .ptr (.s 23) (.c (.pointer none)))) (some (22, false)), .mk (some 25) (.p (.pick (.s 22) (.c (.bool true)) (.s
  24))) none] [0, 3, 4, 5, 25] []) (.cond (.s 25) (.seq (.region [.mk (some 26) (.p (.mv (.s 5))) none, .mk (some 2) (.p (.mv (.s 26))) none] [2] []) .ret) .skip)) (.seq (.seq
  (.region [.mk (some 6) (.p (.mv (.c (.int .i64 0)))) none] [0, 3, 4, 6] []) (.block 0 (.loop (.seq (.seq (.region [.mk (some 27) (.p (.mv (.s 6))) none, .mk (some 28) (.p (.mv (.s
  0))) none, .mk (some 29) (.p (.len (.s 28))) none, .mk (some 30) (.p (.bin .lss (.s 27) (.s 29))) none] [0, 3, 4, 6, 30] []) (.cond (.s 30) .skip (.exit 0))) (.seq (.block 1
  (.region [.mk (some 33) (.p (.mv (.s 0))) none, .mk (some 34) (.p (.mv (.s 6))) none, .mk (some 35) (.p (.build [.int .i32 0, .int .i32 0] [])) none, .mk (some 36) (.p (.iaddr 2
  (.s 33) (.s 34))) none, .mk none (.e (.store 2 (.s 36) (.s 35))) none] [0, 3, 4, 6] [])) (.region [.mk (some 31) (.p (.mv (.s 6))) none, .mk (some 32) (.p (.bin .add (.s 31) (.c
  (.int .i64 1)))) none, .mk (some 6) (.p (.mv (.s 32))) none] [0, 3, 4, 6] [])))))) (.seq (.region [.mk (some 37) (.p (.mv (.s 3))) none, .mk (some 38) (.e (.call 18 [.s 37]))
  none, .mk (some 7) (.p (.mv (.s 38))) none] [3, 4, 7] []) (.seq (.seq (.region [.mk (some 8) (.p (.mv (.c (.int .i64 0)))) none] [3, 4, 7, 8] []) (.block 2 (.loop (.seq (.seq
  (.region [.mk (some 39) (.p (.mv (.s 8))) none, .mk (some 40) (.p (.mv (.s 7))) none, .mk (some 41) (.p (.len (.s 40))) none, .mk (some 42) (.p (.bin .lss (.s 39) (.s 41))) none]
  [3, 4, 7, 8, 42] []) (.cond (.s 42) .skip (.exit 2))) (.seq (.block 3 (.region [.mk (some 45) (.p (.mv (.s 7))) none, .mk (some 46) (.p (.mv (.s 8))) none, .mk (some 47) (.p
  (.build [.int .i32 0, .int .i32 0] [])) none, .mk (some 48) (.p (.iaddr 2 (.s 45) (.s 46))) none, .mk none (.e (.store 2 (.s 48) (.s 47))) none] [3, 4, 7, 8] [])) (.region [.mk
  (some 43) (.p (.mv (.s 8))) none, .mk (some 44) (.p (.bin .add (.s 43) (.c (.int .i64 1)))) none, .mk (some 8) (.p (.mv (.s 44))) none] [3, 4, 7, 8] [])))))) (.seq (.region [.mk
  (some 49) (.p (.mv (.s 3))) none, .mk (some 50) (.e (.call 18 [.s 49])) none, .mk (some 51) (.p (.mv (.s 4))) none, .mk (some 52) (.e (.call 19 [.s 50, .s 51])) none, .mk (some
  53) (.p (.mv (.s 52))) none, .mk (some 54) (.p (.mv (.s 3))) (some (53, true)), .mk (some 55) (.e (.call 20 [.s 54])) (some (53, true)), .mk (some 56) (.p (.mv (.s 4))) (some (53,
  true)), .mk (some 57) (.e (.call 21 [.s 56])) (some (53, true)), .mk (some 58) (.p (.bin .eql (.s 55) (.s 57))) (some (53, true)), .mk (some 59) (.p (.pick (.s 53) (.s 58) (.c
  (.bool false)))) none, .mk (some 2) (.p (.mv (.s 59))) none] [2] []) .ret)))))))))
theorem fn4 : (autoPrg Try.prog).fn 4 = some LF4 := by kernel_rfl

def LF37 : LFunc :=
  .mk 2 [.tmp 4, .tmp 5] (.seq (.region [.mk (some 4) (.p (.mv (.c (.int .i32 0)))) none, .mk (some 5) (.p (.mv (.c (.bool false)))) none] [0, 1] []) (.seq (.seq (.region [.mk (some
  8) (.p (.mv (.s 1))) none, .mk (some 9) (.p (.bin .lss (.s 8) (.c (.int .i64 0)))) none] [0, 1, 9] []) (.cond (.s 9) (.seq (.region [.mk (some 4) (.p (.mv (.c (.int .i32 0))))
  none, .mk (some 5) (.p (.mv (.c (.bool false)))) none] [4, 5] []) .ret) .skip)) (.seq (.seq (.region [.mk (some 10) (.p (.mv (.s 0))) none, .mk (some 11) (.p (.nilck (.s 10)))
  none, .mk (some 12) (.p (.faddr 0 (.s 11))) none, .mk (some 13) (.r (.load none (.s 12))) none, .mk (some 14) (.p (.len (.s 13))) none, .mk (some 15) (.p (.mv (.c (.int .i64 0))))
  none] [1, 13, 14, 15] []) (.block 0 (.loop (.seq (.region [.mk (some 16) (.p (.bin .lss (.s 15) (.s 14))) none] [1, 13, 14, 15, 16] []) (.seq (.cond (.s 16) .skip (.exit 0)) (.seq
  (.block 1 (.seq (.region [.mk (some 17) (.p (.iaddr 2 (.s 13) (.s 15))) none, .mk (some 18) (.r (.load (some 2) (.s 17))) none, .mk (some 7) (.e (.newL 7 [.int .i64 0, .int .i64
  0])) none, .mk none (.e (.store 2 (.s 7) (.s 18))) none] [1, 7, 13, 14, 15] []) (.seq (.seq (.region [.mk (some 19) (.p (.mv (.s 1))) none, .mk (some 20) (.p (.faddr 1 (.s 7)))
  none, .mk (some 21) (.r (.load none (.s 20))) none, .mk (some 22) (.p (.faddr 0 (.s 7))) none, .mk (some 23) (.r (.load none (.s 22))) none, .mk (some 24) (.p (.bin .sub (.s 21)
  (.s 23))) none, .mk (some 25) (.p (.bin .lss (.s 19) (.s 24))) none] [1, 7, 13, 14, 15, 25] []) (.cond (.s 25) (.seq (.region [.mk (some 26) (.p (.faddr 0 (.s 7))) none, .mk (some
  27) (.r (.load none (.s 26))) none, .mk (some 28) (.p (.mv (.s 1))) none, .mk (some 29) (.p (.bin .add (.s 27) (.s 28))) none, .mk (some 30) (.e (.call 60 [.s 29])) none, .mk
  (some 4) (.p (.mv (.s 30))) none, .mk (some 5) (.p (.mv (.c (.bool true)))) none] [4, 5] []) .ret) .skip)) (.region [.mk (some 31) (.p (.mv (.s 1))) none, .mk (some 32) (.p
  (.faddr 1 (.s 7))) none, .mk (some 33) (.r (.load none (.s 32))) none, .mk (some 34) (.p (.faddr 0 (.s 7))) none, .mk (some 35) (.r (.load none (.s 34))) none, .mk (some 36) (.p
  (.bin .sub (.s 33) (.s 35))) none, .mk (some 37) (.p (.bin .sub (.s 31) (.s 36))) none, .mk (some 1) (.p (.mv (.s 37))) none] [1, 13, 14, 15] [])))) (.region [.mk (some 38) (.p
  (.bin .add (.s 15) (.c (.int .i64 1)))) none, .mk (some 15) (.p (.mv (.s 38))) none] [1, 13, 14, 15] []))))))) (.seq (.region [.mk (some 4) (.p (.mv (.c (.int .i32 0)))) none, .mk
  (some 5) (.p (.mv (.c (.bool false)))) none] [4, 5] []) .ret))))
theorem fn37 : (autoPrg Try.prog).fn 37 = some LF37 := by kernel_rfl

def LF38 : LFunc :=
  .mk 2 [.tmp 4] (.seq (.region [.mk (some 4) (.p (.mv (.c (.int .i32 0)))) none] [0, 1] []) (.seq (.seq (.region [.mk (some 7) (.p (.mv (.s 1))) none, .mk (some 8) (.p (.bin .lss
  (.s 7) (.c (.int .i64 0)))) none] [0, 1, 8] []) (.cond (.s 8) (.seq (.region [.mk (some 4) (.p (.mv (.c (.int .i32 (-1))))) none] [4] []) .ret) .skip)) (.seq (.seq (.region [.mk
  (some 5) (.p (.mv (.c (.int .i64 0)))) none] [0, 1, 5] []) (.block 0 (.loop (.seq (.seq (.region [.mk (some 9) (.p (.mv (.s 5))) none, .mk (some 10) (.p (.mv (.s 0))) none, .mk
  (some 11) (.p (.len (.s 10))) none, .mk (some 12) (.p (.bin .lss (.s 9) (.s 11))) none] [0, 1, 5, 12] []) (.cond (.s 12) .skip (.exit 0))) (.seq (.block 1 (.seq (.seq (.region
  [.mk (some 15) (.p (.mv (.s 1))) none, .mk (some 16) (.p (.mv (.s 0))) none, .mk (some 17) (.p (.mv (.s 5))) none, .mk (some 18) (.p (.iaddr 2 (.s 16) (.s 17))) none, .mk (some
  19) (.r (.load (some 2) (.s 18))) none, .mk (some 20) (.e (.call 61 [.s 19])) none, .mk (some 21) (.p (.bin .lss (.s 15) (.s 20))) none] [0, 1, 5, 21] []) (.cond (.s 21) (.seq
  (.region [.mk (some 22) (.p (.mv (.s 0))) none, .mk (some 23) (.p (.mv (.s 5))) none, .mk (some 24) (.p (.iaddr 2 (.s 22) (.s 23))) none, .mk (some 25) (.p (.faddr 0 (.s 24)))
  none, .mk (some 26) (.r (.load none (.s 25))) none, .mk (some 27) (.p (.conv .i64 (.s 26))) none, .mk (some 28) (.p (.mv (.s 1))) none, .mk (some 29) (.p (.bin .add (.s 27) (.s
  28))) none, .mk (some 6) (.p (.mv (.s 29))) none] [0, 5, 6] []) (.seq (.seq (.region [.mk (some 30) (.p (.mv (.s 0))) none, .mk (some 31) (.p (.mv (.s 5))) none, .mk (some 32) (.p
  (.iaddr 2 (.s 30) (.s 31))) none, .mk (some 33) (.p (.faddr 0 (.s 32))) none, .mk (some 34) (.r (.load none (.s 33))) none, .mk (some 35) (.p (.bin .lss (.s 34) (.c (.int .i32
  55296)))) none, .mk (some 36) (.p (.mv (.s 35))) none, .mk (some 37) (.p (.mv (.s 6))) (some (36, true)), .mk (some 38) (.p (.bin .geq (.s 37) (.c (.int .i64 55296)))) (some (36,
  true)), .mk (some 39) (.p (.pick (.s 36) (.s 38) (.c (.bool false)))) none] [6, 39] []) (.cond (.s 39) (.region [.mk (some 40) (.p (.mv (.s 6))) none, .mk (some 41) (.p (.bin .add
  (.s 40) (.c (.int .i64 2048)))) none, .mk (some 6) (.p (.mv (.s 41))) none] [6] []) .skip)) (.seq (.region [.mk (some 42) (.p (.mv (.s 6))) none, .mk (some 43) (.p (.conv .i32 (.s
  42))) none, .mk (some 4) (.p (.mv (.s 43))) none] [4] []) .ret))) .skip)) (.region [.mk (some 44) (.p (.mv (.s 1))) none, .mk (some 45) (.p (.mv (.s 0))) none, .mk (some 46) (.p
  (.mv (.s 5))) none, .mk (some 47) (.p (.iaddr 2 (.s 45) (.s 46))) none, .mk (some 48) (.r (.load (some 2) (.s 47))) none, .mk (some 49) (.e (.call 61 [.s 48])) none, .mk (some 50)
  (.p (.bin .sub (.s 44) (.s 49))) none, .mk (some 1) (.p (.mv (.s 50))) none] [0, 1, 5] []))) (.region [.mk (some 13) (.p (.mv (.s 5))) none, .mk (some 14) (.p (.bin .add (.s 13)
  (.c (.int .i64 1)))) none, .mk (some 5) (.p (.mv (.s 14))) none] [0, 1, 5] [])))))) (.seq (.region [.mk (some 4) (.p (.mv (.c (.int .i32 (-1))))) none] [4] []) .ret))))
theorem fn38 : (autoPrg Try.prog).fn 38 = some LF38 := by kernel_rfl

def LF39 : LFunc :=
  .mk 2 [.tmp 4, .tmp 5] (.seq (.region [.mk (some 4) (.p (.mv (.c (.int .i32 0)))) none, .mk (some 5) (.p (.mv (.c (.bool false)))) none] [0, 1] []) (.seq (.seq (.region [.mk (some
  6) (.p (.mv (.s 1))) none, .mk (some 7) (.p (.bin .eql (.s 6) (.c (.int .i32 2147483647)))) none] [0, 1, 7] []) (.cond (.s 7) (.seq (.region [.mk (some 4) (.p (.mv (.c (.int .i32
  0)))) none, .mk (some 5) (.p (.mv (.c (.bool false)))) none] [4, 5] []) .ret) .skip)) (.seq (.region [.mk (some 8) (.p (.mv (.s 0))) none, .mk (some 9) (.p (.mv (.s 0))) none, .mk
  (some 10) (.p (.mv (.s 1))) none, .mk (some 11) (.p (.bin .add (.s 10) (.c (.int .i32 1)))) none, .mk (some 12) (.e (.call 41 [.s 9, .s 11])) none, .mk (some 13) (.e (.call 37 [.s
  8, .s 12])) none, .mk (some 14) (.p (.ext 0 (.s 13))) none, .mk (some 15) (.p (.ext 1 (.s 13))) none, .mk (some 4) (.p (.mv (.s 14))) none, .mk (some 5) (.p (.mv (.s 15))) none]
  [4, 5] []) .ret)))
theorem fn39 : (autoPrg Try.prog).fn 39 = some LF39 := by kernel_rfl

def LF40 : LFunc :=
  .mk 2 [.tmp 4] (.seq (.region [.mk (some 4) (.p (.mv (.c (.int .i32 0)))) none] [0, 1] []) (.seq (.seq (.region [.mk (some 5) (.p (.mv (.c (.int .i64 0)))) none] [0, 1, 5] [])
  (.block 0 (.loop (.seq (.seq (.region [.mk (some 7) (.p (.mv (.s 5))) none, .mk (some 8) (.p (.mv (.s 0))) none, .mk (some 9) (.p (.len (.s 8))) none, .mk (some 10) (.p (.bin .lss
  (.s 7) (.s 9))) none] [0, 1, 5, 10] []) (.cond (.s 10) .skip (.exit 0))) (.seq (.block 1 (.seq (.seq (.region [.mk (some 13) (.p (.mv (.s 0))) none, .mk (some 14) (.p (.mv (.s
  5))) none, .mk (some 15) (.p (.iaddr 2 (.s 13) (.s 14))) none, .mk (some 16) (.p (.faddr 0 (.s 15))) none, .mk (some 17) (.r (.load none (.s 16))) none, .mk (some 18) (.p (.mv (.s
  1))) none, .mk (some 19) (.p (.bin .gtr (.s 17) (.s 18))) none] [0, 1, 5, 19] []) (.cond (.s 19) (.seq (.region [.mk (some 20) (.p (.mv (.s 0))) none, .mk (some 21) (.p (.mv (.s
  5))) none, .mk (some 22) (.p (.iaddr 2 (.s 20) (.s 21))) none, .mk (some 23) (.p (.faddr 0 (.s 22))) none, .mk (some 24) (.r (.load none (.s 23))) none, .mk (some 4) (.p (.mv (.s
  24))) none] [4] []) .ret) .skip)) (.seq (.region [.mk (some 25) (.p (.mv (.s 0))) none, .mk (some 26) (.p (.mv (.s 5))) none, .mk (some 27) (.p (.iaddr 2 (.s 25) (.s 26))) none,
  .mk (some 28) (.p (.faddr 1 (.s 27))) none, .mk (some 29) (.r (.load none (.s 28))) none, .mk (some 30) (.p (.mv (.s 1))) none, .mk (some 31) (.p (.bin .gtr (.s 29) (.s 30)))
  none] [0, 1, 5, 31] []) (.cond (.s 31) (.seq (.region [.mk (some 32) (.p (.mv (.s 1))) none, .mk (some 33) (.e (.call 74 [.s 32])) none, .mk (some 6) (.p (.mv (.s 33))) none] [6]
  []) (.seq (.seq (.region [.mk (some 34) (.p (.mv (.s 6))) none, .mk (some 35) (.p (.bin .geq (.s 34) (.c (.int .i32 55296)))) none, .mk (some 36) (.p (.mv (.s 35))) none, .mk
  (some 37) (.p (.mv (.s 6))) (some (36, true)), .mk (some 38) (.p (.bin .leq (.s 37) (.c (.int .i32 57343)))) (some (36, true)), .mk (some 39) (.p (.pick (.s 36) (.s 38) (.c (.bool
  false)))) none] [6, 39] []) (.cond (.s 39) (.region [.mk (some 6) (.p (.mv (.c (.int .i32 57344)))) none] [6] []) .skip)) (.seq (.region [.mk (some 40) (.p (.mv (.s 6))) none, .mk
  (some 4) (.p (.mv (.s 40))) none] [4] []) .ret))) .skip)))) (.region [.mk (some 11) (.p (.mv (.s 5))) none, .mk (some 12) (.p (.bin .add (.s 11) (.c (.int .i64 1)))) none, .mk
  (some 5) (.p (.mv (.s 12))) none] [0, 1, 5] [])))))) (.seq (.region [.mk (some 4) (.p (.mv (.c (.int .i32 (-1))))) none] [4] []) .ret)))
theorem fn40 : (autoPrg Try.prog).fn 40 = some LF40 := by kernel_rfl

def LF41 : LFunc :=
  .mk 2 [.tmp 4] (.seq (.region [.mk (some 4) (.p (.mv (.c (.int .i64 0)))) none] [0, 1] []) (.seq (.region [.mk (some 9) (.p (.mv (.s 1))) none, .mk (some 10) (.p (.conv .i64 (.s
  9))) none, .mk (some 11) (.e (.call 64 [.s 10])) none, .mk (some 5) (.p (.mv (.c (.int .i64 0)))) none, .mk (some 6) (.p (.mv (.s 11))) none] [0, 5, 6] []) (.seq (.seq (.region
  [.mk (some 12) (.p (.mv (.s 0))) none, .mk (some 13) (.p (.nilck (.s 12))) none, .mk (some 14) (.p (.faddr 0 (.s 13))) none, .mk (some 15) (.r (.load none (.s 14))) none, .mk
  (some 16) (.p (.len (.s 15))) none, .mk (some 17) (.p (.mv (.c (.int .i64 0)))) none] [5, 6, 15, 16, 17] []) (.block 0 (.loop (.seq (.region [.mk (some 18) (.p (.bin .lss (.s 17)
  (.s 16))) none] [5, 6, 15, 16, 17, 18] []) (.seq (.cond (.s 18) .skip (.exit 0)) (.seq (.block 1 (.seq (.region [.mk (some 19) (.p (.iaddr 2 (.s 15) (.s 17))) none, .mk (some 20)
  (.r (.load (some 2) (.s 19))) none, .mk (some 8) (.e (.newL 8 [.int .i64 0, .int .i64 0])) none, .mk none (.e (.store 2 (.s 8) (.s 20))) none] [5, 6, 8, 15, 16, 17] []) (.region
  [.mk (some 21) (.p (.mv (.s 5))) none, .mk (some 22) (.p (.faddr 1 (.s 8))) none, .mk (some 23) (.r (.load none (.s 22))) none, .mk (some 24) (.p (.mv (.s 6))) none, .mk (some 25)
  (.p (.mm false [.s 23, .s 24])) none, .mk (some 26) (.p (.faddr 0 (.s 8))) none, .mk (some 27) (.r (.load none (.s 26))) none, .mk (some 28) (.p (.bin .sub (.s 25) (.s 27))) none,
  .mk (some 29) (.p (.mm true [.s 28, .c (.int .i64 0)])) none, .mk (some 30) (.p (.bin .add (.s 21) (.s 29))) none, .mk (some 5) (.p (.mv (.s 30))) none] [5, 6, 15, 16, 17] [])))
  (.region [.mk (some 31) (.p (.bin .add (.s 17) (.c (.int .i64 1)))) none, .mk (some 17) (.p (.mv (.s 31))) none] [5, 6, 15, 16, 17] []))))))) (.seq (.region [.mk (some 32) (.p
  (.mv (.s 5))) none, .mk (some 4) (.p (.mv (.s 32))) none] [4] []) .ret))))
theorem fn41 : (autoPrg Try.prog).fn 41 = some LF41 := by kernel_rfl

def LF42 : LFunc :=
  .mk 2 [.tmp 4] (.seq (.region [.mk (some 4) (.p (.mv (.c (.int .i64 0)))) none] [0, 1] []) (.seq (.region [.mk (some 5) (.p (.mv (.c (.int .i64 0)))) none] [0, 1, 5] []) (.seq
  (.seq (.region [.mk (some 6) (.p (.mv (.c (.int .i64 0)))) none] [0, 1, 5, 6] []) (.block 0 (.loop (.seq (.seq (.region [.mk (some 8) (.p (.mv (.s 6))) none, .mk (some 9) (.p (.mv
  (.s 0))) none, .mk (some 10) (.p (.len (.s 9))) none, .mk (some 11) (.p (.bin .lss (.s 8) (.s 10))) none] [0, 1, 5, 6, 11] []) (.cond (.s 11) .skip (.exit 0))) (.seq (.block 1
  (.seq (.seq (.region [.mk (some 14) (.p (.mv (.s 0))) none, .mk (some 15) (.p (.mv (.s 6))) none, .mk (some 16) (.p (.iaddr 2 (.s 14) (.s 15))) none, .mk (some 17) (.p (.faddr 0
  (.s 16))) none, .mk (some 18) (.r (.load none (.s 17))) none, .mk (some 19) (.p (.mv (.s 1))) none, .mk (some 20) (.p (.bin .geq (.s 18) (.s 19))) none] [0, 1, 5, 6, 20] [])
  (.cond (.s 20) (.exit 1) .skip)) (.seq (.region [.mk (some 21) (.p (.mv (.s 0))) none, .mk (some 22) (.p (.mv (.s 6))) none, .mk (some 23) (.p (.iaddr 2 (.s 21) (.s 22))) none,
  .mk (some 24) (.r (.load (some 2) (.s 23))) none, .mk (some 7) (.e (.newL 7 [.int .i32 0, .int .i32 0])) none, .mk none (.e (.store 2 (.s 7) (.s 24))) none] [0, 1, 5, 6, 7] [])
  (.seq (.seq (.region [.mk (some 25) (.p (.faddr 1 (.s 7))) none, .mk (some 26) (.r (.load none (.s 25))) none, .mk (some 27) (.p (.mv (.s 1))) none, .mk (some 28) (.p (.bin .geq
  (.s 26) (.s 27))) none] [0, 1, 5, 6, 7, 28] []) (.cond (.s 28) (.region [.mk (some 29) (.p (.mv (.s 1))) none, .mk (some 30) (.p (.bin .sub (.s 29) (.c (.int .i32 1)))) none, .mk
  (some 31) (.p (.faddr 1 (.s 7))) none, .mk none (.e (.store 1 (.s 31) (.s 30))) none] [0, 1, 5, 6, 7] []) .skip)) (.seq (.seq (.region [.mk (some 32) (.p (.faddr 1 (.s 7))) none,
  .mk (some 33) (.r (.load none (.s 32))) none, .mk (some 34) (.p (.bin .geq (.s 33) (.c (.int .i32 55296)))) none, .mk (some 35) (.p (.mv (.s 34))) none, .mk (some 36) (.p (.faddr
  1 (.s 7))) (some (35, true)), .mk (some 37) (.r (.load none (.s 36))) (some (35, true)), .mk (some 38) (.p (.bin .leq (.s 37) (.c (.int .i32 57343)))) (some (35, true)), .mk (some
  39) (.p (.pick (.s 35) (.s 38) (.c (.bool false)))) none] [0, 1, 5, 6, 7, 39] []) (.cond (.s 39) (.region [.mk (some 40) (.p (.faddr 1 (.s 7))) none, .mk none (.e (.store 1 (.s
  40) (.c (.int .i32 55295)))) none] [0, 1, 5, 6, 7] []) .skip)) (.region [.mk (some 41) (.p (.mv (.s 5))) none, .mk (some 42) (.r (.load (some 2) (.s 7))) none, .mk (some 43) (.e
  (.call 61 [.s 42])) none, .mk (some 44) (.p (.bin .add (.s 41) (.s 43))) none, .mk (some 5) (.p (.mv (.s 44))) none] [0, 1, 5, 6] [])))))) (.region [.mk (some 12) (.p (.mv (.s
  6))) none, .mk (some 13) (.p (.bin .add (.s 12) (.c (.int .i64 1)))) none, .mk (some 6) (.p (.mv (.s 13))) none] [0, 1, 5, 6] [])))))) (.seq (.region [.mk (some 45) (.p (.mv (.s
  5))) none, .mk (some 4) (.p (.mv (.s 45))) none] [4] []) .ret))))
theorem fn42 : (autoPrg Try.prog).fn 42 = some LF42 := by kernel_rfl

def LF8 : LFunc :=
  .mk 3 [.tmp 6] (.seq (.region [.mk (some 6) (.p (.mv (.c (.bool false)))) none] [0, 1, 2] []) (.seq (.seq (.region [.mk (some 16) (.e (.call 14 [])) none, .mk (some 17) (.p (.un
  .not (.s 16))) none] [0, 1, 2, 17] []) (.cond (.s 17) (.seq (.region [.mk (some 6) (.p (.mv (.c (.bool false)))) none] [6] []) .ret) .skip)) (.seq (.region [.mk (some 19) (.p (.mv
  (.s 0))) none, .mk (some 20) (.e (.call 15 [.s 19])) none, .mk (some 21) (.e (.call 17 [.s 20])) none, .mk (some 18) (.p (.mv (.s 21))) none, .mk (some 22) (.p (.ext 0 (.s 18)))
  none, .mk (some 23) (.p (.ext 1 (.s 18))) none, .mk (some 24) (.p (.ext 2 (.s 18))) none, .mk (some 7) (.p (.mv (.s 22))) none, .mk (some 8) (.p (.mv (.s 23))) none, .mk (some 9)
  (.p (.mv (.s 24))) none] [1, 2, 7, 8, 9] []) (.seq (.seq (.region [.mk (some 25) (.p (.mv (.s 9))) none, .mk (some 26) (.p (.un .not (.s 25))) none, .mk (some 27) (.p (.mv (.s
  26))) none, .mk (some 28) (.p (.mv (.s 7))) (some (27, false)), .mk (some 29) (.p (.eqk false .ptr (.s 28) (.c (.pointer none)))) (some (27, false)), .mk (some 30) (.p (.pick (.s
  27) (.c (.bool true)) (.s 29))) none] [1, 2, 7, 8, 9, 30] []) (.cond (.s 30) (.seq (.region [.mk (some 31) (.p (.mv (.s 9))) none, .mk (some 6) (.p (.mv (.s 31))) none] [6] [])
  .ret) .skip)) (.seq (.region [.mk (some 33) (.p (.mv (.s 7))) none, .mk (some 34) (.p (.mv (.s 1))) none, .mk (some 35) (.e (.call 37 [.s 33, .s 34])) none, .mk (some 32) (.p (.mv
  (.s 35))) none, .mk (some 36) (.p (.ext 0 (.s 32))) none, .mk (some 37) (.p (.ext 1 (.s 32))) none, .mk (some 10) (.p (.mv (.s 36))) none, .mk (some 11) (.p (.mv (.s 37))) none]
  [1, 2, 7, 8, 10, 11] []) (.seq (.region [.mk (some 38) (.p (.mv (.s 8))) none, .mk (some 39) (.p (.mv (.s 1))) none, .mk (some 40) (.e (.call 38 [.s 38, .s 39])) none, .mk (some
  12) (.p (.mv (.s 40))) none] [2, 7, 8, 10, 11, 12] []) (.seq (.region [.mk (some 42) (.p (.mv (.s 7))) none, .mk (some 43) (.p (.mv (.s 2))) none, .mk (some 44) (.e (.call 39 [.s
  42, .s 43])) none, .mk (some 41) (.p (.mv (.s 44))) none, .mk (some 45) (.p (.ext 0 (.s 41))) none, .mk (some 46) (.p (.ext 1 (.s 41))) none, .mk (some 13) (.p (.mv (.s 45)))
  none, .mk (some 14) (.p (.mv (.s 46))) none] [2, 7, 8, 10, 11, 12, 13, 14] []) (.seq (.region [.mk (some 47) (.p (.mv (.s 8))) none, .mk (some 48) (.p (.mv (.s 2))) none, .mk
  (some 49) (.e (.call 40 [.s 47, .s 48])) none, .mk (some 15) (.p (.mv (.s 49))) none] [2, 7, 8, 10, 11, 12, 13, 14, 15] []) (.seq (.seq (.region [.mk (some 50) (.p (.mv (.s 11)))
  none, .mk (some 51) (.p (.mv (.s 12))) none, .mk (some 52) (.p (.bin .geq (.s 51) (.c (.int .i32 0)))) none, .mk (some 53) (.p (.eqk true .bool (.s 50) (.s 52))) none, .mk (some
  54) (.p (.mv (.s 53))) none, .mk (some 55) (.p (.mv (.s 11))) (some (54, false)), .mk (some 56) (.p (.mv (.s 55))) (some (54, false)), .mk (some 57) (.p (.mv (.s 10))) (some (56,
  true)), .mk (some 58) (.p (.mv (.s 12))) (some (56, true)), .mk (some 59) (.p (.bin .neq (.s 57) (.s 58))) (some (56, true)), .mk (some 60) (.p (.pick (.s 56) (.s 59) (.c (.bool
  false)))) (some (54, false)), .mk (some 61) (.p (.pick (.s 54) (.c (.bool true)) (.s 60))) none, .mk (some 62) (.p (.mv (.s 61))) none, .mk (some 63) (.p (.mv (.s 11))) (some (62,
  false)), .mk (some 64) (.p (.un .not (.s 63))) (some (62, false)), .mk (some 65) (.p (.mv (.s 64))) (some (62, false)), .mk (some 66) (.p (.mv (.s 10))) (some (65, true)), .mk
  (some 67) (.p (.bin .neq (.s 66) (.c (.int .i32 0)))) (some (65, true)), .mk (some 68) (.p (.pick (.s 65) (.s 67) (.c (.bool false)))) (some (62, false)), .mk (some 69) (.p (.pick
  (.s 62) (.c (.bool true)) (.s 68))) none, .mk (some 70) (.p (.mv (.s 69))) none, .mk (some 71) (.p (.mv (.s 14))) (some (70, false)), .mk (some 72) (.p (.mv (.s 15))) (some (70,
  false)), .mk (some 73) (.p (.bin .geq (.s 72) (.c (.int .i32 0)))) (some (70, false)), .mk (some 74) (.p (.eqk true .bool (.s 71) (.s 73))) (some (70, false)), .mk (some 75) (.p
  (.pick (.s 70) (.c (.bool true)) (.s 74))) none, .mk (some 76) (.p (.mv (.s 75))) none, .mk (some 77) (.p (.mv (.s 14))) (some (76, false)), .mk (some 78) (.p (.mv (.s 77))) (some
  (76, false)), .mk (some 79) (.p (.mv (.s 13))) (some (78, true)), .mk (some 80) (.p (.mv (.s 15))) (some (78, true)), .mk (some 81) (.p (.bin .neq (.s 79) (.s 80))) (some (78,
  true)), .mk (some 82) (.p (.pick (.s 78) (.s 81) (.c (.bool false)))) (some (76, false)), .mk (some 83) (.p (.pick (.s 76) (.c (.bool true)) (.s 82))) none, .mk (some 84) (.p (.mv
  (.s 83))) none, .mk (some 85) (.p (.mv (.s 14))) (some (84, false)), .mk (some 86) (.p (.un .not (.s 85))) (some (84, false)), .mk (some 87) (.p (.mv (.s 86))) (some (84, false)),
  .mk (some 88) (.p (.mv (.s 13))) (some (87, true)), .mk (some 89) (.p (.bin .neq (.s 88) (.c (.int .i32 0)))) (some (87, true)), .mk (some 90) (.p (.pick (.s 87) (.s 89) (.c
  (.bool false)))) (some (84, false)), .mk (some 91) (.p (.pick (.s 84) (.c (.bool true)) (.s 90))) none] [2, 7, 8, 91] []) (.cond (.s 91) (.seq (.region [.mk (some 6) (.p (.mv (.c
  (.bool false)))) none] [6] []) .ret) .skip)) (.seq (.region [.mk (some 92) (.p (.mv (.s 7))) none, .mk (some 93) (.p (.mv (.s 2))) none, .mk (some 94) (.e (.call 41 [.s 92, .s
  93])) none, .mk (some 95) (.p (.mv (.s 8))) none, .mk (some 96) (.p (.mv (.s 2))) none, .mk (some 97) (.e (.call 42 [.s 95, .s 96])) none, .mk (some 98) (.p (.bin .eql (.s 94) (.s
  97))) none, .mk (some 6) (.p (.mv (.s 98))) none] [6] []) .ret))))))))))
theorem fn8 : (autoPrg Try.prog).fn 8 = some LF8 := by kernel_rfl

def LF43 : LFunc :=
  .mk 1 [.tmp 2] (.seq (.region [.mk (some 2) (.p (.mv (.c (.pointer none)))) none] [0] []) (.seq (.region [.mk (some 3) (.p (.mv (.c (.slice none 0 0)))) none] [0, 3] []) (.seq
  (.seq (.region [.mk (some 4) (.p (.mv (.c (.int .i64 0)))) none] [0, 3, 4] []) (.block 0 (.loop (.seq (.seq (.region [.mk (some 9) (.p (.mv (.s 4))) none, .mk (some 10) (.p (.mv
  (.s 0))) none, .mk (some 11) (.p (.len (.s 10))) none, .mk (some 12) (.p (.bin .lss (.s 9) (.s 11))) none] [0, 3, 4, 12] []) (.cond (.s 12) .skip (.exit 0))) (.seq (.block 1 (.seq
  (.region [.mk (some 16) (.p (.mv (.s 0))) none, .mk (some 17) (.p (.mv (.s 4))) none, .mk (some 18) (.p (.iaddr 2 (.s 16) (.s 17))) none, .mk (some 19) (.r (.load (some 2) (.s
  18))) none, .mk (some 20) (.e (.litH 1 2 [.int .i32 0, .int .i32 0] [(0, 2, .s 19)])) none, .mk (some 21) (.e (.call 58 [.s 20])) none, .mk (some 15) (.p (.mv (.s 21))) none, .mk
  (some 22) (.p (.ext 0 (.s 15))) none, .mk (some 23) (.p (.ext 1 (.s 15))) none, .mk (some 5) (.p (.mv (.s 22))) none, .mk (some 6) (.p (.mv (.s 23))) none] [0, 3, 4, 5, 6] [])
  (.seq (.region [.mk (some 24) (.p (.mv (.s 6))) none, .mk (some 25) (.p (.bin .eql (.s 24) (.c (.int .i64 0)))) none, .mk (some 26) (.p (.mv (.s 25))) none, .mk (some 27) (.p (.mv
  (.s 5))) (some (26, true)), .mk (some 28) (.p (.eqk true .ptr (.s 27) (.c (.pointer none)))) (some (26, true)), .mk (some 29) (.p (.pick (.s 26) (.s 28) (.c (.bool false)))) none]
  [0, 3, 4, 29] []) (.cond (.s 29) (.region [.mk (some 30) (.p (.mv (.s 3))) none, .mk (some 31) (.p (.mv (.s 0))) none, .mk (some 32) (.p (.mv (.s 4))) none, .mk (some 33) (.p
  (.iaddr 2 (.s 31) (.s 32))) none, .mk (some 34) (.r (.load (some 2) (.s 33))) none, .mk (some 35) (.e (.litL 35 1 2 [.int .i32 0, .int .i32 0] [(0, 2, .s 34)])) none, .mk (some
  36) (.e (.append 2 8 (.s 30) (.s 35))) none, .mk (some 3) (.p (.mv (.s 36))) none] [0, 3, 4] []) .skip)))) (.region [.mk (some 13) (.p (.mv (.s 4))) none, .mk (some 14) (.p (.bin
  .add (.s 13) (.c (.int .i64 1)))) none, .mk (some 4) (.p (.mv (.s 14))) none] [0, 3, 4] [])))))) (.seq (.region [.mk (some 38) (.p (.mv (.s 3))) none, .mk (some 39) (.e (.call 58
  [.s 38])) none, .mk (some 37) (.p (.mv (.s 39))) none, .mk (some 40) (.p (.ext 0 (.s 37))) none, .mk (some 41) (.p (.ext 1 (.s 37))) none, .mk (some 7) (.p (.mv (.s 40))) none,
  .mk (some 8) (.p (.mv (.s 41))) none] [7] []) (.seq (.region [.mk (some 42) (.p (.mv (.s 7))) none, .mk (some 2) (.p (.mv (.s 42))) none] [2] []) .ret)))))
theorem fn43 : (autoPrg Try.prog).fn 43 = some LF43 := by kernel_rfl

def LF80 : LFunc :=
  .mk 1 [.tmp 2] (.seq (.region [.mk (some 2) (.p (.mv (.c (.slice none 0 0)))) none] [0] []) (.seq (.seq (.region [.mk (some 3) (.p (.mv (.s 0))) none, .mk (some 4) (.p (.eqk false
  .ptr (.s 3) (.c (.pointer none)))) none] [0, 4] []) (.cond (.s 4) (.seq (.region [.mk (some 2) (.p (.mv (.c (.slice none 0 0)))) none] [2] []) .ret) .skip)) (.seq (.region [.mk
  (some 5) (.p (.mv (.s 0))) none, .mk (some 6) (.p (.nilck (.s 5))) none, .mk (some 7) (.p (.faddr 0 (.s 6))) none, .mk (some 8) (.r (.load none (.s 7))) none, .mk (some 2) (.p
  (.mv (.s 8))) none] [2] []) .ret)))
theorem fn80 : (autoPrg Try.prog).fn 80 = some LF80 := by kernel_rfl

end Go.Proofs.Ytanpdopjgepbkaa.AM
